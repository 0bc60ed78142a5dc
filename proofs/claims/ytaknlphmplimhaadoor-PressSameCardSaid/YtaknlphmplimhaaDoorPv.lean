/- The walk of (*press.Press).Find: the longest entry on an address's path; a compressed table that the world holds. -/
import Derived.Test.YtaknlphmplimhaaDoorPu
import Derived.Test.YtaknlphmplimhaaDoorTf
set_option linter.unusedVariables false
set_option linter.unusedSimpArgs false
namespace Go.Proofs.YtaknlphmplimhaaDoor
open Go.RowKit Go.Proofs
attribute [local go_sem high] eqA25
/-- What has been found: the entry's prefix and value. -/
abbrev Fo := Option (Nat × Nat × Int)
def foA : Fo → Int
  | none => 0
  | some (a, _, _) => (a : Int)
def foD : Fo → Int
  | none => 0
  | some (_, d, _) => (d : Int)
def foV : Fo → Int
  | none => 0
  | some (_, _, v) => v
def foB : Fo → Option (List Bool × Int)
  | none => none
  | some (a, d, v) => some (path a d, v)
def foOk : Fo → Prop
  | none => True
  | some (a, d, _) => Val a d
theorem has_path32 {a d x : Nat} (h : Val a d) (hx : x < 4294967296) : hasB a (d : Int) x = true ↔ path a d <+: path x 32 := by
  constructor
  · intro hh
    rw [← has_path h.2.1 hh]
    exact path_pre h.2.1
  · intro hp
    have e1 : path a d = path x d := (List.prefix_of_prefix_length_le hp (path_pre h.2.1) (by rw [path_length, path_length]; exact Nat.le_refl _)).eq_of_length (by rw [path_length, path_length])
    have hV := val_masked hx h.2.1
    have e2 : a = x / sz (d : Int) * sz (d : Int) := (path_same h hV (by rw [path_masked _ _ h.2.1]; exact e1)).1
    unfold hasB
    rw [decide_eq_true_iff]
    exact ⟨(Val_chk h.1).1 h, e2.symm⟩
def FindPost (w : World) (t : PT) (x : Nat) (e : Ending) (w' : World) : Prop :=
  ∃ acc : Fo, (foB acc = BT.fnd t.bt (path x 32) none ∧ foOk acc) ∧ e = .returned (.tuple #[.agg #[.int .u32 (foA acc), .int .i64 (foD acc), .int .i64 (foV acc)], .bool acc.isSome]) ∧ Below w.heap.size w w'
theorem fnd_node {a d x : Nat} {l r : BT} {o : Option Int} {acc : Option (List Bool × Int)} (hp : path a d <+: path x 32) :
    BT.fnd (.node (path a d) l r o) (path x 32) acc = if d = 32 then BT.upd (path a d) o acc else if bitB x d then BT.fnd r (path x 32) (BT.upd (path a d) o acc) else BT.fnd l (path x 32) (BT.upd (path a d) o acc) := by
  rw [BT.fnd, if_pos hp, path_length]
  by_cases h : d = 32
  · rw [if_pos h, if_pos h]
  · rw [if_neg h, if_neg h]
    have hl := hp.length_le
    rw [path_length, path_length] at hl
    have hs := sideOf_path (p := path a d) (a := x) (d := 32) (by rw [path_length]; omega)
    rw [path_length] at hs
    rw [hs]
set_option maxHeartbeats 8000000 in
set_option maxRecDepth 100000 in
theorem findP_any (tb : Nat) (t : PT) (z : Int) (x : Nat) (w : World) (hx : x < 4294967296) (hT : PR w tb z t) :
    Calls Tryd.prog 49 #[.pointer (some ⟨tb, 0, none⟩), .int .u32 x] w (FindPost w t x) := by
  have htl : tb < w.heap.size := hT.lt tb (by simp)
  obtain ⟨cr0, cr1⟩ := cell_rootP hT.root
  have HT := Lib.hid hT
  clear hT
  go_enter Tryd.func49, Tryd.ntmps49
  go_wp2_with fail
  have HB0 := Lib.hid (show Below w.heap.size w ((w.alloc (.cells #[.int .u32 0, .int .i64 0, .int .i64 0] 36)).alloc (.cells #[.int .u32 0, .int .i64 0, .int .i64 0] 36)) from ((Below.refl _ _).alloc (Nat.le_refl _) _).alloc (by simp) _)
  go_loopw [7, 8] (fun f n wr => ∃ (s : PT) (acc : Fo), n = .pointer s.addr ∧ RepP wr s ∧ (∀ y ∈ s.dom, y < w.heap.size) ∧ (∃ q, BT.WF q s.bt) ∧ (BT.fnd s.bt (path x 32) (foB acc) = BT.fnd t.bt (path x 32) none ∧ foOk acc) ∧ f = .bool acc.isSome ∧ Below w.heap.size w wr ∧
    wr.heap[w.heap.size]? = some (.cells #[.int .u32 0, .int .i64 0, .int .i64 0] 36 (0, 0)) ∧ wr.heap[w.heap.size + 1]? = some (.cells #[.int .u32 (foA acc), .int .i64 (foD acc), .int .i64 (foV acc)] 36 (0, 0))) (fun _ n wr => mP n wr)
  case atStart =>
    refine ⟨t, none, rfl, HT.out.rep.grow HB0.out, HT.out.rep.lt, ⟨[], HT.out.wf⟩, ⟨rfl, trivial⟩, rfl, HB0.out, ?_, ?_⟩
    · rw [Below.heap_alloc _ _ _ (by simp)]; exact heap_alloc_new _ _
    · have := heap_alloc_new (w.alloc (.cells #[.int .u32 0, .int .i64 0, .int .i64 0] 36)) (.cells #[.int .u32 0, .int .i64 0, .int .i64 0] 36)
      rw [show foA none = 0 from rfl, show foD none = 0 from rfl, show foV none = 0 from rfl]
      simpa using this
  case round =>
    obtain ⟨s, acc, rfl, hrs, hds, ⟨q, hws⟩, hfn, rfl, hB, hb0, hb1⟩ := hrel
    have HRS := Lib.hid hrs
    have HDS := Lib.hid hds
    have HWS := Lib.hid hws
    have HFN := Lib.hid hfn
    have HX0 := Lib.hid hb0
    have HX1 := Lib.hid hb1
    have HXB := Lib.hid hB
    clear hrs hds hws hfn hb0 hb1 hB HB0
    cases s with
    | nil =>
      simp only [PT.addr]
      have x0 : wr.cell? ⟨w.heap.size + 1, 0, none⟩ = some (.int .u32 (foA acc)) := cell_of_row wr (w.heap.size + 1) 0 _ 36 (0, 0) HX1.out
      have x1 : wr.cell? ⟨w.heap.size + 1, 1, none⟩ = some (.int .i64 (foD acc)) := cell_of_row wr (w.heap.size + 1) 1 _ 36 (0, 0) HX1.out
      have x2 : wr.cell? ⟨w.heap.size + 1, 2, none⟩ = some (.int .i64 (foV acc)) := cell_of_row wr (w.heap.size + 1) 2 _ 36 (0, 0) HX1.out
      have p0 : wr.cell? ⟨w.heap.size, 0, none⟩ = some (.int .u32 0) := cell_of_row wr w.heap.size 0 _ 36 (0, 0) HX0.out
      have p1 : wr.cell? ⟨w.heap.size, 1, none⟩ = some (.int .i64 0) := cell_of_row wr w.heap.size 1 _ 36 (0, 0) HX0.out
      have p2 : wr.cell? ⟨w.heap.size, 2, none⟩ = some (.int .i64 0) := cell_of_row wr w.heap.size 2 _ 36 (0, 0) HX0.out
      have f0 : ∀ o, wr.frozen? ⟨w.heap.size, o, none⟩ = false := fun o => frozen_of_row HX0.out o
      have f1 : ∀ o, wr.frozen? ⟨w.heap.size + 1, o, none⟩ = false := fun o => frozen_of_row HX1.out o
      have hxl : w.heap.size + 1 < wr.heap.size := (Array.getElem?_eq_some_iff.1 HX1.out).1
      go_wp2_with fail
      have hbk := heap_set3 (y0 := (.int .u32 (foA acc))) (y1 := (.int .i64 (foD acc))) (y2 := (.int .i64 (foV acc))) HX0.out
      have hBy : Below w.heap.size w (((wr.setCell ⟨w.heap.size, 0, none⟩ (.int .u32 (foA acc))).setCell ⟨w.heap.size, 1, none⟩ (.int .i64 (foD acc))).setCell ⟨w.heap.size, 2, none⟩ (.int .i64 (foV acc))) := ((HXB.out.setCell (p := ⟨w.heap.size, 0, none⟩) (Nat.le_refl _) _).setCell (p := ⟨w.heap.size, 1, none⟩) (Nat.le_refl _) _).setCell (p := ⟨w.heap.size, 2, none⟩) (Nat.le_refl _) _
      generalize (((wr.setCell ⟨w.heap.size, 0, none⟩ (.int .u32 (foA acc))).setCell ⟨w.heap.size, 1, none⟩ (.int .i64 (foD acc))).setCell ⟨w.heap.size, 2, none⟩ (.int .i64 (foV acc))) = wy at hbk hBy ⊢
      have y0 : wy.cell? ⟨w.heap.size, 0, none⟩ = some (.int .u32 (foA acc)) := cell_of_row wy w.heap.size 0 _ 36 (0, 0) hbk
      have y1 : wy.cell? ⟨w.heap.size, 1, none⟩ = some (.int .i64 (foD acc)) := cell_of_row wy w.heap.size 1 _ 36 (0, 0) hbk
      have y2 : wy.cell? ⟨w.heap.size, 2, none⟩ = some (.int .i64 (foV acc)) := cell_of_row wy w.heap.size 2 _ 36 (0, 0) hbk
      exact bodyPost_ret (v := .tuple #[.agg #[.int .u32 (foA acc), .int .i64 (foD acc), .int .i64 (foV acc)], .bool (acc.isSome)]) (by simp [results, Tryd.results49, go_sem, y0, y1, y2]) rfl ⟨acc, ⟨HFN.out.1, HFN.out.2⟩, rfl, hBy⟩
    | node g a d l r v h =>
      simp only [PT.addr]
      have HVN := Lib.hid HRS.out.1.1
      have ha32 := HVN.out.1
      have hd32 := HVN.out.2.1
      have hgw := HDS.out g (by simp [PT.dom])
      have x0 : wr.cell? ⟨w.heap.size + 1, 0, none⟩ = some (.int .u32 (foA acc)) := cell_of_row wr (w.heap.size + 1) 0 _ 36 (0, 0) HX1.out
      have x1 : wr.cell? ⟨w.heap.size + 1, 1, none⟩ = some (.int .i64 (foD acc)) := cell_of_row wr (w.heap.size + 1) 1 _ 36 (0, 0) HX1.out
      have x2 : wr.cell? ⟨w.heap.size + 1, 2, none⟩ = some (.int .i64 (foV acc)) := cell_of_row wr (w.heap.size + 1) 2 _ 36 (0, 0) HX1.out
      have p0 : wr.cell? ⟨w.heap.size, 0, none⟩ = some (.int .u32 0) := cell_of_row wr w.heap.size 0 _ 36 (0, 0) HX0.out
      have p1 : wr.cell? ⟨w.heap.size, 1, none⟩ = some (.int .i64 0) := cell_of_row wr w.heap.size 1 _ 36 (0, 0) HX0.out
      have p2 : wr.cell? ⟨w.heap.size, 2, none⟩ = some (.int .i64 0) := cell_of_row wr w.heap.size 2 _ 36 (0, 0) HX0.out
      have f0 : ∀ o, wr.frozen? ⟨w.heap.size, o, none⟩ = false := fun o => frozen_of_row HX0.out o
      have f1 : ∀ o, wr.frozen? ⟨w.heap.size + 1, o, none⟩ = false := fun o => frozen_of_row HX1.out o
      have hxl : w.heap.size + 1 < wr.heap.size := (Array.getElem?_eq_some_iff.1 HX1.out).1
      have tmp := HRS.out
      obtain ⟨c0, c1, c2, c3, c4, c5⟩ := cell_nodeP tmp
      have hgl := tmp.lt g (by simp [PT.dom])
      clear tmp
      have HHA := Lib.hid (fun W => has_any a (d : Int) x W ha32 hx)
      by_cases hp : path a d <+: path x 32
      · have hh := (has_path32 HVN.out hx).2 hp
        rw [hh] at HHA
        have HFD := Lib.hid (fnd_node (l := l.bt) (r := r.bt) (o := if h then some v else none) (acc := foB acc) hp)
        have HWL := Lib.hid HWS.out.2.2.1
        have HWR := Lib.hid HWS.out.2.2.2
        have HLL := Lib.hid (show (path a d ++ [false]).length = d + 1 by simp [path_length])
        have HLR := Lib.hid (show (path a d ++ [true]).length = d + 1 by simp [path_length])
        have HM := Lib.hid (mP_node HRS.out)
        clear hh hp
        go_upto_region 5 with (go_at_call 30; (with_reducible refine (HHA.out _).mono ?_); rintro e w2 ⟨rfl, hb2⟩; have HBW := Lib.hid hb2; clear hb2)
        have HRS2 := Lib.hid (HRS.out.grow HBW.out)
        have HY0 := Lib.hid ((HBW.out.block _ (Nat.lt_of_succ_lt hxl)).trans HX0.out)
        have HY1 := Lib.hid ((HBW.out.block _ hxl).trans HX1.out)
        have HYB := Lib.hid (HXB.out.trans (HBW.out.mono HXB.out.size))
        clear c0 c1 c2 c3 c4 c5 hgl x0 x1 x2 p0 p1 p2 f0 f1 hxl
        cases h with
        | false =>
          have x0 : w2.cell? ⟨w.heap.size + 1, 0, none⟩ = some (.int .u32 (foA acc)) := cell_of_row w2 (w.heap.size + 1) 0 _ 36 (0, 0) HY1.out
          have x1 : w2.cell? ⟨w.heap.size + 1, 1, none⟩ = some (.int .i64 (foD acc)) := cell_of_row w2 (w.heap.size + 1) 1 _ 36 (0, 0) HY1.out
          have x2 : w2.cell? ⟨w.heap.size + 1, 2, none⟩ = some (.int .i64 (foV acc)) := cell_of_row w2 (w.heap.size + 1) 2 _ 36 (0, 0) HY1.out
          have p0 : w2.cell? ⟨w.heap.size, 0, none⟩ = some (.int .u32 0) := cell_of_row w2 w.heap.size 0 _ 36 (0, 0) HY0.out
          have p1 : w2.cell? ⟨w.heap.size, 1, none⟩ = some (.int .i64 0) := cell_of_row w2 w.heap.size 1 _ 36 (0, 0) HY0.out
          have p2 : w2.cell? ⟨w.heap.size, 2, none⟩ = some (.int .i64 0) := cell_of_row w2 w.heap.size 2 _ 36 (0, 0) HY0.out
          have f0 : ∀ o, w2.frozen? ⟨w.heap.size, o, none⟩ = false := fun o => frozen_of_row HY0.out o
          have f1 : ∀ o, w2.frozen? ⟨w.heap.size + 1, o, none⟩ = false := fun o => frozen_of_row HY1.out o
          have hxl : w.heap.size + 1 < w2.heap.size := (Array.getElem?_eq_some_iff.1 HY1.out).1
          have tmp := HRS2.out
          obtain ⟨c0, c1, c2, c3, c4, c5⟩ := cell_nodeP tmp
          have hgl := tmp.lt g (by simp [PT.dom])
          clear tmp
          have HZ0 := HY0
          have HZ1 := HY1
          have HZB := HYB
          have HRZ := HRS2
          go_upto_region 7 with (fail)
          by_cases h32 : d = 32
          · have h32b : ((d : Int) == 32) = true := by rw [h32]; rfl
            have H32 := Lib.hid h32
            clear h32
            go_wp2_with fail
            have hbk := heap_set3 (y0 := (.int .u32 (foA acc))) (y1 := (.int .i64 (foD acc))) (y2 := (.int .i64 (foV acc))) HZ0.out
            have hBy : Below w.heap.size w (((w2.setCell ⟨w.heap.size, 0, none⟩ (.int .u32 (foA acc))).setCell ⟨w.heap.size, 1, none⟩ (.int .i64 (foD acc))).setCell ⟨w.heap.size, 2, none⟩ (.int .i64 (foV acc))) := ((HZB.out.setCell (p := ⟨w.heap.size, 0, none⟩) (Nat.le_refl _) _).setCell (p := ⟨w.heap.size, 1, none⟩) (Nat.le_refl _) _).setCell (p := ⟨w.heap.size, 2, none⟩) (Nat.le_refl _) _
            generalize (((w2.setCell ⟨w.heap.size, 0, none⟩ (.int .u32 (foA acc))).setCell ⟨w.heap.size, 1, none⟩ (.int .i64 (foD acc))).setCell ⟨w.heap.size, 2, none⟩ (.int .i64 (foV acc))) = wy at hbk hBy ⊢
            have y0 : wy.cell? ⟨w.heap.size, 0, none⟩ = some (.int .u32 (foA acc)) := cell_of_row wy w.heap.size 0 _ 36 (0, 0) hbk
            have y1 : wy.cell? ⟨w.heap.size, 1, none⟩ = some (.int .i64 (foD acc)) := cell_of_row wy w.heap.size 1 _ 36 (0, 0) hbk
            have y2 : wy.cell? ⟨w.heap.size, 2, none⟩ = some (.int .i64 (foV acc)) := cell_of_row wy w.heap.size 2 _ 36 (0, 0) hbk
            exact bodyPost_ret (v := .tuple #[.agg #[.int .u32 (foA acc), .int .i64 (foD acc), .int .i64 (foV acc)], .bool (acc.isSome)]) (by simp [results, Tryd.results49, go_sem, y0, y1, y2]) rfl ⟨acc, ⟨by rw [← HFN.out.1]; exact ((show BT.fnd (PT.bt (.node g a d l r v false)) (path x 32) (foB acc) = _ from HFD.out).trans (if_pos H32.out)).symm, HFN.out.2⟩, rfl, hBy⟩
          · have h32b : ((d : Int) == 32) = false := by rw [beq_eq_false_iff_ne]; omega
            cases hbit : bitB x d
            · have Hb := Lib.hid hbit
              have HF2 := Lib.hid (show BT.fnd l.bt (path x 32) (foB acc) = BT.fnd t.bt (path x 32) none by
                rw [← HFN.out.1, show PT.bt (.node g a d l r v false) = .node (path a d) l.bt r.bt (if false then some v else none) from rfl, HFD.out, if_neg h32, hbit]; rfl)
              clear hbit
              go_wp2_with fail
              go_quiet ((go_at_call 94; exact Calls.quiet_of_same (side_f g d x _ hx (by omega) (by simpa using c1) Hb.out)))
              go_wp2_with fail
              go_roundw
              case rel => exact ⟨_, acc, rfl, (HRZ.out.same (w' := w2.drewN _) rfl).2.1, fun y hy => HDS.out y (by simp [PT.dom, hy]), ⟨_, HWL.out⟩, ⟨HF2.out, HFN.out.2⟩, rfl, below_drewN HZB.out _, HZ0.out, HZ1.out⟩
              case measure => exact Nat.lt_of_lt_of_eq (mP_kid (HRZ.out.same (w' := w2.drewN _) rfl).2.1 HWL.out HLL.out hd32) HM.out.symm
            · have Hb := Lib.hid hbit
              have HF2 := Lib.hid (show BT.fnd r.bt (path x 32) (foB acc) = BT.fnd t.bt (path x 32) none by
                rw [← HFN.out.1, show PT.bt (.node g a d l r v false) = .node (path a d) l.bt r.bt (if false then some v else none) from rfl, HFD.out, if_neg h32, hbit]; rfl)
              clear hbit
              go_wp2_with fail
              go_quiet ((go_at_call 94; exact Calls.quiet_of_same (side_t g d x _ hx (by omega) (by simpa using c1) Hb.out)))
              go_wp2_with fail
              go_roundw
              case rel => exact ⟨_, acc, rfl, (HRZ.out.same (w' := w2.drewN _) rfl).2.2, fun y hy => HDS.out y (by simp [PT.dom, hy]), ⟨_, HWR.out⟩, ⟨HF2.out, HFN.out.2⟩, rfl, below_drewN HZB.out _, HZ0.out, HZ1.out⟩
              case measure => exact Nat.lt_of_lt_of_eq (mP_kid (HRZ.out.same (w' := w2.drewN _) rfl).2.2 HWR.out HLR.out hd32) HM.out.symm
        | true =>
          have x0 : w2.cell? ⟨w.heap.size + 1, 0, none⟩ = some (.int .u32 (foA acc)) := cell_of_row w2 (w.heap.size + 1) 0 _ 36 (0, 0) HY1.out
          have x1 : w2.cell? ⟨w.heap.size + 1, 1, none⟩ = some (.int .i64 (foD acc)) := cell_of_row w2 (w.heap.size + 1) 1 _ 36 (0, 0) HY1.out
          have x2 : w2.cell? ⟨w.heap.size + 1, 2, none⟩ = some (.int .i64 (foV acc)) := cell_of_row w2 (w.heap.size + 1) 2 _ 36 (0, 0) HY1.out
          have p0 : w2.cell? ⟨w.heap.size, 0, none⟩ = some (.int .u32 0) := cell_of_row w2 w.heap.size 0 _ 36 (0, 0) HY0.out
          have p1 : w2.cell? ⟨w.heap.size, 1, none⟩ = some (.int .i64 0) := cell_of_row w2 w.heap.size 1 _ 36 (0, 0) HY0.out
          have p2 : w2.cell? ⟨w.heap.size, 2, none⟩ = some (.int .i64 0) := cell_of_row w2 w.heap.size 2 _ 36 (0, 0) HY0.out
          have f0 : ∀ o, w2.frozen? ⟨w.heap.size, o, none⟩ = false := fun o => frozen_of_row HY0.out o
          have f1 : ∀ o, w2.frozen? ⟨w.heap.size + 1, o, none⟩ = false := fun o => frozen_of_row HY1.out o
          have hxl : w.heap.size + 1 < w2.heap.size := (Array.getElem?_eq_some_iff.1 HY1.out).1
          have tmp := HRS2.out
          obtain ⟨c0, c1, c2, c3, c4, c5⟩ := cell_nodeP tmp
          have hgl := tmp.lt g (by simp [PT.dom])
          clear tmp
          go_upto_region 6 with (fail)
          refine still_tail 9 (by kernel_rfl) (by kernel_rfl) ?_
          simp only [List.take_succ_cons, List.take_zero, List.drop_succ_cons, List.drop_zero]
          iterate 9 still_step
          refine wpStill_nil ?_
          go_upto_region 7 with (fail)
          have hA3 : foA (some (a, d, v)) = (a : Int) := rfl
          have hrow1 := heap_set3 (y0 := .int .u32 (foA (some (a, d, v)))) (y1 := .int .i64 (foD (some (a, d, v)))) (y2 := .int .i64 (foV (some (a, d, v)))) HY1.out
          have hrow0 := (heap_far3 (w := w2) (g := w.heap.size + 1) (g' := w.heap.size) (y0 := .int .u32 (foA (some (a, d, v)))) (y1 := .int .i64 (foD (some (a, d, v)))) (y2 := .int .i64 (foV (some (a, d, v)))) (by omega)).trans HY0.out
          have hrz : RepP (((w2.setCell ⟨w.heap.size + 1, 0, none⟩ (.int .u32 (foA (some (a, d, v))))).setCell ⟨w.heap.size + 1, 1, none⟩ (.int .i64 (foD (some (a, d, v))))).setCell ⟨w.heap.size + 1, 2, none⟩ (.int .i64 (foV (some (a, d, v))))) (.node g a d l r v true) := by
            have hd : w.heap.size + 1 ∉ PT.dom (.node g a d l r v true) := fun hx => by have := HDS.out _ hx; omega
            exact ((HRS2.out.far (q := ⟨w.heap.size + 1, 0, none⟩) hd _).far (q := ⟨w.heap.size + 1, 1, none⟩) hd _).far (q := ⟨w.heap.size + 1, 2, none⟩) hd _
          have hbz : Below w.heap.size w (((w2.setCell ⟨w.heap.size + 1, 0, none⟩ (.int .u32 (foA (some (a, d, v))))).setCell ⟨w.heap.size + 1, 1, none⟩ (.int .i64 (foD (some (a, d, v))))).setCell ⟨w.heap.size + 1, 2, none⟩ (.int .i64 (foV (some (a, d, v))))) := ((HYB.out.setCell (p := ⟨w.heap.size + 1, 0, none⟩) (by simp) _).setCell (p := ⟨w.heap.size + 1, 1, none⟩) (by simp) _).setCell (p := ⟨w.heap.size + 1, 2, none⟩) (by simp) _
          change Code.wp _ _ _ _ (World.drew (((w2.setCell ⟨w.heap.size + 1, 0, none⟩ (.int .u32 (foA (some (a, d, v))))).setCell ⟨w.heap.size + 1, 1, none⟩ (.int .i64 (foD (some (a, d, v))))).setCell ⟨w.heap.size + 1, 2, none⟩ (.int .i64 (foV (some (a, d, v))))))
          generalize (((w2.setCell ⟨w.heap.size + 1, 0, none⟩ (.int .u32 (foA (some (a, d, v))))).setCell ⟨w.heap.size + 1, 1, none⟩ (.int .i64 (foD (some (a, d, v))))).setCell ⟨w.heap.size + 1, 2, none⟩ (.int .i64 (foV (some (a, d, v))))) = w5 at hrow1 hrow0 hrz hbz ⊢
          have HZ0 := Lib.hid (show w5.drew.heap[w.heap.size]? = _ from hrow0)
          have HZ1 := Lib.hid (show w5.drew.heap[w.heap.size + 1]? = _ from hrow1)
          have HZB := Lib.hid hbz.drew
          have HRZ := Lib.hid (hrz.same (w' := w5.drew) rfl)
          clear hrow1 hrow0 hrz hbz hA3
          clear c0 c1 c2 c3 c4 c5 hgl x0 x1 x2 p0 p1 p2 f0 f1 hxl
          generalize w5.drew = wx at HZ0 HZ1 HZB HRZ ⊢
          have x0 : wx.cell? ⟨w.heap.size + 1, 0, none⟩ = some (.int .u32 (foA (some (a, d, v)))) := cell_of_row wx (w.heap.size + 1) 0 _ 36 (0, 0) HZ1.out
          have x1 : wx.cell? ⟨w.heap.size + 1, 1, none⟩ = some (.int .i64 (foD (some (a, d, v)))) := cell_of_row wx (w.heap.size + 1) 1 _ 36 (0, 0) HZ1.out
          have x2 : wx.cell? ⟨w.heap.size + 1, 2, none⟩ = some (.int .i64 (foV (some (a, d, v)))) := cell_of_row wx (w.heap.size + 1) 2 _ 36 (0, 0) HZ1.out
          have p0 : wx.cell? ⟨w.heap.size, 0, none⟩ = some (.int .u32 0) := cell_of_row wx w.heap.size 0 _ 36 (0, 0) HZ0.out
          have p1 : wx.cell? ⟨w.heap.size, 1, none⟩ = some (.int .i64 0) := cell_of_row wx w.heap.size 1 _ 36 (0, 0) HZ0.out
          have p2 : wx.cell? ⟨w.heap.size, 2, none⟩ = some (.int .i64 0) := cell_of_row wx w.heap.size 2 _ 36 (0, 0) HZ0.out
          have f0 : ∀ o, wx.frozen? ⟨w.heap.size, o, none⟩ = false := fun o => frozen_of_row HZ0.out o
          have f1 : ∀ o, wx.frozen? ⟨w.heap.size + 1, o, none⟩ = false := fun o => frozen_of_row HZ1.out o
          have hxl : w.heap.size + 1 < wx.heap.size := (Array.getElem?_eq_some_iff.1 HZ1.out).1
          have tmp := HRZ.out
          obtain ⟨c0, c1, c2, c3, c4, c5⟩ := cell_nodeP tmp
          have hgl := tmp.lt g (by simp [PT.dom])
          clear tmp
          by_cases h32 : d = 32
          · have h32b : ((d : Int) == 32) = true := by rw [h32]; rfl
            have H32 := Lib.hid h32
            clear h32
            go_wp2_with fail
            have hbk := heap_set3 (y0 := (.int .u32 (foA (some (a, d, v))))) (y1 := (.int .i64 (foD (some (a, d, v))))) (y2 := (.int .i64 (foV (some (a, d, v))))) HZ0.out
            have hBy : Below w.heap.size w (((wx.setCell ⟨w.heap.size, 0, none⟩ (.int .u32 (foA (some (a, d, v))))).setCell ⟨w.heap.size, 1, none⟩ (.int .i64 (foD (some (a, d, v))))).setCell ⟨w.heap.size, 2, none⟩ (.int .i64 (foV (some (a, d, v))))) := ((HZB.out.setCell (p := ⟨w.heap.size, 0, none⟩) (Nat.le_refl _) _).setCell (p := ⟨w.heap.size, 1, none⟩) (Nat.le_refl _) _).setCell (p := ⟨w.heap.size, 2, none⟩) (Nat.le_refl _) _
            generalize (((wx.setCell ⟨w.heap.size, 0, none⟩ (.int .u32 (foA (some (a, d, v))))).setCell ⟨w.heap.size, 1, none⟩ (.int .i64 (foD (some (a, d, v))))).setCell ⟨w.heap.size, 2, none⟩ (.int .i64 (foV (some (a, d, v))))) = wy at hbk hBy ⊢
            have y0 : wy.cell? ⟨w.heap.size, 0, none⟩ = some (.int .u32 (foA (some (a, d, v)))) := cell_of_row wy w.heap.size 0 _ 36 (0, 0) hbk
            have y1 : wy.cell? ⟨w.heap.size, 1, none⟩ = some (.int .i64 (foD (some (a, d, v)))) := cell_of_row wy w.heap.size 1 _ 36 (0, 0) hbk
            have y2 : wy.cell? ⟨w.heap.size, 2, none⟩ = some (.int .i64 (foV (some (a, d, v)))) := cell_of_row wy w.heap.size 2 _ 36 (0, 0) hbk
            exact bodyPost_ret (v := .tuple #[.agg #[.int .u32 (foA (some (a, d, v))), .int .i64 (foD (some (a, d, v))), .int .i64 (foV (some (a, d, v)))], .bool (true)]) (by simp [results, Tryd.results49, go_sem, y0, y1, y2]) rfl ⟨(some (a, d, v)), ⟨by rw [← HFN.out.1]; exact ((show BT.fnd (PT.bt (.node g a d l r v true)) (path x 32) (foB acc) = _ from HFD.out).trans (if_pos H32.out)).symm, HVN.out⟩, rfl, hBy⟩
          · have h32b : ((d : Int) == 32) = false := by rw [beq_eq_false_iff_ne]; omega
            cases hbit : bitB x d
            · have Hb := Lib.hid hbit
              have HF2 := Lib.hid (show BT.fnd l.bt (path x 32) (foB (some (a, d, v))) = BT.fnd t.bt (path x 32) none by
                rw [← HFN.out.1, show PT.bt (.node g a d l r v true) = .node (path a d) l.bt r.bt (if true then some v else none) from rfl, HFD.out, if_neg h32, hbit]; rfl)
              clear hbit
              go_wp2_with fail
              go_quiet ((go_at_call 94; exact Calls.quiet_of_same (side_f g d x _ hx (by omega) (by simpa using c1) Hb.out)))
              go_wp2_with fail
              go_roundw
              case rel => exact ⟨_, (some (a, d, v)), rfl, (HRZ.out.same (w' := wx.drewN _) rfl).2.1, fun y hy => HDS.out y (by simp [PT.dom, hy]), ⟨_, HWL.out⟩, ⟨HF2.out, HVN.out⟩, rfl, below_drewN HZB.out _, HZ0.out, HZ1.out⟩
              case measure => exact Nat.lt_of_lt_of_eq (mP_kid (HRZ.out.same (w' := wx.drewN _) rfl).2.1 HWL.out HLL.out hd32) HM.out.symm
            · have Hb := Lib.hid hbit
              have HF2 := Lib.hid (show BT.fnd r.bt (path x 32) (foB (some (a, d, v))) = BT.fnd t.bt (path x 32) none by
                rw [← HFN.out.1, show PT.bt (.node g a d l r v true) = .node (path a d) l.bt r.bt (if true then some v else none) from rfl, HFD.out, if_neg h32, hbit]; rfl)
              clear hbit
              go_wp2_with fail
              go_quiet ((go_at_call 94; exact Calls.quiet_of_same (side_t g d x _ hx (by omega) (by simpa using c1) Hb.out)))
              go_wp2_with fail
              go_roundw
              case rel => exact ⟨_, (some (a, d, v)), rfl, (HRZ.out.same (w' := wx.drewN _) rfl).2.2, fun y hy => HDS.out y (by simp [PT.dom, hy]), ⟨_, HWR.out⟩, ⟨HF2.out, HVN.out⟩, rfl, below_drewN HZB.out _, HZ0.out, HZ1.out⟩
              case measure => exact Nat.lt_of_lt_of_eq (mP_kid (HRZ.out.same (w' := wx.drewN _) rfl).2.2 HWR.out HLR.out hd32) HM.out.symm
      · have hh : hasB a (d : Int) x = false := by rw [Bool.eq_false_iff]; exact fun k => hp ((has_path32 HVN.out hx).1 k)
        rw [hh] at HHA
        have HFD := Lib.hid (show BT.fnd (PT.bt (.node g a d l r v h)) (path x 32) (foB acc) = foB acc by
          rw [show PT.bt (.node g a d l r v h) = .node (path a d) l.bt r.bt (if h then some v else none) from rfl, BT.fnd, if_neg hp])
        clear hh hp
        go_wp2_with (go_at_call 30; (with_reducible refine (HHA.out _).mono ?_); rintro e w2 ⟨rfl, hb2⟩; have HBW := Lib.hid hb2; clear hb2; have HY0 := Lib.hid ((HBW.out.block _ (Nat.lt_of_succ_lt hxl)).trans HX0.out); have HY1 := Lib.hid ((HBW.out.block _ hxl).trans HX1.out); have HYB := Lib.hid (HXB.out.trans (HBW.out.mono HXB.out.size)); clear c0 c1 c2 c3 c4 c5 hgl x0 x1 x2 p0 p1 p2 f0 f1 hxl; have x0 : w2.cell? ⟨w.heap.size + 1, 0, none⟩ = some (.int .u32 (foA acc)) := cell_of_row w2 (w.heap.size + 1) 0 _ 36 (0, 0) HY1.out; have x1 : w2.cell? ⟨w.heap.size + 1, 1, none⟩ = some (.int .i64 (foD acc)) := cell_of_row w2 (w.heap.size + 1) 1 _ 36 (0, 0) HY1.out; have x2 : w2.cell? ⟨w.heap.size + 1, 2, none⟩ = some (.int .i64 (foV acc)) := cell_of_row w2 (w.heap.size + 1) 2 _ 36 (0, 0) HY1.out; have p0 : w2.cell? ⟨w.heap.size, 0, none⟩ = some (.int .u32 0) := cell_of_row w2 w.heap.size 0 _ 36 (0, 0) HY0.out; have p1 : w2.cell? ⟨w.heap.size, 1, none⟩ = some (.int .i64 0) := cell_of_row w2 w.heap.size 1 _ 36 (0, 0) HY0.out; have p2 : w2.cell? ⟨w.heap.size, 2, none⟩ = some (.int .i64 0) := cell_of_row w2 w.heap.size 2 _ 36 (0, 0) HY0.out; have f0 : ∀ o, w2.frozen? ⟨w.heap.size, o, none⟩ = false := fun o => frozen_of_row HY0.out o)
        have hbk := heap_set3 (y0 := (.int .u32 (foA acc))) (y1 := (.int .i64 (foD acc))) (y2 := (.int .i64 (foV acc))) HY0.out
        have hBy : Below w.heap.size w (((w2.setCell ⟨w.heap.size, 0, none⟩ (.int .u32 (foA acc))).setCell ⟨w.heap.size, 1, none⟩ (.int .i64 (foD acc))).setCell ⟨w.heap.size, 2, none⟩ (.int .i64 (foV acc))) := ((HYB.out.setCell (p := ⟨w.heap.size, 0, none⟩) (Nat.le_refl _) _).setCell (p := ⟨w.heap.size, 1, none⟩) (Nat.le_refl _) _).setCell (p := ⟨w.heap.size, 2, none⟩) (Nat.le_refl _) _
        generalize (((w2.setCell ⟨w.heap.size, 0, none⟩ (.int .u32 (foA acc))).setCell ⟨w.heap.size, 1, none⟩ (.int .i64 (foD acc))).setCell ⟨w.heap.size, 2, none⟩ (.int .i64 (foV acc))) = wy at hbk hBy ⊢
        have y0 : wy.cell? ⟨w.heap.size, 0, none⟩ = some (.int .u32 (foA acc)) := cell_of_row wy w.heap.size 0 _ 36 (0, 0) hbk
        have y1 : wy.cell? ⟨w.heap.size, 1, none⟩ = some (.int .i64 (foD acc)) := cell_of_row wy w.heap.size 1 _ 36 (0, 0) hbk
        have y2 : wy.cell? ⟨w.heap.size, 2, none⟩ = some (.int .i64 (foV acc)) := cell_of_row wy w.heap.size 2 _ 36 (0, 0) hbk
        exact bodyPost_ret (v := .tuple #[.agg #[.int .u32 (foA acc), .int .i64 (foD acc), .int .i64 (foV acc)], .bool (acc.isSome)]) (by simp [results, Tryd.results49, go_sem, y0, y1, y2]) rfl ⟨acc, ⟨by rw [← HFN.out.1, HFD.out], HFN.out.2⟩, rfl, hBy⟩
end Go.Proofs.YtaknlphmplimhaaDoor
