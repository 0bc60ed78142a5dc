/- The walk of (*press.Press).at: whether an entry is there; a compressed table that the world holds. -/
import Derived.Test.YtaknlphmplimhaaDoorPm
import Derived.Deep.QuietTactic
import Derived.BigQuiet
import Derived.RegionTactic
import Derived.BigRegion
set_option linter.unusedVariables false
set_option linter.unusedSimpArgs false
namespace Go.Proofs.YtaknlphmplimhaaDoor
open Go.RowKit Go.Proofs

attribute [local go_sem high] eqA25
/-- The node at a path, whatever its mark. -/
def atP : PT → List Bool → PT
  | .nil, _ => .nil
  | .node g a d l r v h, x => if path a d = x then .node g a d l r v h else if path a d <+: x then (if sideOf (path a d) x then atP r x else atP l x) else .nil
def topP : PT → Option Int
  | .nil => none
  | .node _ _ _ _ _ v h => if h then some v else none
theorem atP_get : ∀ (t : PT) (x : List Bool), topP (atP t x) = t.bt.get x
  | .nil, _ => rfl
  | .node g a d l r v h, x => by
    unfold atP PT.bt BT.get
    by_cases e : path a d = x
    · rw [if_pos e, if_pos e.symm]; rfl
    · rw [if_neg e, if_neg (Ne.symm e)]
      by_cases e2 : path a d <+: x
      · rw [if_pos e2, if_pos e2]
        cases sideOf (path a d) x
        · simp only [Bool.false_eq_true, if_false]; exact atP_get l x
        · simp only [if_true]; exact atP_get r x
      · rw [if_neg e2, if_neg e2]; rfl
def AtPost (t : PT) (x : List Bool) (w : World) (e : Ending) (w' : World) : Prop := ∃ q, e = .returned (.pointer q) ∧ (q = none ↔ t.bt.get x = none) ∧ Below w.heap.size w w'
/-- A bound on what is below a node, as the world says. -/
def mP (v : Value) (w : World) : Nat :=
  match v with
  | .pointer (some p) => (match w.cell? ⟨p.block, 1, none⟩ with | some (.int _ d) => 34 - d.toNat | _ => 0)
  | _ => 0
theorem mP_node {w : World} {g a d : Nat} {l r : PT} {v : Int} {h : Bool} (hr : RepP w (.node g a d l r v h)) : mP (.pointer (some ⟨g, 0, none⟩)) w = 34 - d := by
  unfold mP
  simp only [(cell_nodeP hr).2.1, Int.toNat_natCast]
theorem mP_kid {w : World} {k : PT} {q : List Bool} {n : Nat} (hr : RepP w k) (hw : BT.WF q k.bt) (hq : q.length = n + 1) (hn : n ≤ 32) : mP (.pointer k.addr) w < 34 - n := by
  cases k with
  | nil => unfold mP PT.addr; simp only; omega
  | node g a d l r v h =>
    rw [PT.addr, mP_node hr]
    have h1 : q <+: path a d := hw.1
    have h2 := h1.length_le
    rw [path_length, hq] at h2
    omega
theorem within_path {a b c d : Nat} (h1 : Val a b) (h2 : Val c d) : withinB a b c d = true ↔ path c d <+: path a b := by
  rw [within_iff]
  constructor
  · rintro ⟨_, hd, hh⟩
    rw [← has_path h2.2.1 hh]
    exact path_pre (by omega)
  · intro hp
    have hl := hp.length_le
    rw [path_length, path_length] at hl
    refine ⟨(Val_chk h1.1).1 h1, by omega, ?_⟩
    have e1 : path c d = path a d := (List.prefix_of_prefix_length_le hp (path_pre hl) (by rw [path_length, path_length]; exact Nat.le_refl _)).eq_of_length (by rw [path_length, path_length])
    have hV := val_masked h1.1 h2.2.1
    have e2 : c = a / sz (d : Int) * sz (d : Int) := (path_same h2 hV (by rw [path_masked _ _ h2.2.1]; exact e1)).1
    unfold hasB
    rw [decide_eq_true_iff]
    exact ⟨(Val_chk h2.1).1 h2, e2.symm⟩
theorem withinB_false {a b c d : Nat} (h1 : Val a b) (h2 : Val c d) (h : ¬ path c d <+: path a b) : withinB a b c d = false := by
  rw [Bool.eq_false_iff]; exact fun k => h ((within_path h1 h2).1 k)
set_option maxRecDepth 100000 in
set_option maxHeartbeats 2000000 in
theorem atP_any (tb : Nat) (t : PT) (z : Int) (a b : Nat) (w : World) (hV : Val a b) (hk : w.heap[tb]? = some (.cells #[t.ptr, .int .i64 z] 122 (0, 0))) (hr : RepP w t) (hw : BT.WF [] t.bt) :
    Calls Tryd.prog 89 #[.pointer (some ⟨tb, 0, none⟩), .agg #[.int .u32 a, .int .i64 b]] w (AtPost t (path a b) w) := by
  have hc0 := (cell_rootP hk).1
  have htb := World.block_lt_of_cell? w _ hc0
  simp only at htb
  have HR := Lib.hid hr
  have HV := Lib.hid hV
  have HW := Lib.hid hw
  clear hr hV hk hw
  go_enter Tryd.func89, Tryd.ntmps89
  go_wp2_with fail
  have HB0 := Lib.hid ((Below.refl w.heap.size w).alloc (Nat.le_refl _) (.cells #[.int .u32 a, .int .i64 b] 25))
  have HX0 := Lib.hid (heap_alloc_new w (.cells #[.int .u32 a, .int .i64 b] 25))
  go_loopw [5] (fun v wr => ∃ s : PT, v = .pointer s.addr ∧ RepP wr s ∧ (∃ q, BT.WF q s.bt) ∧ atP s (path a b) = atP t (path a b) ∧ Below w.heap.size w wr ∧ wr.heap[w.heap.size]? = some (.cells #[.int .u32 a, .int .i64 b] 25 (0, 0))) (fun v wr => mP v wr)
  case atStart => exact ⟨t, rfl, HR.out.grow HB0.out, ⟨[], HW.out⟩, rfl, HB0.out, HX0.out⟩
  case round =>
    obtain ⟨s, rfl, hrs, ⟨q, hws⟩, hat, hbw, hbx⟩ := hrel
    have b0 : wr.cell? ⟨w.heap.size, 0, none⟩ = some (.int .u32 a) := cell_of_row _ w.heap.size 0 _ 25 (0, 0) hbx
    have b1 : wr.cell? ⟨w.heap.size, 1, none⟩ = some (.int .i64 b) := cell_of_row _ w.heap.size 1 _ 25 (0, 0) hbx
    have HRS := Lib.hid hrs
    have HWS := Lib.hid hws
    have HAT := Lib.hid hat
    have HBW := Lib.hid hbw
    have HBX := Lib.hid hbx
    clear hws hat hbw hbx
    cases s with
    | nil =>
      clear hrs
      simp only [PT.addr]
      go_wp2_with fail
      go_quiet (fail)
      go_wp2_with fail
      go_ret
      refine ⟨none, rfl, ⟨fun _ => ?_, fun _ => rfl⟩, below_drewN HBW.out _⟩
      rw [← atP_get, ← HAT.out]
      rfl
    | node g a' d' l r v h =>
      obtain ⟨c0, c1, c2, c3, c4, c5⟩ := cell_nodeP hrs
      clear hrs
      simp only [PT.addr]
      have hVs := HRS.out.1.1
      have HVS := Lib.hid hVs
      have ha32 := hVs.1
      have hd32 := hVs.2.1
      clear hVs
      by_cases e : a' = a ∧ d' = b
      · obtain ⟨rfl, rfl⟩ := e
        have HG := Lib.hid (show t.bt.get (path a' d') = if h then some v else none by
          rw [← atP_get, ← HAT.out, atP, if_pos rfl]; rfl)
        cases h
        all_goals
          go_wp2_with fail
          go_quiet (fail)
          go_wp2_with fail
          go_ret
          refine ⟨_, rfl, ⟨fun hq => ?_, fun hq => ?_⟩, below_drewN HBW.out _⟩
          · first | exact HG.out | cases hq
          · first | rfl | (rw [HG.out] at hq; cases hq)
      · have HE := Lib.hid e
        have hne : (((a' : Int) == (a : Int)) && ((d' : Int) == (b : Int))) = false := by
          rw [Bool.eq_false_iff]
          intro k
          rw [Bool.and_eq_true, beq_iff_eq, beq_iff_eq] at k
          exact e ⟨by omega, by omega⟩
        have hne2 : ¬ ((a' : Int) = (a : Int) ∧ (d' : Int) = (b : Int)) := fun k => e ⟨by omega, by omega⟩
        clear e
        go_wp2_with fail
        go_quiet (fail)
        go_wp2_with fail
        have HRS2 := Lib.hid (HRS.out.same (w' := (wr.drewN nq).drew) rfl)
        have HBX2 := Lib.hid (show ((wr.drewN nq).drew).heap[w.heap.size]? = some (.cells #[.int .u32 a, .int .i64 b] 25 (0, 0)) from HBX.out)
        have HBW2 := Lib.hid (below_drewN HBW.out nq).drew
        clear b0 b1 c0 c1 c2 c3 c4 c5 hne hne2
        have HWI := Lib.hid (fun W => within_any a b a' d' W HV.out.1 ha32)
        have cells := HRS2.out
        obtain ⟨c0, c1, c2, c3, c4, c5⟩ := cell_nodeP cells
        have b0 : ((wr.drewN nq).drew).cell? ⟨w.heap.size, 0, none⟩ = some (.int .u32 a) := cell_of_row _ w.heap.size 0 _ 25 (0, 0) HBX2.out
        have b1 : ((wr.drewN nq).drew).cell? ⟨w.heap.size, 1, none⟩ = some (.int .i64 b) := cell_of_row _ w.heap.size 1 _ 25 (0, 0) HBX2.out
        clear cells
        refine still_tail 5 (by kernel_rfl) (by kernel_rfl) ?_
        simp only [List.take_succ_cons, List.take_zero, List.drop_succ_cons, List.drop_zero]
        generalize (wr.drewN nq).drew = wq at HRS2 HBX2 HBW2 c0 c1 c2 c3 c4 c5 b0 b1 ⊢
        iterate 5 still_step
        refine wpStill_nil ?_
        by_cases hp : path a' d' <+: path a b
        · have hwi := (within_path HV.out HVS.out).2 hp
          rw [hwi] at HWI
          have hne := HE.out
          have hd : d' < b := by
            have hl := hp.length_le
            rw [path_length, path_length] at hl
            rcases Nat.eq_or_lt_of_le hl with h1 | h1
            · exact absurd (path_same HVS.out HV.out (hp.eq_of_length (by rw [path_length, path_length]; exact h1))) hne
            · exact h1
          have hb32 := HV.out.2.1
          have hso := sideOf_path (p := path a' d') (a := a) (d := b) (by rw [path_length]; exact hd)
          rw [path_length] at hso
          have HAT2 := Lib.hid (show atP (if bitB a d' then r else l) (path a b) = atP t (path a b) by
            rw [← HAT.out, atP, if_neg (fun k => hne (path_same HVS.out HV.out k)), if_pos hp, hso]
            cases bitB a d' <;> rfl)
          have HWL := Lib.hid HWS.out.2.2.1
          have HWR := Lib.hid HWS.out.2.2.2
          have hlenL : (path a' d' ++ [false]).length = d' + 1 := by simp [path_length]
          have hlenR : (path a' d' ++ [true]).length = d' + 1 := by simp [path_length]
          have HLL := Lib.hid hlenL
          have HLR := Lib.hid hlenR
          have ha := HV.out.1
          have hM := mP_node HRS.out
          have HM := Lib.hid hM
          clear hp hwi hne hso hlenL hlenR hM
          cases hbit : bitB a d'
          all_goals
            rw [hbit] at HAT2
            have Hb := Lib.hid hbit
            clear hbit
            go_wp2_with fail
            refine (HWI.out _).mono ?_
            rintro e w2 ⟨rfl, hb2⟩
            have HB2 := Lib.hid (HBW2.out.trans (hb2.mono HBW2.out.size))
            have HRS3 := Lib.hid (HRS2.out.grow hb2)
            have HBX3 := Lib.hid ((hb2.block _ (Array.getElem?_eq_some_iff.1 HBX2.out).1).trans HBX2.out)
            clear hb2 c0 c1 c2 c3 c4 c5 b0 b1
            have cells := HRS3.out
            obtain ⟨c0, c1, c2, c3, c4, c5⟩ := cell_nodeP cells
            have b0 : w2.cell? ⟨w.heap.size, 0, none⟩ = some (.int .u32 a) := cell_of_row _ w.heap.size 0 _ 25 (0, 0) HBX3.out
            clear cells
            go_wp2_with fail
            go_quiet ((go_at_call 94; first | exact Calls.quiet_of_same (side_f g d' a _ ha (by omega) (by simpa using c1) Hb.out) | exact Calls.quiet_of_same (side_t g d' a _ ha (by omega) (by simpa using c1) Hb.out)))
            go_wp2_with fail
            go_roundw
            case rel =>
              first
                | exact ⟨_, rfl, (HRS3.out.same (w' := w2.drewN _) rfl).2.1, ⟨_, HWL.out⟩, HAT2.out, below_drewN HB2.out _, HBX3.out⟩
                | exact ⟨_, rfl, (HRS3.out.same (w' := w2.drewN _) rfl).2.2, ⟨_, HWR.out⟩, HAT2.out, below_drewN HB2.out _, HBX3.out⟩
            case measure =>
              first
                | exact Nat.lt_of_lt_of_eq (mP_kid (HRS3.out.same (w' := w2.drewN _) rfl).2.1 HWL.out HLL.out hd32) HM.out.symm
                | exact Nat.lt_of_lt_of_eq (mP_kid (HRS3.out.same (w' := w2.drewN _) rfl).2.2 HWR.out HLR.out hd32) HM.out.symm
        · have hwi := withinB_false HV.out HVS.out hp
          rw [hwi] at HWI
          have HP := Lib.hid hp
          clear hp hwi
          go_wp2_with fail
          refine (HWI.out _).mono ?_
          rintro e w2 ⟨rfl, hb2⟩
          have HB2 := Lib.hid (HBW2.out.trans (hb2.mono HBW2.out.size))
          clear hb2
          go_wp2_with fail
          go_ret
          refine ⟨none, rfl, ⟨fun _ => ?_, fun _ => rfl⟩, HB2.out⟩
          rw [← atP_get, ← HAT.out, atP, if_neg (fun k => HP.out (by rw [k]; exact List.prefix_refl _)), if_neg HP.out]
          rfl
end Go.Proofs.YtaknlphmplimhaaDoor
