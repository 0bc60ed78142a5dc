/- The walks of (*press.Press).Del and Put; a compressed table that the world holds. -/
import Derived.Test.YtaknlphmplimhaaDoorPn
import Derived.Test.YtaknlphmplimhaaDoorPp
set_option linter.unusedVariables false
set_option linter.unusedSimpArgs false
namespace Go.Proofs.YtaknlphmplimhaaDoor
open Go.RowKit Go.Proofs
attribute [local go_sem high] eqA25
theorem heap_setCell_root {w : World} {tb : Nat} {z : Int} {p u : Value} (h : w.heap[tb]? = some (.cells #[p, .int .i64 z] 122 (0, 0))) : (w.setCell ⟨tb, 0, none⟩ u).heap[tb]? = some (.cells #[u, .int .i64 z] 122 (0, 0)) := by
  rw [heap_setCell_same h 0 u]; simp
theorem PR.count {w : World} {tb : Nat} {z : Int} {t : PT} (h : PR w tb z t) (z' : Int) : PR (w.setCell ⟨tb, 1, none⟩ (.int .i64 z')) tb z' t := by
  have hn := h.nd
  refine ⟨?_, h.rep.far (by simp only [List.nodup_cons] at hn; exact hn.1) _, hn, h.wf⟩
  rw [heap_setCell_same h.root 1 (.int .i64 z')]; simp
theorem PR.same {w w' : World} {tb : Nat} {z : Int} {t : PT} (h : PR w tb z t) (hh : w'.heap = w.heap) : PR w' tb z t := h.keep fun b _ => by rw [hh]
set_option maxHeartbeats 1000000 in
theorem delP_bad (tb : Nat) (a : Nat) (b : Int) (w : World) (ha : a < 4294967296) (hc : chkE a b ≠ 0) :
    Calls Tryd.prog 48 #[.pointer (some ⟨tb, 0, none⟩), .agg #[.int .u32 a, .int .i64 b]] w fun e w' => e = .returned (.int .i64 (chkE a b)) ∧ Below w.heap.size w w' := by
  have Hd : (chkE a b != 0) = true := by simpa using hc
  clear hc
  go_enter Tryd.func48, Tryd.ntmps48
  go_wp2_with fail
  refine (check_any a b _ ha).mono ?_
  rintro e w1 ⟨rfl, hb⟩
  go_wp2_with fail
  go_ret
  exact ⟨rfl, bthen ((Below.refl _ _).alloc (Nat.le_refl _) _) (by simp) hb⟩
set_option maxHeartbeats 1000000 in
theorem putP_bad (tb : Nat) (a : Nat) (b v : Int) (w : World) (ha : a < 4294967296) (hc : chkE a b ≠ 0) :
    Calls Tryd.prog 51 #[.pointer (some ⟨tb, 0, none⟩), .agg #[.int .u32 a, .int .i64 b], .int .i64 v] w fun e w' => e = .returned (.int .i64 (chkE a b)) ∧ Below w.heap.size w w' := by
  have Hd : (chkE a b != 0) = true := by simpa using hc
  clear hc
  go_enter Tryd.func51, Tryd.ntmps51
  go_wp2_with fail
  refine (check_any a b _ ha).mono ?_
  rintro e w1 ⟨rfl, hb⟩
  go_wp2_with fail
  go_ret
  exact ⟨rfl, bthen ((Below.refl _ _).alloc (Nat.le_refl _) _) (by simp) hb⟩
set_option maxHeartbeats 1000000 in
theorem delP_none (tb : Nat) (t : PT) (z : Int) (a b : Nat) (w : World) (hV : Val a b) (hT : PR w tb z t) (hg : t.bt.get (path a b) = none) :
    Calls Tryd.prog 48 #[.pointer (some ⟨tb, 0, none⟩), .agg #[.int .u32 a, .int .i64 b]] w fun e w' => e = .returned (.int .i64 4) ∧ Below w.heap.size w w' := by
  have Hc := Lib.hid ((Val_chk hV.1).1 hV)
  have HV := Lib.hid hV
  have ha := hV.1
  have HT := Lib.hid hT
  have HG := Lib.hid hg
  clear hV hT hg
  go_enter Tryd.func48, Tryd.ntmps48
  go_wp2_with fail
  refine (check_any a b _ ha).mono ?_
  rw [Hc.out]
  rintro e w1 ⟨rfl, hb⟩
  have hcl : ∀ o, w1.cell? ⟨w.heap.size, o, none⟩ = _ := fun o => hb.cell (p := ⟨w.heap.size, o, none⟩) (by simp)
  have hs1 : w.heap.size + 1 ≤ w1.heap.size := by have := hb.size; simp at this; omega
  have hB : Below w.heap.size w w1 := bthen ((Below.refl _ _).alloc (Nat.le_refl _) _) (by simp) hb
  have HT1 := Lib.hid (HT.out.grow hB)
  go_wp2_with fail
  refine (atP_any tb t z a b _ HV.out HT1.out.root HT1.out.rep HT1.out.wf).mono ?_
  rintro e w2 ⟨q, rfl, hq, hb2⟩
  have hqn : q = none := hq.2 HG.out
  subst hqn
  have hB2 : Below w.heap.size w w2 := bthen hB (by omega) hb2
  clear hq
  go_wp2_with fail
  go_ret
  exact ⟨rfl, hB2⟩
def DelPDone (w : World) (tb : Nat) (z : Int) (t : PT) (x : List Bool) (e : Ending) (w' : World) : Prop :=
  ∃ t' : PT, e = .returned (.int .i64 0) ∧ PR w' tb (z - 1) t' ∧ t'.bt = BT.del t.bt x ∧ (∀ y ∈ t'.dom, y ∈ t.dom ∨ w.heap.size ≤ y) ∧ Kp (tb :: t.dom) w w'
set_option maxRecDepth 100000 in
set_option maxHeartbeats 2000000 in
theorem delP_found (tb : Nat) (t : PT) (z : Int) (a b : Nat) (w : World) (hV : Val a b) (hT : PR w tb z t) (hz : z ≤ 256) (hz0 : 0 ≤ z) (hg : t.bt.get (path a b) ≠ none) :
    Calls Tryd.prog 48 #[.pointer (some ⟨tb, 0, none⟩), .agg #[.int .u32 a, .int .i64 b]] w (DelPDone w tb z t (path a b)) := by
  have Hc := Lib.hid ((Val_chk hV.1).1 hV)
  have HV := Lib.hid hV
  have ha := hV.1
  have HT := Lib.hid hT
  have HG := Lib.hid hg
  have htl : tb < w.heap.size := hT.lt tb (by simp)
  have HTN := Lib.hid (List.nodup_cons.1 hT.nd).1
  clear hV hT hg
  go_enter Tryd.func48, Tryd.ntmps48
  go_wp2_with fail
  refine (check_any a b _ ha).mono ?_
  rw [Hc.out]
  rintro e w1 ⟨rfl, hb⟩
  have hcl : ∀ o, w1.cell? ⟨w.heap.size, o, none⟩ = _ := fun o => hb.cell (p := ⟨w.heap.size, o, none⟩) (by simp)
  have hs1 : w.heap.size + 1 ≤ w1.heap.size := by have := hb.size; simp at this; omega
  have hB : Below w.heap.size w w1 := bthen ((Below.refl _ _).alloc (Nat.le_refl _) _) (by simp) hb
  have HT1 := Lib.hid (HT.out.grow hB)
  go_wp2_with fail
  refine (atP_any tb t z a b _ HV.out HT1.out.root HT1.out.rep HT1.out.wf).mono ?_
  rintro e w2 ⟨q, rfl, hq, hb2⟩
  cases q with
  | none => exact absurd (hq.1 rfl) HG.out
  | some qq =>
    have HT2 := Lib.hid (HT1.out.grow hb2)
    have hB2 : Below w.heap.size w w2 := bthen hB (by omega) hb2
    have hbox : ∀ o, w2.cell? ⟨w.heap.size, o, none⟩ = w1.cell? ⟨w.heap.size, o, none⟩ := fun o => hb2.cell (p := ⟨w.heap.size, o, none⟩) (by simp; omega)
    have b0 : w2.cell? ⟨w.heap.size, 0, none⟩ = some (.int .u32 a) := by rw [hbox, hcl]; simp
    have b1 : w2.cell? ⟨w.heap.size, 1, none⟩ = some (.int .i64 b) := by rw [hbox, hcl]; simp
    have hwl2 : w.heap.size < w2.heap.size := by have := hb2.size; omega
    have HB2 := Lib.hid hB2
    clear hbox hcl hq hB hb hb2 hB2
    obtain ⟨cr0, cr1⟩ := cell_rootP HT2.out.root
    have htl2 : tb < w2.heap.size := HT2.out.lt tb (by simp)
    go_wp2_with fail
    go_region_with (go_at_call 93; (refine (withoutP_any a b HV.out t _ ?_ (List.nodup_cons.1 HT2.out.nd).2 HG.out).mono ?_); exact HT2.out.rep.keep fun _ _ => rfl; rintro e w3 ⟨t2, rfl, q1, q2, q3, q4⟩; have hroot : w3.heap[tb]? = some (.cells #[t.ptr, .int .i64 z] 122 (0, 0)) := (q4.block tb htl2 HTN.out).trans HT2.out.root; have d0 : w3.cell? ⟨tb, 0, none⟩ = some t.ptr := (cell_rootP hroot).1; have e0 : w3.frozen? ⟨tb, 0, none⟩ = false := frozen_of_row hroot 0; have d1 : w3.cell? ⟨tb, 1, none⟩ = some (.int .i64 z) := (cell_rootP hroot).2; have e1 : w3.frozen? ⟨tb, 1, none⟩ = false := frozen_of_row hroot 1; have hg3 : tb < w3.heap.size := (Array.getElem?_eq_some_iff.1 hroot).1; have HRT := Lib.hid hroot; have Q1 := Lib.hid q1; have Q2 := Lib.hid q2; have Q3 := Lib.hid q3; have Q4 := Lib.hid q4; clear hroot q1 q2 q3 q4)
    all_goals
      have hTy : PR (w3.setCell ⟨tb, 0, none⟩ (.pointer t2.addr)) tb z t2 := by
        have hnd : (tb :: t2.dom).Nodup := HT2.out.nd.sublist (Q3.out.cons_cons tb)
        exact ⟨heap_setCell_root HRT.out, Q1.out.far (List.nodup_cons.1 hnd).1 _, hnd, by rw [Q2.out]; exact (BT.del_spec HT2.out.wf HG.out).1⟩
      have hKy : Kp (tb :: t.dom) w (w3.setCell ⟨tb, 0, none⟩ (.pointer t2.addr)) :=
        ((Kp.of_below HB2.out).drew.step Q4.out (fun x hx => .inl (by simp [hx]))).setCell (p := ⟨tb, 0, none⟩) (.inl (by simp)) _
      have HTy := Lib.hid hTy
      have HKy := Lib.hid hKy
      clear hTy hKy
      go_wp2_with fail
      go_ret
      exact ⟨t2, rfl, HTy.out.count _, Q2.out, fun y hy => .inl (Q3.out.subset hy), HKy.out.setCell (.inl (by simp)) _⟩
def PutPDone (w : World) (tb : Nat) (z : Int) (t : PT) (x : List Bool) (v : Int) (e : Ending) (w' : World) : Prop :=
  ∃ t' : PT, e = .returned (.int .i64 0) ∧ PR w' tb z t' ∧ t'.bt = BT.wth t.bt x v ∧ (∀ y ∈ t'.dom, y ∈ t.dom ∨ w.heap.size ≤ y) ∧ Kp (tb :: t.dom) w w'
set_option maxRecDepth 100000 in
set_option maxHeartbeats 2000000 in
theorem putP_new (tb : Nat) (t : PT) (z : Int) (a b : Nat) (v : Int) (w : World) (hV : Val a b) (hT : PR w tb z t) (hz : z < 256) (hz0 : 0 ≤ z) (hg : t.bt.get (path a b) = none) :
    Calls Tryd.prog 51 #[.pointer (some ⟨tb, 0, none⟩), .agg #[.int .u32 a, .int .i64 b], .int .i64 v] w (PutPDone w tb (z + 1) t (path a b) v) := by
  have Hc := Lib.hid ((Val_chk hV.1).1 hV)
  have HV := Lib.hid hV
  have ha := hV.1
  have HT := Lib.hid hT
  have HG := Lib.hid hg
  have htl : tb < w.heap.size := hT.lt tb (by simp)
  have HTN := Lib.hid (List.nodup_cons.1 hT.nd).1
  clear hV hT hg
  go_enter Tryd.func51, Tryd.ntmps51
  go_wp2_with fail
  refine (check_any a b _ ha).mono ?_
  rw [Hc.out]
  rintro e w1 ⟨rfl, hb⟩
  have hcl : ∀ o, w1.cell? ⟨w.heap.size, o, none⟩ = _ := fun o => hb.cell (p := ⟨w.heap.size, o, none⟩) (by simp)
  have hs1 : w.heap.size + 1 ≤ w1.heap.size := by have := hb.size; simp at this; omega
  have hB : Below w.heap.size w w1 := bthen ((Below.refl _ _).alloc (Nat.le_refl _) _) (by simp) hb
  have HT1 := Lib.hid (HT.out.grow hB)
  go_wp2_with fail
  refine (atP_any tb t z a b _ HV.out HT1.out.root HT1.out.rep HT1.out.wf).mono ?_
  rintro e w2 ⟨q, rfl, hq, hb2⟩
  cases q with
  | some qq => exact absurd (hq.2 HG.out) (by simp)
  | none =>
    have HT2 := Lib.hid (HT1.out.grow hb2)
    have hB2 : Below w.heap.size w w2 := bthen hB (by omega) hb2
    have hbox : ∀ o, w2.cell? ⟨w.heap.size, o, none⟩ = w1.cell? ⟨w.heap.size, o, none⟩ := fun o => hb2.cell (p := ⟨w.heap.size, o, none⟩) (by simp; omega)
    have b0 : w2.cell? ⟨w.heap.size, 0, none⟩ = some (.int .u32 a) := by rw [hbox, hcl]; simp
    have b1 : w2.cell? ⟨w.heap.size, 1, none⟩ = some (.int .i64 b) := by rw [hbox, hcl]; simp
    have hwl2 : w.heap.size < w2.heap.size := by have := hb2.size; omega
    have HKW := Lib.hid (Kp.of_below (S := tb :: t.dom) hB2)
    have hwsz := hB2.size
    clear hbox hcl hq hB hb hb2 hB2
    obtain ⟨cr0, cr1⟩ := cell_rootP HT2.out.root
    have htl2 : tb < w2.heap.size := HT2.out.lt tb (by simp)
    have fr1 : w2.frozen? ⟨tb, 1, none⟩ = false := frozen_of_row HT2.out.root 1
    have hzz : IntKind.i64.wrap (z + 1) = z + 1 := IntWalk.i64_in _ (by omega)
    have hz256 : (z == 256) = false := by rw [beq_eq_false_iff_ne]; omega
    go_upto_region 8 with (fail)
    replace HT2 := Lib.hid (HT2.out.count (z + 1))
    replace HKW := Lib.hid (HKW.out.setCell (p := ⟨tb, 1, none⟩) (.inl (by simp)) (.int .i64 (z + 1)))
    have nb0 : (w2.setCell ⟨tb, 1, none⟩ (.int .i64 (z + 1))).cell? ⟨w.heap.size, 0, none⟩ = some (.int .u32 a) := by go_simp
    have nb1 : (w2.setCell ⟨tb, 1, none⟩ (.int .i64 (z + 1))).cell? ⟨w.heap.size, 1, none⟩ = some (.int .i64 b) := by go_simp
    have nsz : w.heap.size < (w2.setCell ⟨tb, 1, none⟩ (.int .i64 (z + 1))).heap.size := by simp [World.setCell]; exact hwl2
    clear b0 b1 cr0 cr1 hwl2 hwsz htl2 fr1 hzz hz256
    generalize w2.setCell ⟨tb, 1, none⟩ (.int .i64 (z + 1)) = w4 at HT2 HKW nb0 nb1 nsz ⊢
    have hwsz := Nat.le_of_lt nsz
    obtain ⟨cr0, cr1⟩ := cell_rootP HT2.out.root
    have htl2 : tb < w4.heap.size := HT2.out.lt tb (by simp)
    go_wp2_with fail
    go_region_with (go_at_call 90; (refine (with_any a b v HV.out t _ ?_ (List.nodup_cons.1 HT2.out.nd).2).mono ?_); exact HT2.out.rep.keep fun _ _ => rfl; rintro e w3 ⟨t2, rfl, q1, q2, q3, q4, q5⟩; have hroot : w3.heap[tb]? = some (.cells #[t.ptr, .int .i64 (z + 1)] 122 (0, 0)) := (q5.block tb htl2 HTN.out).trans HT2.out.root; have d0 : w3.cell? ⟨tb, 0, none⟩ = some t.ptr := (cell_rootP hroot).1; have e0 : w3.frozen? ⟨tb, 0, none⟩ = false := frozen_of_row hroot 0; have hg3 : tb < w3.heap.size := (Array.getElem?_eq_some_iff.1 hroot).1; have HRT := Lib.hid hroot; have Q1 := Lib.hid q1; have Q2 := Lib.hid q2; have Q3 := Lib.hid q3; have Q4 := Lib.hid q4; have Q5 := Lib.hid q5; clear hroot q1 q2 q3 q4 q5)
    all_goals
      have htn : tb ∉ t2.dom := fun hx => by
        rcases Q4.out tb hx with h | h
        · exact HTN.out h
        · have h' : w4.heap.size ≤ tb := h
          omega
      have hTy : PR (w3.setCell ⟨tb, 0, none⟩ (.pointer t2.addr)) tb (z + 1) t2 :=
        ⟨heap_setCell_root HRT.out, Q1.out.far htn _, List.nodup_cons.2 ⟨htn, Q3.out⟩, by rw [Q2.out]; exact (BT.wth_spec HT2.out.wf List.nil_prefix).1⟩
      have hKy : Kp (tb :: t.dom) w (w3.setCell ⟨tb, 0, none⟩ (.pointer t2.addr)) :=
        (HKW.out.drew.step Q5.out (fun x hx => .inl (by simp [hx]))).setCell (p := ⟨tb, 0, none⟩) (.inl (by simp)) _
      have HTy := Lib.hid hTy
      have HKy := Lib.hid hKy
      clear hTy hKy
      go_wp2_with fail
      go_ret
      refine ⟨t2, rfl, HTy.out, Q2.out, fun y hy => ?_, HKy.out⟩
      rcases Q4.out y hy with h | h
      · exact .inl h
      · exact .inr (Nat.le_trans hwsz h)
set_option maxRecDepth 100000 in
set_option maxHeartbeats 2000000 in
theorem putP_old (tb : Nat) (t : PT) (z : Int) (a b : Nat) (v : Int) (w : World) (hV : Val a b) (hT : PR w tb z t) (hg : t.bt.get (path a b) ≠ none) :
    Calls Tryd.prog 51 #[.pointer (some ⟨tb, 0, none⟩), .agg #[.int .u32 a, .int .i64 b], .int .i64 v] w (PutPDone w tb z t (path a b) v) := by
  have Hc := Lib.hid ((Val_chk hV.1).1 hV)
  have HV := Lib.hid hV
  have ha := hV.1
  have HT := Lib.hid hT
  have HG := Lib.hid hg
  have htl : tb < w.heap.size := hT.lt tb (by simp)
  have HTN := Lib.hid (List.nodup_cons.1 hT.nd).1
  clear hV hT hg
  go_enter Tryd.func51, Tryd.ntmps51
  go_wp2_with fail
  refine (check_any a b _ ha).mono ?_
  rw [Hc.out]
  rintro e w1 ⟨rfl, hb⟩
  have hcl : ∀ o, w1.cell? ⟨w.heap.size, o, none⟩ = _ := fun o => hb.cell (p := ⟨w.heap.size, o, none⟩) (by simp)
  have hs1 : w.heap.size + 1 ≤ w1.heap.size := by have := hb.size; simp at this; omega
  have hB : Below w.heap.size w w1 := bthen ((Below.refl _ _).alloc (Nat.le_refl _) _) (by simp) hb
  have HT1 := Lib.hid (HT.out.grow hB)
  go_wp2_with fail
  refine (atP_any tb t z a b _ HV.out HT1.out.root HT1.out.rep HT1.out.wf).mono ?_
  rintro e w2 ⟨q, rfl, hq, hb2⟩
  cases q with
  | none => exact absurd (hq.1 rfl) HG.out
  | some qq =>
    have HT2 := Lib.hid (HT1.out.grow hb2)
    have hB2 : Below w.heap.size w w2 := bthen hB (by omega) hb2
    have hbox : ∀ o, w2.cell? ⟨w.heap.size, o, none⟩ = w1.cell? ⟨w.heap.size, o, none⟩ := fun o => hb2.cell (p := ⟨w.heap.size, o, none⟩) (by simp; omega)
    have b0 : w2.cell? ⟨w.heap.size, 0, none⟩ = some (.int .u32 a) := by rw [hbox, hcl]; simp
    have b1 : w2.cell? ⟨w.heap.size, 1, none⟩ = some (.int .i64 b) := by rw [hbox, hcl]; simp
    have hwl2 : w.heap.size < w2.heap.size := by have := hb2.size; omega
    have HKW := Lib.hid (Kp.of_below (S := tb :: t.dom) hB2)
    have hwsz := hB2.size
    clear hbox hcl hq hB hb hb2 hB2
    obtain ⟨cr0, cr1⟩ := cell_rootP HT2.out.root
    have htl2 : tb < w2.heap.size := HT2.out.lt tb (by simp)
    go_wp2_with fail
    go_region_with (go_at_call 90; (refine (with_any a b v HV.out t _ ?_ (List.nodup_cons.1 HT2.out.nd).2).mono ?_); exact HT2.out.rep.keep fun _ _ => rfl; rintro e w3 ⟨t2, rfl, q1, q2, q3, q4, q5⟩; have hroot : w3.heap[tb]? = some (.cells #[t.ptr, .int .i64 (z)] 122 (0, 0)) := (q5.block tb htl2 HTN.out).trans HT2.out.root; have d0 : w3.cell? ⟨tb, 0, none⟩ = some t.ptr := (cell_rootP hroot).1; have e0 : w3.frozen? ⟨tb, 0, none⟩ = false := frozen_of_row hroot 0; have hg3 : tb < w3.heap.size := (Array.getElem?_eq_some_iff.1 hroot).1; have HRT := Lib.hid hroot; have Q1 := Lib.hid q1; have Q2 := Lib.hid q2; have Q3 := Lib.hid q3; have Q4 := Lib.hid q4; have Q5 := Lib.hid q5; clear hroot q1 q2 q3 q4 q5)
    all_goals
      have htn : tb ∉ t2.dom := fun hx => by
        rcases Q4.out tb hx with h | h
        · exact HTN.out h
        · have h' : w2.heap.size ≤ tb := h
          omega
      have hTy : PR (w3.setCell ⟨tb, 0, none⟩ (.pointer t2.addr)) tb (z) t2 :=
        ⟨heap_setCell_root HRT.out, Q1.out.far htn _, List.nodup_cons.2 ⟨htn, Q3.out⟩, by rw [Q2.out]; exact (BT.wth_spec HT2.out.wf List.nil_prefix).1⟩
      have hKy : Kp (tb :: t.dom) w (w3.setCell ⟨tb, 0, none⟩ (.pointer t2.addr)) :=
        (HKW.out.drew.step Q5.out (fun x hx => .inl (by simp [hx]))).setCell (p := ⟨tb, 0, none⟩) (.inl (by simp)) _
      have HTy := Lib.hid hTy
      have HKy := Lib.hid hKy
      clear hTy hKy
      go_wp2_with fail
      go_ret
      refine ⟨t2, rfl, HTy.out, Q2.out, fun y hy => ?_, HKy.out⟩
      rcases Q4.out y hy with h | h
      · exact .inl h
      · exact .inr (Nat.le_trans hwsz h)
end Go.Proofs.YtaknlphmplimhaaDoor
