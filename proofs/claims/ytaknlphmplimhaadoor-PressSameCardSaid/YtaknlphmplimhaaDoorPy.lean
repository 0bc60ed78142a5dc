/- The walks of (*press.Press).Shape and Nodes and of press.Of; a compressed table that the world holds; a slice of at most 256 valid entries with different prefixes. -/
import Derived.Test.YtaknlphmplimhaaDoorPw
import Derived.Test.YtaknlphmplimhaaDoorPv
import Derived.Test.YtaknlphmplimhaaDoorLu
set_option linter.unusedVariables false
set_option linter.unusedSimpArgs false
namespace Go.Proofs.YtaknlphmplimhaaDoor
open Go.RowKit Go.Proofs
attribute [local go_sem high] eqA25
theorem prefs_val {w : World} : ∀ {t : PT}, RepP w t → ∀ e, e ∈ prefs t → ∃ k : Nat, e.b = k ∧ Val e.a k
  | .node g a d l r v h, hr, e, he => by
    simp only [prefs, List.mem_cons, List.mem_append] at he
    rcases he with rfl | he | he
    · exact ⟨d, rfl, hr.1.1⟩
    · exact prefs_val hr.2.1 e he
    · exact prefs_val hr.2.2 e he
theorem prefs_shp : ∀ (t : PT), (prefs t).map (fun p => path p.a p.b.toNat) = t.bt.shp
  | .nil => rfl
  | .node g a d l r v h => by simp [prefs, PT.bt, BT.shp, prefs_shp l, prefs_shp r]
theorem prefs_len (t : PT) : (prefs t).length = t.bt.shp.length := by rw [← prefs_shp, List.length_map]
/-- The call gives a slice of these prefixes, in memory of its own. -/
def GivesP (w : World) (es : List Pf) (e : Ending) (w' : World) : Prop := ∃ A c, e = .returned (.slice A es.length c) ∧ (es.length ≤ c ∧ (A = none → c = 0)) ∧ ReadsP w' A es.length es ∧ Below w.heap.size w w'
set_option maxHeartbeats 400000 in
theorem shapeAll_any (tb : Nat) (t : PT) (z : Int) (w : World) (hT : PR w tb z t) (hl : (prefs t).length ≤ 1000000) :
    Calls Tryd.prog 43 #[.pointer (some ⟨tb, 0, none⟩)] w (GivesP w (prefs t)) := by
  obtain ⟨c0, c1⟩ := cell_rootP hT.root
  have hcon := shape_any w.heap.size t w (.slice none 0 0) [] hT.rep hT.rep.lt (Nat.le_refl _) ⟨by simp, .inl ⟨rfl, rfl⟩⟩ (by simpa using hl)
  have HC := Lib.hid hcon
  have HV := Lib.hid (prefs_val hT.rep)
  clear hcon hT
  go_enter Tryd.func43, Tryd.ntmps43
  go_wp2_with fail
  refine HC.out.mono ?_
  rintro e w' ⟨ov, rfl, hrow, hg, _⟩
  rw [List.nil_append] at hrow
  obtain ⟨A, c, rfl, hc, hA, hR⟩ := hrow.reads (fun e he => by obtain ⟨k, _, h⟩ := HV.out e he; exact h.1)
  have HR := Lib.hid hR
  have HB := Lib.hid (below_of_grown hg)
  have HCC := Lib.hid (And.intro hc hA)
  clear hrow hg hR hc hA
  go_wp2_with fail
  go_ret
  exact ⟨A, c, rfl, HCC.out, HR.out, HB.out⟩
set_option maxHeartbeats 400000 in
theorem nodes_any (tb : Nat) (t : PT) (z : Int) (w : World) (hT : PR w tb z t) (hl : (prefs t).length ≤ 1000000) :
    Calls Tryd.prog 45 #[.pointer (some ⟨tb, 0, none⟩)] w fun e w' => e = .returned (.int .i64 (prefs t).length) ∧ Below w.heap.size w w' := by
  have HC := Lib.hid (shapeAll_any tb t z w hT hl)
  clear hT
  go_enter Tryd.func45, Tryd.ntmps45
  go_wp2_with fail
  refine HC.out.mono ?_
  rintro e w' ⟨A, c, rfl, h1, h2, hb⟩
  clear h1 h2
  go_wp2_with fail
  go_ret
  exact ⟨rfl, hb⟩
/-- What Of makes of a list of entries. -/
def bOf (es : List En) : BT := es.foldl (fun t e => BT.wth t (path e.a e.b.toNat) e.v) .nil
theorem bOf_snoc (es : List En) (e : En) : bOf (es ++ [e]) = BT.wth (bOf es) (path e.a e.b.toNat) e.v := by simp [bOf, List.foldl_append]
def OfPost (w : World) (es : List En) (e : Ending) (w' : World) : Prop :=
  ∃ tb t, e = .returned (.tuple #[.pointer (some ⟨tb, 0, none⟩), .int .i64 0]) ∧ PR w' tb es.length t ∧ t.bt = bOf es ∧ Below w.heap.size w w' ∧ ∀ x ∈ tb :: t.dom, w.heap.size ≤ x
set_option maxRecDepth 100000 in
set_option maxHeartbeats 4000000 in
theorem of_any (A : Option Addr) (n c : Nat) (es : List En) (w : World) (hR : ReadsE w A n es) (hc : n ≤ c) (hn : n ≤ 200) (hv : ∀ e, e ∈ es → chkE e.a e.b = 0) (hd : ∀ i (h : i < es.length), (bOf (es.take i)).get (path es[i].a es[i].b.toNat) = none) :
    Calls Tryd.prog 42 #[.slice A n c] w (OfPost w es) := by
  have HR := Lib.hid hR
  have HV := Lib.hid hv
  have HD := Lib.hid hd
  have hgt : ¬ ((256 : Int) < n) := by omega
  clear hR hv hd
  go_enter Tryd.func42, Tryd.ntmps42
  go_wp2_with fail
  go_loopw [15] (fun i wr => ∃ k : Nat, k ≤ n ∧ i = .int .i64 k ∧ Below w.heap.size w wr) (fun i _ => n - (intOf i).toNat)
  case atStart => exact ⟨0, by omega, rfl, Below.refl _ _⟩
  case round =>
    obtain ⟨k, hk, rfl, hB⟩ := hrel
    by_cases hlt : k < n
    · obtain ⟨b, off, rfl, hbl, hcell⟩ := HR.out.at_ (by omega)
      have hkl : k < es.length := by rw [HR.out.len]; omega
      obtain ⟨q0, q1, q2⟩ := hcell k hkl
      have hsm := HR.out.small es[k] (List.getElem_mem hkl)
      have hck := HV.out es[k] (List.getElem_mem hkl)
      have d0 := (hB.cell (p := ⟨b, off + k * 3, none⟩) hbl).trans q0
      have d1 := (hB.cell (p := ⟨b, off + k * 3 + 1, none⟩) hbl).trans q1
      have d2 := (hB.cell (p := ⟨b, off + k * 3 + 2, none⟩) hbl).trans q2
      clear hcell q0 q1 q2
      generalize es[k] = en at hsm hck d0 d1 d2
      have HCK := Lib.hid hck
      clear hck
      have HBA := Lib.hid (show Below w.heap.size w (wr.alloc (.cells #[.int .u32 en.a, .int .i64 en.b, .int .i64 en.v] 36)) from hB.alloc hB.size _)
      clear hB
      go_wp2_with fail
      refine (check_any en.a en.b _ hsm).mono ?_
      rw [HCK.out]
      rintro e w2 ⟨rfl, hb2⟩
      have HB2 := Lib.hid (bthen HBA.out HBA.out.size hb2)
      clear hb2
      go_wp2_with fail
      go_roundw
      case rel => exact ⟨k + 1, by omega, by go_num, HB2.out⟩
      case measure => simp [intOf]; omega
    · obtain rfl : k = n := by omega
      have HB := Lib.hid hB
      clear hB
      go_wp2_with fail
      have HS := Lib.hid HB.out.size
      have HR0 := Lib.hid (heap_alloc_new wr (.cells #[.pointer none, .int .i64 0] 122))
      have HBS := Lib.hid (show Below w.heap.size w (wr.alloc (.cells #[.pointer none, .int .i64 0] 122)) from HB.out.alloc HB.out.size _)
      generalize hgw0 : wr.alloc (.cells #[.pointer none, .int .i64 0] 122) = wz at HR0 HBS
      generalize wr.heap.size = tb at *
      go_loopw [30] (fun i ws => ∃ (j : Nat) (t : PT), j ≤ k ∧ i = .int .i64 j ∧ PR ws tb j t ∧ t.bt = bOf (es.take j) ∧ Below w.heap.size w ws ∧ ∀ x ∈ tb :: t.dom, w.heap.size ≤ x) (fun i _ => k - (intOf i).toNat)
      case atStart => exact ⟨0, .nil, by omega, rfl, ⟨HR0.out, trivial, by simp [PT.dom], trivial⟩, rfl, HBS.out, by simp [PT.dom]; exact HS.out⟩
      case round =>
        obtain ⟨j, t, hj, rfl, hT, hbt, hB2, hdm⟩ := hrel
        have HT := Lib.hid hT
        have HBT := Lib.hid hbt
        have HDM := Lib.hid hdm
        have HBY := Lib.hid hB2
        clear hT hbt hdm hgw0 HBS HR0
        by_cases hlt2 : j < k
        · obtain ⟨b, off, rfl, hbl, hcell⟩ := HR.out.at_ (by omega)
          have hkl : j < es.length := by rw [HR.out.len]; omega
          obtain ⟨q0, q1, q2⟩ := hcell j hkl
          have hsm := HR.out.small es[j] (List.getElem_mem hkl)
          have hck := HV.out es[j] (List.getElem_mem hkl)
          have hdj := HD.out j hkl
          have d0 := (hB2.cell (p := ⟨b, off + j * 3, none⟩) hbl).trans q0
          have d1 := (hB2.cell (p := ⟨b, off + j * 3 + 1, none⟩) hbl).trans q1
          have d2 := (hB2.cell (p := ⟨b, off + j * 3 + 2, none⟩) hbl).trans q2
          have htk : es.take (j + 1) = es.take j ++ [es[j]] := List.take_succ_eq_append_getElem hkl
          clear hcell q0 q1 q2 hB2
          generalize es[j] = en at hsm hck d0 d1 d2 htk hdj
          obtain ⟨kb, hkb, hV⟩ := Val_of_chk hsm hck
          obtain ⟨ea, eb, ev⟩ := en
          simp only at hkb hV hsm d0 d1 d2 hck hdj
          subst hkb
          rw [Int.toNat_natCast, ← HBT.out] at hdj
          have HTK := Lib.hid htk
          have HDJ := Lib.hid hdj
          have HVE := Lib.hid hV
          clear htk hck hV hdj
          have hBA : Below wr.heap.size wr (wr.alloc (.cells #[.int .u32 ea, .int .i64 kb, .int .i64 ev] 36)) := (Below.refl _ _).alloc (Nat.le_refl _) _
          have HTA := Lib.hid (HT.out.grow hBA)
          have HBA := Lib.hid (bthen HBY.out HBY.out.size hBA)
          have HBX := Lib.hid (heap_alloc_new wr (.cells #[.int .u32 ea, .int .i64 kb, .int .i64 ev] 36))
          have HSW := Lib.hid HBY.out.size
          clear hBA
          go_upto_region 14 with (fail)
          generalize wr.alloc (.cells #[.int .u32 ea, .int .i64 kb, .int .i64 ev] 36) = w1 at HTA HBA HBX ⊢
          have x0 : w1.cell? ⟨wr.heap.size, 0, none⟩ = some (.int .u32 ea) := cell_of_row w1 wr.heap.size 0 _ 36 (0, 0) HBX.out
          have x1 : w1.cell? ⟨wr.heap.size, 1, none⟩ = some (.int .i64 kb) := cell_of_row w1 wr.heap.size 1 _ 36 (0, 0) HBX.out
          have x2 : w1.cell? ⟨wr.heap.size, 2, none⟩ = some (.int .i64 ev) := cell_of_row w1 wr.heap.size 2 _ 36 (0, 0) HBX.out
          have hbx1 := (Array.getElem?_eq_some_iff.1 HBX.out).1
          clear d0 d1 d2
          go_wp2_with fail
          refine (atP_any tb t j ea kb _ HVE.out HTA.out.root HTA.out.rep HTA.out.wf).mono ?_
          rintro e w2 ⟨q, rfl, hq, hb2⟩
          have hqn : q = none := hq.2 HDJ.out
          subst hqn
          have HT2 := Lib.hid (HTA.out.grow hb2)
          have HB2 := Lib.hid (bthen HBA.out HBA.out.size hb2)
          have HX2 := Lib.hid ((hb2.block _ hbx1).trans HBX.out)
          have hbx2 : wr.heap.size < w2.heap.size := Nat.lt_of_lt_of_le hbx1 hb2.size
          clear x0 x1 x2 hq hb2
          have x0 : w2.cell? ⟨wr.heap.size, 0, none⟩ = some (.int .u32 ea) := cell_of_row w2 wr.heap.size 0 _ 36 (0, 0) HX2.out
          have x1 : w2.cell? ⟨wr.heap.size, 1, none⟩ = some (.int .i64 kb) := cell_of_row w2 wr.heap.size 1 _ 36 (0, 0) HX2.out
          have x2 : w2.cell? ⟨wr.heap.size, 2, none⟩ = some (.int .i64 ev) := cell_of_row w2 wr.heap.size 2 _ 36 (0, 0) HX2.out
          obtain ⟨cr0, cr1⟩ := cell_rootP HT2.out.root
          have htl2 : tb < w2.heap.size := HT2.out.lt tb (by simp)
          have HTN := Lib.hid (List.nodup_cons.1 HT2.out.nd).1
          have hjj : IntKind.i64.wrap ((j : Int) + 1) = (j : Int) + 1 := IntWalk.i64_in _ (by omega)
          go_wp2_with fail
          go_region_with (go_at_call 90; (refine (with_any ea kb ev HVE.out t _ ?_ (List.nodup_cons.1 HT2.out.nd).2).mono ?_); exact HT2.out.rep.keep fun _ _ => rfl; rintro e w3 ⟨t2, rfl, q1, q2, q3, q4, q5⟩; have hroot : w3.heap[tb]? = some (.cells #[t.ptr, .int .i64 (j : Int)] 122 (0, 0)) := (q5.block tb htl2 HTN.out).trans HT2.out.root; have d0 : w3.cell? ⟨tb, 0, none⟩ = some t.ptr := (cell_rootP hroot).1; have e0 : w3.frozen? ⟨tb, 0, none⟩ = false := frozen_of_row hroot 0; have d1 : w3.cell? ⟨tb, 1, none⟩ = some (.int .i64 (j : Int)) := (cell_rootP hroot).2; have e1 : w3.frozen? ⟨tb, 1, none⟩ = false := frozen_of_row hroot 1; have hg3 : tb < w3.heap.size := (Array.getElem?_eq_some_iff.1 hroot).1; have HRT := Lib.hid hroot; have Q1 := Lib.hid q1; have Q2 := Lib.hid q2; have Q3 := Lib.hid q3; have Q4 := Lib.hid q4; have Q5 := Lib.hid q5; clear hroot q1 q2 q3 q4 q5)
          all_goals
            have htn : tb ∉ t2.dom := fun hx => by
              rcases Q4.out tb hx with h | h
              · exact HTN.out h
              · have h' : w2.heap.size ≤ tb := h
                omega
            have hTy : PR (w3.setCell ⟨tb, 0, none⟩ (.pointer t2.addr)) tb j t2 :=
              ⟨heap_setCell_root HRT.out, Q1.out.far htn _, List.nodup_cons.2 ⟨htn, Q3.out⟩, by rw [Q2.out]; exact (BT.wth_spec HT2.out.wf List.nil_prefix).1⟩
            have hBz : Below w.heap.size w (w3.setCell ⟨tb, 0, none⟩ (.pointer t2.addr)) := by
              have hk5 : Below w.heap.size w w3 := HB2.out.drew.trans (Kp.below Q5.out HB2.out.size (fun x hx => HDM.out x (by simp [hx])))
              exact hk5.setCell (p := ⟨tb, 0, none⟩) HS.out _
            have hdz : ∀ x ∈ tb :: t2.dom, w.heap.size ≤ x := fun x hx => by
              simp only [List.mem_cons] at hx
              rcases hx with rfl | hx
              · exact HS.out
              · rcases Q4.out x hx with h | h
                · exact HDM.out x (by simp [h])
                · have h' : w2.heap.size ≤ x := h
                  have := HB2.out.size
                  omega
            have HTY := Lib.hid (hTy.count ((j : Int) + 1))
            have HBZ := Lib.hid (hBz.setCell (p := ⟨tb, 1, none⟩) HS.out (.int .i64 ((j : Int) + 1)))
            have HDZ := Lib.hid hdz
            have HBTZ := Lib.hid (show t2.bt = bOf (es.take (j + 1)) by rw [HTK.out, bOf_snoc, ← HBT.out, Q2.out]; rfl)
            clear hTy hBz hdz
            go_wp2_with fail
            go_roundw
            case rel => exact ⟨j + 1, t2, by omega, by go_num, by have := HTY.out; rw [show ((j + 1 : Nat) : Int) = (j : Int) + 1 by omega]; exact this, HBTZ.out, HBZ.out, HDZ.out⟩
            case measure => simp [intOf]; omega
        · obtain rfl : j = k := by omega
          go_wp2_with fail
          go_ret2
          refine ⟨tb, t, rfl, by rw [HR.out.len]; exact HT.out, ?_, HBY.out, HDM.out⟩
          rw [HBT.out, List.take_of_length_le (by rw [HR.out.len]; exact Nat.le_refl _)]
end Go.Proofs.YtaknlphmplimhaaDoor
