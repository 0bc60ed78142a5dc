/- The walks of slices.Grow of a nil slice and of slices.Concat at entries: slices that the world holds, together at most 100000 elements. -/
import Derived.Test.YtaknlphmplimhaaDoorLu
import Derived.Maps.AppendAt
import Derived.Laws.AppendOwnNone
set_option linter.unusedVariables false
set_option linter.unusedSimpArgs false
namespace Go.Proofs.YtaknlphmplimhaaDoor
open Go.RowKit Go.Proofs Go.Shelf Go.Lib
theorem flatE_at : ∀ (l : List En) (i : Nat) (hi : i < l.length), (l.flatMap cell3)[i * 3]? = some (.int .u32 l[i].a) ∧ (l.flatMap cell3)[i * 3 + 1]? = some (.int .i64 l[i].b) ∧ (l.flatMap cell3)[i * 3 + 2]? = some (.int .i64 l[i].v) := by
  intro l
  induction l with
  | nil => intro i hi; simp at hi
  | cons x l ih =>
    intro i hi
    cases i with
    | zero => simp [cell3]
    | succ i =>
      have := ih i (by simpa using hi)
      rw [List.flatMap_cons]
      have hl : (cell3 x).length = 3 := rfl
      rw [List.getElem?_append_right (by rw [hl]; omega), List.getElem?_append_right (by rw [hl]; omega), List.getElem?_append_right (by rw [hl]; omega), hl]
      rw [show (i + 1) * 3 - 3 = i * 3 by omega, show (i + 1) * 3 + 1 - 3 = i * 3 + 1 by omega, show (i + 1) * 3 + 2 - 3 = i * 3 + 2 by omega]
      simpa using this
theorem flatE_len (l : List En) : (l.flatMap cell3).length = l.length * 3 := by
  induction l with
  | nil => rfl
  | cons x l ih => rw [List.flatMap_cons, List.length_append, ih, List.length_cons]; show 3 + _ = _; omega
theorem oneE (l : List En) : ∀ u ∈ l.flatMap cell3, u.oneCell' = true := by
  intro u hu
  obtain ⟨x, _, hx⟩ := List.mem_flatMap.1 hu
  simp only [cell3, List.mem_cons, List.not_mem_nil, or_false] at hx
  rcases hx with rfl | rfl | rfl <;> rfl
theorem ReadsE.news {w : World} {ad : Addr} {n : Nat} {es : List En} (h : ReadsE w (some ad) n es) : ∀ j u, (es.flatMap cell3)[j]? = some u → w.cell? (ad.add j) = some u := by
  intro j u hu
  have hj := (List.getElem?_eq_some_iff.1 hu).1
  rw [flatE_len] at hj
  obtain ⟨b, off, e, _, hc⟩ := h.at_ (by have := h.len; omega)
  simp only [Option.some.injEq] at e
  subst e
  have hi : j / 3 < es.length := by omega
  have hc := hc (j / 3) hi
  obtain ⟨f0, f1, f2⟩ := flatE_at es (j / 3) hi
  rw [Go.WideShapes.add_plain]
  rcases (show j % 3 = 0 ∨ j % 3 = 1 ∨ j % 3 = 2 by omega) with h | h | h
  · have e : j / 3 * 3 = j := by omega
    rw [e] at f0
    rw [f0] at hu
    have := hc.1
    rw [show off + j / 3 * 3 = off + j by omega] at this
    rw [this]; exact hu
  · have e : j / 3 * 3 + 1 = j := by omega
    rw [e] at f1
    rw [f1] at hu
    have := hc.2.1
    rw [show off + j / 3 * 3 + 1 = off + j by omega] at this
    rw [this]; exact hu
  · have e : j / 3 * 3 + 2 = j := by omega
    rw [e] at f2
    rw [f2] at hu
    have := hc.2.2
    rw [show off + j / 3 * 3 + 2 = off + j by omega] at this
    rw [this]; exact hu
theorem ReadsE.below' {w w' : World} {A : Option Addr} {n : Nat} {es : List En} (h : ReadsE w A n es) (hb : Below w.heap.size w w') : ReadsE w' A n es :=
  ⟨h.len, h.max, fun hn => by
    obtain ⟨b, off, e, hl, hc⟩ := h.at_ hn
    refine ⟨b, off, e, Nat.lt_of_lt_of_le hl hb.size, fun i hi => ?_⟩
    obtain ⟨c0, c1, c2⟩ := hc i hi
    exact ⟨(hb.cell (p := ⟨b, off + i * 3, none⟩) hl).trans c0, (hb.cell (p := ⟨b, off + i * 3 + 1, none⟩) hl).trans c1, (hb.cell (p := ⟨b, off + i * 3 + 2, none⟩) hl).trans c2⟩, h.small⟩
def GrowEPost (w : World) (e : Ending) (w' : World) : Prop := ∃ v, e = .returned v ∧ RowE w.heap.size w' v [] ∧ Below w.heap.size w w'
theorem growE_any (m : Nat) (w : World) (hm : m ≤ 100000) : Calls Tryd.prog 85 #[.slice none 0 0, .int .i64 m] w (GrowEPost w) := by
  obtain ⟨i0, hi, hz0, hz1, hz2⟩ := info_parts info36
  rcases Nat.eq_zero_or_pos m with rfl | hp
  · refine Calls.mono (Any8.slices_Grow_room Sh.growE none 0 0 0 w (by omega) (by omega) (by omega) (by omega)) ?_
    rintro e w' ⟨rfl, rfl⟩
    exact ⟨_, rfl, ⟨by simp, .inl ⟨rfl, rfl⟩⟩, Below.refl _ _⟩
  · refine Calls.mono (Any8.slices_Grow_grow Sh.growE i0 (.agg #[.int .u32 0, .int .i64 0, .int .i64 0]) hi hz0 (by rw [hz1]; decide) none 0 0 m [] w (by omega) (by omega) (by rw [hz2]; omega) (by omega) (by simp) (fun _ => rfl) (fun a h => by cases h)) ?_
    rintro e w' ⟨rfl, rfl⟩
    simp only [show Sh.growE_ren.t 25 = 36 from rfl]
    have hge := grownCap_ge w (0 + m) 0 36
    have hmx := grownCap_le_maxLen w (0 + m) 0 36 (by unfold maxLen; omega)
    refine ⟨_, rfl, ⟨by simp, .inr ⟨w.heap.size, _, _, rfl, Nat.le_refl _, heap_alloc_new w.drew _, Nat.zero_le _, hmx, ?_, by simp⟩⟩, (Below.refl _ _).drew.alloc (Nat.le_refl _) _⟩
    have hzc : ∀ n, (Builtin.zeroCells (Value.cells (.agg #[.int .u32 0, .int .i64 0, .int .i64 0])) n).size = n * 3 := fun n => by simp [Builtin.zeroCells, Value.cells]
    show _ = grownCap w (0 + m) 0 36 * 3
    simp only [Array.size_append, hzc]
    have : (#[] : Array Value).size = 0 := rfl
    simp
    have hge' : m ≤ grownCap w m 0 36 := by simpa using hge
    omega
/-- A slice: address, length, capacity, elements. -/
structure SlE where
  (A : Option Addr) (n c : Nat) (es : List En)
def totE (sl : List SlE) (k : Nat) : Nat := ((sl.take k).map (·.n)).sum
def catE (sl : List SlE) (k : Nat) : List En := (sl.take k).flatMap (·.es)
theorem totE_succ (sl : List SlE) (k : Nat) (h : k < sl.length) : totE sl (k + 1) = totE sl k + sl[k].n := by
  show ((sl.take (k + 1)).map (·.n)).sum = ((sl.take k).map (·.n)).sum + sl[k].n
  rw [List.take_succ_eq_append_getElem h, List.map_append, List.sum_append]
  simp
theorem catE_succ (sl : List SlE) (k : Nat) (h : k < sl.length) : catE sl (k + 1) = catE sl k ++ sl[k].es := by
  show (sl.take (k + 1)).flatMap (·.es) = (sl.take k).flatMap (·.es) ++ sl[k].es
  rw [List.take_succ_eq_append_getElem h, List.flatMap_append]
  simp
theorem catE_len (sl : List SlE) (h : ∀ s, s ∈ sl → s.es.length = s.n) (k : Nat) : (catE sl k).length = totE sl k := by
  unfold catE totE
  have : ∀ l : List SlE, (∀ s, s ∈ l → s.es.length = s.n) → (l.flatMap (·.es)).length = (l.map (·.n)).sum := by
    intro l
    induction l with
    | nil => intro _; rfl
    | cons x l ih => intro h; rw [List.flatMap_cons, List.length_append, ih (fun s hs => h s (by simp [hs])), List.map_cons, List.sum_cons, h x (by simp)]
  exact this _ (fun s hs => h s (List.mem_of_mem_take hs))
theorem totE_mono (sl : List SlE) : ∀ k, k ≤ sl.length → totE sl k ≤ totE sl sl.length := by
  intro k hk
  unfold totE
  rw [List.take_length]
  conv => rhs; rw [← List.take_append_drop k sl, List.map_append, List.sum_append]
  omega
set_option maxRecDepth 100000 in
set_option maxHeartbeats 4000000 in
theorem concatE_any (g : Nat) (sl : List SlE) (w : World) (hg : g < w.heap.size) (hN : sl.length ≤ 100)
    (hs : ∀ j (h : j < sl.length), w.cell? ⟨g, j, none⟩ = some (.slice sl[j].A sl[j].n sl[j].c) ∧ ReadsE w sl[j].A sl[j].n sl[j].es ∧ (sl[j].A = none → sl[j].c = 0)) (ht : totE sl sl.length ≤ 100000) (hsm : ∀ e, e ∈ catE sl sl.length → e.a < 4294967296) :
    Calls Tryd.prog 35 #[.slice (some ⟨g, 0, none⟩) sl.length sl.length] w (GivesE w (catE sl sl.length)) := by
  obtain ⟨i0, hi, hz0, hz1, hz2⟩ := info_parts info36
  have HS := Lib.hid hs
  have HM := Lib.hid hsm
  have HT := Lib.hid (totE_mono sl)
  clear hs hsm
  go_enter Tryd.func35, Tryd.ntmps35
  go_wp2
  go_loop [3, 11] (fun s i => ∃ k : Nat, k ≤ sl.length ∧ s = .int .i64 (totE sl k) ∧ i = .int .i64 k) (fun _ i => sl.length - (intOf i).toNat)
  case atStart => exact ⟨0, Nat.zero_le _, rfl, rfl⟩
  case round =>
    obtain ⟨k, hk, rfl, rfl⟩ := hrel
    by_cases hlt : k < sl.length
    · obtain ⟨hcell, hR, hnc⟩ := HS.out k hlt
      have hn := Lib.hid (totE_succ sl k hlt)
      have h1 := HT.out (k + 1) (by omega)
      have h2 : (totE sl k : Int) + sl[k].n ≤ 100000 := by have := hn.out; omega
      have h3 : ¬ ((totE sl k : Int) + (sl[k].n : Int) < 0) := by omega
      generalize hsk : sl[k] = sk at hcell hn h2 h3
      have HK := Lib.hid hsk
      clear hsk hR h1 hnc
      go_wp2
      go_round
      case rel => exact ⟨k + 1, by omega, by rw [hn.out]; go_num, by go_num⟩
      case measure => simp [intOf]; omega
    · obtain rfl : k = sl.length := by omega
      go_wp2_with fail
      refine (growE_any (totE sl sl.length) w ht).mono ?_
      rintro e w1 ⟨v, rfl, hrow, hb1⟩
      have HROW := Lib.hid hrow
      have HB := Lib.hid hb1
      clear hrow hb1
      go_wp2_with fail
      go_loopw [6, 27] (fun r i wr => ∃ k : Nat, k ≤ sl.length ∧ i = .int .i64 k ∧ wr.ownsRow w.heap.size 36 3 r (totE sl k) ((catE sl k).flatMap cell3) ∧ Below w.heap.size w wr) (fun _ i _ => sl.length - (intOf i).toNat)
      case atStart => exact ⟨0, Nat.zero_le _, rfl, HROW.out, HB.out⟩
      case round =>
        obtain ⟨k, hk, rfl, hown, hbw⟩ := hrel
        have hsz := hbw.size
        by_cases hlt : k < sl.length
        · obtain ⟨hcell, hR, hnc⟩ := HS.out k hlt
          have hn := Lib.hid (totE_succ sl k hlt)
          have hct := Lib.hid (catE_succ sl k hlt)
          have h1 := HT.out (k + 1) (by omega)
          have h2 : totE sl k + sl[k].n ≤ 100000 := by have := hn.out; omega
          have hRw := Lib.hid (ReadsE.below' hR ⟨hbw.os, hbw.tape, hbw.output, hbw.size, hbw.block⟩)
          have hcellw := (hbw.cell (p := ⟨g, k, none⟩) hg).trans hcell
          have HO := Lib.hid hown
          have HBW := Lib.hid hbw
          generalize hsk : sl[k] = sk at hcellw hn hct h2 hRw hnc
          have HK := Lib.hid hsk
          clear hsk hR hcell h1 hown hbw
          obtain ⟨skA, skn, skc, ske⟩ := sk
          simp only at hcellw h2 hRw hnc
          cases skA with
          | none =>
            have hz : skn = 0 := by
              rcases Nat.eq_zero_or_pos skn with h | h
              · exact h
              · obtain ⟨b, off, e, _⟩ := hRw.out.at_ h; cases e
            have hcz := hnc rfl
            subst hz hcz
            have hes : ske = [] := List.length_eq_zero_iff.1 hRw.out.len
            have HR3 := Lib.hid (show wr.ownsRow w.heap.size 36 3 u6 (totE sl (k + 1)) ((catE sl (k + 1)).flatMap cell3) from by rw [hn.out, hct.out, hes, List.append_nil]; exact HO.out)
            clear hnc hes
            go_wp2_with (at_builtin; refine wpList_append_own_none rfl _ _ 22 rfl w.heap.size 36 i0 3 Tryd.underlying22 hi _ _ _ rfl HO.out rfl ?_)
            go_roundw
            case rel => exact ⟨k + 1, by omega, by go_num, HR3.out, HBW.out⟩
            case measure => simp [intOf]; omega
          | some ad =>
            clear hnc
            go_wp2_with (at_builtin; refine wpList_append_own _ rfl _ _ 22 rfl w.heap.size 36 i0 (.agg #[.int .u32 0, .int .i64 0, .int .i64 0]) 3 24 Tryd.underlying22 hi hz0 hz1 hz2 rfl (by decide) _ _ _ rfl HO.out ad skn skc (ske.flatMap cell3) rfl (by rw [flatE_len, hRw.out.len]) hRw.out.news (oneE ske) (by unfold maxLen; omega) (by omega) hsz ?_; intro v' w3 hown' hgrow3 hnil3)
            have HR3 := Lib.hid (show w3.ownsRow w.heap.size 36 3 v' (totE sl (k + 1)) ((catE sl (k + 1)).flatMap cell3) ∧ Below w.heap.size w w3 from ⟨by rw [hn.out, hct.out, List.flatMap_append]; exact hown', HBW.out.grown hgrow3 hsz (fun q hq => (HO.out.lt q hq).1)⟩)
            clear hown' hgrow3 hnil3
            go_wp2_with fail
            go_roundw
            case rel => exact ⟨k + 1, by omega, by go_num, HR3.out.1, HR3.out.2⟩
            case measure => simp [intOf]; omega
        · obtain rfl : k = sl.length := by omega
          have HO := Lib.hid hown
          have HBW := Lib.hid hbw
          clear hown hbw
          go_wp2_with fail
          go_ret
          have hlen : (catE sl sl.length).length = totE sl sl.length := catE_len sl (fun s hs => by
            obtain ⟨j, hj, rfl⟩ := List.mem_iff_getElem.1 hs
            exact (HS.out j hj).2.1.len) _
          have hrow : RowE w.heap.size wr u6 (catE sl sl.length) := by
            unfold RowE; rw [hlen]; exact HO.out
          obtain ⟨A, c, e, h1, h2⟩ := hrow.reads HM.out
          rw [e] at hrow
          exact ⟨A, c, congrArg Ending.returned e, ⟨h1, hrow.cap⟩, h2, HBW.out⟩
theorem concat2E {g T : Nat} {w : World} {A0 : Option Addr} {n0 c0 : Nat} {e0 : List En} {A1 : Option Addr} {n1 c1 : Nat} {e1 : List En} (hb : w.heap[g]? = some (.cells #[.slice A0 n0 c0, .slice A1 n1 c1] T (0, 0))) (r0 : ReadsE w A0 n0 e0) (k0 : A0 = none → c0 = 0) (r1 : ReadsE w A1 n1 e1) (k1 : A1 = none → c1 = 0) (ht : n0 + n1 ≤ 100000) :
    Calls Tryd.prog 35 #[.slice (some ⟨g, 0, none⟩) 2 2] w (GivesE w (e0 ++ e1)) := by
  have hc : catE [⟨A0, n0, c0, e0⟩, ⟨A1, n1, c1, e1⟩] 2 = e0 ++ e1 := by simp [catE]
  have ht2 : totE [⟨A0, n0, c0, e0⟩, ⟨A1, n1, c1, e1⟩] 2 = n0 + n1 := by simp [totE]; try omega
  have HS : ∀ j (h : j < ([⟨A0, n0, c0, e0⟩, ⟨A1, n1, c1, e1⟩] : List SlE).length), w.cell? ⟨g, j, none⟩ = some (.slice ([⟨A0, n0, c0, e0⟩, ⟨A1, n1, c1, e1⟩] : List SlE)[j].A ([⟨A0, n0, c0, e0⟩, ⟨A1, n1, c1, e1⟩] : List SlE)[j].n ([⟨A0, n0, c0, e0⟩, ⟨A1, n1, c1, e1⟩] : List SlE)[j].c) ∧ ReadsE w ([⟨A0, n0, c0, e0⟩, ⟨A1, n1, c1, e1⟩] : List SlE)[j].A ([⟨A0, n0, c0, e0⟩, ⟨A1, n1, c1, e1⟩] : List SlE)[j].n ([⟨A0, n0, c0, e0⟩, ⟨A1, n1, c1, e1⟩] : List SlE)[j].es ∧ (([⟨A0, n0, c0, e0⟩, ⟨A1, n1, c1, e1⟩] : List SlE)[j].A = none → ([⟨A0, n0, c0, e0⟩, ⟨A1, n1, c1, e1⟩] : List SlE)[j].c = 0) := by
    intro j hj
    match j, hj with
    | 0, _ => exact ⟨cell_of_row w g 0 _ T (0, 0) hb, r0, k0⟩
    | 1, _ => exact ⟨cell_of_row w g 1 _ T (0, 0) hb, r1, k1⟩
    | j + 2, hj => exact absurd hj (by simp)
  have h := concatE_any g [⟨A0, n0, c0, e0⟩, ⟨A1, n1, c1, e1⟩] w (Array.getElem?_eq_some_iff.1 hb).1 (by simp) HS (by show totE _ 2 ≤ 100000; rw [ht2]; exact ht) (by show ∀ e, e ∈ catE _ 2 → _; rw [hc]; intro e he; simp only [List.mem_append] at he; rcases he with he | he <;> first | exact r0.small e he | exact r1.small e he)
  rw [← hc]
  exact h
theorem concat3E {g T : Nat} {w : World} {A0 : Option Addr} {n0 c0 : Nat} {e0 : List En} {A1 : Option Addr} {n1 c1 : Nat} {e1 : List En} {A2 : Option Addr} {n2 c2 : Nat} {e2 : List En} (hb : w.heap[g]? = some (.cells #[.slice A0 n0 c0, .slice A1 n1 c1, .slice A2 n2 c2] T (0, 0))) (r0 : ReadsE w A0 n0 e0) (k0 : A0 = none → c0 = 0) (r1 : ReadsE w A1 n1 e1) (k1 : A1 = none → c1 = 0) (r2 : ReadsE w A2 n2 e2) (k2 : A2 = none → c2 = 0) (ht : n0 + n1 + n2 ≤ 100000) :
    Calls Tryd.prog 35 #[.slice (some ⟨g, 0, none⟩) 3 3] w (GivesE w (e0 ++ (e1 ++ e2))) := by
  have hc : catE [⟨A0, n0, c0, e0⟩, ⟨A1, n1, c1, e1⟩, ⟨A2, n2, c2, e2⟩] 3 = e0 ++ (e1 ++ e2) := by simp [catE]
  have ht2 : totE [⟨A0, n0, c0, e0⟩, ⟨A1, n1, c1, e1⟩, ⟨A2, n2, c2, e2⟩] 3 = n0 + n1 + n2 := by simp [totE]; try omega
  have HS : ∀ j (h : j < ([⟨A0, n0, c0, e0⟩, ⟨A1, n1, c1, e1⟩, ⟨A2, n2, c2, e2⟩] : List SlE).length), w.cell? ⟨g, j, none⟩ = some (.slice ([⟨A0, n0, c0, e0⟩, ⟨A1, n1, c1, e1⟩, ⟨A2, n2, c2, e2⟩] : List SlE)[j].A ([⟨A0, n0, c0, e0⟩, ⟨A1, n1, c1, e1⟩, ⟨A2, n2, c2, e2⟩] : List SlE)[j].n ([⟨A0, n0, c0, e0⟩, ⟨A1, n1, c1, e1⟩, ⟨A2, n2, c2, e2⟩] : List SlE)[j].c) ∧ ReadsE w ([⟨A0, n0, c0, e0⟩, ⟨A1, n1, c1, e1⟩, ⟨A2, n2, c2, e2⟩] : List SlE)[j].A ([⟨A0, n0, c0, e0⟩, ⟨A1, n1, c1, e1⟩, ⟨A2, n2, c2, e2⟩] : List SlE)[j].n ([⟨A0, n0, c0, e0⟩, ⟨A1, n1, c1, e1⟩, ⟨A2, n2, c2, e2⟩] : List SlE)[j].es ∧ (([⟨A0, n0, c0, e0⟩, ⟨A1, n1, c1, e1⟩, ⟨A2, n2, c2, e2⟩] : List SlE)[j].A = none → ([⟨A0, n0, c0, e0⟩, ⟨A1, n1, c1, e1⟩, ⟨A2, n2, c2, e2⟩] : List SlE)[j].c = 0) := by
    intro j hj
    match j, hj with
    | 0, _ => exact ⟨cell_of_row w g 0 _ T (0, 0) hb, r0, k0⟩
    | 1, _ => exact ⟨cell_of_row w g 1 _ T (0, 0) hb, r1, k1⟩
    | 2, _ => exact ⟨cell_of_row w g 2 _ T (0, 0) hb, r2, k2⟩
    | j + 3, hj => exact absurd hj (by simp)
  have h := concatE_any g [⟨A0, n0, c0, e0⟩, ⟨A1, n1, c1, e1⟩, ⟨A2, n2, c2, e2⟩] w (Array.getElem?_eq_some_iff.1 hb).1 (by simp) HS (by show totE _ 3 ≤ 100000; rw [ht2]; exact ht) (by show ∀ e, e ∈ catE _ 3 → _; rw [hc]; intro e he; simp only [List.mem_append] at he; rcases he with he | he | he <;> first | exact r0.small e he | exact r1.small e he | exact r2.small e he)
  rw [← hc]
  exact h
end Go.Proofs.YtaknlphmplimhaaDoor
