/- The walk of (*trie.Trie).Del in its three cases; a trie that the world holds. -/
import Derived.Test.YtaknlphmplimhaaDoorTd
set_option linter.unusedVariables false
set_option linter.unusedSimpArgs false
namespace Go.Proofs.YtaknlphmplimhaaDoor
open Go.RowKit Go.Proofs AT

def DelDone (w : World) (tb : Nat) (z : Int) (t : AT) (a b : Nat) (e : Ending) (w' : World) : Prop :=
  e = .returned (.int .i64 0) ∧ TR w' tb (z - 1) (del t (path a b)) ∧ Kp (tb :: t.dom) w w'
theorem without_root (a b : Nat) (ha : a < 4294967296) (hb : b ≤ 32) (t : AT) (w : World) (hr : Rep w t) (hn : t.dom.Nodup) (hs : t.sub (path a b) ≠ .nil) :
    Calls Tryd.prog 81 #[t.ptr, .int .u32 a, .int .i64 0, .int .i64 b] w (DelPost w t (path a b)) := by
  have := without_any a b ha hb t 0 w (by omega) hr hn (by rw [suf_zero]; exact hs)
  rw [suf_zero] at this
  exact this
set_option maxRecDepth 100000 in
set_option maxHeartbeats 2000000 in
theorem del_found (tb : Nat) (t : AT) (z : Int) (a b : Nat) (w : World) (ha : a < 4294967296) (hc : chkE a b = 0) (hT : TR w tb z t) (hz : z ≤ 256) (hz0 : 0 ≤ z) (g : Nat) (l r : AT) (v0 : Int) (hs : t.sub (path a b) = .node g l r v0 true) :
    Calls Tryd.prog 25 #[.pointer (some ⟨tb, 0, none⟩), .agg #[.int .u32 a, .int .i64 b]] w (DelDone w tb z t a b) := by
  obtain ⟨h0, h1, _⟩ := chkE_zero.1 hc
  have Hc := Lib.hid hc
  have HT := Lib.hid hT
  have HS := Lib.hid hs
  have htl : tb < w.heap.size := hT.lt tb (by simp)
  have htn : tb ∉ t.dom := (List.nodup_cons.1 hT.nd).1
  have HTN := Lib.hid htn
  clear hc hT hs htn
  go_enter Tryd.func25, Tryd.ntmps25
  go_wp2_with fail
  refine (check_any a b _ ha).mono ?_
  rw [Hc.out]
  rintro e w1 ⟨rfl, hb⟩
  have hcl : ∀ o, w1.cell? ⟨w.heap.size, o, none⟩ = _ := fun o => hb.cell (p := ⟨w.heap.size, o, none⟩) (by simp)
  have hs1 : w.heap.size + 1 ≤ w1.heap.size := by have := hb.size; simp at this; omega
  have hB : Below w.heap.size w w1 := bthen ((Below.refl _ _).alloc (Nat.le_refl _) _) (by simp) hb
  have HT1 := Lib.hid (HT.out.grow hB)
  go_wp2_with fail
  refine (at_any tb t z a b _ ha (by omega) HT1.out.root HT1.out.rep).mono ?_
  rw [HS.out]
  rintro e w2 ⟨rfl, hb2⟩
  have HT2 := Lib.hid (HT1.out.grow hb2)
  have hs := HT2.out.rep.sub (path a b)
  rw [HS.out] at hs
  have hB2 : Below w.heap.size w w2 := bthen hB (by omega) hb2
  obtain ⟨c0, c1, c2, c3⟩ := cell_node hs
  have hbox : ∀ o, w2.cell? ⟨w.heap.size, o, none⟩ = w1.cell? ⟨w.heap.size, o, none⟩ := fun o => hb2.cell (p := ⟨w.heap.size, o, none⟩) (by simp; omega)
  have b0 : w2.cell? ⟨w.heap.size, 0, none⟩ = some (.int .u32 a) := by rw [hbox, hcl]; simp
  have b1 : w2.cell? ⟨w.heap.size, 1, none⟩ = some (.int .i64 b) := by rw [hbox, hcl]; simp
  clear hbox hcl hs
  obtain ⟨cr0, cr1⟩ := cell_root HT2.out.root
  have htl2 : tb < w2.heap.size := HT2.out.lt tb (by simp)
  have hwl2 : w.heap.size < w2.heap.size := by have := hb2.size; omega
  simp only [ptr_nil, ptr_node]
  go_wp2_with fail
  go_region_with (go_at_call 81; (refine (without_root a b ha (by omega) t _ ?_ (List.nodup_cons.1 HT2.out.nd).2 (by rw [HS.out]; exact AT.noConfusion)).mono ?_); exact HT2.out.rep.keep fun _ _ => rfl; rintro e w3 ⟨rfl, hq1, hq2⟩; have hroot : w3.heap[tb]? = some (.cells #[t.ptr, .int .i64 z] 109 (0, 0)) := (hq2.block tb htl2 HTN.out).trans HT2.out.root; have d0 : w3.cell? ⟨tb, 0, none⟩ = some t.ptr := cell_of_row w3 tb 0 _ 109 (0, 0) hroot; have e0 : w3.frozen? ⟨tb, 0, none⟩ = false := frozen_of_row hroot 0; have d1 : w3.cell? ⟨tb, 1, none⟩ = some (.int .i64 z) := cell_of_row w3 tb 1 _ 109 (0, 0) hroot; have e1 : w3.frozen? ⟨tb, 1, none⟩ = false := frozen_of_row hroot 1; have hg3 : tb < w3.heap.size := (Array.getElem?_eq_some_iff.1 hroot).1; have HRT := Lib.hid hroot; have HQ1 := Lib.hid hq1; have HQ2 := Lib.hid hq2; clear hroot hq1 hq2)
  all_goals
    have hTy : TR (w3.setCell ⟨tb, 0, none⟩ (.pointer (addr (del t (path a b))))) tb z (del t (path a b)) := by
      have hnd : (tb :: (del t (path a b)).dom).Nodup := HT2.out.nd.sublist ((del_dom t _).cons_cons tb)
      refine ⟨?_, HQ1.out.far (List.nodup_cons.1 hnd).1 _, hnd⟩
      have := heap_setCell_same (i := 0) HRT.out (.pointer (addr (del t (path a b))))
      show _ = _
      rw [this]; simp [ptr_addr]
    have hKy : Kp (tb :: t.dom) w (w3.setCell ⟨tb, 0, none⟩ (.pointer (addr (del t (path a b))))) :=
      ((Kp.of_below hB2).drew.step HQ2.out (fun x hx => .inl (by simp [hx]))).setCell (p := ⟨tb, 0, none⟩) (.inl (by simp)) _
    have HTy := Lib.hid hTy
    have HKy := Lib.hid hKy
    clear hTy hKy
    go_wp2_with fail
    go_ret
    exact ⟨rfl, HTy.out.count _, HKy.out.setCell (.inl (by simp)) _⟩

set_option maxHeartbeats 1000000 in
theorem del_none (tb : Nat) (t : AT) (z : Int) (a b : Nat) (w : World) (ha : a < 4294967296) (hc : chkE a b = 0) (hT : TR w tb z t) (hs : t.get (path a b) = none) :
    Calls Tryd.prog 25 #[.pointer (some ⟨tb, 0, none⟩), .agg #[.int .u32 a, .int .i64 b]] w fun e w' => e = .returned (.int .i64 4) ∧ Below w.heap.size w w' := by
  obtain ⟨h0, h1, _⟩ := chkE_zero.1 hc
  have Hc := Lib.hid hc
  have HT := Lib.hid hT
  have hs' : AT.top (t.sub (path a b)) = none := hs
  clear hc hT hs
  have HS := Lib.hid hs'
  clear hs'
  go_enter Tryd.func25, Tryd.ntmps25
  go_wp2_with fail
  refine (check_any a b _ ha).mono ?_
  rw [Hc.out]
  rintro e w1 ⟨rfl, hb⟩
  have hcl : ∀ o, w1.cell? ⟨w.heap.size, o, none⟩ = _ := fun o => hb.cell (p := ⟨w.heap.size, o, none⟩) (by simp)
  have hs1 : w.heap.size + 1 ≤ w1.heap.size := by have := hb.size; simp at this; omega
  have hB : Below w.heap.size w w1 := bthen ((Below.refl _ _).alloc (Nat.le_refl _) _) (by simp) hb
  have HT1 := Lib.hid (HT.out.grow hB)
  go_wp2_with fail
  refine (at_any tb t z a b _ ha (by omega) HT1.out.root HT1.out.rep).mono ?_
  rintro e w2 ⟨rfl, hb2⟩
  have HT2 := Lib.hid (HT1.out.grow hb2)
  have hs := HT2.out.rep.sub (path a b)
  have hB2 : Below w.heap.size w w2 := bthen hB (by omega) hb2
  generalize t.sub (path a b) = s at hs HS ⊢
  cases s with
  | nil =>
    simp only [ptr_nil, ptr_node]
    go_wp2_with fail
    go_ret
    exact ⟨rfl, hB2⟩
  | node g l r v h =>
    obtain ⟨c0, c1, c2, c3⟩ := cell_node hs
    simp only [ptr_nil, ptr_node]
    cases h
    · go_wp2_with fail
      go_ret
      exact ⟨rfl, hB2⟩
    · exact absurd HS.out (by simp [AT.top])
set_option maxHeartbeats 1000000 in
theorem del_bad (tb : Nat) (a : Nat) (b : Int) (w : World) (ha : a < 4294967296) (hc : chkE a b ≠ 0) :
    Calls Tryd.prog 25 #[.pointer (some ⟨tb, 0, none⟩), .agg #[.int .u32 a, .int .i64 b]] w fun e w' => e = .returned (.int .i64 (chkE a b)) ∧ Below w.heap.size w w' := by
  have Hd : (chkE a b != 0) = true := by simpa using hc
  clear hc
  go_enter Tryd.func25, Tryd.ntmps25
  go_wp2_with fail
  refine (check_any a b _ ha).mono ?_
  rintro e w1 ⟨rfl, hb⟩
  go_wp2_with fail
  go_ret
  exact ⟨rfl, bthen ((Below.refl _ _).alloc (Nat.le_refl _) _) (by simp) hb⟩
end Go.Proofs.YtaknlphmplimhaaDoor
