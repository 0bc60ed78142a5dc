/- The walk of PressAsTrie, which returns true; the slices are read, and the world holds the variable ten. -/
import Derived.Test.YtaknlphmplimhaaDoorPz
import Derived.Test.YtaknlphmplimhaaDoorQa
import Derived.Test.YtaknlphmplimhaaDoorTo
set_option linter.unusedVariables false
set_option linter.unusedSimpArgs false
namespace Go.Proofs.YtaknlphmplimhaaDoor
open Go.RowKit Go.Proofs AT
set_option maxRecDepth 100000 in
set_option maxHeartbeats 2000000 in
theorem del_found2 (tb : Nat) (t : AT) (z : Int) (a b : Nat) (w : World) (ha : a < 4294967296) (hc : chkE a b = 0) (hT : TR w tb z t) (hz : z ≤ 256) (hz0 : -100 ≤ z) (g : Nat) (l r : AT) (v0 : Int) (hs : t.sub (path a b) = .node g l r v0 true) :
    Calls Tryd.prog 25 #[.pointer (some ⟨tb, 0, none⟩), .agg #[.int .u32 a, .int .i64 b]] w (DelDone w tb z t a b) := by
  obtain ⟨h0, h1, _⟩ := chkE_zero.1 hc
  have Hc := Lib.hid hc
  have HT := Lib.hid hT
  have HS := Lib.hid hs
  have htl : tb < w.heap.size := hT.lt tb (by simp)
  have htn : tb ∉ t.dom := (List.nodup_cons.1 hT.nd).1
  have HTN := Lib.hid htn
  clear hc hT hs htn
  go_enter Tryd.func25, Tryd.ntmps25
  go_wp2_with fail
  refine (check_any a b _ ha).mono ?_
  rw [Hc.out]
  rintro e w1 ⟨rfl, hb⟩
  have hcl : ∀ o, w1.cell? ⟨w.heap.size, o, none⟩ = _ := fun o => hb.cell (p := ⟨w.heap.size, o, none⟩) (by simp)
  have hs1 : w.heap.size + 1 ≤ w1.heap.size := by have := hb.size; simp at this; omega
  have hB : Below w.heap.size w w1 := bthen ((Below.refl _ _).alloc (Nat.le_refl _) _) (by simp) hb
  have HT1 := Lib.hid (HT.out.grow hB)
  go_wp2_with fail
  refine (at_any tb t z a b _ ha (by omega) HT1.out.root HT1.out.rep).mono ?_
  rw [HS.out]
  rintro e w2 ⟨rfl, hb2⟩
  have HT2 := Lib.hid (HT1.out.grow hb2)
  have hs := HT2.out.rep.sub (path a b)
  rw [HS.out] at hs
  have hB2 : Below w.heap.size w w2 := bthen hB (by omega) hb2
  obtain ⟨c0, c1, c2, c3⟩ := cell_node hs
  have hbox : ∀ o, w2.cell? ⟨w.heap.size, o, none⟩ = w1.cell? ⟨w.heap.size, o, none⟩ := fun o => hb2.cell (p := ⟨w.heap.size, o, none⟩) (by simp; omega)
  have b0 : w2.cell? ⟨w.heap.size, 0, none⟩ = some (.int .u32 a) := by rw [hbox, hcl]; simp
  have b1 : w2.cell? ⟨w.heap.size, 1, none⟩ = some (.int .i64 b) := by rw [hbox, hcl]; simp
  clear hbox hcl hs
  obtain ⟨cr0, cr1⟩ := cell_root HT2.out.root
  have htl2 : tb < w2.heap.size := HT2.out.lt tb (by simp)
  have hwl2 : w.heap.size < w2.heap.size := by have := hb2.size; omega
  simp only [ptr_nil, ptr_node]
  go_wp2_with fail
  go_region_with (go_at_call 81; (refine (without_root a b ha (by omega) t _ ?_ (List.nodup_cons.1 HT2.out.nd).2 (by rw [HS.out]; exact AT.noConfusion)).mono ?_); exact HT2.out.rep.keep fun _ _ => rfl; rintro e w3 ⟨rfl, hq1, hq2⟩; have hroot : w3.heap[tb]? = some (.cells #[t.ptr, .int .i64 z] 109 (0, 0)) := (hq2.block tb htl2 HTN.out).trans HT2.out.root; have d0 : w3.cell? ⟨tb, 0, none⟩ = some t.ptr := cell_of_row w3 tb 0 _ 109 (0, 0) hroot; have e0 : w3.frozen? ⟨tb, 0, none⟩ = false := frozen_of_row hroot 0; have d1 : w3.cell? ⟨tb, 1, none⟩ = some (.int .i64 z) := cell_of_row w3 tb 1 _ 109 (0, 0) hroot; have e1 : w3.frozen? ⟨tb, 1, none⟩ = false := frozen_of_row hroot 1; have hg3 : tb < w3.heap.size := (Array.getElem?_eq_some_iff.1 hroot).1; have HRT := Lib.hid hroot; have HQ1 := Lib.hid hq1; have HQ2 := Lib.hid hq2; clear hroot hq1 hq2)
  all_goals
    have hTy : TR (w3.setCell ⟨tb, 0, none⟩ (.pointer (addr (del t (path a b))))) tb z (del t (path a b)) := by
      have hnd : (tb :: (del t (path a b)).dom).Nodup := HT2.out.nd.sublist ((del_dom t _).cons_cons tb)
      refine ⟨?_, HQ1.out.far (List.nodup_cons.1 hnd).1 _, hnd⟩
      have := heap_setCell_same (i := 0) HRT.out (.pointer (addr (del t (path a b))))
      show _ = _
      rw [this]; simp [ptr_addr]
    have hKy : Kp (tb :: t.dom) w (w3.setCell ⟨tb, 0, none⟩ (.pointer (addr (del t (path a b))))) :=
      ((Kp.of_below hB2).drew.step HQ2.out (fun x hx => .inl (by simp [hx]))).setCell (p := ⟨tb, 0, none⟩) (.inl (by simp)) _
    have HTy := Lib.hid hTy
    have HKy := Lib.hid hKy
    clear hTy hKy
    go_wp2_with fail
    go_ret
    exact ⟨rfl, HTy.out.count _, HKy.out.setCell (.inl (by simp)) _⟩

set_option maxRecDepth 100000 in
set_option maxHeartbeats 2000000 in
theorem delP_found2 (tb : Nat) (t : PT) (z : Int) (a b : Nat) (w : World) (hV : Val a b) (hT : PR w tb z t) (hz : z ≤ 256) (hz0 : -100 ≤ z) (hg : t.bt.get (path a b) ≠ none) :
    Calls Tryd.prog 48 #[.pointer (some ⟨tb, 0, none⟩), .agg #[.int .u32 a, .int .i64 b]] w (DelPDone w tb z t (path a b)) := by
  have Hc := Lib.hid ((Val_chk hV.1).1 hV)
  have HV := Lib.hid hV
  have ha := hV.1
  have HT := Lib.hid hT
  have HG := Lib.hid hg
  have htl : tb < w.heap.size := hT.lt tb (by simp)
  have HTN := Lib.hid (List.nodup_cons.1 hT.nd).1
  clear hV hT hg
  go_enter Tryd.func48, Tryd.ntmps48
  go_wp2_with fail
  refine (check_any a b _ ha).mono ?_
  rw [Hc.out]
  rintro e w1 ⟨rfl, hb⟩
  have hcl : ∀ o, w1.cell? ⟨w.heap.size, o, none⟩ = _ := fun o => hb.cell (p := ⟨w.heap.size, o, none⟩) (by simp)
  have hs1 : w.heap.size + 1 ≤ w1.heap.size := by have := hb.size; simp at this; omega
  have hB : Below w.heap.size w w1 := bthen ((Below.refl _ _).alloc (Nat.le_refl _) _) (by simp) hb
  have HT1 := Lib.hid (HT.out.grow hB)
  go_wp2_with fail
  refine (atP_any tb t z a b _ HV.out HT1.out.root HT1.out.rep HT1.out.wf).mono ?_
  rintro e w2 ⟨q, rfl, hq, hb2⟩
  cases q with
  | none => exact absurd (hq.1 rfl) HG.out
  | some qq =>
    have HT2 := Lib.hid (HT1.out.grow hb2)
    have hB2 : Below w.heap.size w w2 := bthen hB (by omega) hb2
    have hbox : ∀ o, w2.cell? ⟨w.heap.size, o, none⟩ = w1.cell? ⟨w.heap.size, o, none⟩ := fun o => hb2.cell (p := ⟨w.heap.size, o, none⟩) (by simp; omega)
    have b0 : w2.cell? ⟨w.heap.size, 0, none⟩ = some (.int .u32 a) := by rw [hbox, hcl]; simp
    have b1 : w2.cell? ⟨w.heap.size, 1, none⟩ = some (.int .i64 b) := by rw [hbox, hcl]; simp
    have hwl2 : w.heap.size < w2.heap.size := by have := hb2.size; omega
    have HB2 := Lib.hid hB2
    clear hbox hcl hq hB hb hb2 hB2
    obtain ⟨cr0, cr1⟩ := cell_rootP HT2.out.root
    have htl2 : tb < w2.heap.size := HT2.out.lt tb (by simp)
    go_wp2_with fail
    go_region_with (go_at_call 93; (refine (withoutP_any a b HV.out t _ ?_ (List.nodup_cons.1 HT2.out.nd).2 HG.out).mono ?_); exact HT2.out.rep.keep fun _ _ => rfl; rintro e w3 ⟨t2, rfl, q1, q2, q3, q4⟩; have hroot : w3.heap[tb]? = some (.cells #[t.ptr, .int .i64 z] 122 (0, 0)) := (q4.block tb htl2 HTN.out).trans HT2.out.root; have d0 : w3.cell? ⟨tb, 0, none⟩ = some t.ptr := (cell_rootP hroot).1; have e0 : w3.frozen? ⟨tb, 0, none⟩ = false := frozen_of_row hroot 0; have d1 : w3.cell? ⟨tb, 1, none⟩ = some (.int .i64 z) := (cell_rootP hroot).2; have e1 : w3.frozen? ⟨tb, 1, none⟩ = false := frozen_of_row hroot 1; have hg3 : tb < w3.heap.size := (Array.getElem?_eq_some_iff.1 hroot).1; have HRT := Lib.hid hroot; have Q1 := Lib.hid q1; have Q2 := Lib.hid q2; have Q3 := Lib.hid q3; have Q4 := Lib.hid q4; clear hroot q1 q2 q3 q4)
    all_goals
      have hTy : PR (w3.setCell ⟨tb, 0, none⟩ (.pointer t2.addr)) tb z t2 := by
        have hnd : (tb :: t2.dom).Nodup := HT2.out.nd.sublist (Q3.out.cons_cons tb)
        exact ⟨heap_setCell_root HRT.out, Q1.out.far (List.nodup_cons.1 hnd).1 _, hnd, by rw [Q2.out]; exact (BT.del_spec HT2.out.wf HG.out).1⟩
      have hKy : Kp (tb :: t.dom) w (w3.setCell ⟨tb, 0, none⟩ (.pointer t2.addr)) :=
        ((Kp.of_below HB2.out).drew.step Q4.out (fun x hx => .inl (by simp [hx]))).setCell (p := ⟨tb, 0, none⟩) (.inl (by simp)) _
      have HTy := Lib.hid hTy
      have HKy := Lib.hid hKy
      clear hTy hKy
      go_wp2_with fail
      go_ret
      exact ⟨t2, rfl, HTy.out.count _, Q2.out, fun y hy => .inl (Q3.out.subset hy), HKy.out.setCell (.inl (by simp)) _⟩
attribute [local go_sem high] eqA25
set_option maxHeartbeats 1000000 in
theorem eqA36 (n : Nat) (w : World) (x y x2 y2 x3 y3 : Int) :
    (Op.equalIn (n + 3) 36 (.agg #[.int .u32 x, .int .i64 x2, .int .i64 x3]) (.agg #[.int .u32 y, .int .i64 y2, .int .i64 y3])).run Tryd.prog w = .ok ((x == y && x2 == y2) && x3 == y3) w := by
  have u3_ := Tryd.underlying3
  have a3_ := Tryd.isAgg3
  have z3_ := Tryd.sizeOf3
  have u23_ := Tryd.underlying23
  have a23_ := Tryd.isAgg23
  have z23_ := Tryd.sizeOf23
  have u25_ := Tryd.underlying25
  have a25_ := Tryd.isAgg25
  have z25_ := Tryd.sizeOf25
  rw [show n + 3 = (n + 2) + 1 from rfl, run_equalIn_agg w (n + 2) 36 _ _ fields36 stood36]
  simp only [Program.fieldsOf, Tryd.underlying36]
  go_simp
  by_cases h1 : x = y <;> by_cases h2 : x2 = y2 <;> by_cases h3 : x3 = y3 <;> simp [h1, h2, h3]
set_option maxHeartbeats 400000 in
theorem some_anyP (A : Option Addr) (n c m : Nat) (w : World) (hn : n ≤ 9223372036854775807) (hc : n ≤ c) (hm : m ≤ 1000) : Calls Tryd.prog 47 #[.slice A n c, .int .i64 m] w fun e w' => e = .returned (.slice A (min n m) c) ∧ w = w' := by
  go_enter Tryd.func47, Tryd.ntmps47
  go_wp2
  go_ret
  exact ⟨ret_val (by
    show Value.slice A ((min (n : Int) (m : Int)).toNat) c = Value.slice A (min n m) c
    rw [show ((min (n : Int) (m : Int)).toNat) = min n m by omega]), rfl⟩
/-- What is there behind a removal. -/
def cutM (g : List Bool → Option Int) (a : Nat) (b : Int) : List Bool → Option Int := fun q => if chkE a b = 0 ∧ q = path a b.toNat then none else g q
/-- What Del says. -/
def delE (g : List Bool → Option Int) (a : Nat) (b : Int) : Int := if chkE a b = 0 then (match g (path a b.toNat) with | none => 4 | some _ => 0) else chkE a b
def DelT (tb : Nat) (z : Int) (t : AT) (a : Nat) (b : Int) (w w' : World) : Prop :=
  ∃ (t' : AT) (z' : Int), TR w' tb z' t' ∧ t'.get = cutM t.get a b ∧ (∀ x, x ∈ t'.dom → x ∈ t.dom) ∧ Kp (tb :: t.dom) w w' ∧ z - 1 ≤ z' ∧ z' ≤ z
def DelTPost (tb : Nat) (z : Int) (t : AT) (a : Nat) (b : Int) (w : World) (e : Ending) (w' : World) : Prop := e = .returned (.int .i64 (delE t.get a b)) ∧ DelT tb z t a b w w'
theorem cutM_none {g : List Bool → Option Int} {a : Nat} {b : Int} (h : chkE a b = 0 → g (path a b.toNat) = none) : cutM g a b = g := by
  funext q
  unfold cutM
  split
  · next hq => rw [hq.2]; exact (h hq.1).symm
  · rfl
theorem delT_any (tb : Nat) (z : Int) (t : AT) (a : Nat) (b : Int) (ha : a < 4294967296) (hz : z ≤ 256) (hz0 : -100 ≤ z) (w : World) (hT : TR w tb z t) :
    Calls Tryd.prog 25 #[.pointer (some ⟨tb, 0, none⟩), .agg #[.int .u32 a, .int .i64 b]] w (DelTPost tb z t a b w) := by
  by_cases hc : chkE a b = 0
  · obtain ⟨k, rfl, hV⟩ := Val_of_chk ha hc
    cases hg : t.get (path a k) with
    | none =>
      refine (del_none tb t z a k w ha hc hT hg).mono fun e w' ⟨he, hb⟩ => ⟨?_, t, z, hT.grow hb, (cutM_none fun _ => by rw [Int.toNat_natCast]; exact hg).symm, fun _ h => h, Kp.of_below hb, by omega, by omega⟩
      rw [he, delE, if_pos hc, Int.toNat_natCast, hg]
    | some v =>
      have hs : ∃ g l r v0, t.sub (path a k) = .node g l r v0 true := by
        unfold AT.get at hg
        cases hn : t.sub (path a k) with
        | nil => rw [hn] at hg; cases hg
        | node g l r v0 h =>
          cases h
          · rw [hn] at hg; cases hg
          · exact ⟨g, l, r, v0, rfl⟩
      obtain ⟨g, l, r, v0, hs⟩ := hs
      refine (del_found2 tb t z a k w ha hc hT hz hz0 g l r v0 hs).mono fun e w' ⟨he, h1, h2⟩ => ⟨?_, del t (path a k), z - 1, h1, ?_, fun x hx => (del_dom t _).subset hx, h2, by omega, by omega⟩
      · rw [he, delE, if_pos hc, Int.toNat_natCast, hg]
      · funext q
        rw [del_get]
        unfold cutM
        simp only [hc, true_and, Int.toNat_natCast]
  · refine (del_bad tb a b w ha hc).mono fun e w' ⟨he, hb⟩ => ⟨?_, t, z, hT.grow hb, (cutM_none fun h => absurd h hc).symm, fun _ h => h, Kp.of_below hb, by omega, by omega⟩
    rw [he, delE, if_neg hc]
def DelP (ub : Nat) (y : Int) (u : PT) (a : Nat) (b : Int) (w w' : World) : Prop :=
  ∃ (u' : PT) (y' : Int), PR w' ub y' u' ∧ u'.bt.get = cutM u.bt.get a b ∧ (∀ x, x ∈ u'.dom → x ∈ u.dom ∨ w.heap.size ≤ x) ∧ Kp (ub :: u.dom) w w' ∧ y - 1 ≤ y' ∧ y' ≤ y
def DelPPost (ub : Nat) (y : Int) (u : PT) (a : Nat) (b : Int) (w : World) (e : Ending) (w' : World) : Prop := e = .returned (.int .i64 (delE u.bt.get a b)) ∧ DelP ub y u a b w w'
theorem delP_any (ub : Nat) (y : Int) (u : PT) (a : Nat) (b : Int) (ha : a < 4294967296) (hz : y ≤ 256) (hz0 : -100 ≤ y) (w : World) (hT : PR w ub y u) :
    Calls Tryd.prog 48 #[.pointer (some ⟨ub, 0, none⟩), .agg #[.int .u32 a, .int .i64 b]] w (DelPPost ub y u a b w) := by
  by_cases hc : chkE a b = 0
  · obtain ⟨k, rfl, hV⟩ := Val_of_chk ha hc
    cases hg : u.bt.get (path a k) with
    | none =>
      refine (delP_none ub u y a k w hV hT hg).mono fun e w' ⟨he, hb⟩ => ⟨?_, u, y, hT.grow hb, (cutM_none fun _ => by rw [Int.toNat_natCast]; exact hg).symm, fun _ h => .inl h, Kp.of_below hb, by omega, by omega⟩
      rw [he, delE, if_pos hc, Int.toNat_natCast, hg]
    | some v =>
      have hne : u.bt.get (path a k) ≠ none := by rw [hg]; simp
      refine (delP_found2 ub u y a k w hV hT hz hz0 hne).mono fun e w' ⟨u', he, h1, h2, h3, h4⟩ => ⟨?_, u', y - 1, h1, ?_, h3, h4, by omega, by omega⟩
      · rw [he, delE, if_pos hc, Int.toNat_natCast, hg]
      · funext q
        rw [h2, (BT.del_spec hT.wf hne).2]
        unfold cutM
        simp only [hc, true_and, Int.toNat_natCast]
  · refine (delP_bad ub a b w ha hc).mono fun e w' ⟨he, hb⟩ => ⟨?_, u, y, hT.grow hb, (cutM_none fun h => absurd h hc).symm, fun _ h => .inl h, Kp.of_below hb, by omega, by omega⟩
    rw [he, delE, if_neg hc]
/-- Both tables, apart, with the same entries. -/
structure Two (w : World) (tb ub : Nat) (t : AT) (u : PT) (z y : Int) (W : World) : Prop where
  tr : TR W tb z t
  pr : PR W ub y u
  apart : ∀ x, x ∈ tb :: t.dom → x ∉ ub :: u.dom
  same : ∀ q, u.bt.get q = t.get q
  old : Below w.heap.size w W
  newT : ∀ x, x ∈ tb :: t.dom → w.heap.size ≤ x
  newP : ∀ x, x ∈ ub :: u.dom → w.heap.size ≤ x
theorem TR.same {w w' : World} {tb : Nat} {z : Int} {t : AT} (h : TR w tb z t) (hh : w'.heap = w.heap) : TR w' tb z t :=
  ⟨h.root.keep (fun b _ => by rw [hh]), h.rep.keep (fun b _ => by rw [hh]), h.nd⟩
theorem TR.keepB {w w' : World} {tb : Nat} {z : Int} {t : AT} (h : TR w tb z t) (hk : ∀ b, b ∈ tb :: t.dom → w'.heap[b]? = w.heap[b]?) : TR w' tb z t :=
  ⟨h.root.keep (fun b hb => hk b (by simpa [kdom] using Or.inl (by simpa [kdom] using hb))), h.rep.keep (fun b hb => hk b (by simp [hb])), h.nd⟩
theorem Two.grow {w W W' : World} {tb ub : Nat} {t : AT} {u : PT} {z y : Int} (h : Two w tb ub t u z y W) (hb : Below W.heap.size W W') : Two w tb ub t u z y W' :=
  ⟨h.tr.grow hb, h.pr.grow hb, h.apart, h.same, bthen h.old h.old.size hb, h.newT, h.newP⟩
theorem Two.afterT {w W w2 : World} {tb ub : Nat} {t : AT} {u : PT} {z y : Int} {a : Nat} {b : Int} (h : Two w tb ub t u z y W) (hd : DelT tb z t a b W w2) : PR w2 ub y u := by
  obtain ⟨t', z', _, _, _, hk, _⟩ := hd
  exact h.pr.keep fun x hx => hk.block x (h.pr.lt x hx) (fun hx2 => h.apart x hx2 hx)
theorem Two.afterP {w W w2 : World} {tb ub : Nat} {t : AT} {u : PT} {z y : Int} {a : Nat} {b : Int} (h : Two w tb ub t u z y W) (hd : DelP ub y u a b W w2) : TR w2 tb z t := by
  obtain ⟨u', y', _, _, _, hk, _⟩ := hd
  exact h.tr.keepB fun x hx => hk.block x (h.tr.lt x hx) (fun hx2 => h.apart x hx hx2)
def TwoNext (w : World) (tb ub : Nat) (z y : Int) (W : World) : Prop := ∃ (t : AT) (u : PT) (z' y' : Int), Two w tb ub t u z' y' W ∧ z - 1 ≤ z' ∧ z' ≤ z ∧ y - 1 ≤ y' ∧ y' ≤ y
theorem Two.tp {w W w2 w3 : World} {tb ub : Nat} {t : AT} {u : PT} {z y : Int} {a : Nat} {b : Int} (h : Two w tb ub t u z y W) (hd : DelT tb z t a b W w2) (hp : DelP ub y u a b w2 w3) : TwoNext w tb ub z y w3 := by
  obtain ⟨t', z', h1, h2, h3, h4, h5, h6⟩ := hd
  obtain ⟨u', y', k1, k2, k3, k4, k5, k6⟩ := hp
  have hap : ∀ x, x ∈ tb :: t'.dom → x ∉ ub :: u.dom := fun x hx => h.apart x (by
    simp only [List.mem_cons] at hx ⊢
    exact hx.imp id (h3 x))
  refine ⟨t', u', z', y', ⟨h1.keepB fun x hx => k4.block x (h1.lt x hx) (hap x hx), k1, fun x hx hx2 => ?_, fun q => by rw [k2, h2]; unfold cutM; rw [h.same], ?_, fun x hx => h.newT x (by
    simp only [List.mem_cons] at hx ⊢
    exact hx.imp id (h3 x)), fun x hx => ?_⟩, h5, h6, k5, k6⟩
  · simp only [List.mem_cons] at hx2
    rcases hx2 with hx2 | hx2
    · exact hap x hx (by simp [hx2])
    · rcases k3 x hx2 with g | g
      · exact hap x hx (by simp [g])
      · have := h1.lt x hx
        omega
  · have e1 : Below w.heap.size w w2 := h.old.trans (h4.below h.old.size h.newT)
    exact e1.trans (k4.below e1.size h.newP)
  · simp only [List.mem_cons] at hx
    rcases hx with hx | hx
    · exact h.newP x (by simp [hx])
    · rcases k3 x hx with g | g
      · exact h.newP x (by simp [g])
      · have e1 := (h.old.trans (h4.below h.old.size h.newT)).size
        omega
theorem Two.pt {w W w2 w3 : World} {tb ub : Nat} {t : AT} {u : PT} {z y : Int} {a : Nat} {b : Int} (h : Two w tb ub t u z y W) (hp : DelP ub y u a b W w2) (hd : DelT tb z t a b w2 w3) : TwoNext w tb ub z y w3 := by
  obtain ⟨t', z', h1, h2, h3, h4, h5, h6⟩ := hd
  obtain ⟨u', y', k1, k2, k3, k4, k5, k6⟩ := hp
  have hap : ∀ x, x ∈ tb :: t.dom → x ∉ ub :: u'.dom := fun x hx hx2 => by
    simp only [List.mem_cons] at hx2
    rcases hx2 with hx2 | hx2
    · exact h.apart x hx (by simp [hx2])
    · rcases k3 x hx2 with g | g
      · exact h.apart x hx (by simp [g])
      · have := h.tr.lt x hx
        omega
  have sub : ∀ x, x ∈ tb :: t'.dom → x ∈ tb :: t.dom := fun x hx => by
    simp only [List.mem_cons] at hx ⊢
    exact hx.imp id (h3 x)
  refine ⟨t', u', z', y', ⟨h1, k1.keep fun x hx => h4.block x (k1.lt x hx) (fun hx2 => hap x hx2 hx), fun x hx => hap x (sub x hx), fun q => by rw [k2, h2]; unfold cutM; rw [h.same], ?_, fun x hx => h.newT x (sub x hx), fun x hx => ?_⟩, h5, h6, k5, k6⟩
  · have e1 : Below w.heap.size w w2 := h.old.trans (k4.below h.old.size h.newP)
    exact e1.trans (h4.below e1.size h.newT)
  · simp only [List.mem_cons] at hx
    rcases hx with hx | hx
    · exact h.newP x (by simp [hx])
    · rcases k3 x hx with g | g
      · exact h.newP x (by simp [g])
      · have := h.old.size
        omega
theorem delE_same {g g' : List Bool → Option Int} (h : ∀ q, g q = g' q) (a : Nat) (b : Int) : delE g a b = delE g' a b := by rw [funext h]
theorem delT_row {tb : Nat} {z : Int} {t : AT} {a : Nat} {b : Int} {w w' : World} {g : Nat} {o : Obj} (h : DelT tb z t a b w w') (hg : g < w.heap.size) (hn : g ∉ tb :: t.dom) (hr : w.heap[g]? = some o) : w'.heap[g]? = some o := by
  obtain ⟨_, _, _, _, _, hk, _⟩ := h
  exact (hk.block g hg hn).trans hr
theorem delP_row {ub : Nat} {y : Int} {u : PT} {a : Nat} {b : Int} {w w' : World} {g : Nat} {o : Obj} (h : DelP ub y u a b w w') (hg : g < w.heap.size) (hn : g ∉ ub :: u.dom) (hr : w.heap[g]? = some o) : w'.heap[g]? = some o := by
  obtain ⟨_, _, _, _, _, hk, _⟩ := h
  exact (hk.block g hg hn).trans hr
attribute [local go_sem high] eqA36
set_option maxRecDepth 100000 in
set_option maxHeartbeats 8000000 in
theorem pressAsTrie_any (A : Option Addr) (n c : Nat) (es : List En) (G : Option Addr) (m gc : Nat) (gs : List Pf) (x : Nat) (w : World) (hR : ReadsE w A n es) (hc : n ≤ c) (hG : ReadsP w G m gs) (hgc : m ≤ gc) (hx : x < 4294967296)
    (h0 : w.cell? ⟨0, 0, none⟩ = some (.int .u32 167772160)) (h1 : w.cell? ⟨0, 1, none⟩ = some (.int .i64 8)) :
    Calls Tryd.prog 8 #[.slice A n c, .slice G m gc, .int .u32 x] w fun e w' => e = .returned (.bool true) ∧ Below w.heap.size w w' := by
  have hl := World.block_lt_of_cell? w _ h0
  simp only at hl
  have HR := Lib.hid hR
  have HG := Lib.hid hG
  have hmax := hG.max
  clear hR hG
  go_enter Tryd.func8, Tryd.ntmps8
  go_wp2_with fail
  refine (pressLives_true _ h0 h1).mono ?_
  rintro e w0 ⟨rfl, hb0⟩
  have HB0 := Lib.hid hb0
  have g0 : w0.cell? ⟨0, 0, none⟩ = some (.int .u32 167772160) := (hb0.cell (p := ⟨0, 0, none⟩) hl).trans h0
  have g1 : w0.cell? ⟨0, 1, none⟩ = some (.int .i64 8) := (hb0.cell (p := ⟨0, 1, none⟩) hl).trans h1
  have hl0 : 0 < w0.heap.size := Nat.lt_of_lt_of_le hl hb0.size
  clear hb0
  go_wp2_with fail
  refine (trieLives_true _ g0 g1).mono ?_
  rintro e w1 ⟨rfl, hb1⟩
  have HB1 := Lib.hid (bthen HB0.out HB0.out.size hb1)
  have HR1 := Lib.hid (HR.out.below HB1.out)
  clear hb1
  go_wp2_with fail
  refine (built_any A n c 6 es _ HR1.out hc (by omega)).mono ?_
  rintro e w2 ⟨rfl, hb2, t, z, hT, hz0, hz1, hget, hd⟩
  have HB2 := Lib.hid (bthen HB1.out HB1.out.size hb2)
  have htk : (es.take 6).length ≤ 6 := by rw [List.length_take]; omega
  have hsm6 : ∀ e, e ∈ es.take 6 → e.a < 4294967296 := fun e he => HR.out.small e (List.mem_of_mem_take he)
  have HL6 := Lib.hid (Nat.le_trans (ents_len hsm6 hget) htk)
  have HKEY := Lib.hid (keys_of_built hsm6 hget)
  have HT := Lib.hid hT
  have HNT := Lib.hid (show ∀ y, y ∈ w1.heap.size :: t.dom → w.heap.size ≤ y from fun y hy => by
    simp only [List.mem_cons] at hy
    rcases hy with rfl | hy
    · exact HB1.out.size
    · exact Nat.le_trans HB1.out.size (hd y hy))
  have hz6 : z ≤ 6 := hz1
  clear hT hd hb2 hget HR1 hz1 htk hsm6 g0 g1 h0 h1
  generalize w1.heap.size = tb at HT HNT ⊢
  go_wp2_with fail
  refine (listAll_any tb t z _ HT.out (Nat.le_trans HL6.out (by decide))).mono ?_
  rintro e w3 ⟨A3, c3, rfl, hc3, hR3, hb3⟩
  have HB3 := Lib.hid (bthen HB2.out HB2.out.size hb3)
  have R3 := Lib.hid hR3
  have HT3 := Lib.hid (HT.out.grow hb3)
  have hll := HL6.out
  have HNW := Lib.hid (bOf_new (ents_paths t))
  have HOK := Lib.hid (ents_ok t)
  have HSM := Lib.hid (bOf_ents HKEY.out)
  clear hb3 hR3 HB1 HB2 HT
  have hc3' := hc3.1
  clear hc3
  generalize ents t 0 0 = L at HL6 R3 HNW HOK HSM hll hc3' ⊢
  go_wp2_with fail
  refine (of_any A3 _ c3 L _ R3.out (by omega) (by omega) HOK.out HNW.out).mono ?_
  rintro e w4 ⟨ub, u, rfl, hU, hbt, hb4, hdm⟩
  have HTW := Lib.hid (show Two w tb ub t u z L.length w4 from
    ⟨HT3.out.grow hb4, hU, fun x hx hx2 => by have := HT3.out.lt x hx; have := hdm x hx2; omega, fun q => by rw [hbt]; exact HSM.out q, bthen HB3.out HB3.out.size hb4, HNT.out, fun x hx => Nat.le_trans HB3.out.size (hdm x hx)⟩)
  clear hU hbt hb4 hdm
  go_wp2_with fail
  refine (some_anyP G m gc 3 _ hmax hgc (by omega)).mono ?_
  rintro e w5 ⟨rfl, rfl⟩
  go_wp2_with fail
  go_loopw [39] (fun i wr => ∃ (k : Nat) (t : AT) (u : PT) (z y : Int), k ≤ min m 3 ∧ i = .int .i64 k ∧ Two w tb ub t u z y wr ∧ z ≤ 6 ∧ y ≤ 6 ∧ -k ≤ z ∧ -k ≤ y) (fun i _ => min m 3 - (intOf i).toNat)
  case atStart => exact ⟨0, t, u, z, L.length, by omega, rfl, HTW.out, by omega, by omega, by omega, by omega⟩
  case round =>
    clear HTW HT3 HSM HKEY HNT
    obtain ⟨k, t, u, z, y, hk, rfl, hTW, hz, hy, hzk, hyk⟩ := hrel
    have HTW := Lib.hid hTW
    clear hTW
    by_cases hlt : k < min m 3
    · obtain ⟨b, off, rfl, hbl, hcell⟩ := HG.out.at_ (by omega)
      have hkl : k < gs.length := by rw [HG.out.len]; omega
      obtain ⟨q0, q1⟩ := hcell k hkl
      have hsm := HG.out.small gs[k] (List.getElem_mem hkl)
      have hold := HTW.out.old
      have d0 := (hold.cell (p := ⟨b, off + k * 2, none⟩) hbl).trans q0
      have d1 := (hold.cell (p := ⟨b, off + k * 2 + 1, none⟩) hbl).trans q1
      clear hcell q0 q1 hold
      generalize gs[k] = p at hsm d0 d1
      obtain ⟨pa, pb⟩ := p
      simp only at hsm d0 d1
      have HBX := Lib.hid (heap_alloc_new wr (.cells #[.int .u32 pa, .int .i64 pb] 25))
      have hBA : Below wr.heap.size wr (wr.alloc (.cells #[.int .u32 pa, .int .i64 pb] 25)) := (Below.refl _ _).alloc (Nat.le_refl _) _
      have HTA := Lib.hid (HTW.out.grow hBA)
      have HNB := Lib.hid (show wr.heap.size ∉ tb :: t.dom from fun hx => Nat.lt_irrefl _ (HTW.out.tr.lt _ hx))
      have HNC := Lib.hid (show wr.heap.size ∉ ub :: u.dom from fun hx => Nat.lt_irrefl _ (HTW.out.pr.lt _ hx))
      clear hBA
      go_upto_region 10 with (fail)
      generalize wr.alloc (.cells #[.int .u32 pa, .int .i64 pb] 25) = wa at HTA HBX ⊢
      generalize wr.heap.size = bx at HBX HNB HNC ⊢
      have hbx := (Array.getElem?_eq_some_iff.1 HBX.out).1
      have b0 : wa.cell? ⟨bx, 0, none⟩ = some (.int .u32 pa) := cell_of_row wa bx 0 _ 25 (0, 0) HBX.out
      have b1 : wa.cell? ⟨bx, 1, none⟩ = some (.int .i64 pb) := cell_of_row wa bx 1 _ 25 (0, 0) HBX.out
      clear d0 d1
      have HSE := Lib.hid (delE_same HTW.out.same pa pb)
      have hdt : ∀ W, TR W tb z t → Calls Tryd.prog 25 #[.pointer (some ⟨tb, 0, none⟩), .agg #[.int .u32 pa, .int .i64 pb]] W fun e w' => e = .returned (.int .i64 (delE t.get pa pb)) ∧ DelT tb z t pa pb W w' := fun W h => delT_any tb z t pa pb hsm (by omega) (by omega) W h
      have hdp : ∀ W, PR W ub y u → Calls Tryd.prog 48 #[.pointer (some ⟨ub, 0, none⟩), .agg #[.int .u32 pa, .int .i64 pb]] W fun e w' => e = .returned (.int .i64 (delE t.get pa pb)) ∧ DelP ub y u pa pb W w' := fun W h => (delP_any ub y u pa pb hsm (by omega) (by omega) W h).mono fun e w' ⟨he, hp⟩ => ⟨he.trans (by rw [HSE.out]), hp⟩
      generalize delE t.get pa pb = R at hdt hdp
      have HDT := Lib.hid hdt
      have HDP := Lib.hid hdp
      have HTD := Lib.hid (HTA.out.tr.same (w' := wa.drew) rfl)
      have HPD := Lib.hid (HTA.out.pr.same (w' := wa.drew) rfl)
      have HTWD := Lib.hid (show Two w tb ub t u z y wa.drew from ⟨HTD.out, HPD.out, HTA.out.apart, HTA.out.same, HTA.out.old.drew, HTA.out.newT, HTA.out.newP⟩)
      clear hdt hdp HSE
      go_region_held3 (fun w' => w'.cell? ⟨bx, 0, none⟩ = some (.int .u32 pa) ∧ w'.cell? ⟨bx, 1, none⟩ = some (.int .i64 pb))
        (first
          | (refine ⟨?_, ?_⟩ <;> first | assumption | go_simp | go_keep))
        (first
          | ((with_reducible refine (HDP.out _ HT2P.out).mono ?_); rintro e w3 ⟨rfl, hp⟩
             have q0 : w3.cell? ⟨bx, 0, none⟩ = some (.int .u32 pa) := cell_of_row w3 bx 0 _ 25 (0, 0) (delP_row hp hbx2 HNC.out HBX2.out)
             have q1 : w3.cell? ⟨bx, 1, none⟩ = some (.int .i64 pb) := cell_of_row w3 bx 1 _ 25 (0, 0) (delP_row hp hbx2 HNC.out HBX2.out)
             have HN := Lib.hid (HTWD.out.tp HD1.out hp)
             clear hp)
          | ((with_reducible refine (HDT.out _ HP2T.out).mono ?_); rintro e w3 ⟨rfl, hp⟩
             have q0 : w3.cell? ⟨bx, 0, none⟩ = some (.int .u32 pa) := cell_of_row w3 bx 0 _ 25 (0, 0) (delT_row hp hbx2 HNB.out HBX2.out)
             have q1 : w3.cell? ⟨bx, 1, none⟩ = some (.int .i64 pb) := cell_of_row w3 bx 1 _ 25 (0, 0) (delT_row hp hbx2 HNB.out HBX2.out)
             have HN := Lib.hid (HTWD.out.pt HD1.out hp)
             clear hp)
          | ((with_reducible refine (HDT.out _ HTD.out).mono ?_); rintro e w2 ⟨rfl, hp⟩
             have HBX2 := Lib.hid (delT_row hp (show bx < wa.drew.heap.size from hbx) HNB.out (show wa.drew.heap[bx]? = _ from HBX.out))
             have q0 : w2.cell? ⟨bx, 0, none⟩ = some (.int .u32 pa) := cell_of_row w2 bx 0 _ 25 (0, 0) HBX2.out
             have q1 : w2.cell? ⟨bx, 1, none⟩ = some (.int .i64 pb) := cell_of_row w2 bx 1 _ 25 (0, 0) HBX2.out
             have hbx2 := (Array.getElem?_eq_some_iff.1 HBX2.out).1
             have HT2P := Lib.hid (HTWD.out.afterT hp)
             have HD1 := Lib.hid hp
             clear hp)
          | ((with_reducible refine (HDP.out _ HPD.out).mono ?_); rintro e w2 ⟨rfl, hp⟩
             have HBX2 := Lib.hid (delP_row hp (show bx < wa.drew.heap.size from hbx) HNC.out (show wa.drew.heap[bx]? = _ from HBX.out))
             have q0 : w2.cell? ⟨bx, 0, none⟩ = some (.int .u32 pa) := cell_of_row w2 bx 0 _ 25 (0, 0) HBX2.out
             have q1 : w2.cell? ⟨bx, 1, none⟩ = some (.int .i64 pb) := cell_of_row w2 bx 1 _ 25 (0, 0) HBX2.out
             have hbx2 := (Array.getElem?_eq_some_iff.1 HBX2.out).1
             have HP2T := Lib.hid (HTWD.out.afterP hp)
             have HD1 := Lib.hid hp
             clear hp)
          | fail)
      all_goals
        obtain ⟨t2, u2, z2, y2, hT2, e1, e2, e3, e4⟩ := HN.out
        have HT2 := Lib.hid hT2
        clear hT2
        go_wp2_with fail
        go_roundw
        case rel => exact ⟨k + 1, t2, u2, z2, y2, by omega, by go_num, HT2.out, by omega, by omega, by omega, by omega⟩
        case measure => simp [intOf]; omega
    · obtain rfl : k = min m 3 := by omega
      have HFT := Lib.hid (fun W (h : TR W tb z t) => find_any tb t z x W hx h)
      have HFP := Lib.hid (fun W (h : PR W ub y u) => findP_any ub u y x W hx h)
      go_wp2_with fail
      refine (HFT.out _ HTW.out.tr).mono ?_
      rintro e w6 ⟨rfl, hb6⟩
      have HT6 := Lib.hid (HTW.out.grow hb6)
      have HBA := Lib.hid (heap_alloc_new w6 (.cells #[.int .u32 (fa x (best t x 33)), .int .i64 (fd (best t x 33)), .int .i64 (fv (best t x 33))] 36))
      have hb7 : Below w6.heap.size w6 (w6.alloc (.cells #[.int .u32 (fa x (best t x 33)), .int .i64 (fd (best t x 33)), .int .i64 (fv (best t x 33))] 36)) := (Below.refl _ _).alloc (Nat.le_refl _) _
      have HT7 := Lib.hid (HT6.out.grow hb7)
      clear hb6 hb7
      go_upto_region 14 with (fail)
      generalize w6.alloc (.cells #[.int .u32 (fa x (best t x 33)), .int .i64 (fd (best t x 33)), .int .i64 (fv (best t x 33))] 36) = w7 at HT7 HBA ⊢
      generalize w6.heap.size = g12 at HBA ⊢
      have hg12 := (Array.getElem?_eq_some_iff.1 HBA.out).1
      go_wp2_with fail
      refine (HFP.out _ HT7.out.pr).mono ?_
      rintro e w8 ⟨acc, hacc, rfl, hb8⟩
      have HT8 := Lib.hid (HT7.out.grow hb8)
      have HB8 := Lib.hid ((hb8.block _ hg12).trans HBA.out)
      have hg8 : g12 < w8.heap.size := Nat.lt_of_lt_of_le hg12 hb8.size
      obtain ⟨a1, a2, a3, a4⟩ := found_same hx HTW.out.same HTW.out.pr.wf hacc
      rw [a1, a2, a3, a4]
      clear hacc hb8 a1 a2 a3 a4
      generalize fa x (best t x 33) = f0 at *
      generalize fd (best t x 33) = f1 at *
      generalize fv (best t x 33) = f2 at *
      generalize (best t x 33).isSome = fs at *
      have HBB := Lib.hid (heap_alloc_new w8 (.cells #[.int .u32 f0, .int .i64 f1, .int .i64 f2] 36))
      have HB9 := Lib.hid ((heap_alloc_old w8 (.cells #[.int .u32 f0, .int .i64 f1, .int .i64 f2] 36) hg8).trans HB8.out)
      have HBF := Lib.hid (show Below w.heap.size w (w8.alloc (.cells #[.int .u32 f0, .int .i64 f1, .int .i64 f2] 36)) from HT8.out.old.alloc HT8.out.old.size _)
      go_upto_region 15 with (fail)
      generalize w8.alloc (.cells #[.int .u32 f0, .int .i64 f1, .int .i64 f2] 36) = w9 at HBB HB9 HBF ⊢
      generalize w8.heap.size = g14 at HBB ⊢
      have m0 : w9.cell? ⟨g12, 0, none⟩ = some (.int .u32 f0) := cell_of_row w9 g12 0 _ 36 (0, 0) HB9.out
      have m1 : w9.cell? ⟨g12, 1, none⟩ = some (.int .i64 f1) := cell_of_row w9 g12 1 _ 36 (0, 0) HB9.out
      have m2 : w9.cell? ⟨g12, 2, none⟩ = some (.int .i64 f2) := cell_of_row w9 g12 2 _ 36 (0, 0) HB9.out
      have p0 : w9.cell? ⟨g14, 0, none⟩ = some (.int .u32 f0) := cell_of_row w9 g14 0 _ 36 (0, 0) HBB.out
      have p1 : w9.cell? ⟨g14, 1, none⟩ = some (.int .i64 f1) := cell_of_row w9 g14 1 _ 36 (0, 0) HBB.out
      have p2 : w9.cell? ⟨g14, 2, none⟩ = some (.int .i64 f2) := cell_of_row w9 g14 2 _ 36 (0, 0) HBB.out
      cases fs
      all_goals
        go_wp2_with fail
        go_ret
        exact ⟨rfl, HBF.out⟩
end Go.Proofs.YtaknlphmplimhaaDoor
