/- The walk of valid (the first few prefixes that are prefixes), what Put says in press, and the table that grows beside others. -/
import Derived.Test.YtaknlphmplimhaaDoorQc
set_option linter.unusedVariables false
set_option linter.unusedSimpArgs false
namespace Go.Proofs.YtaknlphmplimhaaDoor
open Go.RowKit Go.Proofs AT
def okP (p : Pf) : Bool := decide (chkE p.a p.b = 0)
/-- What valid gives. -/
def validP (gs : List Pf) (k : Nat) : List Pf := (gs.filter okP).take k
theorem validP_snoc (gs : List Pf) (p : Pf) (k : Nat) : validP (gs ++ [p]) k = if (validP gs k).length < k ∧ chkE p.a p.b = 0 then validP gs k ++ [p] else validP gs k := by
  unfold validP
  rw [List.filter_append]
  by_cases hc : chkE p.a p.b = 0
  · have e1 : List.filter okP [p] = [p] := by simp [okP, hc]
    rw [e1]
    by_cases hl : (gs.filter okP).length < k
    · rw [if_pos ⟨by rw [List.length_take]; omega, hc⟩, List.take_of_length_le (by simp; omega), List.take_of_length_le (by omega)]
    · rw [if_neg (by rw [List.length_take]; omega), List.take_append_of_le_length (by omega)]
  · have e1 : List.filter okP [p] = [] := by simp [okP, hc]
    rw [e1, List.append_nil, if_neg (fun h => hc h.2)]
theorem validP_ok {gs : List Pf} {k : Nat} {p : Pf} (h : p ∈ validP gs k) : p ∈ gs ∧ chkE p.a p.b = 0 := by
  have := List.mem_filter.1 (List.mem_of_mem_take h)
  exact ⟨this.1, by simpa [okP] using this.2⟩
theorem validP_len (gs : List Pf) (k : Nat) : (validP gs k).length ≤ k := by unfold validP; rw [List.length_take]; omega
def ValidPost (w : World) (es : List Pf) (e : Ending) (w' : World) : Prop :=
  ∃ A c, e = .returned (.slice A es.length c) ∧ es.length ≤ c ∧ ReadsP w' A es.length es ∧ (∀ b o x, A = some ⟨b, o, x⟩ → w.heap.size ≤ b) ∧ Below w.heap.size w w'
set_option maxRecDepth 100000 in
set_option maxHeartbeats 4000000 in
theorem valid_any (G : Option Addr) (m gc : Nat) (gs : List Pf) (k : Nat) (w : World) (hG : ReadsP w G m gs) (hgc : m ≤ gc) (hk : k ≤ 100) :
    Calls Tryd.prog 50 #[.slice G m gc, .int .i64 k] w (ValidPost w (validP gs k)) := by
  obtain ⟨i0, hi, hz0, hz1, hz2⟩ := info_parts info25
  have HG := Lib.hid hG
  have hmax := hG.max
  have hglen := hG.len
  clear hG
  go_enter Tryd.func50, Tryd.ntmps50
  go_wp2_with fail
  go_loopw [10, 5] (fun i v wr => ∃ j : Nat, j ≤ m ∧ i = .int .i64 j ∧ RowP w.heap.size wr v (validP (gs.take j) k) ∧ Below w.heap.size w wr) (fun i _ _ => m - (intOf i).toNat)
  case atStart => exact ⟨0, by omega, rfl, ⟨by simp [validP], .inl ⟨rfl, by simp [validP]⟩⟩, Below.refl _ _⟩
  case round =>
    obtain ⟨j, hj, rfl, hrow, hB⟩ := hrel
    have hln := validP_len (gs.take j) k
    have hsmv : ∀ e, e ∈ validP (gs.take j) k → e.a < 4294967296 := fun e he => HG.out.small e (List.mem_of_mem_take (validP_ok he).1)
    obtain ⟨A, c, rfl, hc, hAc, hR⟩ := hrow.reads hsmv
    have HROW := Lib.hid hrow
    have HRD := Lib.hid hR
    have HB := Lib.hid hB
    clear hR hrow hsmv
    by_cases hlt : j < m
    · obtain ⟨b, off, rfl, hbl, hcell⟩ := HG.out.at_ (by omega)
      have hkl : j < gs.length := by omega
      obtain ⟨q0, q1⟩ := hcell j hkl
      have hsm := HG.out.small gs[j] (List.getElem_mem hkl)
      have d0 := (hB.cell (p := ⟨b, off + j * 2, none⟩) hbl).trans q0
      have d1 := (hB.cell (p := ⟨b, off + j * 2 + 1, none⟩) hbl).trans q1
      have hV := validP_snoc (gs.take j) gs[j] k
      rw [← List.take_succ_eq_append_getElem hkl] at hV
      clear hcell q0 q1 hB
      generalize gs[j] = p at hsm d0 d1 hV
      obtain ⟨pa, pb⟩ := p
      simp only at hsm d0 d1 hV
      have HV := Lib.hid hV
      clear hV
      have HS := HB.out.size
      generalize validP (gs.take j) k = es at hln hc HROW HRD HV ⊢
      by_cases hl : es.length < k
      · have HBA := Lib.hid (show Below w.heap.size w (wr.alloc (.cells #[.int .u32 pa, .int .i64 pb] 25)) from HB.out.alloc HB.out.size _)
        have HRA := Lib.hid (show RowP w.heap.size (wr.alloc (.cells #[.int .u32 pa, .int .i64 pb] 25)) (.slice A es.length c) es from World.ownsRow.alloc HROW.out _)
        have HBX := Lib.hid (heap_alloc_new wr (.cells #[.int .u32 pa, .int .i64 pb] 25))
        go_upto_region 5 with (fail)
        generalize wr.alloc (.cells #[.int .u32 pa, .int .i64 pb] 25) = wa at HBA HRA HBX ⊢
        generalize wr.heap.size = bx at HBX ⊢
        have hbx := (Array.getElem?_eq_some_iff.1 HBX.out).1
        have b0 : wa.cell? ⟨bx, 0, none⟩ = some (.int .u32 pa) := cell_of_row wa bx 0 _ 25 (0, 0) HBX.out
        have b1 : wa.cell? ⟨bx, 1, none⟩ = some (.int .i64 pb) := cell_of_row wa bx 1 _ 25 (0, 0) HBX.out
        have hla : (es.length : Int) < (k : Int) := by omega
        clear d0 d1
        go_wp2_with fail
        refine (check_any pa pb _ hsm).mono ?_
        rintro e w2 ⟨rfl, hb2⟩
        have HB2 := Lib.hid (bthen HBA.out HBA.out.size hb2)
        have HR2 := Lib.hid (show RowP w.heap.size w2 (.slice A es.length c) es from HRA.out.grow fun q hq => hb2.block q (HRA.out.lt q hq).2)
        have b0 : w2.cell? ⟨bx, 0, none⟩ = some (.int .u32 pa) := (hb2.cell (p := ⟨bx, 0, none⟩) hbx).trans b0
        have b1 : w2.cell? ⟨bx, 1, none⟩ = some (.int .i64 pb) := (hb2.cell (p := ⟨bx, 1, none⟩) hbx).trans b1
        have hbx2 : bx < w2.heap.size := Nat.lt_of_lt_of_le hbx hb2.size
        clear hb2
        by_cases hck : chkE pa pb = 0
        · rw [hck]
          have hnx := HB2.out
          have hsz2 := hnx.size
          have hown : w2.ownsRow w.heap.size 25 2 (.slice A es.length c) es.length (es.flatMap cell2) := HR2.out
          have HVC := Lib.hid (show validP (gs.take (j + 1)) k = es ++ [⟨pa, pb⟩] by rw [HV.out, if_pos ⟨hl, hck⟩])
          go_wp2_with (at_builtin
                       refine wpList_append_own _ rfl _ _ 60 rfl w.heap.size 25 i0 (.agg #[.int .u32 0, .int .i64 0]) 2 16 Tryd.underlying60 hi hz0 hz1 hz2 rfl (by decide) _ _ _ rfl (hown.alloc _) ⟨w2.heap.size, 0, none⟩ 1 1 [.int .u32 pa, .int .i64 pb] rfl rfl (World.news_of_block (cs := #[.int .u32 pa, .int .i64 pb]) (t := 25) (fr := (0, 0)) (heap_alloc_new w2 _)) (by simp [Value.oneCell']) (by unfold maxLen; omega) (by omega) (by simp; omega) ?_
                       intro v' w3 hown' hgrow3 hnil3)
          have HR := Lib.hid (show RowP w.heap.size w3 v' (validP (gs.take (j + 1)) k) ∧ Below w.heap.size w w3 from ⟨by
            rw [HVC.out]
            unfold RowP
            rw [List.length_append, List.flatMap_append]
            exact hown', (hnx.alloc hsz2 _).grown hgrow3 (by simp; omega) (fun q hq => (hown.lt q hq).1)⟩)
          clear hown' hgrow3 hnil3 hown hnx
          go_wp2_with fail
          go_roundw
          case rel => exact ⟨j + 1, by omega, by go_num, HR.out.1, HR.out.2⟩
          case measure => simp [intOf]; omega
        · have HR := Lib.hid (show RowP w.heap.size w2 (.slice A es.length c) (validP (gs.take (j + 1)) k) by rw [HV.out, if_neg (fun h => hck h.2)]; exact HR2.out)
          go_wp2_with fail
          go_roundw
          case rel => exact ⟨j + 1, by omega, by go_num, HR.out, HB2.out⟩
          case measure => simp [intOf]; omega
      · have HBA := Lib.hid (show Below w.heap.size w (wr.alloc (.cells #[.int .u32 pa, .int .i64 pb] 25)) from HB.out.alloc HB.out.size _)
        have HR := Lib.hid (show RowP w.heap.size (wr.alloc (.cells #[.int .u32 pa, .int .i64 pb] 25)) (.slice A es.length c) (validP (gs.take (j + 1)) k) by rw [HV.out, if_neg (fun h => hl h.1)]; exact World.ownsRow.alloc HROW.out _)
        have hla : ¬ (es.length : Int) < (k : Int) := by omega
        go_wp2_with fail
        go_roundw
        case rel => exact ⟨j + 1, by omega, by go_num, HR.out, HBA.out⟩
        case measure => simp [intOf]; omega
    · obtain rfl : j = m := by omega
      have htk : gs.take j = gs := List.take_of_length_le (by omega)
      rw [htk] at HROW HRD hc ⊢
      have HN := Lib.hid (show ∀ b o x, A = some ⟨b, o, x⟩ → w.heap.size ≤ b from fun b o x e => by
        subst e
        rcases HROW.out.2 with ⟨e, _⟩ | ⟨g, cap, cur, e, hb, _⟩
        · cases e
        · simp only [Value.slice.injEq, Option.some.injEq, Addr.mk.injEq] at e
          obtain ⟨⟨rfl, _⟩, _⟩ := e
          exact hb)
      go_wp2_with fail
      go_ret
      exact ⟨A, c, rfl, hc, HRD.out, HN.out, HB.out⟩
/-- What Put leaves in press. -/
def PutQ (ub : Nat) (y : Int) (u : PT) (q : List Bool) (v : Int) (w w' : World) : Prop :=
  ∃ (u' : PT) (y' : Int), PR w' ub y' u' ∧ (∀ s, u'.bt.get s = if s = q then some v else u.bt.get s) ∧ (∀ x, x ∈ u'.dom → x ∈ u.dom ∨ w.heap.size ≤ x) ∧ Kp (ub :: u.dom) w w' ∧ y ≤ y' ∧ y' ≤ y + 1
theorem putP_any (ub : Nat) (y : Int) (u : PT) (a : Nat) (b v : Int) (ha : a < 4294967296) (hc : chkE a b = 0) (hz : y ≤ 200) (hz0 : 0 ≤ y) (w : World) (hT : PR w ub y u) :
    Calls Tryd.prog 51 #[.pointer (some ⟨ub, 0, none⟩), .agg #[.int .u32 a, .int .i64 b], .int .i64 v] w fun e w' => e = .returned (.int .i64 0) ∧ PutQ ub y u (path a b.toNat) v w w' := by
  obtain ⟨k, rfl, hV⟩ := Val_of_chk ha hc
  rw [Int.toNat_natCast]
  cases hg : u.bt.get (path a k) with
  | none =>
    refine (putP_new ub u y a k v w hV hT (by omega) hz0 hg).mono fun e w' ⟨u', he, h1, h2, h3, h4⟩ => ⟨he, u', y + 1, h1, fun s => ?_, h3, h4, by omega, by omega⟩
    rw [h2, (BT.wth_spec hT.wf List.nil_prefix).2]
  | some x =>
    refine (putP_old ub u y a k v w hV hT (by rw [hg]; simp)).mono fun e w' ⟨u', he, h1, h2, h3, h4⟩ => ⟨he, u', y, h1, fun s => ?_, h3, h4, by omega, by omega⟩
    rw [h2, (BT.wth_spec hT.wf List.nil_prefix).2]
/-- A table that was empty in w6 and has changed since; nothing else has. -/
structure Us (w6 : World) (ub : Nat) (u : PT) (y : Int) (W : World) : Prop where
  pr : PR W ub y u
  kp : Kp [ub] w6 W
  new : ∀ x, x ∈ ub :: u.dom → x = ub ∨ w6.heap.size ≤ x
theorem Us.below {w w6 W : World} {ub : Nat} {u : PT} {y : Int} (h : Us w6 ub u y W) (hb : Below w.heap.size w w6) (hu : w.heap.size ≤ ub) : Below w.heap.size w W :=
  hb.trans (h.kp.below hb.size (fun x hx => by simp only [List.mem_singleton] at hx; subst hx; exact hu))
theorem Us.step {w6 W W' : World} {ub : Nat} {u u' : PT} {y y' : Int} (h : Us w6 ub u y W) (h1 : PR W' ub y' u') (h3 : ∀ x, x ∈ u'.dom → x ∈ u.dom ∨ W.heap.size ≤ x) (h4 : Kp (ub :: u.dom) W W') : Us w6 ub u' y' W' :=
  ⟨h1, h.kp.step h4 (fun x hx => (h.new x hx).imp (fun e => by simp [e]) id), fun x hx => by
    simp only [List.mem_cons] at hx
    rcases hx with hx | hx
    · exact .inl hx
    · rcases h3 x hx with g | g
      · exact h.new x (by simp [g])
      · exact .inr (Nat.le_trans h.kp.size g)⟩
theorem Us.grow {w6 W W' : World} {ub : Nat} {u : PT} {y : Int} (h : Us w6 ub u y W) (hb : Below W.heap.size W W') : Us w6 ub u y W' :=
  h.step (h.pr.grow hb) (fun _ hx => .inl hx) (Kp.of_below hb)
theorem Us.put {w6 W W' : World} {ub : Nat} {u : PT} {y : Int} {q : List Bool} {v : Int} (h : Us w6 ub u y W) (hp : PutQ ub y u q v W W') :
    ∃ u' y', Us w6 ub u' y' W' ∧ (∀ s, u'.bt.get s = if s = q then some v else u.bt.get s) ∧ y ≤ y' ∧ y' ≤ y + 1 := by
  obtain ⟨u', y', h1, h2, h3, h4, h5, h6⟩ := hp
  exact ⟨u', y', h.step h1 h3 h4, h2, h5, h6⟩
theorem Us.del {w6 W W' : World} {ub : Nat} {u : PT} {y : Int} {a : Nat} {b : Int} (h : Us w6 ub u y W) (hp : DelP ub y u a b W W') :
    ∃ u' y', Us w6 ub u' y' W' ∧ u'.bt.get = cutM u.bt.get a b ∧ y - 1 ≤ y' ∧ y' ≤ y := by
  obtain ⟨u', y', h1, h2, h3, h4, h5, h6⟩ := hp
  exact ⟨u', y', h.step h1 h3 h4, h2, h5, h6⟩
theorem ReadsP.kept {w w' : World} {A : Option Addr} {n : Nat} {es : List Pf} {ub : Nat} (h : ReadsP w A n es) (hk : Kp [ub] w w') (hA : ∀ b o x, A = some ⟨b, o, x⟩ → b ≠ ub) : ReadsP w' A n es :=
  ⟨h.len, h.max, fun hn => by
    obtain ⟨b, off, e, hb, hc⟩ := h.at_ hn
    refine ⟨b, off, e, Nat.lt_of_lt_of_le hb hk.size, fun i hi => ?_⟩
    have hr : w'.heap[b]? = w.heap[b]? := hk.block b hb (by simp; exact hA b off none e)
    have hcl : ∀ o, w'.cell? ⟨b, o, none⟩ = w.cell? ⟨b, o, none⟩ := fun o => by simp [World.cell?, hr]
    rw [hcl, hcl]
    exact hc i hi, h.small⟩
theorem ReadsE.kept {w w' : World} {A : Option Addr} {n : Nat} {es : List En} {D : List Nat} (h : ReadsE w A n es) (hk : Kp D w w') (hA : ∀ b o x, A = some ⟨b, o, x⟩ → b ∉ D) : ReadsE w' A n es :=
  ⟨h.len, h.max, fun hn => by
    obtain ⟨b, off, e, hb, hc⟩ := h.at_ hn
    refine ⟨b, off, e, Nat.lt_of_lt_of_le hb hk.size, fun i hi => ?_⟩
    have hr : w'.heap[b]? = w.heap[b]? := hk.block b hb (hA b off none e)
    have hcl : ∀ o, w'.cell? ⟨b, o, none⟩ = w.cell? ⟨b, o, none⟩ := fun o => by simp [World.cell?, hr]
    rw [hcl, hcl, hcl]
    exact hc i hi, h.small⟩
theorem enters52 : ∀ args w, (callFunc 52 args).run Tryd.prog w = .ok (.enter 52 args) w := enters_of Tryd.func52 (by kernel_rfl) rfl
attribute [local go_sem high] eqA25
set_option maxHeartbeats 400000 in
theorem clo52 (p : Pf) (g : Nat) (x : En) (W : World) (hx : x.a < 4294967296) (hp0 : W.cell? ⟨g, 0, none⟩ = some (.int .u32 p.a)) (hp1 : W.cell? ⟨g, 1, none⟩ = some (.int .i64 p.b)) :
    Calls Tryd.prog 52 #[.agg #[.int .u32 x.a, .int .i64 x.b, .int .i64 x.v], .pointer (some ⟨g, 0, none⟩)] W fun e w' => e = .returned (.bool (eqP ⟨x.a, x.b⟩ p)) ∧ Below W.heap.size W w' := by
  have hl := World.block_lt_of_cell? W _ hp0
  simp only at hl
  obtain ⟨xa, xb, xv⟩ := x
  obtain ⟨pa, pb⟩ := p
  simp only at *
  have he : eqP ⟨xa, xb⟩ ⟨pa, pb⟩ = ((xa : Int) == (pa : Int) && xb == pb) := by
    unfold eqP
    by_cases h : xa = pa
    · subst h; simp
    · have e1 : (xa == pa) = false := by simpa using h
      have e2 : ((xa : Int) == (pa : Int)) = false := by
        have h' : (xa : Int) ≠ (pa : Int) := by omega
        simpa using h'
      simp only [e1, e2, Bool.false_and]
  rw [he]
  go_enter Tryd.func52, Tryd.ntmps52
  go_wp2_with fail
  go_ret
  exact ⟨rfl, (Below.refl _ _).alloc (Nat.le_refl _) _⟩
end Go.Proofs.YtaknlphmplimhaaDoor
