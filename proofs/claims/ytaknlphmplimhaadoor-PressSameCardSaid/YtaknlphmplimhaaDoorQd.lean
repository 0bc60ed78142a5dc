/- The walk of PressSame, which returns true; the slices are read, and the world holds the variable ten. -/
import Derived.Test.YtaknlphmplimhaaDoorQb
import Derived.Test.YtaknlphmplimhaaDoorQe
set_option linter.unusedVariables false
set_option linter.unusedSimpArgs false
namespace Go.Proofs.YtaknlphmplimhaaDoor
open Go.RowKit Go.Proofs AT
/-! ### plain laws: entries over the others -/
def overM (f g : List Bool → Option Int) : List Bool → Option Int := fun s => match f s with | some v => some v | none => g s
abbrev pathO (p : Pf) : List Bool := path p.a p.b.toNat
def hasO (os : List Pf) (s : List Bool) : Bool := os.any fun p => pathO p == s
def fromO (os : List Pf) : List Bool → Option Int := fun s => if hasO os s then some 1 else none
/-- The others that are not yet taken away. -/
def restO (os : List Pf) (k : Nat) : List Bool → Option Int := fun s => if hasO os s && !hasO (os.take k) s then some 1 else none
theorem fromO_snoc (os : List Pf) (p : Pf) (s : List Bool) : fromO (os ++ [p]) s = if s = pathO p then some 1 else fromO os s := by
  unfold fromO hasO
  rw [List.any_append]
  by_cases h : s = pathO p
  · subst h; simp
  · have h' : (pathO p == s) = false := by simpa using fun e => h (Eq.symm e)
    simp [h, h']
theorem over_snoc (es : List En) (e : En) (g : List Bool → Option Int) (s : List Bool) : overM (bOf (es ++ [e])).get g s = if s = pathE e then some e.v else overM (bOf es).get g s := by
  unfold overM
  rw [bOf_get]
  by_cases h : s = pathE e
  · simp [h]
  · simp [h]
theorem bOf_reverse {L : List En} (hp : L.Pairwise fun x y => pathE x ≠ pathE y) : (bOf L.reverse).get = (bOf L).get := by
  have hp' : L.reverse.Pairwise fun x y => pathE x ≠ pathE y := List.pairwise_reverse.2 (hp.imp fun h e => h e.symm)
  funext s
  cases h : (bOf L).get s with
  | none =>
    cases h2 : (bOf L.reverse).get s with
    | none => rfl
    | some v =>
      obtain ⟨e, h3, h4, _⟩ := bOf_mem _ _ _ h2
      have := bOf_some L hp e (List.mem_reverse.1 h3)
      rw [h4, h] at this
      cases this
  | some v =>
    obtain ⟨e, h3, h4, h5⟩ := bOf_mem _ _ _ h
    have := bOf_some L.reverse hp' e (List.mem_reverse.2 h3)
    rw [h4, h5] at this
    exact this
theorem hasO_take (os : List Pf) (k : Nat) (hk : k < os.length) (s : List Bool) : hasO (os.take (k + 1)) s = (hasO (os.take k) s || (pathO os[k] == s)) := by
  unfold hasO
  rw [List.take_succ_eq_append_getElem hk, List.any_append]
  simp
theorem rest_same {os : List Pf} {k : Nat} (hk : k < os.length) {f : List Bool → Option Int} {v : Int} (hf : f (pathO os[k]) = some v) : overM f (restO os (k + 1)) = overM f (restO os k) := by
  funext s
  unfold overM
  cases hs : f s with
  | some x => rfl
  | none =>
    unfold restO
    have h' : (pathO os[k] == s) = false := by
      simp only [beq_eq_false_iff_ne]
      intro e
      rw [← e, hf] at hs
      cases hs
    rw [hasO_take os k hk, h', Bool.or_false]
theorem rest_cut {os : List Pf} {k : Nat} (hk : k < os.length) {f : List Bool → Option Int} (hc : chkE os[k].a os[k].b = 0) (hf : f (pathO os[k]) = none) : cutM (overM f (restO os k)) os[k].a os[k].b = overM f (restO os (k + 1)) := by
  funext s
  unfold cutM
  by_cases hs : s = pathO os[k]
  · rw [if_pos ⟨hc, hs⟩]
    subst hs
    unfold overM
    rw [hf]
    unfold restO
    rw [hasO_take os k hk]
    simp
  · rw [if_neg (fun h => hs h.2)]
    unfold overM restO
    have h' : (pathO os[k] == s) = false := by simpa using fun e => hs (Eq.symm e)
    rw [hasO_take os k hk, h', Bool.or_false]
theorem over_start (f : List Bool → Option Int) (os : List Pf) : overM f (fromO os) = overM f (restO os 0) := by
  funext s
  unfold overM fromO restO
  simp [hasO]
theorem over_end (f : List Bool → Option Int) (os : List Pf) : overM f (restO os os.length) = f := by
  funext s
  unfold overM restO
  rw [List.take_length]
  cases h : f s <;> simp
/-- A prefix that is none of the entries' has no value. -/
theorem none_of_any {L : List En} {p : Pf} (hL : ∀ e, e ∈ L → ∃ k : Nat, e.b = k ∧ Val e.a k) (hp : ∃ k : Nat, p.b = k ∧ Val p.a k) (ha : (L.any fun x => eqP ⟨x.a, x.b⟩ p) = false) : (bOf L).get (pathO p) = none := by
  cases h : (bOf L).get (pathO p) with
  | none => rfl
  | some v =>
    obtain ⟨e, h1, h2, _⟩ := bOf_mem _ _ _ h
    obtain ⟨k, k1, k2⟩ := hL e h1
    obtain ⟨j, j1, j2⟩ := hp
    rw [pathE, pathO, k1, j1, Int.toNat_natCast, Int.toNat_natCast] at h2
    obtain ⟨e1, e2⟩ := path_same k2 j2 h2
    have := List.any_eq_false.1 ha e h1
    have he : (⟨e.a, e.b⟩ : Pf) = p := by
      cases p
      simp only at j1 e1
      rw [e1, k1, j1, e2]
    exact absurd (eqP_iff.2 he) this
theorem some_of_any {L : List En} {p : Pf} (hp : L.Pairwise fun x y => pathE x ≠ pathE y) (ha : (L.any fun x => eqP ⟨x.a, x.b⟩ p) = true) : ∃ v, (bOf L).get (pathO p) = some v := by
  obtain ⟨e, h1, h2⟩ := List.any_eq_true.1 ha
  have := eqP_iff.1 h2
  subst this
  exact ⟨e.v, bOf_some L hp e h1⟩
/-- A cloned list turned round. -/
theorem reversedE (S : Nat) (v : Value) (L : List En) (w : World) (hrow : RowE S w v L) (hm : L.length ≤ 1000) (hsm : ∀ e, e ∈ L → e.a < 4294967296) (hS : S ≤ w.heap.size) :
    ∃ B cB, v = .slice B L.length cB ∧ L.length ≤ cB ∧ (∀ b o x, B = some ⟨b, o, x⟩ → S ≤ b ∧ b < w.heap.size) ∧
      Calls Tryd.prog 37 #[v] w fun e w' => e = .returned (.tuple #[]) ∧ ReadsE w' B L.length L.reverse ∧ Below S w w' := by
  have hk := hrow
  rcases hrow.2 with ⟨rfl, hz⟩ | ⟨g, cap, cur, rfl, hgb, hgh, hle, hmx, hcs, htk⟩
  · have hLn : L = [] := List.length_eq_zero_iff.1 hz
    subst hLn
    refine ⟨none, 0, rfl, Nat.le_refl _, fun _ _ _ h => (by cases h), ?_⟩
    refine (show Calls Tryd.prog 37 #[.slice none 0 0] w (fun e w' => e = .returned (.tuple #[]) ∧ w' = w) from AnyQ.slices_Reverse_empty Sh.reverseE none 0 w).mono ?_
    rintro e w5 ⟨rfl, rfl⟩
    exact ⟨rfl, readsE_nil _ none, Below.refl _ _⟩
  · have hgl : g < w.heap.size := (Array.getElem?_eq_some_iff.1 hgh).1
    refine ⟨some ⟨g, 0, none⟩, cap, rfl, hle, fun b o x h => ?_, ?_⟩
    · simp only [Option.some.injEq, Addr.mk.injEq] at h
      obtain ⟨rfl, _⟩ := h
      exact ⟨hgb, hgl⟩
    · refine (reverseE_any g cap L _ hk.holds (by omega)).mono ?_
      rintro e w5 ⟨rfl, hH5, hK5⟩
      have hRl : L.reverse.length = L.length := List.length_reverse
      refine ⟨rfl, hRl ▸ readsE_of_holds hH5 (Nat.lt_of_lt_of_le hgl hK5.size) (by omega) (fun e he => hsm e (List.mem_reverse.1 he)), hK5.below hS (fun x hx => by simp only [List.mem_singleton] at hx; subst hx; exact hgb)⟩
theorem PT_nil_of_bt {u : PT} (h : u.bt = .nil) : u = .nil := by
  cases u with
  | nil => rfl
  | node => simp [PT.bt] at h
set_option maxRecDepth 100000 in
set_option maxHeartbeats 8000000 in
theorem pressSame_any (A : Option Addr) (n c : Nat) (es : List En) (G : Option Addr) (m gc : Nat) (gs : List Pf) (w : World) (hR : ReadsE w A n es) (hc : n ≤ c) (hG : ReadsP w G m gs) (hgc : m ≤ gc)
    (h0 : w.cell? ⟨0, 0, none⟩ = some (.int .u32 167772160)) (h1 : w.cell? ⟨0, 1, none⟩ = some (.int .i64 8)) :
    Calls Tryd.prog 9 #[.slice A n c, .slice G m gc] w fun e w' => e = .returned (.bool true) ∧ Below w.heap.size w w' := by
  have hl := World.block_lt_of_cell? w _ h0
  simp only at hl
  have HR := Lib.hid hR
  have HG := Lib.hid hG
  clear hR hG
  go_enter Tryd.func9, Tryd.ntmps9
  go_wp2_with fail
  refine (pressLives_true _ h0 h1).mono ?_
  rintro e w0 ⟨rfl, hb0⟩
  have HB0 := Lib.hid hb0
  have g0 : w0.cell? ⟨0, 0, none⟩ = some (.int .u32 167772160) := (hb0.cell (p := ⟨0, 0, none⟩) hl).trans h0
  have g1 : w0.cell? ⟨0, 1, none⟩ = some (.int .i64 8) := (hb0.cell (p := ⟨0, 1, none⟩) hl).trans h1
  have hl0 : 0 < w0.heap.size := Nat.lt_of_lt_of_le hl hb0.size
  clear hb0
  go_wp2_with fail
  refine (trieLives_true _ g0 g1).mono ?_
  rintro e w1 ⟨rfl, hb1⟩
  have HB1 := Lib.hid (bthen HB0.out HB0.out.size hb1)
  have HR1 := Lib.hid (HR.out.below HB1.out)
  clear hb1
  go_wp2_with fail
  refine (built_any A n c 5 es _ HR1.out hc (by omega)).mono ?_
  rintro e w2 ⟨rfl, hb2, t0, z0, hT0, hz0, hz1, hget, hd⟩
  have HB2 := Lib.hid (bthen HB1.out HB1.out.size hb2)
  have htk : (es.take 5).length ≤ 5 := by rw [List.length_take]; omega
  have hsm6 : ∀ e, e ∈ es.take 5 → e.a < 4294967296 := fun e he => HR.out.small e (List.mem_of_mem_take he)
  have HL6 := Lib.hid (Nat.le_trans (ents_len hsm6 hget) htk)
  have HT := Lib.hid hT0
  clear hT0 hd hb2 hget HR1 hz0 hz1 htk hsm6 g0 g1 h0 h1
  generalize w1.heap.size = tb0 at HT ⊢
  go_wp2_with fail
  refine (listAll_any tb0 t0 z0 _ HT.out (Nat.le_trans HL6.out (by decide))).mono ?_
  rintro e w3 ⟨A3, c3, rfl, hc3, hR3, hb3⟩
  have HB3 := Lib.hid (bthen HB2.out HB2.out.size hb3)
  have R3 := Lib.hid hR3
  have HPW := Lib.hid (ents_paths t0)
  have HOK := Lib.hid (ents_ok t0)
  have HVA := Lib.hid (show ∀ e, e ∈ ents t0 0 0 → ∃ k : Nat, e.b = k ∧ Val e.a k from fun e he => by obtain ⟨k, h1, h2, _⟩ := (mem_all t0 e).1 he; exact ⟨k, h1, h2⟩)
  clear hb3 hR3 HB1 HB2 HT
  have hll := HL6.out
  have hc3' := hc3.1
  clear hc3
  generalize ents t0 0 0 = L at HL6 R3 HPW HOK HVA hll hc3' ⊢
  go_wp2_with fail
  refine (of_any A3 _ c3 L _ R3.out (by omega) (by omega) HOK.out (bOf_new HPW.out)).mono ?_
  rintro e w4 ⟨tb, t, rfl, hT, hbt, hb4, hdm⟩
  have HB4 := Lib.hid (bthen HB3.out HB3.out.size hb4)
  have HB34 := Lib.hid hb4
  have HT4 := Lib.hid hT
  have HBT := Lib.hid hbt
  have HFEW := Lib.hid (prefs_few hT.rep hbt HPW.out)
  have hpl : (prefs t).length ≤ 100 := by have := HFEW.out; omega
  clear hT hbt hb4 hdm HFEW
  go_wp2_with fail
  refine (of_any none 0 0 [] _ (readsE_nil _ none) (Nat.le_refl _) (by omega) (fun e he => by cases he) (fun i h => by simp at h)).mono ?_
  rintro e w5 ⟨ub, u, rfl, hU, hbu, hb5, hdu⟩
  obtain rfl := PT_nil_of_bt hbu
  have HB5 := Lib.hid (bthen HB4.out HB4.out.size hb5)
  have HB45 := Lib.hid hb5
  have HU5 := Lib.hid hU
  have hub4 : w4.heap.size ≤ ub := hdu ub (by simp)
  have hw4 := HB4.out.size
  have hub5 : ub < w5.heap.size := hU.lt ub (by simp)
  clear hU hbu hb5 hdu
  go_wp2_with fail
  refine (valid_any G m gc gs 3 _ (HG.out.below HB5.out) hgc (by omega)).mono ?_
  have hol := validP_len gs 3
  have HOV := Lib.hid (show ∀ p, p ∈ validP gs 3 → p.a < 4294967296 ∧ chkE p.a p.b = 0 from fun p hp => ⟨HG.out.small p (validP_ok hp).1, (validP_ok hp).2⟩)
  generalize validP gs 3 = O at hol HOV ⊢
  rintro e w6 ⟨A6, c6, rfl, hc6, hR6, hn6, hb6⟩
  have HB6 := Lib.hid (bthen HB5.out HB5.out.size hb6)
  have HB36 := Lib.hid (bthen HB34.out HB34.out.size (bthen HB45.out HB45.out.size hb6))
  have HB46 := Lib.hid (bthen HB45.out HB45.out.size hb6)
  have R6 := Lib.hid hR6
  have HN6 := Lib.hid (show ∀ b o x, A6 = some ⟨b, o, x⟩ → b ≠ ub from fun b o x e h => by have := hn6 b o x e; omega)
  have HU6 := Lib.hid (show Us w6 ub .nil 0 w6 from ⟨HU5.out.grow hb6, Kp.of_below (Below.refl _ _), fun x hx => by simp [PT.dom] at hx; exact .inl hx⟩)
  have h34 := HB34.out.size
  clear hR6 hn6 hb6 HB3 HB4 HB5 HU5 HB34 HB45
  go_wp2_with fail
  go_loopw [54] (fun i wr => ∃ (k : Nat) (u : PT) (y : Int), k ≤ O.length ∧ i = .int .i64 k ∧ Us w6 ub u y wr ∧ 0 ≤ y ∧ y ≤ k ∧ ∀ s, u.bt.get s = fromO (O.take k) s) (fun i _ => O.length - (intOf i).toNat)
  case atStart => exact ⟨0, .nil, 0, by omega, rfl, HU6.out, by omega, by omega, fun s => by simp [fromO, hasO, PT.bt, BT.get]⟩
  case round =>
    clear HU6
    obtain ⟨k, u, y, hk, rfl, hU, hy0, hyk, hg⟩ := hrel
    have HU := Lib.hid hU
    have HGT := Lib.hid hg
    clear hU hg
    by_cases hlt : k < O.length
    · obtain ⟨b, off, rfl, hbl, hcell⟩ := (R6.out.kept HU.out.kp HN6.out).at_ (by omega)
      obtain ⟨d0, d1⟩ := hcell k hlt
      obtain ⟨hsm, hck⟩ := HOV.out O[k] (List.getElem_mem hlt)
      have hsn : ∀ s, fromO (O.take (k + 1)) s = if s = path O[k].a O[k].b.toNat then some 1 else fromO (O.take k) s := fun s => by rw [List.take_succ_eq_append_getElem hlt]; exact fromO_snoc (O.take k) O[k] s
      clear hcell
      generalize O[k] = p at hsm hck d0 d1 hsn
      obtain ⟨pa, pb⟩ := p
      simp only at hsm hck d0 d1 hsn
      have HSN := Lib.hid hsn
      have HCK := Lib.hid hck
      have HBX := Lib.hid (heap_alloc_new wr (.cells #[.int .u32 pa, .int .i64 pb] 25))
      have HUA := Lib.hid (HU.out.grow ((Below.refl _ _).alloc (Nat.le_refl _) (.cells #[.int .u32 pa, .int .i64 pb] 25)))
      clear hsn hck
      go_upto_region 12 with (fail)
      generalize wr.alloc (.cells #[.int .u32 pa, .int .i64 pb] 25) = wa at HUA HBX ⊢
      generalize wr.heap.size = bx at HBX ⊢
      have b0 : wa.cell? ⟨bx, 0, none⟩ = some (.int .u32 pa) := cell_of_row wa bx 0 _ 25 (0, 0) HBX.out
      have b1 : wa.cell? ⟨bx, 1, none⟩ = some (.int .i64 pb) := cell_of_row wa bx 1 _ 25 (0, 0) HBX.out
      clear d0 d1
      go_wp2_with fail
      refine (putP_any ub y u pa pb 1 hsm HCK.out (by omega) hy0 _ HUA.out.pr).mono ?_
      rintro e w7 ⟨rfl, hp⟩
      obtain ⟨u', y', hU7, hg7, hy1, hy2⟩ := HUA.out.put hp
      have HU7 := Lib.hid hU7
      have HG7 := Lib.hid (show ∀ s, u'.bt.get s = fromO (O.take (k + 1)) s from fun s => by rw [hg7, HSN.out, HGT.out])
      clear hp hU7 hg7
      go_wp2_with fail
      go_roundw
      case rel => exact ⟨k + 1, u', y', by omega, by go_num, HU7.out, by omega, by omega, HG7.out⟩
      case measure => simp [intOf]; omega
    · obtain rfl : k = O.length := by omega
      rw [List.take_length] at HGT
      have HRL := Lib.hid (R3.out.below' (HU.out.below HB36.out (by omega)))
      go_wp2_with fail
      refine (cloneE_any A3 _ c3 L _ HRL.out (by omega)).mono ?_
      rintro e w8 ⟨v8, rfl, hrow, hnn, hb8⟩
      obtain ⟨B, cB, rfl, hcB, hB, hrev⟩ := reversedE wr.heap.size v8 L w8 hrow (by omega) (fun e he => R3.out.small e he) hb8.size
      have HBN := Lib.hid hB
      have HREV := Lib.hid hrev
      have HB8 := Lib.hid hb8
      clear hrow hnn hb8 hB hrev HRL
      go_wp2_with fail
      refine HREV.out.mono ?_
      rintro e w9 ⟨rfl, hR9, hb9⟩
      have HB9 := Lib.hid (show Below wr.heap.size wr w9 from HB8.out.trans hb9)
      have R9 := Lib.hid hR9
      have HU9 := Lib.hid (HU.out.grow HB9.out)
      have HBD := Lib.hid (show ∀ b o x, B = some ⟨b, o, x⟩ → b ∉ ub :: u.dom ∧ b < w9.heap.size from fun b o x e => by
        obtain ⟨q1, q2⟩ := HBN.out b o x e
        refine ⟨fun hx => ?_, Nat.lt_of_lt_of_le q2 hb9.size⟩
        have := HU.out.pr.lt b hx
        omega)
      clear hR9 hb9 HREV HB8 HBN
      go_wp2_with fail
      go_loopw [68] (fun i ws => ∃ (k : Nat) (u : PT) (y : Int), k ≤ L.length ∧ i = .int .i64 k ∧ Us w6 ub u y ws ∧ 0 ≤ y ∧ y ≤ 3 + k ∧ (∀ s, u.bt.get s = overM (bOf (L.reverse.take k)).get (fromO O) s) ∧ ReadsE ws B L.length L.reverse ∧ ∀ b o x, B = some ⟨b, o, x⟩ → b ∉ ub :: u.dom ∧ b < ws.heap.size) (fun i _ => L.length - (intOf i).toNat)
      case atStart => exact ⟨0, u, y, by omega, rfl, HU9.out, by omega, by omega, fun s => by rw [HGT.out]; simp [overM, bOf, BT.get], R9.out, HBD.out⟩
      case round =>
        clear HU9 HGT R9 HBD HU
        obtain ⟨k, u, y, hk, rfl, hU, hy0, hyk, hg, hRB, hBD⟩ := hrel
        have HU := Lib.hid hU
        have HGT := Lib.hid hg
        have HRB := Lib.hid hRB
        have HBD := Lib.hid hBD
        clear hU hg hRB hBD
        by_cases hlt : k < L.length
        · obtain ⟨b, off, rfl, hbl, hcell⟩ := HRB.out.at_ (by omega)
          have hkr : k < L.reverse.length := by rw [List.length_reverse]; exact hlt
          obtain ⟨d0, d1, d2⟩ := hcell k hkr
          have hmem : L.reverse[k] ∈ L := List.mem_reverse.1 (List.getElem_mem hkr)
          have hsm := R3.out.small _ hmem
          have hck := HOK.out _ hmem
          have hsn : ∀ s, overM (bOf (L.reverse.take (k + 1))).get (fromO O) s = if s = path L.reverse[k].a L.reverse[k].b.toNat then some L.reverse[k].v else overM (bOf (L.reverse.take k)).get (fromO O) s := fun s => by rw [List.take_succ_eq_append_getElem hkr]; exact over_snoc (L.reverse.take k) L.reverse[k] (fromO O) s
          clear hcell hmem
          generalize L.reverse[k] = en at hsm hck d0 d1 d2 hsn
          obtain ⟨ea, eb, ev⟩ := en
          simp only at hsm hck d0 d1 d2 hsn
          have HSN := Lib.hid hsn
          have HCK := Lib.hid hck
          have hA : Below wr.heap.size wr (wr.alloc (.cells #[.int .u32 ea, .int .i64 eb, .int .i64 ev] 36)) := (Below.refl _ _).alloc (Nat.le_refl _) _
          have HBX := Lib.hid (heap_alloc_new wr (.cells #[.int .u32 ea, .int .i64 eb, .int .i64 ev] 36))
          have HUA := Lib.hid (HU.out.grow hA)
          have HRA := Lib.hid (HRB.out.below' hA)
          have HDA := Lib.hid (show b ∉ ub :: u.dom ∧ b < (wr.alloc (.cells #[.int .u32 ea, .int .i64 eb, .int .i64 ev] 36)).heap.size from ⟨(HBD.out b off none rfl).1, Nat.lt_of_lt_of_le hbl hA.size⟩)
          clear hsn hck hA
          go_upto_region 19 with (fail)
          generalize wr.alloc (.cells #[.int .u32 ea, .int .i64 eb, .int .i64 ev] 36) = wa at HUA HBX HRA HDA ⊢
          generalize wr.heap.size = bx at HBX ⊢
          have b0 : wa.cell? ⟨bx, 0, none⟩ = some (.int .u32 ea) := cell_of_row wa bx 0 _ 36 (0, 0) HBX.out
          have b1 : wa.cell? ⟨bx, 1, none⟩ = some (.int .i64 eb) := cell_of_row wa bx 1 _ 36 (0, 0) HBX.out
          have b2 : wa.cell? ⟨bx, 2, none⟩ = some (.int .i64 ev) := cell_of_row wa bx 2 _ 36 (0, 0) HBX.out
          clear d0 d1 d2
          go_wp2_with fail
          refine (putP_any ub y u ea eb ev hsm HCK.out (by omega) hy0 _ HUA.out.pr).mono ?_
          rintro e w7 ⟨rfl, hp⟩
          obtain ⟨u', y', q1, q2, q3, q4, hy1, hy2⟩ := hp
          have HU7 := Lib.hid (HUA.out.step q1 q3 q4)
          have HG7 := Lib.hid (show ∀ s, u'.bt.get s = overM (bOf (L.reverse.take (k + 1))).get (fromO O) s from fun s => by rw [q2, HSN.out, HGT.out])
          have HR7 := Lib.hid (HRA.out.kept q4 fun b' o' x' e => by
            simp only [Option.some.injEq, Addr.mk.injEq] at e
            obtain ⟨rfl, _⟩ := e
            exact HDA.out.1)
          have HD7 := Lib.hid (show ∀ b' o x, some (⟨b, off, none⟩ : Addr) = some ⟨b', o, x⟩ → b' ∉ ub :: u'.dom ∧ b' < w7.heap.size from fun b' o x e => by
            simp only [Option.some.injEq, Addr.mk.injEq] at e
            obtain ⟨rfl, _⟩ := e
            refine ⟨fun hx => ?_, Nat.lt_of_lt_of_le HDA.out.2 q4.size⟩
            simp only [List.mem_cons] at hx
            rcases hx with hx | hx
            · exact HDA.out.1 (by simp [hx])
            · rcases q3 b hx with g | g
              · exact HDA.out.1 (by simp [g])
              · have := HDA.out.2
                omega)
          clear q1 q2 q3 q4
          go_wp2_with fail
          go_roundw
          case rel => exact ⟨k + 1, u', y', by omega, by go_num, HU7.out, by omega, by omega, HG7.out, HR7.out, HD7.out⟩
          case measure => simp [intOf]; omega
        · obtain rfl : k = L.length := by omega
          have HG3 := Lib.hid (show ∀ s, u.bt.get s = overM (bOf L).get (restO O 0) s from fun s => by
            rw [HGT.out, List.take_of_length_le (by rw [List.length_reverse]; exact Nat.le_refl _), bOf_reverse HPW.out, over_start])
          clear HGT HRB HBD
          go_wp2_with fail
          go_loopw [82] (fun i ws => ∃ (k : Nat) (u : PT) (y : Int), k ≤ O.length ∧ i = .int .i64 k ∧ Us w6 ub u y ws ∧ -(k : Int) ≤ y ∧ y ≤ 10 ∧ ∀ s, u.bt.get s = overM (bOf L).get (restO O k) s) (fun i _ => O.length - (intOf i).toNat)
          case atStart => exact ⟨0, u, y, by omega, rfl, HU.out, by omega, by omega, HG3.out⟩
          case round =>
            clear HU HG3
            obtain ⟨k, u, y, hk, rfl, hU, hy0, hyk, hg⟩ := hrel
            have HU := Lib.hid hU
            have HGT := Lib.hid hg
            clear hU hg
            by_cases hlt : k < O.length
            · obtain ⟨b, off, rfl, hbl, hcell⟩ := (R6.out.kept HU.out.kp HN6.out).at_ (by omega)
              obtain ⟨d0, d1⟩ := hcell k hlt
              obtain ⟨hsm, hck⟩ := HOV.out O[k] (List.getElem_mem hlt)
              have hrs : ∀ v, (bOf L).get (pathO O[k]) = some v → overM (bOf L).get (restO O (k + 1)) = overM (bOf L).get (restO O k) := fun v h => rest_same hlt h
              have hrc : (bOf L).get (pathO O[k]) = none → cutM (overM (bOf L).get (restO O k)) O[k].a O[k].b = overM (bOf L).get (restO O (k + 1)) := fun h => rest_cut hlt hck h
              clear hcell
              generalize O[k] = p at hsm hck d0 d1 hrs hrc
              obtain ⟨j, hj1, hj2⟩ := Val_of_chk hsm hck
              have HNA := Lib.hid (fun h => none_of_any (p := p) HVA.out ⟨j, hj1, hj2⟩ h)
              have HSA := Lib.hid (fun h => some_of_any (p := p) HPW.out h)
              obtain ⟨pa, pb⟩ := p
              simp only at hsm d0 d1
              have HRS := Lib.hid hrs
              have HRC := Lib.hid hrc
              have HBX := Lib.hid (heap_alloc_new wr (.cells #[.int .u32 pa, .int .i64 pb] 25))
              have HUA := Lib.hid (HU.out.grow ((Below.refl _ _).alloc (Nat.le_refl _) (.cells #[.int .u32 pa, .int .i64 pb] 25)))
              clear hck hj1 hj2 hrs hrc
              go_upto_region 25 with (fail)
              generalize wr.alloc (.cells #[.int .u32 pa, .int .i64 pb] 25) = wa at HUA HBX ⊢
              generalize wr.heap.size = bx at HBX ⊢
              have hbx := (Array.getElem?_eq_some_iff.1 HBX.out).1
              have b0 : wa.cell? ⟨bx, 0, none⟩ = some (.int .u32 pa) := cell_of_row wa bx 0 _ 25 (0, 0) HBX.out
              have b1 : wa.cell? ⟨bx, 1, none⟩ = some (.int .i64 pb) := cell_of_row wa bx 1 _ 25 (0, 0) HBX.out
              have HRA := Lib.hid (R3.out.below' (HUA.out.below HB36.out (by omega)))
              clear d0 d1
              go_wp2_with fail
              refine (containsFE_small A3 _ c3 L (fun x => eqP ⟨x.a, x.b⟩ ⟨pa, pb⟩) 52 #[.pointer (some ⟨bx, 0, none⟩)] _ HRA.out enters52 (fun W x hx hW => (clo52 ⟨pa, pb⟩ bx x W hx ((hW.cell (p := ⟨bx, 0, none⟩) hbx).trans b0) ((hW.cell (p := ⟨bx, 1, none⟩) hbx).trans b1)).mono fun _ _ ⟨g1, g2⟩ => ⟨g1, bthen hW hW.size g2⟩)).mono ?_
              rintro e w7 ⟨rfl, hb7⟩
              have HU7 := Lib.hid (HUA.out.grow hb7)
              have b0 : w7.cell? ⟨bx, 0, none⟩ = some (.int .u32 pa) := (hb7.cell (p := ⟨bx, 0, none⟩) hbx).trans b0
              have b1 : w7.cell? ⟨bx, 1, none⟩ = some (.int .i64 pb) := (hb7.cell (p := ⟨bx, 1, none⟩) hbx).trans b1
              clear hb7
              cases hany : (L.any fun x => eqP ⟨x.a, x.b⟩ ⟨pa, pb⟩) with
              | true =>
                obtain ⟨v, hv⟩ := HSA.out hany
                have HG7 := Lib.hid (show ∀ s, u.bt.get s = overM (bOf L).get (restO O (k + 1)) s from fun s => by rw [HGT.out, HRS.out v hv])
                clear hv hany
                go_wp2_with fail
                go_roundw
                case rel => exact ⟨k + 1, u, y, by omega, by go_num, HU7.out, by omega, by omega, HG7.out⟩
                case measure => simp [intOf]; omega
              | false =>
                have HG7 := Lib.hid (show cutM u.bt.get pa pb = overM (bOf L).get (restO O (k + 1)) from by
                  rw [show u.bt.get = overM (bOf L).get (restO O k) from funext HGT.out]
                  exact HRC.out (HNA.out hany))
                clear hany
                go_wp2_with fail
                refine (delP_any ub y u pa pb hsm (by omega) (by omega) _ HU7.out.pr).mono ?_
                rintro e w8 ⟨rfl, hp⟩
                obtain ⟨u', y', hU8, hg8, hy1, hy2⟩ := HU7.out.del hp
                have HU8 := Lib.hid hU8
                have HG8 := Lib.hid (show ∀ s, u'.bt.get s = overM (bOf L).get (restO O (k + 1)) s from fun s => by rw [hg8, HG7.out])
                clear hp hU8 hg8
                go_wp2_with fail
                go_roundw
                case rel => exact ⟨k + 1, u', y', by omega, by go_num, HU8.out, by omega, by omega, HG8.out⟩
                case measure => simp [intOf]; omega
            · obtain rfl : k = O.length := by omega
              have HTZ := Lib.hid (HT4.out.grow (HU.out.below HB46.out hub4))
              have HBZ := Lib.hid (HU.out.below HB6.out (Nat.le_trans hw4 hub4))
              have HPE := Lib.hid (show prefs u = prefs t from prefs_eq HU.out.pr.rep HTZ.out.rep (BT.canon HU.out.pr.wf HTZ.out.wf fun s => by rw [HGT.out, over_end, HBT.out]))
              go_wp2_with fail
              refine (shapeAll_any tb t _ _ HTZ.out (by omega)).mono ?_
              rintro e w7 ⟨A7, c7, rfl, hc7, hR7, hb7⟩
              have HU7 := Lib.hid (HU.out.grow hb7)
              have R7 := Lib.hid hR7
              have HB7 := Lib.hid (bthen HBZ.out HBZ.out.size hb7)
              clear hR7 hb7 hc7
              go_wp2_with fail
              refine (shapeAll_any ub u _ _ HU7.out.pr (by rw [HPE.out]; omega)).mono ?_
              rw [HPE.out]
              rintro e w8 ⟨A8, c8, rfl, hc8, hR8, hb8⟩
              have R8 := Lib.hid hR8
              have R78 := Lib.hid (R7.out.below hb8)
              have HB8 := Lib.hid (bthen HB7.out HB7.out.size hb8)
              clear hR8 hb8 hc8
              go_wp2_with fail
              haveI hde : Decidable (prefs t = prefs t) := isTrue rfl
              refine (equalP_any A7 A8 _ _ c7 c8 (prefs t) (prefs t) _ R78.out R8.out).mono ?_
              rw [decide_eq_true rfl]
              clear hde
              rintro e w9 ⟨rfl, hb9⟩
              have HB9 := Lib.hid (bthen HB8.out HB8.out.size hb9)
              clear hb9
              go_wp2_with fail
              go_ret
              exact ⟨rfl, HB9.out⟩
end Go.Proofs.YtaknlphmplimhaaDoor
