/- The walk of TrieOrder, which returns true; the slice is read, and the world holds the variable ten. -/
import Derived.Test.YtaknlphmplimhaaDoorDe
import Derived.Test.YtaknlphmplimhaaDoorUd
import Derived.Test.YtaknlphmplimhaaDoorTg
import Derived.Test.YtaknlphmplimhaaDoorTh
import Derived.Test.YtaknlphmplimhaaDoorTi
import Derived.BigRegion
import Derived.RegionTactic
import Derived.ChangeAlike
set_option linter.unusedVariables false
set_option linter.unusedSimpArgs false
namespace Go.Proofs.YtaknlphmplimhaaDoor
open Go.RowKit Go.Proofs AT Go.Sort
theorem at_eq (at_ : Int) (n : Nat) (h0 : 0 < n) (h6 : n ≤ 6) : ∃ K : Nat, wrap64 ((IntKind.u64.wrap at_).tmod (n : Int)) = (K : Int) ∧ K < n := by
  have h1 : 0 ≤ IntKind.u64.wrap at_ := by
    simp only [IntKind.wrap, IntKind.bits, IntKind.signed]
    simp
    exact Int.emod_nonneg _ (by decide)
  obtain ⟨m, hm⟩ := Int.eq_ofNat_of_zero_le h1
  rw [hm]
  refine ⟨m % n, ?_, Nat.mod_lt _ h0⟩
  have hlt := Nat.mod_lt m h0
  rw [show ((m : Int)).tmod (n : Int) = ((m % n : Nat) : Int) from rfl]
  unfold wrap64
  omega
theorem held3 {w : World} {g : Nat} {es : List En} (h : HoldsK cell3 3 w g 0 es.toArray) {i : Nat} (hi : i < es.length) :
    w.cell? ⟨g, 0 + i * 3, none⟩ = some (.int .u32 es[i].a) ∧ w.cell? ⟨g, 0 + i * 3 + 1, none⟩ = some (.int .i64 es[i].b) ∧ w.cell? ⟨g, 0 + i * 3 + 2, none⟩ = some (.int .i64 es[i].v) ∧
      w.frozen? ⟨g, 0 + i * 3, none⟩ = false ∧ w.frozen? ⟨g, 0 + i * 3 + 1, none⟩ = false ∧ w.frozen? ⟨g, 0 + i * 3 + 2, none⟩ = false := by
  have hc : ∀ r, r < 3 → w.cell? ⟨g, 0 + i * 3 + r, none⟩ = some ((cell3 es[i])[r]!) ∧ w.frozen? ⟨g, 0 + i * 3 + r, none⟩ = false := fun r hr => by
    have h0 := h (i * 3 + r) (by rw [size_flatK]; simp; omega)
    have h1 := h0.1
    rw [get_flatK _ _ _ _ (by simp; omega)] at h1
    rw [show (i * 3 + r) / 3 = i by omega, show (i * 3 + r) % 3 = r by omega] at h1
    rw [show es.toArray[i]! = es[i] from by rw [getElem!_pos _ _ (by simpa using hi)]; simp] at h1
    rw [Nat.add_assoc]
    exact ⟨h1, h0.2⟩
  exact ⟨(hc 0 (by decide)).1, (hc 1 (by decide)).1, (hc 2 (by decide)).1, (hc 0 (by decide)).2, (hc 1 (by decide)).2, (hc 2 (by decide)).2⟩
theorem swapW {w : World} {g : Nat} {d : Array En} {K : Nat} {x y : En} (hH : HoldsK cell3 3 w g 0 d) (h0 : 0 < d.size) (hK : K < d.size) (hx : d[K]! = x) (hy : d[0]! = y) :
    ((((((w.setCell ⟨g, 0, none⟩ (.int .u32 x.a)).setCell ⟨g, 1, none⟩ (.int .i64 x.b)).setCell ⟨g, 2, none⟩ (.int .i64 x.v)).setCell ⟨g, K * 3, none⟩ (.int .u32 y.a)).setCell ⟨g, K * 3 + 1, none⟩ (.int .i64 y.b)).setCell ⟨g, K * 3 + 2, none⟩ (.int .i64 y.v)).drew =
      putRowK cell3 3 (Sort.ahead w 1) g 0 (swp d 0 K) := by
  have h := swap_worldK cell3 3 (fun _ => rfl) w 0 0 g 0 d 0 K h0 hK
  rw [hx, hy, Sort.ahead_zero, putRowK_self cell3 3 w g 0 d hH] at h
  have h2 := congrArg World.drew h
  simp only [Nat.zero_add, Nat.zero_mul] at h2
  exact h2
theorem swp_mem {d : Array En} {K : Nat} (h0 : 0 < d.size) (hK : K < d.size) (e : En) : e ∈ (swp d 0 K).toList ↔ e ∈ d.toList := by
  have hs : (swp d 0 K).size = d.size := by simp [swp]
  have hg : ∀ t, t < d.size → (swp d 0 K)[t]! = if t = K then d[0]! else if t = 0 then d[K]! else d[t]! := fun t ht => by
    unfold swp
    by_cases h1 : t = K
    · subst h1; rw [getElem!_set_same _ _ _ (by simpa using hK)]; simp
    · rw [getElem!_set_other _ _ _ _ h1, if_neg h1]
      by_cases h2 : t = 0
      · subst h2; rw [getElem!_set_same _ _ _ h0]; simp
      · rw [getElem!_set_other _ _ _ _ h2, if_neg h2]
  have hm : ∀ (a : Array En), e ∈ a.toList ↔ ∃ t, t < a.size ∧ a[t]! = e := fun a => by
    rw [List.mem_iff_getElem]
    constructor
    · rintro ⟨t, ht, rfl⟩; exact ⟨t, by simpa using ht, by rw [getElem!_pos a t (by simpa using ht)]; simp⟩
    · rintro ⟨t, ht, rfl⟩; exact ⟨t, by simpa using ht, by rw [getElem!_pos a t ht]; simp⟩
  rw [hm, hm, hs]
  constructor
  · rintro ⟨t, ht, he⟩
    rw [hg t ht] at he
    by_cases h1 : t = K
    · rw [if_pos h1] at he; exact ⟨0, h0, he⟩
    · rw [if_neg h1] at he
      by_cases h2 : t = 0
      · rw [if_pos h2] at he; exact ⟨K, hK, he⟩
      · rw [if_neg h2] at he; exact ⟨t, ht, he⟩
  · rintro ⟨t, ht, he⟩
    by_cases h1 : t = 0
    · subst h1; exact ⟨K, hK, by rw [hg K hK, if_pos rfl]; exact he⟩
    · by_cases h2 : t = K
      · subst h2; exact ⟨0, h0, by rw [hg 0 h0, if_neg (Ne.symm h1), if_pos rfl]; exact he⟩
      · exact ⟨t, ht, by rw [hg t ht, if_neg h2, if_neg h1]; exact he⟩
/-- A table built of entries that are listed again holds what the table held. -/
theorem builtM_some : ∀ (n : Nat) (es : List En), es.length = n → (∀ e, e ∈ es → chkE e.a e.b = 0) → (∀ x y, x ∈ es → y ∈ es → path x.a x.b.toNat = path y.a y.b.toNat → x.v = y.v) → ∀ x, x ∈ es → builtM es (path x.a x.b.toNat) = some x.v
  | 0, es, hn, _, _, x, hx => by rw [List.length_eq_zero_iff.1 hn] at hx; simp at hx
  | n + 1, es, hn, hc, hu, x, hx => by
    have hne : es ≠ [] := by intro e; rw [e] at hn; simp at hn
    obtain ⟨l, y, rfl⟩ : ∃ l y, es = l ++ [y] := ⟨es.dropLast, es.getLast hne, (List.dropLast_concat_getLast hne).symm⟩
    have hl : l.length = n := by simpa using hn
    unfold builtM
    rw [List.foldl_append]
    show putM (builtM l) y _ = _
    unfold putM
    by_cases hp : path x.a x.b.toNat = path y.a y.b.toNat
    · rw [if_pos ⟨hc y (by simp), hp⟩, hu x y hx (by simp) hp]
    · rw [if_neg (fun h => hp h.2)]
      have hxl : x ∈ l := by
        rcases List.mem_append.1 hx with h | h
        · exact h
        · simp only [List.mem_singleton] at h; subst h; exact absurd rfl hp
      exact builtM_some n l hl (fun e he => hc e (by simp [he])) (fun a b ha hb => hu a b (by simp [ha]) (by simp [hb])) x hxl
theorem rebuilt {t t' : AT} {L O : List En} (hL : ents t 0 0 = L) (hm : ∀ e, e ∈ O ↔ e ∈ L) (hg : t'.get = builtM O) (hbig : ∀ q, t.get q ≠ none → ∃ a k, Val a k ∧ q = path a k) : ∀ q, t'.get q = t.get q := by
  subst hL
  have hO : ∀ e, e ∈ O → ∃ k : Nat, e.b = k ∧ Val e.a k ∧ t.get (path e.a k) = some e.v := fun e he => (mem_all t e).1 ((hm e).1 he)
  have hc : ∀ e, e ∈ O → chkE e.a e.b = 0 := fun e he => by
    obtain ⟨k, h1, h2, _⟩ := hO e he
    rw [h1]; exact (Val_chk h2.1).1 h2
  have hv : ∀ e, e ∈ O → t.get (path e.a e.b.toNat) = some e.v := fun e he => by
    obtain ⟨k, h1, h2, h3⟩ := hO e he
    rw [h1]; exact h3
  intro q
  rw [hg]
  cases hq : builtM O q with
  | some v =>
    obtain ⟨x, hx, _, hp, hxv⟩ := builtM_mem O q v hq
    rw [← hp, hv x hx, hxv]
  | none =>
    cases ht : t.get q with
    | none => rfl
    | some v =>
      obtain ⟨a, k, hV, rfl⟩ := hbig q (by rw [ht]; simp)
      have hx : (⟨a, k, v⟩ : En) ∈ O := (hm _).2 ((mem_all t _).2 ⟨k, rfl, hV, ht⟩)
      have := builtM_some O.length O rfl hc (fun x y h1 h2 hp => by
        have e1 := hv x h1
        have e2 := hv y h2
        rw [hp, e2] at e1
        injection e1 with e1
        exact e1.symm) _ hx
      simp only [Int.toNat_natCast] at this
      rw [this] at hq
      cases hq
theorem keys_of_built {t : AT} {es : List En} (hsm : ∀ e, e ∈ es → e.a < 4294967296) (h : t.get = builtM es) : ∀ q, t.get q ≠ none → ∃ a k, Val a k ∧ q = path a k := by
  intro q hq
  rw [h] at hq
  cases hb : builtM es q with
  | none => exact absurd hb hq
  | some v =>
    obtain ⟨x, hx, hc, hp, _⟩ := builtM_mem es q v hb
    obtain ⟨k, hk, hV⟩ := Val_of_chk (hsm x hx) hc
    rw [hk] at hp
    exact ⟨x.a, k, hV, by simpa using hp.symm⟩
set_option maxRecDepth 100000 in
set_option maxHeartbeats 8000000 in
theorem torder_any (A : Option Addr) (n c : Nat) (es : List En) (at_ : Int) (w : World) (hR : ReadsE w A n es) (hc : n ≤ c)
    (h0 : w.cell? ⟨0, 0, none⟩ = some (.int .u32 167772160)) (h1 : w.cell? ⟨0, 1, none⟩ = some (.int .i64 8)) :
    Calls Tryd.prog 6 #[.slice A n c, .int .i64 at_] w fun e w' => e = .returned (.bool true) ∧ Below w.heap.size w w' := by
  have hl := World.block_lt_of_cell? w _ h0
  simp only at hl
  have HR := Lib.hid hR
  clear hR
  go_enter Tryd.func6, Tryd.ntmps6
  go_wp2_with fail
  refine (trieLives_true _ (by go_simp) (by go_simp)).mono ?_
  rintro e w1 ⟨rfl, hb1⟩
  have HB1 := Lib.hid hb1
  have HR1 := Lib.hid (HR.out.below HB1.out)
  clear hb1
  go_wp2_with fail
  refine (built_any A n c 6 es _ HR1.out hc (by omega)).mono ?_
  rintro e w2 ⟨rfl, hb2, t, z, hT, hz0, hz1, hget, hd⟩
  have HB2 := Lib.hid (bthen HB1.out HB1.out.size hb2)
  have htk : (es.take 6).length ≤ 6 := by rw [List.length_take]; omega
  have hsm6 : ∀ e, e ∈ es.take 6 → e.a < 4294967296 := fun e he => HR.out.small e (List.mem_of_mem_take he)
  have HL6 := Lib.hid (Nat.le_trans (ents_len hsm6 hget) htk)
  have HKEY := Lib.hid (keys_of_built hsm6 hget)
  have HT := Lib.hid hT
  clear hT hd hb2 hget HR1 hz0 hz1 htk hsm6
  generalize w1.heap.size = tb at HT ⊢
  go_wp2_with fail
  refine (listAll_any tb t z _ HT.out (Nat.le_trans HL6.out (by decide))).mono ?_
  rintro e w3 ⟨A3, c3, rfl, hc3, hR3, hb3⟩
  have HB3 := Lib.hid (bthen HB2.out HB2.out.size hb3)
  have R3 := Lib.hid hR3
  clear hb3 hR3 hc3 HB1 HB2 HT
  have SML := Lib.hid (ents_small t 0 0 Val0)
  have SRT := Lib.hid (ents_sorted t 0 0 Val0)
  have HLL := HL6.out
  generalize hLL : ents t 0 0 = L at HL6 R3 SML SRT HLL ⊢
  have HEL := Lib.hid hLL
  clear hLL
  go_wp2_with fail
  refine (cloneE_any A3 _ c3 L _ R3.out (by omega)).mono ?_
  rintro e w4 ⟨v4, rfl, hrow, hnn, hb4⟩
  have HB34 := Lib.hid hb4
  rcases hrow.2 with ⟨rfl, hz⟩ | ⟨g, cap, cur, rfl, hgb, hgh, hle, hmx, hcs, htk⟩
  · have hLn : L = [] := List.length_eq_zero_iff.1 hz
    subst hLn
    clear hrow hnn hb4
    go_wp2_with fail
    refine (show Calls Tryd.prog 37 #[.slice none 0 0] w4 (fun e w' => e = .returned (.tuple #[]) ∧ w' = w4) from AnyQ.slices_Reverse_empty Sh.reverseE none 0 w4).mono ?_
    rintro e w5 ⟨rfl, rfl⟩
    go_wp2_with fail
    have BW := Lib.hid HB34.out
    have RO := Lib.hid (readsE_nil w5 none)
    have hcap : (0 : Nat) ≤ 0 := Nat.le_refl _
    have hOl : ([] : List En).length ≤ 6 := by simp
    have HSRT := Lib.hid (show ∀ i (h : i < ([] : List En).length), 0 < i → 0 ≤ cmpP ([] : List En)[i].a ([] : List En)[i].b ([] : List En)[i - 1].a ([] : List En)[i - 1].b from fun i h hi => by
      have := List.pairwise_iff_getElem.1 SRT.out (i - 1) i (by omega) h (by omega)
      have hneg := cmpP_neg ([] : List En)[i - 1].a ([] : List En)[i - 1].b ([] : List En)[i].a ([] : List En)[i].b
      omega)
    go_wp2_with fail
    refine (sortedE_any A3 _ c3 ([] : List En) _ (R3.out.below' BW.out) (by omega) (fun i h hi => by have := HSRT.out i h hi; omega)).mono ?_
    rintro e w7 ⟨rfl, hb7⟩
    have BW7 := Lib.hid (bthen BW.out BW.out.size hb7)
    replace RO := Lib.hid (RO.out.below' hb7)
    clear hb7
    go_wp2_with fail
    refine (built_any (none) (0) (0) 6 ([] : List En) _ RO.out hcap (by omega)).mono ?_
    rintro e w8 ⟨rfl, hb8, t2, z2, hT2, _, _, hget2, _⟩
    rw [List.take_of_length_le hOl] at hget2
    have BW8 := Lib.hid (bthen BW7.out BW7.out.size hb8)
    have HE2 := Lib.hid (show ents t2 0 0 = ([] : List En) from (ents_same t2 t 0 0 (rebuilt HEL.out (fun _ => Iff.rfl) hget2 HKEY.out)).trans HEL.out)
    have HT2 := Lib.hid hT2
    clear hT2 hget2 hb8
    generalize w7.heap.size = tb2 at HT2 ⊢
    go_wp2_with fail
    refine (listAll_any tb2 t2 z2 _ HT2.out (by rw [HE2.out]; omega)).mono ?_
    rw [HE2.out]
    rintro e w9 ⟨A9, c9, rfl, _, hR9, hb9⟩
    have BW9 := Lib.hid (bthen BW8.out BW8.out.size hb9)
    have R9 := Lib.hid hR9
    clear hR9 hb9
    go_wp2_with fail
    refine (equalE_same R9.out (R3.out.below' BW9.out) rfl).mono ?_
    rintro e wa ⟨rfl, hba⟩
    go_wp2_with fail
    go_ret
    exact ⟨rfl, bthen HB3.out HB3.out.size (bthen BW9.out BW9.out.size hba)⟩
  · have HH := Lib.hid hrow.holds
    have hgl : g < w4.heap.size := (Array.getElem?_eq_some_iff.1 hgh).1
    have HGF := Lib.hid (show w3.heap.size ≤ g from hgb)
    clear hrow hnn hb4 hgb hgh hmx hcs htk
    go_wp2_with fail
    refine (reverseE_any g cap L _ HH.out (by omega)).mono ?_
    rintro e w5 ⟨rfl, hH5, hK5⟩
    have H5 := Lib.hid hH5
    have K5 := Lib.hid hK5
    clear hH5 hK5
    have hRl : L.reverse.length = L.length := List.length_reverse
    have hszl : L.reverse.toArray.size = L.length := by simp
    by_cases hn1 : 1 < L.length
    · go_wp2_with fail
      obtain ⟨K, hK, hKl⟩ := at_eq at_ L.length (by omega) (by omega)
      rw [hK]
      have hcK := held3 H5.out (i := K) (by rw [hRl]; exact hKl)
      have hc0 := held3 H5.out (i := 0) (by rw [hRl]; omega)
      clear hK
      generalize hx : L.reverse[K]'(by rw [hRl]; exact hKl) = x at hcK
      generalize hy : L.reverse[0]'(by rw [hRl]; omega) = y at hc0
      have HX := Lib.hid (show L.reverse.toArray[K]! = x by rw [getElem!_pos _ _ (by rw [hszl]; exact hKl), ← hx]; simp)
      have HY := Lib.hid (show L.reverse.toArray[0]! = y by rw [getElem!_pos _ _ (by rw [hszl]; omega), ← hy]; simp)
      clear hx hy
      obtain ⟨x0, x1, x2, fx0, fx1, fx2⟩ := hcK
      obtain ⟨y0, y1, y2, fy0, fy1, fy2⟩ := hc0
      simp only [Nat.zero_add, Nat.zero_mul] at x0 x1 x2 fx0 fx1 fx2 y0 y1 y2 fy0 fy1 fy2
      have hKi : (K : Int) < L.length := by omega
      have h0i : (0 : Int) < L.length := by omega
      have h0n : 0 < L.length := by omega
      have SW := Lib.hid (swapW H5.out (by rw [hszl]; exact h0n) (by rw [hszl]; exact hKl) HX.out HY.out)
      have HW6 := Lib.hid (show HoldsK cell3 3 (putRowK cell3 3 (Sort.ahead w5 1) g 0 (swp L.reverse.toArray 0 K)) g 0 (swp L.reverse.toArray 0 K).toList.toArray from by
        rw [Array.toArray_toList]
        exact holdsK_putRowK cell3 3 (Sort.ahead w5 1) g 0 L.reverse.toArray _ (holdsK_ahead cell3 3 w5 1 g 0 _ H5.out) (by simp [swp]))
      have KW6 := Lib.hid (keep_putRowE w5 1 g (swp L.reverse.toArray 0 K))
      have MO := Lib.hid (show ∀ e : En, e ∈ (swp L.reverse.toArray 0 K).toList ↔ e ∈ L from fun e => by rw [swp_mem (by rw [hszl]; exact h0n) (by rw [hszl]; exact hKl)]; simp)
      have hOL : (swp L.reverse.toArray 0 K).toList.length = L.length := by simp [swp]
      generalize hO : (swp L.reverse.toArray 0 K).toList = O at HW6 MO hOL
      generalize hP : (putRowK cell3 3 (Sort.ahead w5 1) g 0 (swp L.reverse.toArray 0 K)) = w6 at SW HW6 KW6
      have BW := Lib.hid (show Below w3.heap.size w3 w6 from HB34.out.trans ((K5.out.below (Nat.le_trans HB34.out.size (Nat.le_refl _)) (fun x hx => by simp only [List.mem_singleton] at hx; subst hx; exact HGF.out)).trans (KW6.out.below (Nat.le_trans HB34.out.size K5.out.size) (fun x hx => by simp only [List.mem_singleton] at hx; subst hx; exact HGF.out))))
      have RO := Lib.hid (show ReadsE w6 (some ⟨g, 0, none⟩) L.length O from hOL ▸ readsE_of_holds HW6.out (Nat.lt_of_lt_of_le hgl (Nat.le_trans K5.out.size KW6.out.size)) (by omega) (fun e he => SML.out e ((MO.out e).1 he)))
      have hcap : L.length ≤ cap := hle
      have hOl : O.length ≤ 6 := by omega
      clear hO hP H5 HW6 KW6 HX HY
      cases K with
      | zero =>
        simp only [Nat.zero_mul, Nat.zero_add] at x0 x1 x2 fx0 fx1 fx2 SW
        obtain rfl : x = y := by
          have e := x0.symm.trans y0
          have e1 := x1.symm.trans y1
          have e2 := x2.symm.trans y2
          simp only [Option.some.injEq, Value.int.injEq, true_and, Int.natCast_inj] at e e1 e2
          cases x; cases y; simp_all
        clear x0 x1 x2 fx0 fx1 fx2
        go_region
        all_goals
          rw [SW.out]
          clear y0 y1 y2 fy0 fy1 fy2 SW
          have HSRT := Lib.hid (show ∀ i (h : i < (L).length), 0 < i → 0 ≤ cmpP (L)[i].a (L)[i].b (L)[i - 1].a (L)[i - 1].b from fun i h hi => by
            have := List.pairwise_iff_getElem.1 SRT.out (i - 1) i (by omega) h (by omega)
            have hneg := cmpP_neg (L)[i - 1].a (L)[i - 1].b (L)[i].a (L)[i].b
            omega)
          go_wp2_with fail
          refine (sortedE_any A3 _ c3 (L) _ (R3.out.below' BW.out) (by omega) (fun i h hi => by have := HSRT.out i h hi; omega)).mono ?_
          rintro e w7 ⟨rfl, hb7⟩
          have BW7 := Lib.hid (bthen BW.out BW.out.size hb7)
          replace RO := Lib.hid (RO.out.below' hb7)
          clear hb7
          go_wp2_with fail
          refine (built_any (some ⟨g, 0, none⟩) (L.length) (cap) 6 (O) _ RO.out hcap (by omega)).mono ?_
          rintro e w8 ⟨rfl, hb8, t2, z2, hT2, _, _, hget2, _⟩
          rw [List.take_of_length_le hOl] at hget2
          have BW8 := Lib.hid (bthen BW7.out BW7.out.size hb8)
          have HE2 := Lib.hid (show ents t2 0 0 = (L) from (ents_same t2 t 0 0 (rebuilt HEL.out MO.out hget2 HKEY.out)).trans HEL.out)
          have HT2 := Lib.hid hT2
          clear hT2 hget2 hb8
          generalize w7.heap.size = tb2 at HT2 ⊢
          go_wp2_with fail
          refine (listAll_any tb2 t2 z2 _ HT2.out (by rw [HE2.out]; omega)).mono ?_
          rw [HE2.out]
          rintro e w9 ⟨A9, c9, rfl, _, hR9, hb9⟩
          have BW9 := Lib.hid (bthen BW8.out BW8.out.size hb9)
          have R9 := Lib.hid hR9
          clear hR9 hb9
          go_wp2_with fail
          refine (equalE_same R9.out (R3.out.below' BW9.out) rfl).mono ?_
          rintro e wa ⟨rfl, hba⟩
          go_wp2_with fail
          go_ret
          exact ⟨rfl, bthen HB3.out HB3.out.size (bthen BW9.out BW9.out.size hba)⟩
      | succ K =>
        have n1 : (K + 1) * 3 ≠ 0 := by omega
        have n2 : (K + 1) * 3 ≠ 1 := by omega
        have n3 : (K + 1) * 3 ≠ 2 := by omega
        generalize hM : (K + 1) * 3 = M at n1 n2 n3 x0 x1 x2 fx0 fx1 fx2 SW ⊢
        go_region
        all_goals
          rw [SW.out]
          clear y0 y1 y2 fy0 fy1 fy2 x0 x1 x2 fx0 fx1 fx2 SW n1 n2 n3 hM
          have HSRT := Lib.hid (show ∀ i (h : i < (L).length), 0 < i → 0 ≤ cmpP (L)[i].a (L)[i].b (L)[i - 1].a (L)[i - 1].b from fun i h hi => by
            have := List.pairwise_iff_getElem.1 SRT.out (i - 1) i (by omega) h (by omega)
            have hneg := cmpP_neg (L)[i - 1].a (L)[i - 1].b (L)[i].a (L)[i].b
            omega)
          go_wp2_with fail
          refine (sortedE_any A3 _ c3 (L) _ (R3.out.below' BW.out) (by omega) (fun i h hi => by have := HSRT.out i h hi; omega)).mono ?_
          rintro e w7 ⟨rfl, hb7⟩
          have BW7 := Lib.hid (bthen BW.out BW.out.size hb7)
          replace RO := Lib.hid (RO.out.below' hb7)
          clear hb7
          go_wp2_with fail
          refine (built_any (some ⟨g, 0, none⟩) (L.length) (cap) 6 (O) _ RO.out hcap (by omega)).mono ?_
          rintro e w8 ⟨rfl, hb8, t2, z2, hT2, _, _, hget2, _⟩
          rw [List.take_of_length_le hOl] at hget2
          have BW8 := Lib.hid (bthen BW7.out BW7.out.size hb8)
          have HE2 := Lib.hid (show ents t2 0 0 = (L) from (ents_same t2 t 0 0 (rebuilt HEL.out MO.out hget2 HKEY.out)).trans HEL.out)
          have HT2 := Lib.hid hT2
          clear hT2 hget2 hb8
          generalize w7.heap.size = tb2 at HT2 ⊢
          go_wp2_with fail
          refine (listAll_any tb2 t2 z2 _ HT2.out (by rw [HE2.out]; omega)).mono ?_
          rw [HE2.out]
          rintro e w9 ⟨A9, c9, rfl, _, hR9, hb9⟩
          have BW9 := Lib.hid (bthen BW8.out BW8.out.size hb9)
          have R9 := Lib.hid hR9
          clear hR9 hb9
          go_wp2_with fail
          refine (equalE_same R9.out (R3.out.below' BW9.out) rfl).mono ?_
          rintro e wa ⟨rfl, hba⟩
          go_wp2_with fail
          go_ret
          exact ⟨rfl, bthen HB3.out HB3.out.size (bthen BW9.out BW9.out.size hba)⟩
    · go_wp2_with fail
      have BW := Lib.hid (show Below w3.heap.size w3 w5 from HB34.out.trans (K5.out.below HB34.out.size (fun x hx => by simp only [List.mem_singleton] at hx; subst hx; exact HGF.out)))
      have RO := Lib.hid (show ReadsE w5 (some ⟨g, 0, none⟩) L.length L.reverse from hRl ▸ readsE_of_holds H5.out (Nat.lt_of_lt_of_le hgl K5.out.size) (by omega) (fun e he => SML.out e (List.mem_reverse.1 he)))
      have MO := Lib.hid (show ∀ e : En, e ∈ L.reverse ↔ e ∈ L from fun e => List.mem_reverse)
      have hcap : L.length ≤ cap := hle
      have hOl : L.reverse.length ≤ 6 := by omega
      clear H5
      have HSRT := Lib.hid (show ∀ i (h : i < (L).length), 0 < i → 0 ≤ cmpP (L)[i].a (L)[i].b (L)[i - 1].a (L)[i - 1].b from fun i h hi => by
        have := List.pairwise_iff_getElem.1 SRT.out (i - 1) i (by omega) h (by omega)
        have hneg := cmpP_neg (L)[i - 1].a (L)[i - 1].b (L)[i].a (L)[i].b
        omega)
      go_wp2_with fail
      refine (sortedE_any A3 _ c3 (L) _ (R3.out.below' BW.out) (by omega) (fun i h hi => by have := HSRT.out i h hi; omega)).mono ?_
      rintro e w7 ⟨rfl, hb7⟩
      have BW7 := Lib.hid (bthen BW.out BW.out.size hb7)
      replace RO := Lib.hid (RO.out.below' hb7)
      clear hb7
      go_wp2_with fail
      refine (built_any (some ⟨g, 0, none⟩) (L.length) (cap) 6 (L.reverse) _ RO.out hcap (by omega)).mono ?_
      rintro e w8 ⟨rfl, hb8, t2, z2, hT2, _, _, hget2, _⟩
      rw [List.take_of_length_le hOl] at hget2
      have BW8 := Lib.hid (bthen BW7.out BW7.out.size hb8)
      have HE2 := Lib.hid (show ents t2 0 0 = (L) from (ents_same t2 t 0 0 (rebuilt HEL.out MO.out hget2 HKEY.out)).trans HEL.out)
      have HT2 := Lib.hid hT2
      clear hT2 hget2 hb8
      generalize w7.heap.size = tb2 at HT2 ⊢
      go_wp2_with fail
      refine (listAll_any tb2 t2 z2 _ HT2.out (by rw [HE2.out]; omega)).mono ?_
      rw [HE2.out]
      rintro e w9 ⟨A9, c9, rfl, _, hR9, hb9⟩
      have BW9 := Lib.hid (bthen BW8.out BW8.out.size hb9)
      have R9 := Lib.hid hR9
      clear hR9 hb9
      go_wp2_with fail
      refine (equalE_same R9.out (R3.out.below' BW9.out) rfl).mono ?_
      rintro e wa ⟨rfl, hba⟩
      go_wp2_with fail
      go_ret
      exact ⟨rfl, bthen HB3.out HB3.out.size (bthen BW9.out BW9.out.size hba)⟩
end Go.Proofs.YtaknlphmplimhaaDoor
