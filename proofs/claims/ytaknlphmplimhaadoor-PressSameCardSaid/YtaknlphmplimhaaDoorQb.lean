/- The walks of slices.IsSortedFunc at prefixes and of PressFew, which returns true; the slice is read, and the world holds the variable ten. -/
import Derived.Test.YtaknlphmplimhaaDoorPz
import Derived.Test.YtaknlphmplimhaaDoorQa
import Derived.Test.YtaknlphmplimhaaDoorTo
set_option linter.unusedVariables false
set_option linter.unusedSimpArgs false
namespace Go.Proofs.YtaknlphmplimhaaDoor
open Go.RowKit Go.Proofs AT
set_option maxRecDepth 100000 in
set_option maxHeartbeats 4000000 in
theorem sortedP_any (A : Option Addr) (n c : Nat) (es : List Pf) (w : World) (hR : ReadsP w A n es) (hn : n ≤ 100000) (hs : ∀ i (h : i < es.length), 0 < i → ¬ cmpP es[i].a es[i].b es[i - 1].a es[i - 1].b < 0) :
    Calls Tryd.prog 46 #[.slice A n c, .func (.func 40) #[] #[]] w fun e w' => e = .returned (.bool true) ∧ Below w.heap.size w w' := by
  have HR := Lib.hid hR
  have HS := Lib.hid hs
  clear hR hs
  have hw1 : IntKind.i64.wrap ((n : Int) - 1) = (n : Int) - 1 := IntWalk.i64_in _ (by omega)
  have HW := Lib.hid hw1
  clear hw1
  go_enter Tryd.func46, Tryd.ntmps46
  go_wp2
  go_loopw [5] (fun i wr => ∃ j : Int, -1 ≤ j ∧ j < n ∧ i = .int .i64 j ∧ Below w.heap.size w wr) (fun i _ => (intOf i + 1).toNat)
  case atStart => exact ⟨(n : Int) - 1, by omega, by omega, by first | rfl | (congr 1), Below.refl _ _⟩
  case round =>
    obtain ⟨j, hj0, hj1, rfl, hbw⟩ := hrel
    by_cases hpos : 0 < j
    · obtain ⟨j, rfl⟩ := Int.eq_ofNat_of_zero_le (show 0 ≤ j by omega)
      have hjl : j < es.length := by rw [HR.out.len]; omega
      obtain ⟨b, off, rfl, hbl, hc⟩ := HR.out.at_ (by omega)
      have hca := hc j hjl
      have hcb := hc (j - 1) (by omega)
      have hno := HS.out j hjl (by omega)
      have hblw : b < wr.heap.size := Nat.lt_of_lt_of_le hbl hbw.size
      have hget : ∀ q v, w.cell? ⟨b, q, none⟩ = some v → wr.cell? ⟨b, q, none⟩ = some v := fun q v h => (hbw.cell (p := ⟨b, q, none⟩) hbl).trans h
      generalize es[j] = x at hca hno
      generalize es[j - 1] = y at hcb hno
      obtain ⟨a0, a1⟩ := hca
      obtain ⟨c0, c1⟩ := hcb
      replace a0 := hget _ _ a0
      replace c0 := hget _ _ c0
      replace a1 := hget _ _ a1
      replace c1 := hget _ _ c1
      clear hget hc
      have HNO := Lib.hid hno
      have HBW := Lib.hid hbw
      clear hno hbw
      have hwj : IntKind.i64.wrap ((j : Int) - 1) = (j : Int) - 1 := IntWalk.i64_in _ (by omega)
      have hjt : ((j : Int) - 1).toNat = j - 1 := by omega
      have hj1' : (j : Int) - 1 < n := by omega
      have hj2' : 0 ≤ (j : Int) - 1 := by omega
      have hj3 : (1 : Int) ≤ j := by omega
      have hj4 : (j : Int) ≤ n := by omega
      have hj5 : 1 ≤ j := by omega
      have hj6 : j ≤ n := by omega
      have hj7 : ¬ ((j : Int) - 1 < 0) := by omega
      go_wp2_with fail
      go_region_held3 (fun w' => w'.cell? ⟨b, off + j * 2, none⟩ = some (.int .u32 x.a) ∧ w'.cell? ⟨b, off + j * 2 + 1, none⟩ = some (.int .i64 x.b) ∧ w'.cell? ⟨b, off + (j - 1) * 2, none⟩ = some (.int .u32 y.a) ∧ w'.cell? ⟨b, off + (j - 1) * 2 + 1, none⟩ = some (.int .i64 y.b))
        (first
          | go_keep
          | (go_split_ands; refine ⟨?_, ?_, ?_, ?_⟩ <;> assumption))
        (first
          | ((with_reducible refine (compare_any x.a x.b y.a y.b _).mono ?_); rintro e wz ⟨rfl, hbz0⟩
             have hbz : Below wr.heap.size wr wz := ⟨hbz0.os, hbz0.tape, hbz0.output, hbz0.size, hbz0.block⟩
             have s0 : wz.cell? ⟨b, off + j * 2, none⟩ = some (.int .u32 x.a) := (hbz.cell (p := ⟨b, off + j * 2, none⟩) (by exact hblw)).trans a0
             have s1 : wz.cell? ⟨b, off + j * 2 + 1, none⟩ = some (.int .i64 x.b) := (hbz.cell (p := ⟨b, off + j * 2 + 1, none⟩) (by exact hblw)).trans a1
             have u0' : wz.cell? ⟨b, off + (j - 1) * 2, none⟩ = some (.int .u32 y.a) := (hbz.cell (p := ⟨b, off + (j - 1) * 2, none⟩) (by exact hblw)).trans c0
             have u1' : wz.cell? ⟨b, off + (j - 1) * 2 + 1, none⟩ = some (.int .i64 y.b) := (hbz.cell (p := ⟨b, off + (j - 1) * 2 + 1, none⟩) (by exact hblw)).trans c1
             have HBZ := Lib.hid (bthen HBW.out HBW.out.size hbz)
             clear hbz0 hbz)
          | fail)
      all_goals
        have hno := HNO.out
        go_wp2_with fail
        go_roundw
        case rel => exact ⟨(j : Int) - 1, by omega, by omega, rfl, HBZ.out⟩
        case measure => simp [intOf] <;> omega
    · have hle : ¬ 0 < j := hpos
      go_wp2
      go_ret
      exact ⟨rfl, hbw⟩
theorem ReadsP.below {w w' : World} {A : Option Addr} {n : Nat} {es : List Pf} (h : ReadsP w A n es) (hb : Below w.heap.size w w') : ReadsP w' A n es :=
  ⟨h.len, h.max, fun hn => by
    obtain ⟨b, off, e, hl, hc⟩ := h.at_ hn
    refine ⟨b, off, e, Nat.lt_of_lt_of_le hl hb.size, fun i hi => ?_⟩
    obtain ⟨c0, c1⟩ := hc i hi
    exact ⟨(hb.cell (p := ⟨b, off + i * 2, none⟩) hl).trans c0, (hb.cell (p := ⟨b, off + i * 2 + 1, none⟩) hl).trans c1⟩, h.small⟩
set_option maxRecDepth 100000 in
set_option maxHeartbeats 8000000 in
theorem pressFew_any (A : Option Addr) (n c : Nat) (es : List En) (w : World) (hR : ReadsE w A n es) (hc : n ≤ c)
    (h0 : w.cell? ⟨0, 0, none⟩ = some (.int .u32 167772160)) (h1 : w.cell? ⟨0, 1, none⟩ = some (.int .i64 8)) :
    Calls Tryd.prog 7 #[.slice A n c] w fun e w' => e = .returned (.bool true) ∧ Below w.heap.size w w' := by
  have hl := World.block_lt_of_cell? w _ h0
  simp only at hl
  have HR := Lib.hid hR
  clear hR
  go_enter Tryd.func7, Tryd.ntmps7
  go_wp2_with fail
  refine (pressLives_true _ h0 h1).mono ?_
  rintro e w0 ⟨rfl, hb0⟩
  have HB0 := Lib.hid hb0
  have g0 : w0.cell? ⟨0, 0, none⟩ = some (.int .u32 167772160) := (hb0.cell (p := ⟨0, 0, none⟩) hl).trans h0
  have g1 : w0.cell? ⟨0, 1, none⟩ = some (.int .i64 8) := (hb0.cell (p := ⟨0, 1, none⟩) hl).trans h1
  have hl0 : 0 < w0.heap.size := Nat.lt_of_lt_of_le hl hb0.size
  clear hb0
  go_wp2_with fail
  refine (trieLives_true _ g0 g1).mono ?_
  rintro e w1 ⟨rfl, hb1⟩
  have HB1 := Lib.hid (bthen HB0.out HB0.out.size hb1)
  have HR1 := Lib.hid (HR.out.below HB1.out)
  clear hb1
  go_wp2_with fail
  refine (built_any A n c 6 es _ HR1.out hc (by omega)).mono ?_
  rintro e w2 ⟨rfl, hb2, t, z, hT, hz0, hz1, hget, hd⟩
  have HB2 := Lib.hid (bthen HB1.out HB1.out.size hb2)
  have htk : (es.take 6).length ≤ 6 := by rw [List.length_take]; omega
  have hsm6 : ∀ e, e ∈ es.take 6 → e.a < 4294967296 := fun e he => HR.out.small e (List.mem_of_mem_take he)
  have HL6 := Lib.hid (Nat.le_trans (ents_len hsm6 hget) htk)
  have HT := Lib.hid hT
  clear hT hd hb2 hget HR1 hz0 hz1 htk hsm6 g0 g1 h0 h1
  generalize w1.heap.size = tb at HT ⊢
  go_wp2_with fail
  refine (listAll_any tb t z _ HT.out (Nat.le_trans HL6.out (by decide))).mono ?_
  rintro e w3 ⟨A3, c3, rfl, hc3, hR3, hb3⟩
  have HB3 := Lib.hid (bthen HB2.out HB2.out.size hb3)
  have R3 := Lib.hid hR3
  have HPW := Lib.hid (ents_paths t)
  have HOK := Lib.hid (ents_ok t)
  have HVA := Lib.hid (show ∀ e, e ∈ ents t 0 0 → ∃ k : Nat, e.b = k ∧ Val e.a k from fun e he => by obtain ⟨k, h1, h2, _⟩ := (mem_all t e).1 he; exact ⟨k, h1, h2⟩)
  clear hb3 hR3 HB1 HB2 HT
  have hll := HL6.out
  have hc3' := hc3.1
  clear hc3
  generalize ents t 0 0 = L at HL6 R3 HPW HOK HVA hll hc3' ⊢
  go_wp2_with fail
  refine (of_any A3 _ c3 L _ R3.out (by omega) (by omega) HOK.out (bOf_new HPW.out)).mono ?_
  rintro e w4 ⟨ub, u, rfl, hU, hbt, hb4, hdm⟩
  have HB4 := Lib.hid (bthen HB3.out HB3.out.size hb4)
  have R4 := Lib.hid (R3.out.below' hb4)
  have HU := Lib.hid hU
  have HBT := Lib.hid hbt
  have HFEW := Lib.hid (prefs_few hU.rep hbt HPW.out)
  have HHAS := Lib.hid (show ∀ x, x ∈ L → ((prefs u).any fun p => eqP ⟨x.a, x.b⟩ p) = true from fun x hx => prefs_has hU.rep (HVA.out x hx) (v := x.v) (by rw [hbt]; exact bOf_some L HPW.out x hx))
  have HSRT := Lib.hid (prefs_sorted hU.rep hU.wf)
  have hpl : (prefs u).length ≤ 100 := by have := HFEW.out; omega
  clear hU hbt hb4 hdm
  go_wp2_with fail
  refine (shapeAll_any ub u _ _ HU.out (by omega)).mono ?_
  rintro e w5 ⟨A5, c5, rfl, hc5, hR5, hb5⟩
  have HB5 := Lib.hid (bthen HB4.out HB4.out.size hb5)
  have R5 := Lib.hid (R4.out.below' hb5)
  have HS5 := Lib.hid hR5
  have HU5 := Lib.hid (HU.out.grow hb5)
  clear hb5 hR5 hc5
  have HNO := Lib.hid (fun W (h : PR W ub L.length u) => nodes_any ub u L.length W h (by omega))
  have HSZ := Lib.hid (prefs_len u)
  generalize prefs u = ps at HFEW HHAS HSRT HS5 HNO hpl ⊢
  go_wp2_with fail
  go_loopw [34] (fun i wr => ∃ k : Nat, k ≤ L.length ∧ i = .int .i64 k ∧ Below w5.heap.size w5 wr) (fun i _ => L.length - (intOf i).toNat)
  case atStart => exact ⟨0, by omega, rfl, Below.refl _ _⟩
  case round =>
    obtain ⟨k, hk, rfl, hbw⟩ := hrel
    by_cases hlt : k < L.length
    · obtain ⟨b, off, rfl, hbl, hcell⟩ := R5.out.at_ (by omega)
      obtain ⟨q0, q1, q2⟩ := hcell k hlt
      have hha := HHAS.out L[k] (List.getElem_mem hlt)
      have d0 := (hbw.cell (p := ⟨b, off + k * 3, none⟩) hbl).trans q0
      have d1 := (hbw.cell (p := ⟨b, off + k * 3 + 1, none⟩) hbl).trans q1
      have d2 := (hbw.cell (p := ⟨b, off + k * 3 + 2, none⟩) hbl).trans q2
      clear hcell q0 q1 q2
      generalize L[k] = en at hha d0 d1 d2
      have hBA := hbw.alloc hbw.size (.cells #[.int .u32 en.a, .int .i64 en.b, .int .i64 en.v] 36)
      have HBA := Lib.hid hBA
      have HRA := Lib.hid (HS5.out.below hBA)
      have HHA := Lib.hid hha
      clear hha hBA hbw
      go_wp2_with fail
      refine (containsP_any A5 _ c5 ps ⟨en.a, en.b⟩ _ HRA.out).mono ?_
      rw [HHA.out]
      rintro e w6 ⟨rfl, hb6⟩
      have HB6 := Lib.hid (bthen HBA.out HBA.out.size hb6)
      clear hb6
      go_wp2_with fail
      go_roundw
      case rel => exact ⟨k + 1, by omega, by go_num, HB6.out⟩
      case measure => simp [intOf]; omega
    · obtain rfl : k = L.length := by omega
      have HBW := Lib.hid hbw
      have HU6 := Lib.hid (HU5.out.grow hbw)
      have HS6 := Lib.hid (HS5.out.below hbw)
      clear hbw
      go_wp2_with fail
      refine (HNO.out _ HU6.out).mono ?_
      rintro e w7 ⟨rfl, hb7⟩
      have HB7 := Lib.hid (bthen HBW.out HBW.out.size hb7)
      have HS7 := Lib.hid (HS6.out.below hb7)
      clear hb7
      have hmm : IntKind.i64.wrap (2 * (L.length : Int)) = 2 * (L.length : Int) := IntWalk.i64_in _ (by omega)
      have HSO := Lib.hid (show ∀ i (h : i < ps.length), 0 < i → ¬ cmpP ps[i].a ps[i].b ps[i - 1].a ps[i - 1].b < 0 from fun i h hi => by
        have := List.pairwise_iff_getElem.1 HSRT.out (i - 1) i (by omega) h (by omega)
        have hn := cmpP_neg ps[i - 1].a ps[i - 1].b ps[i].a ps[i].b
        omega)
      by_cases hf : ps.length < 2 * L.length
      · have hf2 : (ps.length : Int) < 2 * (L.length : Int) := by omega
        go_wp2_with fail
        refine (sortedP_any A5 _ c5 ps _ HS7.out (by omega) (fun i h hi => by have := HSO.out i h hi; omega)).mono ?_
        rintro e w8 ⟨rfl, hb8⟩
        have HB8 := Lib.hid (bthen HB7.out HB7.out.size hb8)
        clear hb8
        go_wp2_with fail
        go_ret
        exact ⟨rfl, bthen HB5.out HB5.out.size HB8.out⟩
      · obtain ⟨z1, z2⟩ : ps.length = 0 ∧ L.length = 0 := by have := HFEW.out; omega
        have hf2 : ¬ (ps.length : Int) < 2 * (L.length : Int) := by omega
        have y1 : ((ps.length : Int) == 0) = true := by simp [z1]
        have y2 : ((L.length : Int) == 0) = true := by simp [z2]
        clear z1 z2
        go_wp2_with fail
        refine (sortedP_any A5 _ c5 ps _ HS7.out (by omega) (fun i h hi => by have := HSO.out i h hi; omega)).mono ?_
        rintro e w8 ⟨rfl, hb8⟩
        have HB8 := Lib.hid (bthen HB7.out HB7.out.size hb8)
        clear hb8
        go_wp2_with fail
        go_ret
        exact ⟨rfl, bthen HB5.out HB5.out.size HB8.out⟩
end Go.Proofs.YtaknlphmplimhaaDoor
