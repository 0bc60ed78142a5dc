/- The walk of TrieKeeps where the prefix is invalid; the slice is read and the world holds the variable ten. -/
import Derived.Test.YtaknlphmplimhaaDoorTh
set_option linter.unusedVariables false
set_option linter.unusedSimpArgs false
namespace Go.Proofs.YtaknlphmplimhaaDoor
open Go.RowKit Go.Proofs AT

theorem ReadsE.below {w w' : World} {A : Option Addr} {n : Nat} {es : List En} (h : ReadsE w A n es) (hb : Below w.heap.size w w') : ReadsE w' A n es :=
  ⟨h.len, h.max, fun hn => by
    obtain ⟨b, off, e, hl, hc⟩ := h.at_ hn
    refine ⟨b, off, e, Nat.lt_of_lt_of_le hl hb.size, fun i hi => ?_⟩
    obtain ⟨c0, c1, c2⟩ := hc i hi
    exact ⟨(hb.cell (p := ⟨b, off + i * 3, none⟩) hl).trans c0, (hb.cell (p := ⟨b, off + i * 3 + 1, none⟩) hl).trans c1, (hb.cell (p := ⟨b, off + i * 3 + 2, none⟩) hl).trans c2⟩, h.small⟩
/-- The two prefixes' boxes. -/
theorem boxes {w wi : World} {pa pb qa qb : Value} (h : Below (w.heap.size + 2) ((w.alloc (.cells #[pa, pb] 25)).alloc (.cells #[qa, qb] 25)) wi) :
    wi.cell? ⟨w.heap.size, 0, none⟩ = some pa ∧ wi.cell? ⟨w.heap.size, 1, none⟩ = some pb ∧ wi.cell? ⟨w.heap.size + 1, 0, none⟩ = some qa ∧ wi.cell? ⟨w.heap.size + 1, 1, none⟩ = some qb := by
  refine ⟨?_, ?_, ?_, ?_⟩
  · rw [h.cell (p := ⟨w.heap.size, 0, none⟩) (by simp)]; go_simp
  · rw [h.cell (p := ⟨w.heap.size, 1, none⟩) (by simp)]; go_simp
  · rw [h.cell (p := ⟨w.heap.size + 1, 0, none⟩) (by simp)]; go_simp
  · rw [h.cell (p := ⟨w.heap.size + 1, 1, none⟩) (by simp)]; go_simp

set_option maxHeartbeats 1000000 in
theorem put_bad (tb : Nat) (a : Nat) (b v : Int) (w : World) (ha : a < 4294967296) (hc : chkE a b ≠ 0) :
    Calls Tryd.prog 24 #[.pointer (some ⟨tb, 0, none⟩), .agg #[.int .u32 a, .int .i64 b], .int .i64 v] w fun e w' => e = .returned (.int .i64 (chkE a b)) ∧ Below w.heap.size w w' := by
  have Hd : (chkE a b != 0) = true := by simpa using hc
  clear hc
  go_enter Tryd.func24, Tryd.ntmps24
  go_wp2_with fail
  refine (check_any a b _ ha).mono ?_
  rintro e w1 ⟨rfl, hb⟩
  go_wp2_with fail
  go_ret
  exact ⟨rfl, bthen ((Below.refl _ _).alloc (Nat.le_refl _) _) (by simp) hb⟩
/-- Where the prefixes' boxes lie, and what is old, at a world of the law. -/
structure KW (w : World) (pa pb qa qb : Value) (wi : World) : Prop where
  big : Below (w.heap.size + 2) ((w.alloc (.cells #[pa, pb] 25)).alloc (.cells #[qa, qb] 25)) wi
  size : w.heap.size + 2 ≤ wi.heap.size
theorem KW.below {w wi : World} {pa pb qa qb : Value} (h : KW w pa pb qa qb wi) : Below w.heap.size w wi :=
  (((Below.refl _ _).alloc (Nat.le_refl _) _).alloc (by simp) _).trans (h.big.mono (by omega))
theorem KW.next {w wi wj : World} {pa pb qa qb : Value} (h : KW w pa pb qa qb wi) (hb : Below (w.heap.size + 2) wi wj) : KW w pa pb qa qb wj :=
  ⟨h.big.trans hb, Nat.le_trans h.size hb.size⟩
theorem KW.call {w wi wj : World} {pa pb qa qb : Value} (h : KW w pa pb qa qb wi) (hb : Below wi.heap.size wi wj) : KW w pa pb qa qb wj := h.next (hb.mono h.size)
theorem KW.drew {w wi : World} {pa pb qa qb : Value} (h : KW w pa pb qa qb wi) : KW w pa pb qa qb wi.drew := ⟨h.big.drew, h.size⟩
theorem KW.cells {w wi : World} {pa pb qa qb : Value} (h : KW w pa pb qa qb wi) :
    wi.cell? ⟨w.heap.size, 0, none⟩ = some pa ∧ wi.cell? ⟨w.heap.size, 1, none⟩ = some pb ∧ wi.cell? ⟨w.heap.size + 1, 0, none⟩ = some qa ∧ wi.cell? ⟨w.heap.size + 1, 1, none⟩ = some qb := boxes h.big

set_option maxRecDepth 100000 in
set_option maxHeartbeats 4000000 in
theorem keeps_bad (A : Option Addr) (n c : Nat) (es : List En) (pa qa : Nat) (pb qb v : Int) (w : World) (hR : ReadsE w A n es) (hc : n ≤ c) (hpa : pa < 4294967296) (hqa : qa < 4294967296)
    (h0 : w.cell? ⟨0, 0, none⟩ = some (.int .u32 167772160)) (h1 : w.cell? ⟨0, 1, none⟩ = some (.int .i64 8)) (hp : chkE pa pb ≠ 0) :
    Calls Tryd.prog 3 #[.slice A n c, .agg #[.int .u32 pa, .int .i64 pb], .int .i64 v, .agg #[.int .u32 qa, .int .i64 qb]] w fun e w' => e = .returned (.bool true) ∧ Below w.heap.size w w' := by
  have hl := World.block_lt_of_cell? w _ h0
  simp only at hl
  have Hp := Lib.hid hp
  have hpn : (chkE pa pb != 0) = true := by simpa using hp
  have HR := Lib.hid hR
  clear hp hR
  go_enter Tryd.func3, Tryd.ntmps3
  go_wp2_with fail
  refine (trieLives_true _ (by go_simp) (by go_simp)).mono ?_
  rintro e w1 ⟨rfl, hb1⟩
  have K1 : KW w (.int .u32 pa) (.int .i64 pb) (.int .u32 qa) (.int .i64 qb) w1 := ⟨by simpa using hb1, by have := hb1.size; simp at this; omega⟩
  obtain ⟨b0, b1, b2, b3⟩ := K1.cells
  have HR1 := Lib.hid (HR.out.below K1.below)
  go_wp2_with fail
  refine (built_any A n c 6 es _ HR1.out hc (by omega)).mono ?_
  rintro e w2 ⟨rfl, hb2, t, z, hT, hz0, hz1, hget, hd⟩
  have K2 := K1.call hb2
  obtain ⟨d0, d1, d2, d3⟩ := K2.cells
  have HT := Lib.hid hT
  clear hT hget hd
  generalize w1.heap.size = tb at HT ⊢
  clear b0 b1 b2 b3 hb1 hb2 HR1
  go_wp2_with fail
  refine (get_any tb t z qa qb _ hqa HT.out).mono ?_
  rintro e w3 ⟨rfl, hb3⟩
  have K3 := K2.call hb3
  obtain ⟨e0, e1, e2, e3⟩ := K3.cells
  clear d0 d1 d2 d3 K2 K1 hb3
  go_wp2_with fail
  refine (check_any pa pb _ hpa).mono ?_
  rintro e w4 ⟨rfl, hb4⟩
  have K4 := K3.call hb4
  obtain ⟨d0, d1, d2, d3⟩ := K4.cells
  clear e0 e1 e2 e3 K3 hb4
  go_wp2_with fail
  have Kd := K4.drew
  have hsz := Kd.size
  clear K4
  go_region_with (first | (go_at_call 24; (with_reducible refine (put_bad _ _ _ _ _ hpa Hp.out).mono ?_); rintro e wz ⟨rfl, hbz⟩; replace Kd := Kd.call hbz; obtain ⟨k0, k1, k2, k3⟩ := Kd.cells; clear hbz) | (go_at_call 25; (with_reducible refine (del_bad _ _ _ _ hpa Hp.out).mono ?_); rintro e wz ⟨rfl, hbz⟩; replace Kd := Kd.call hbz; obtain ⟨k0, k1, k2, k3⟩ := Kd.cells; clear hbz) | (go_at_call 23; (with_reducible refine (check_any _ _ _ hpa).mono ?_); rintro e wz ⟨rfl, hbz⟩; replace Kd := Kd.call hbz; obtain ⟨k0, k1, k2, k3⟩ := Kd.cells; clear hbz))
  all_goals
    go_wp2_with fail
    go_ret
    exact ⟨rfl, Kd.below⟩
end Go.Proofs.YtaknlphmplimhaaDoor
