/- The walk of TrieKeeps where the prefix is valid: the other prefix another address, the same address with another length, or the same prefix; the slice is read and the world holds the variable ten. -/
import Derived.Test.YtaknlphmplimhaaDoorTi
set_option linter.unusedVariables false
set_option linter.unusedSimpArgs false
namespace Go.Proofs.YtaknlphmplimhaaDoor
open Go.RowKit Go.Proofs AT
theorem top_some {s : AT} {v : Int} (h : AT.top s = some v) : ∃ g l r, s = .node g l r v true := by
  cases s with
  | nil => cases h
  | node g l r v' hh =>
    cases hh
    · cases h
    · cases h; exact ⟨g, l, r, rfl⟩
theorem path_ne {pa qa : Nat} {pb qb : Int} (hpa : pa < 4294967296) (hqa : qa < 4294967296) (hp : chkE pa pb = 0) (hq : chkE qa qb = 0) (hne : ¬ (qa = pa ∧ qb = pb)) : path qa qb.toNat ≠ path pa pb.toNat := by
  intro e
  obtain ⟨p0, p1, p2⟩ := chkE_zero.1 hp
  obtain ⟨q0, q1, q2⟩ := chkE_zero.1 hq
  have hl := congrArg List.length e
  rw [path_length, path_length] at hl
  have hb : qb = pb := by omega
  subst hb
  obtain ⟨b, rfl⟩ := Int.eq_ofNat_of_zero_le q0
  unfold sz at p2 q2
  rw [show (32 - (b : Int)).toNat = 32 - b by omega] at p2 q2
  exact hne ⟨path_inj hqa hpa (by omega) q2 p2 e, rfl⟩
theorem getR_other {t0 t1 : AT} {pa qa : Nat} {pb qb : Int} (hpa : pa < 4294967296) (hqa : qa < 4294967296) (hp : chkE pa pb = 0) (hne : ¬ (qa = pa ∧ qb = pb)) (h : ∀ q, q ≠ path pa pb.toNat → t1.get q = t0.get q) : getR t1 qa qb = getR t0 qa qb := by
  unfold getR
  by_cases hq : chkE qa qb = 0
  · rw [h _ (path_ne hpa hqa hp hq hne)]
  · rw [if_pos hq, if_pos hq]
theorem getR_some {t : AT} {a : Nat} {b v : Int} (hp : chkE a b = 0) (h : t.get (path a b.toNat) = some v) : getR t a b = (v, 0) := by
  unfold getR
  rw [if_neg (by simpa using hp), h]
theorem getR_none {t : AT} {a : Nat} {b : Int} (hp : chkE a b = 0) (h : t.get (path a b.toNat) = none) : getR t a b = (0, 4) := by
  unfold getR
  rw [if_neg (by simpa using hp), h]

set_option maxRecDepth 100000 in
set_option maxHeartbeats 4000000 in
theorem keeps_a (A : Option Addr) (n c : Nat) (es : List En) (pa qa pb : Nat) (qb v : Int) (w : World) (hR : ReadsE w A n es) (hc : n ≤ c) (hpa : pa < 4294967296) (hqa : qa < 4294967296)
    (h0 : w.cell? ⟨0, 0, none⟩ = some (.int .u32 167772160)) (h1 : w.cell? ⟨0, 1, none⟩ = some (.int .i64 8)) (hp : chkE pa pb = 0) (hqp : ¬ (qa : Int) = (pa : Int)) :
    Calls Tryd.prog 3 #[.slice A n c, .agg #[.int .u32 pa, .int .i64 pb], .int .i64 v, .agg #[.int .u32 qa, .int .i64 qb]] w fun e w' => e = .returned (.bool true) ∧ Below w.heap.size w w' := by
  have hl := World.block_lt_of_cell? w _ h0
  simp only at hl
  have hne : ¬ (qa = pa ∧ qb = (pb : Int)) := fun h => hqp (by rw [h.1])
  have Hp := Lib.hid hp
  have Hne := Lib.hid hne
  have HR := Lib.hid hR
  have hpb := (chkE_zero.1 hp).2.1
  clear hp hR hne
  go_enter Tryd.func3, Tryd.ntmps3
  go_wp2_with fail
  refine (trieLives_true _ (by go_simp) (by go_simp)).mono ?_
  rintro e w1 ⟨rfl, hb1⟩
  have K1 : KW w (.int .u32 pa) (.int .i64 pb) (.int .u32 qa) (.int .i64 qb) w1 := ⟨by simpa using hb1, by have := hb1.size; simp at this; omega⟩
  obtain ⟨b0, b1, b2, b3⟩ := K1.cells
  have HR1 := Lib.hid (HR.out.below K1.below)
  go_wp2_with fail
  refine (built_any A n c 6 es _ HR1.out hc (by omega)).mono ?_
  rintro e w2 ⟨rfl, hb2, t, z, hT, hz0, hz1, hget, hd⟩
  have K2 := K1.call hb2
  obtain ⟨d0, d1, d2, d3⟩ := K2.cells
  have HT := Lib.hid hT
  have hs1 := K1.size
  have hdl : ∀ x, x ∈ w1.heap.size :: t.dom → w.heap.size + 2 ≤ x := fun x hx => by
    simp only [List.mem_cons] at hx
    rcases hx with rfl | hx
    · omega
    · have := hd x hx; omega
  have HD := Lib.hid hdl
  clear hT hget hd hdl
  generalize w1.heap.size = tb at HT HD ⊢
  clear b0 b1 b2 b3 hb1 hb2 HR1
  go_wp2_with fail
  refine (get_any tb t z qa qb _ hqa HT.out).mono ?_
  rintro e w3 ⟨rfl, hb3⟩
  have K3 := K2.call hb3
  have HT3 := Lib.hid (HT.out.grow hb3)
  obtain ⟨e0, e1, e2, e3⟩ := K3.cells
  clear d0 d1 d2 d3 K2 K1 hb3 HT
  go_wp2_with fail
  refine (check_any pa pb _ hpa).mono ?_
  rw [Hp.out]
  rintro e w4 ⟨rfl, hb4⟩
  have K4 := K3.call hb4
  have HT4 := Lib.hid (HT3.out.grow hb4)
  obtain ⟨d0, d1, d2, d3⟩ := K4.cells
  clear e0 e1 e2 e3 K3 hb4 HT3
  go_wp2_with fail
  refine (put_any tb t z pa pb v _ hpa HT4.out (by omega) hz0).mono ?_
  intro e w5 hpost
  rcases hpost with ⟨_, rfl, t1, z1, hT1, hz2, hz3, hg1, hK1, hd1⟩ | ⟨hx, _, _⟩
  rotate_left
  · exact absurd Hp.out hx
  have hs4 := K4.size
  have K5 := K4.next (hK1.below hs4 HD.out)
  obtain ⟨e0, e1, e2, e3⟩ := K5.cells
  have G1 := Lib.hid (getR_some (t := t1) (b := (pb : Int)) Hp.out (by rw [hg1, if_pos rfl]))
  have G2 := Lib.hid (getR_other (t0 := t) (t1 := t1) (pb := (pb : Int)) hpa hqa Hp.out Hne.out (fun q hq => by rw [hg1, if_neg hq]))
  have HT5 := Lib.hid hT1
  have HD5 := Lib.hid (show ∀ x, x ∈ tb :: t1.dom → w.heap.size + 2 ≤ x from fun x hx => by
    simp only [List.mem_cons] at hx
    rcases hx with rfl | hx
    · exact HD.out x (by simp)
    · rcases hd1 x hx with h | h
      · exact HD.out x (by simp [h])
      · omega)
  have HG1 := Lib.hid (show ∀ q, t1.get q = if q = path pa pb then some v else t.get q from hg1)
  clear d0 d1 d2 d3 K4 HT4 hT1 hg1 hK1 hd1 hs4
  go_wp2_with fail
  refine (get_any tb t1 z1 pa pb _ hpa HT5.out).mono ?_
  rw [G1.out]
  rintro e w6 ⟨rfl, hb6⟩
  have K6 := K5.call hb6
  have HT6 := Lib.hid (HT5.out.grow hb6)
  obtain ⟨d0, d1, d2, d3⟩ := K6.cells
  clear e0 e1 e2 e3 K5 HT5 hb6
  go_wp2_with fail
  refine (get_any tb t1 z1 qa qb _ hqa HT6.out).mono ?_
  rw [G2.out]
  rintro e w7 ⟨rfl, hb7⟩
  have K7 := K6.call hb7
  have HT7 := Lib.hid (HT6.out.grow hb7)
  obtain ⟨e0, e1, e2, e3⟩ := K7.cells
  clear d0 d1 d2 d3 K6 HT6 hb7
  obtain ⟨g, l, r, hsub⟩ := top_some (s := t1.sub (path pa pb)) (v := v) (by have := HG1.out (path pa pb); rw [if_pos rfl] at this; exact this)
  go_wp2_with fail
  refine (del_found tb t1 z1 pa pb _ hpa Hp.out HT7.out (by omega) (by omega) g l r v hsub).mono ?_
  rintro e w8 ⟨rfl, hT8, hK8⟩
  have hs7 := K7.size
  have K8 := K7.next (hK8.below hs7 HD5.out)
  have HT8 := Lib.hid hT8
  obtain ⟨d0, d1, d2, d3⟩ := K8.cells
  have hg2 : (del t1 (path pa pb)).get (path pa pb) = none := by rw [del_get, if_pos rfl]
  have HG2 := Lib.hid hg2
  have G3 := Lib.hid (getR_none (t := del t1 (path pa pb)) (b := (pb : Int)) Hp.out hg2)
  have G4 := Lib.hid (getR_other (t0 := t) (t1 := del t1 (path pa pb)) (pb := (pb : Int)) hpa hqa Hp.out Hne.out (fun q hq => by rw [del_get, if_neg (show q ≠ path pa pb from hq), HG1.out, if_neg (show q ≠ path pa pb from hq)]))
  clear e0 e1 e2 e3 K7 HT7 hT8 hK8 hs7 hg2 hsub
  generalize del t1 (path pa pb) = t2 at HT8 HG2 G3 G4 ⊢
  go_wp2_with fail
  refine (del_none tb t2 _ pa pb _ hpa Hp.out HT8.out HG2.out).mono ?_
  rintro e w9 ⟨rfl, hb9⟩
  have K9 := K8.call hb9
  have HT9 := Lib.hid (HT8.out.grow hb9)
  obtain ⟨e0, e1, e2, e3⟩ := K9.cells
  clear d0 d1 d2 d3 K8 HT8 hb9
  go_wp2_with fail
  refine (get_any tb t2 _ pa pb _ hpa HT9.out).mono ?_
  rw [G3.out]
  rintro e w10 ⟨rfl, hb10⟩
  have K10 := K9.call hb10
  have HT10 := Lib.hid (HT9.out.grow hb10)
  obtain ⟨d0, d1, d2, d3⟩ := K10.cells
  clear e0 e1 e2 e3 K9 HT9 hb10
  go_wp2_with fail
  refine (get_any tb t2 _ qa qb _ hqa HT10.out).mono ?_
  rw [G4.out]
  rintro e w11 ⟨rfl, hb11⟩
  have K11 := K10.call hb11
  obtain ⟨e0, e1, e2, e3⟩ := K11.cells
  clear d0 d1 d2 d3 K10 HT10 hb11
  go_wp2_with fail
  go_ret
  exact ⟨rfl, K11.below⟩

set_option maxRecDepth 100000 in
set_option maxHeartbeats 4000000 in
theorem keeps_b (A : Option Addr) (n c : Nat) (es : List En) (pa pb : Nat) (qb v : Int) (w : World) (hR : ReadsE w A n es) (hc : n ≤ c) (hpa : pa < 4294967296)
    (h0 : w.cell? ⟨0, 0, none⟩ = some (.int .u32 167772160)) (h1 : w.cell? ⟨0, 1, none⟩ = some (.int .i64 8)) (hp : chkE pa pb = 0) (hqp : ¬ qb = (pb : Int)) :
    Calls Tryd.prog 3 #[.slice A n c, .agg #[.int .u32 pa, .int .i64 pb], .int .i64 v, .agg #[.int .u32 pa, .int .i64 qb]] w fun e w' => e = .returned (.bool true) ∧ Below w.heap.size w w' := by
  have hl := World.block_lt_of_cell? w _ h0
  simp only at hl
  have hqa := hpa
  have hne : ¬ (pa = pa ∧ qb = (pb : Int)) := fun h => hqp h.2
  have Hp := Lib.hid hp
  have Hne := Lib.hid hne
  have HR := Lib.hid hR
  have hpb := (chkE_zero.1 hp).2.1
  clear hp hR hne
  go_enter Tryd.func3, Tryd.ntmps3
  go_wp2_with fail
  refine (trieLives_true _ (by go_simp) (by go_simp)).mono ?_
  rintro e w1 ⟨rfl, hb1⟩
  have K1 : KW w (.int .u32 pa) (.int .i64 pb) (.int .u32 pa) (.int .i64 qb) w1 := ⟨by simpa using hb1, by have := hb1.size; simp at this; omega⟩
  obtain ⟨b0, b1, b2, b3⟩ := K1.cells
  have HR1 := Lib.hid (HR.out.below K1.below)
  go_wp2_with fail
  refine (built_any A n c 6 es _ HR1.out hc (by omega)).mono ?_
  rintro e w2 ⟨rfl, hb2, t, z, hT, hz0, hz1, hget, hd⟩
  have K2 := K1.call hb2
  obtain ⟨d0, d1, d2, d3⟩ := K2.cells
  have HT := Lib.hid hT
  have hs1 := K1.size
  have hdl : ∀ x, x ∈ w1.heap.size :: t.dom → w.heap.size + 2 ≤ x := fun x hx => by
    simp only [List.mem_cons] at hx
    rcases hx with rfl | hx
    · omega
    · have := hd x hx; omega
  have HD := Lib.hid hdl
  clear hT hget hd hdl
  generalize w1.heap.size = tb at HT HD ⊢
  clear b0 b1 b2 b3 hb1 hb2 HR1
  go_wp2_with fail
  refine (get_any tb t z pa qb _ hqa HT.out).mono ?_
  rintro e w3 ⟨rfl, hb3⟩
  have K3 := K2.call hb3
  have HT3 := Lib.hid (HT.out.grow hb3)
  obtain ⟨e0, e1, e2, e3⟩ := K3.cells
  clear d0 d1 d2 d3 K2 K1 hb3 HT
  go_wp2_with fail
  refine (check_any pa pb _ hpa).mono ?_
  rw [Hp.out]
  rintro e w4 ⟨rfl, hb4⟩
  have K4 := K3.call hb4
  have HT4 := Lib.hid (HT3.out.grow hb4)
  obtain ⟨d0, d1, d2, d3⟩ := K4.cells
  clear e0 e1 e2 e3 K3 hb4 HT3
  go_wp2_with fail
  refine (put_any tb t z pa pb v _ hpa HT4.out (by omega) hz0).mono ?_
  intro e w5 hpost
  rcases hpost with ⟨_, rfl, t1, z1, hT1, hz2, hz3, hg1, hK1, hd1⟩ | ⟨hx, _, _⟩
  rotate_left
  · exact absurd Hp.out hx
  have hs4 := K4.size
  have K5 := K4.next (hK1.below hs4 HD.out)
  obtain ⟨e0, e1, e2, e3⟩ := K5.cells
  have G1 := Lib.hid (getR_some (t := t1) (b := (pb : Int)) Hp.out (by rw [hg1, if_pos rfl]))
  have G2 := Lib.hid (getR_other (t0 := t) (t1 := t1) (pb := (pb : Int)) hpa hqa Hp.out (fun h => hqp h.2) (fun q hq => by rw [hg1, if_neg hq]))
  have HT5 := Lib.hid hT1
  have HD5 := Lib.hid (show ∀ x, x ∈ tb :: t1.dom → w.heap.size + 2 ≤ x from fun x hx => by
    simp only [List.mem_cons] at hx
    rcases hx with rfl | hx
    · exact HD.out x (by simp)
    · rcases hd1 x hx with h | h
      · exact HD.out x (by simp [h])
      · omega)
  have HG1 := Lib.hid (show ∀ q, t1.get q = if q = path pa pb then some v else t.get q from hg1)
  clear d0 d1 d2 d3 K4 HT4 hT1 hg1 hK1 hd1 hs4
  go_wp2_with fail
  refine (get_any tb t1 z1 pa pb _ hpa HT5.out).mono ?_
  rw [G1.out]
  rintro e w6 ⟨rfl, hb6⟩
  have K6 := K5.call hb6
  have HT6 := Lib.hid (HT5.out.grow hb6)
  obtain ⟨d0, d1, d2, d3⟩ := K6.cells
  clear e0 e1 e2 e3 K5 HT5 hb6
  go_wp2_with fail
  refine (get_any tb t1 z1 pa qb _ hqa HT6.out).mono ?_
  rw [G2.out]
  rintro e w7 ⟨rfl, hb7⟩
  have K7 := K6.call hb7
  have HT7 := Lib.hid (HT6.out.grow hb7)
  obtain ⟨e0, e1, e2, e3⟩ := K7.cells
  clear d0 d1 d2 d3 K6 HT6 hb7
  obtain ⟨g, l, r, hsub⟩ := top_some (s := t1.sub (path pa pb)) (v := v) (by have := HG1.out (path pa pb); rw [if_pos rfl] at this; exact this)
  go_wp2_with fail
  refine (del_found tb t1 z1 pa pb _ hpa Hp.out HT7.out (by omega) (by omega) g l r v hsub).mono ?_
  rintro e w8 ⟨rfl, hT8, hK8⟩
  have hs7 := K7.size
  have K8 := K7.next (hK8.below hs7 HD5.out)
  have HT8 := Lib.hid hT8
  obtain ⟨d0, d1, d2, d3⟩ := K8.cells
  have hg2 : (del t1 (path pa pb)).get (path pa pb) = none := by rw [del_get, if_pos rfl]
  have HG2 := Lib.hid hg2
  have G3 := Lib.hid (getR_none (t := del t1 (path pa pb)) (b := (pb : Int)) Hp.out hg2)
  have G4 := Lib.hid (getR_other (t0 := t) (t1 := del t1 (path pa pb)) (pb := (pb : Int)) hpa hqa Hp.out (fun h => hqp h.2) (fun q hq => by rw [del_get, if_neg (show q ≠ path pa pb from hq), HG1.out, if_neg (show q ≠ path pa pb from hq)]))
  clear e0 e1 e2 e3 K7 HT7 hT8 hK8 hs7 hg2 hsub
  generalize del t1 (path pa pb) = t2 at HT8 HG2 G3 G4 ⊢
  go_wp2_with fail
  refine (del_none tb t2 _ pa pb _ hpa Hp.out HT8.out HG2.out).mono ?_
  rintro e w9 ⟨rfl, hb9⟩
  have K9 := K8.call hb9
  have HT9 := Lib.hid (HT8.out.grow hb9)
  obtain ⟨e0, e1, e2, e3⟩ := K9.cells
  clear d0 d1 d2 d3 K8 HT8 hb9
  go_wp2_with fail
  refine (get_any tb t2 _ pa pb _ hpa HT9.out).mono ?_
  rw [G3.out]
  rintro e w10 ⟨rfl, hb10⟩
  have K10 := K9.call hb10
  have HT10 := Lib.hid (HT9.out.grow hb10)
  obtain ⟨d0, d1, d2, d3⟩ := K10.cells
  clear e0 e1 e2 e3 K9 HT9 hb10
  go_wp2_with fail
  refine (get_any tb t2 _ pa qb _ hqa HT10.out).mono ?_
  rw [G4.out]
  rintro e w11 ⟨rfl, hb11⟩
  have K11 := K10.call hb11
  obtain ⟨e0, e1, e2, e3⟩ := K11.cells
  clear d0 d1 d2 d3 K10 HT10 hb11
  go_wp2_with fail
  go_ret
  exact ⟨rfl, K11.below⟩

set_option maxRecDepth 100000 in
set_option maxHeartbeats 4000000 in
theorem keeps_e (A : Option Addr) (n c : Nat) (es : List En) (pa pb : Nat) (v : Int) (w : World) (hR : ReadsE w A n es) (hc : n ≤ c) (hpa : pa < 4294967296)
    (h0 : w.cell? ⟨0, 0, none⟩ = some (.int .u32 167772160)) (h1 : w.cell? ⟨0, 1, none⟩ = some (.int .i64 8)) (hp : chkE pa pb = 0) :
    Calls Tryd.prog 3 #[.slice A n c, .agg #[.int .u32 pa, .int .i64 pb], .int .i64 v, .agg #[.int .u32 pa, .int .i64 pb]] w fun e w' => e = .returned (.bool true) ∧ Below w.heap.size w w' := by
  have hl := World.block_lt_of_cell? w _ h0
  simp only at hl
  have hqa := hpa
  have Hp := Lib.hid hp
  have HR := Lib.hid hR
  have hpb := (chkE_zero.1 hp).2.1
  clear hp hR
  go_enter Tryd.func3, Tryd.ntmps3
  go_wp2_with fail
  refine (trieLives_true _ (by go_simp) (by go_simp)).mono ?_
  rintro e w1 ⟨rfl, hb1⟩
  have K1 : KW w (.int .u32 pa) (.int .i64 pb) (.int .u32 pa) (.int .i64 pb) w1 := ⟨by simpa using hb1, by have := hb1.size; simp at this; omega⟩
  obtain ⟨b0, b1, b2, b3⟩ := K1.cells
  have HR1 := Lib.hid (HR.out.below K1.below)
  go_wp2_with fail
  refine (built_any A n c 6 es _ HR1.out hc (by omega)).mono ?_
  rintro e w2 ⟨rfl, hb2, t, z, hT, hz0, hz1, hget, hd⟩
  have K2 := K1.call hb2
  obtain ⟨d0, d1, d2, d3⟩ := K2.cells
  have HT := Lib.hid hT
  have hs1 := K1.size
  have hdl : ∀ x, x ∈ w1.heap.size :: t.dom → w.heap.size + 2 ≤ x := fun x hx => by
    simp only [List.mem_cons] at hx
    rcases hx with rfl | hx
    · omega
    · have := hd x hx; omega
  have HD := Lib.hid hdl
  clear hT hget hd hdl
  generalize w1.heap.size = tb at HT HD ⊢
  clear b0 b1 b2 b3 hb1 hb2 HR1
  go_wp2_with fail
  refine (get_any tb t z pa pb _ hqa HT.out).mono ?_
  rintro e w3 ⟨rfl, hb3⟩
  have K3 := K2.call hb3
  have HT3 := Lib.hid (HT.out.grow hb3)
  obtain ⟨e0, e1, e2, e3⟩ := K3.cells
  clear d0 d1 d2 d3 K2 K1 hb3 HT
  go_wp2_with fail
  refine (check_any pa pb _ hpa).mono ?_
  rw [Hp.out]
  rintro e w4 ⟨rfl, hb4⟩
  have K4 := K3.call hb4
  have HT4 := Lib.hid (HT3.out.grow hb4)
  obtain ⟨d0, d1, d2, d3⟩ := K4.cells
  clear e0 e1 e2 e3 K3 hb4 HT3
  go_wp2_with fail
  refine (put_any tb t z pa pb v _ hpa HT4.out (by omega) hz0).mono ?_
  intro e w5 hpost
  rcases hpost with ⟨_, rfl, t1, z1, hT1, hz2, hz3, hg1, hK1, hd1⟩ | ⟨hx, _, _⟩
  rotate_left
  · exact absurd Hp.out hx
  have hs4 := K4.size
  have K5 := K4.next (hK1.below hs4 HD.out)
  obtain ⟨e0, e1, e2, e3⟩ := K5.cells
  have G1 := Lib.hid (getR_some (t := t1) (b := (pb : Int)) Hp.out (by rw [hg1, if_pos rfl]))
  have HT5 := Lib.hid hT1
  have HD5 := Lib.hid (show ∀ x, x ∈ tb :: t1.dom → w.heap.size + 2 ≤ x from fun x hx => by
    simp only [List.mem_cons] at hx
    rcases hx with rfl | hx
    · exact HD.out x (by simp)
    · rcases hd1 x hx with h | h
      · exact HD.out x (by simp [h])
      · omega)
  have HG1 := Lib.hid (show ∀ q, t1.get q = if q = path pa pb then some v else t.get q from hg1)
  clear d0 d1 d2 d3 K4 HT4 hT1 hg1 hK1 hd1 hs4
  go_wp2_with fail
  refine (get_any tb t1 z1 pa pb _ hpa HT5.out).mono ?_
  rw [G1.out]
  rintro e w6 ⟨rfl, hb6⟩
  have K6 := K5.call hb6
  have HT6 := Lib.hid (HT5.out.grow hb6)
  obtain ⟨d0, d1, d2, d3⟩ := K6.cells
  clear e0 e1 e2 e3 K5 HT5 hb6
  go_wp2_with fail
  refine (get_any tb t1 z1 pa pb _ hqa HT6.out).mono ?_
  rw [G1.out]
  rintro e w7 ⟨rfl, hb7⟩
  have K7 := K6.call hb7
  have HT7 := Lib.hid (HT6.out.grow hb7)
  obtain ⟨e0, e1, e2, e3⟩ := K7.cells
  clear d0 d1 d2 d3 K6 HT6 hb7
  obtain ⟨g, l, r, hsub⟩ := top_some (s := t1.sub (path pa pb)) (v := v) (by have := HG1.out (path pa pb); rw [if_pos rfl] at this; exact this)
  go_wp2_with fail
  refine (del_found tb t1 z1 pa pb _ hpa Hp.out HT7.out (by omega) (by omega) g l r v hsub).mono ?_
  rintro e w8 ⟨rfl, hT8, hK8⟩
  have hs7 := K7.size
  have K8 := K7.next (hK8.below hs7 HD5.out)
  have HT8 := Lib.hid hT8
  obtain ⟨d0, d1, d2, d3⟩ := K8.cells
  have hg2 : (del t1 (path pa pb)).get (path pa pb) = none := by rw [del_get, if_pos rfl]
  have HG2 := Lib.hid hg2
  have G3 := Lib.hid (getR_none (t := del t1 (path pa pb)) (b := (pb : Int)) Hp.out hg2)
  clear e0 e1 e2 e3 K7 HT7 hT8 hK8 hs7 hg2 hsub
  generalize del t1 (path pa pb) = t2 at HT8 HG2 G3 ⊢
  go_wp2_with fail
  refine (del_none tb t2 _ pa pb _ hpa Hp.out HT8.out HG2.out).mono ?_
  rintro e w9 ⟨rfl, hb9⟩
  have K9 := K8.call hb9
  have HT9 := Lib.hid (HT8.out.grow hb9)
  obtain ⟨e0, e1, e2, e3⟩ := K9.cells
  clear d0 d1 d2 d3 K8 HT8 hb9
  go_wp2_with fail
  refine (get_any tb t2 _ pa pb _ hpa HT9.out).mono ?_
  rw [G3.out]
  rintro e w10 ⟨rfl, hb10⟩
  have K10 := K9.call hb10
  have HT10 := Lib.hid (HT9.out.grow hb10)
  obtain ⟨d0, d1, d2, d3⟩ := K10.cells
  clear e0 e1 e2 e3 K9 HT9 hb10
  go_wp2_with fail
  refine (get_any tb t2 _ pa pb _ hqa HT10.out).mono ?_
  rw [G3.out]
  rintro e w11 ⟨rfl, hb11⟩
  have K11 := K10.call hb11
  obtain ⟨e0, e1, e2, e3⟩ := K11.cells
  clear d0 d1 d2 d3 K10 HT10 hb11
  go_wp2_with fail
  go_ret
  exact ⟨rfl, K11.below⟩

end Go.Proofs.YtaknlphmplimhaaDoor
