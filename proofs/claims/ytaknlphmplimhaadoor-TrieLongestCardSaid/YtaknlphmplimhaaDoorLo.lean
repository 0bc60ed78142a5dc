/- The walk of TrieLongest, which returns true; the slice is read, an address of 32 bits, and the world holds the variable ten. -/
import Derived.Test.YtaknlphmplimhaaDoorLu
import Derived.Test.YtaknlphmplimhaaDoorLp
import Derived.Test.YtaknlphmplimhaaDoorTi
import Derived.Test.YtaknlphmplimhaaDoorTg
set_option linter.unusedVariables false
set_option linter.unusedSimpArgs false
namespace Go.Proofs.YtaknlphmplimhaaDoor
open Go.RowKit Go.Proofs AT
theorem hasE_is {a : Nat} {b : Int} {x : Nat} {X : Bool} (h : hasB a b x = X) (w : World) (ha : a < 4294967296) (hx : x < 4294967296) :
    Calls Tryd.prog 30 #[.agg #[.int .u32 a, .int .i64 b], .int .u32 x] w fun e w' => e = .returned (.bool X) ∧ Below w.heap.size w w' := h ▸ has_any a b x w ha hx
theorem enters29 : ∀ args w, (callFunc 29 args).run Tryd.prog w = .ok (.enter 29 args) w := enters_of Tryd.func29 (by kernel_rfl) rfl
theorem enters32 : ∀ args w, (callFunc 32 args).run Tryd.prog w = .ok (.enter 32 args) w := enters_of Tryd.func32 (by kernel_rfl) rfl
set_option maxHeartbeats 400000 in
theorem clo29 (a B : Nat) (y : En) (W : World) (ha : a < 4294967296) (hy : y.a < 4294967296) (hB : W.cell? ⟨B, 0, none⟩ = some (.int .u32 a)) :
    Calls Tryd.prog 29 #[.agg (cell3 y).toArray, .pointer (some ⟨B, 0, none⟩)] W fun e w' => e = .returned (.bool (hasB y.a y.b a)) ∧ Below W.heap.size W w' := by
  show Calls Tryd.prog 29 #[.agg #[.int .u32 y.a, .int .i64 y.b, .int .i64 y.v], .pointer (some ⟨B, 0, none⟩)] W _
  have hl := World.block_lt_of_cell? W _ hB
  simp only at hl
  have hne : B ≠ W.heap.size := by omega
  go_enter Tryd.func29, Tryd.ntmps29
  go_wp2_with fail
  refine (has_any y.a y.b a _ hy ha).mono ?_
  rintro e w1 ⟨rfl, hb⟩
  go_wp2_with fail
  go_ret
  exact ⟨rfl, bthen ((Below.refl _ _).alloc (Nat.le_refl _) _) (by simp) hb⟩
set_option maxHeartbeats 400000 in
theorem clo32 (a B F : Nat) (x y : En) (W : World) (ha : a < 4294967296) (hy : y.a < 4294967296) (hB : W.cell? ⟨B, 0, none⟩ = some (.int .u32 a)) (hF : W.cell? ⟨F, 1, none⟩ = some (.int .i64 x.b)) :
    Calls Tryd.prog 32 #[.agg (cell3 y).toArray, .pointer (some ⟨B, 0, none⟩), .pointer (some ⟨F, 0, none⟩)] W fun e w' => e = .returned (.bool (hasB y.a y.b a && decide (x.b < y.b))) ∧ Below W.heap.size W w' := by
  show Calls Tryd.prog 32 #[.agg #[.int .u32 y.a, .int .i64 y.b, .int .i64 y.v], .pointer (some ⟨B, 0, none⟩), .pointer (some ⟨F, 0, none⟩)] W _
  have hl := World.block_lt_of_cell? W _ hB
  have hl2 := World.block_lt_of_cell? W _ hF
  simp only at hl hl2
  have hne : B ≠ W.heap.size := by omega
  have hne2 : F ≠ W.heap.size := by omega
  cases hh : hasB y.a y.b a
  all_goals
    have HH := Lib.hid hh
    clear hh
    go_enter Tryd.func32, Tryd.ntmps32
    go_wp2_with fail
    refine (hasE_is HH.out _ hy ha).mono ?_
    rintro e w1 ⟨rfl, hb⟩
    have f1 : w1.cell? ⟨F, 1, none⟩ = some (.int .i64 x.b) := by rw [hb.cell (p := ⟨F, 1, none⟩) (by simp; omega)]; go_simp
    have p1 : w1.cell? ⟨W.heap.size, 1, none⟩ = some (.int .i64 y.b) := by rw [hb.cell (p := ⟨W.heap.size, 1, none⟩) (by simp)]; go_simp
    have HB := Lib.hid (bthen ((Below.refl W.heap.size W).alloc (Nat.le_refl _) _) (by simp) hb)
    clear hb
    go_wp2_with fail
    go_ret
    exact ⟨by first | rfl | simp, HB.out⟩
/-- What holds at a world of the law. -/
structure LW (w : World) (a tb : Nat) (t : AT) (z : Int) (wi : World) : Prop where
  box : wi.heap[w.heap.size]? = some (.cells #[.int .u32 a] 23 (0, 0))
  tr : TR wi tb z t
  below : Below w.heap.size w wi
theorem LW.call {w wi wj : World} {a tb : Nat} {t : AT} {z : Int} (h : LW w a tb t z wi) (hb : Below wi.heap.size wi wj) : LW w a tb t z wj :=
  ⟨(hb.block _ (Array.getElem?_eq_some_iff.1 h.box).1).trans h.box, h.tr.grow hb, bthen h.below h.below.size hb⟩
theorem LW.cell {w wi : World} {a tb : Nat} {t : AT} {z : Int} (h : LW w a tb t z wi) : wi.cell? ⟨w.heap.size, 0, none⟩ = some (.int .u32 a) := cell_of_row wi w.heap.size 0 _ 23 (0, 0) h.box
theorem pays32 {a B F d : Nat} {w : World} (ha : a < 4294967296) (hB : w.cell? ⟨B, 0, none⟩ = some (.int .u32 a)) (hF : w.cell? ⟨F, 1, none⟩ = some (.int .i64 d)) :
    ∀ (W : World) (y : En), y.a < 4294967296 → Below w.heap.size w W → Calls Tryd.prog 32 (#[.agg (cell3 y).toArray] ++ #[.pointer (some ⟨B, 0, none⟩), .pointer (some ⟨F, 0, none⟩)]) W fun e w' =>
      e = .returned (.bool ((fun y : En => hasB y.a y.b a && decide ((d : Int) < y.b)) y)) ∧ Below w.heap.size w w' := fun W y hy hW =>
  have hb := World.block_lt_of_cell? w _ hB
  have hf := World.block_lt_of_cell? w _ hF
  (clo32 a B F ⟨0, d, 0⟩ y W ha hy ((hW.cell (p := ⟨B, 0, none⟩) hb).trans hB) ((hW.cell (p := ⟨F, 1, none⟩) hf).trans hF)).mono fun _ _ ⟨g1, g2⟩ => ⟨g1, bthen hW hW.size g2⟩
theorem containsE_lit {A : Option Addr} {n c : Nat} {es : List En} {a : Nat} {b v : Int} {w : World} {X : Bool} (hR : ReadsE w A n es) (hX : (es.any fun y => eqE ⟨a, b, v⟩ y) = X) :
    Calls Tryd.prog 31 #[.slice A n c, .agg #[.int .u32 a, .int .i64 b, .int .i64 v]] w fun e w' => e = .returned (.bool X) ∧ Below w.heap.size w w' := hX ▸ containsE_any A n c es ⟨a, b, v⟩ w hR
theorem containsFE_is {A : Option Addr} {n c : Nat} {es : List En} {p : En → Bool} {g : Nat} {lb : Array Value} {w : World} {X : Bool} (hR : ReadsE w A n es) (eg : ∀ args w, (callFunc g args).run Tryd.prog w = .ok (.enter g args) w)
    (hp : ∀ (W : World) (x : En), x.a < 4294967296 → Below w.heap.size w W → Calls Tryd.prog g (#[.agg (cell3 x).toArray] ++ lb) W fun e w' => e = .returned (.bool (p x)) ∧ Below w.heap.size w w') (hX : es.any p = X) :
    Calls Tryd.prog 27 #[.slice A n c, .func (.func g) #[] lb] w fun e w' => e = .returned (.bool X) ∧ Below w.heap.size w w' := hX ▸ containsFE_small A n c es p g lb w hR eg hp
set_option maxRecDepth 100000 in
set_option maxHeartbeats 4000000 in
theorem longest_any (A : Option Addr) (n c : Nat) (es : List En) (a : Nat) (w : World) (hR : ReadsE w A n es) (hc : n ≤ c) (ha : a < 4294967296)
    (h0 : w.cell? ⟨0, 0, none⟩ = some (.int .u32 167772160)) (h1 : w.cell? ⟨0, 1, none⟩ = some (.int .i64 8)) :
    Calls Tryd.prog 4 #[.slice A n c, .int .u32 a] w fun e w' => e = .returned (.bool true) ∧ Below w.heap.size w w' := by
  have hl := World.block_lt_of_cell? w _ h0
  simp only at hl
  have HR := Lib.hid hR
  clear hR
  go_enter Tryd.func4, Tryd.ntmps4
  go_wp2_with fail
  refine (trieLives_true _ (by go_simp) (by go_simp)).mono ?_
  rintro e w1 ⟨rfl, hb1⟩
  have B1 : w1.heap[w.heap.size]? = some (.cells #[.int .u32 a] 23 (0, 0)) := (hb1.block _ (by simp)).trans (heap_alloc_new w _)
  have HB1 := Lib.hid (bthen ((Below.refl w.heap.size w).alloc (Nat.le_refl _) _) (by simp) hb1)
  have HR1 := Lib.hid (HR.out.below HB1.out)
  clear hb1
  go_wp2_with fail
  refine (built_any A n c 6 es _ HR1.out hc (by omega)).mono ?_
  rintro e w2 ⟨rfl, hb2, t, z, hT, hz0, hz1, hget, hd⟩
  have K2 : LW w a w1.heap.size t z w2 := ⟨(hb2.block _ (Array.getElem?_eq_some_iff.1 B1).1).trans B1, hT, bthen HB1.out HB1.out.size hb2⟩
  have hlen : (ents t 0 0).length ≤ 1000000 := Nat.le_trans (ents_len (fun e he => HR.out.small e (List.mem_of_mem_take he)) hget) (by rw [List.length_take]; omega)
  have HL := Lib.hid hlen
  clear hT hget hd hb2 B1 HB1 HR1 hlen hz0 hz1
  generalize w1.heap.size = tb at K2 ⊢
  have b0 := K2.cell
  have hs2 := K2.below.size
  go_wp2_with fail
  refine (find_any tb t z a _ ha K2.tr).mono ?_
  cases hbest : best t a 33 with
  | none =>
    rintro e w3 ⟨rfl, hb3⟩
    have K3 := K2.call hb3
    have HN := Lib.hid (longest_none hbest)
    have e1 : fa a none = 0 := rfl
    have e2 : fd none = 0 := rfl
    have e3 : fv none = 0 := rfl
    have e4 : (none : Option (Nat × Int)).isSome = false := rfl
    rw [e1, e2, e3, e4]
    have K3a : LW w a tb t z (w3.alloc (.cells #[.int .u32 0, .int .i64 0, .int .i64 0] 36)) := K3.call ((Below.refl _ _).alloc (Nat.le_refl _) _)
    clear e1 e2 e3 e4 hb3 K2 b0
    have b0 := K3a.cell
    go_wp2_with fail
    refine (listAll_any tb t z _ K3a.tr HL.out).mono ?_
    rintro e w4 ⟨A4, c4, rfl, hc4, hR4, hb4⟩
    have K4 := K3a.call hb4
    have HR4 := Lib.hid hR4
    clear hR4 hb4 b0
    have b0 := K4.cell
    go_wp2_with fail
    refine (containsFE_small A4 _ c4 _ (fun y => hasB y.a y.b a) 29 #[.pointer (some ⟨w.heap.size, 0, none⟩)] _ HR4.out enters29 (fun W x hx hW => (clo29 a w.heap.size x W ha hx ((hW.cell (p := ⟨w.heap.size, 0, none⟩) (Array.getElem?_eq_some_iff.1 K4.box).1).trans b0)).mono fun _ _ ⟨g1, g2⟩ => ⟨g1, bthen hW hW.size g2⟩)).mono ?_
    rw [HN.out]
    rintro e w5 ⟨rfl, hb5⟩
    have K5 := K4.call hb5
    go_wp2_with fail
    go_ret
    exact ⟨rfl, K5.below⟩
  | some dv =>
    obtain ⟨d, v⟩ := dv
    rintro e w3 ⟨rfl, hb3⟩
    have K3 := K2.call hb3
    obtain ⟨hd32, q1, q2, q3⟩ := longest_some ha hbest
    have hm := (val_masked ha hd32).1
    rw [show fa a (some (d, v)) = ((a / sz (d : Int) * sz (d : Int) : Nat) : Int) from rfl, show fd (some (d, v)) = (d : Int) from rfl, show fv (some (d, v)) = v from rfl, show (some (d, v)).isSome = true from rfl]
    generalize a / sz (d : Int) * sz (d : Int) = m at hm q1 q2 ⊢
    have Q1 := Lib.hid q1
    have Q2 := Lib.hid q2
    have Q3 := Lib.hid q3
    have K4 : LW w a tb t z (w3.alloc (.cells #[.int .u32 m, .int .i64 d, .int .i64 v] 36)) := K3.call ((Below.refl _ _).alloc (Nat.le_refl _) _)
    have X4 := heap_alloc_new w3 (.cells #[.int .u32 m, .int .i64 d, .int .i64 v] 36)
    have hs4 : w3.heap.size < (w3.alloc (.cells #[.int .u32 m, .int .i64 d, .int .i64 v] 36)).heap.size := by simp
    clear q1 q2 q3 hbest hb3 K2 K3 b0 hs2
    go_wp2_with fail
    generalize (w3.alloc (.cells #[.int .u32 m, .int .i64 d, .int .i64 v] 36)) = wk at K4 X4 hs4 ⊢
    generalize w3.heap.size = F at X4 hs4 ⊢
    have b0 := K4.cell
    have x0 : wk.cell? ⟨F, 0, none⟩ = some (.int .u32 m) := cell_of_row wk F 0 _ 36 (0, 0) X4
    have x1 : wk.cell? ⟨F, 1, none⟩ = some (.int .i64 d) := cell_of_row wk F 1 _ 36 (0, 0) X4
    have x2 : wk.cell? ⟨F, 2, none⟩ = some (.int .i64 v) := cell_of_row wk F 2 _ 36 (0, 0) X4
    have K : LW w a tb t z wk.drew := ⟨K4.box, ⟨K4.tr.root.keep (fun _ _ => rfl), K4.tr.rep.keep (fun _ _ => rfl), K4.tr.nd⟩, K4.below.drew⟩
    have hsF : F < wk.drew.heap.size := hs4
    clear K4 X4 hs4
    go_region_held3 (fun w' => w'.cell? ⟨w.heap.size, 0, none⟩ = some (.int .u32 a) ∧ w'.cell? ⟨F, 0, none⟩ = some (.int .u32 m) ∧ w'.cell? ⟨F, 1, none⟩ = some (.int .i64 d) ∧ w'.cell? ⟨F, 2, none⟩ = some (.int .i64 v))
      (first
        | go_keep
        | (go_split_ands; refine ⟨?_, ?_, ?_, ?_⟩ <;> assumption))
      (first
        | ((with_reducible refine (listAll_any tb t z _ K.tr HL.out).mono ?_); rintro e wz ⟨Az, cz, rfl, hcz, hRz, hbz⟩
           replace K := K.call hbz
           have HRz := Lib.hid hRz
           have g0 : wz.cell? ⟨w.heap.size, 0, none⟩ = some (.int .u32 a) := K.cell
           have g1 : wz.cell? ⟨F, 0, none⟩ = some (.int .u32 m) := by rw [hbz.cell (p := ⟨F, 0, none⟩) (by simpa using hsF)]; first | assumption | (rw [World.cell?_drew]; assumption)
           have g2 : wz.cell? ⟨F, 1, none⟩ = some (.int .i64 d) := by rw [hbz.cell (p := ⟨F, 1, none⟩) (by simpa using hsF)]; first | assumption | (rw [World.cell?_drew]; assumption)
           have g3 : wz.cell? ⟨F, 2, none⟩ = some (.int .i64 v) := by rw [hbz.cell (p := ⟨F, 2, none⟩) (by simpa using hsF)]; first | assumption | (rw [World.cell?_drew]; assumption)
           replace hsF : F < wz.heap.size := Nat.lt_of_lt_of_le hsF hbz.size
           clear hRz hbz hcz)
        | ((with_reducible refine (containsE_lit HRz.out Q1.out).mono ?_); rintro e wz ⟨rfl, hbz⟩
           replace K := K.call hbz
           have g0 : wz.cell? ⟨w.heap.size, 0, none⟩ = some (.int .u32 a) := K.cell
           have g1 : wz.cell? ⟨F, 0, none⟩ = some (.int .u32 m) := by rw [hbz.cell (p := ⟨F, 0, none⟩) (by simpa using hsF)]; first | assumption | (rw [World.cell?_drew]; assumption)
           have g2 : wz.cell? ⟨F, 1, none⟩ = some (.int .i64 d) := by rw [hbz.cell (p := ⟨F, 1, none⟩) (by simpa using hsF)]; first | assumption | (rw [World.cell?_drew]; assumption)
           have g3 : wz.cell? ⟨F, 2, none⟩ = some (.int .i64 v) := by rw [hbz.cell (p := ⟨F, 2, none⟩) (by simpa using hsF)]; first | assumption | (rw [World.cell?_drew]; assumption)
           replace hsF : F < wz.heap.size := Nat.lt_of_lt_of_le hsF hbz.size
           clear hbz)
        | ((with_reducible refine (hasE_is Q2.out _ hm ha).mono ?_); rintro e wz ⟨rfl, hbz⟩
           replace K := K.call hbz
           have g0 : wz.cell? ⟨w.heap.size, 0, none⟩ = some (.int .u32 a) := K.cell
           have g1 : wz.cell? ⟨F, 0, none⟩ = some (.int .u32 m) := by rw [hbz.cell (p := ⟨F, 0, none⟩) (by simpa using hsF)]; first | assumption | (rw [World.cell?_drew]; assumption)
           have g2 : wz.cell? ⟨F, 1, none⟩ = some (.int .i64 d) := by rw [hbz.cell (p := ⟨F, 1, none⟩) (by simpa using hsF)]; first | assumption | (rw [World.cell?_drew]; assumption)
           have g3 : wz.cell? ⟨F, 2, none⟩ = some (.int .i64 v) := by rw [hbz.cell (p := ⟨F, 2, none⟩) (by simpa using hsF)]; first | assumption | (rw [World.cell?_drew]; assumption)
           replace hsF : F < wz.heap.size := Nat.lt_of_lt_of_le hsF hbz.size
           clear hbz)
        | ((with_reducible refine (containsFE_is HRz.out enters32 (pays32 ha K.cell (by assumption)) Q3.out).mono ?_); rintro e wz ⟨rfl, hbz⟩
           replace K := K.call hbz
           have g0 : wz.cell? ⟨w.heap.size, 0, none⟩ = some (.int .u32 a) := K.cell
           have g1 : wz.cell? ⟨F, 0, none⟩ = some (.int .u32 m) := by rw [hbz.cell (p := ⟨F, 0, none⟩) (by simpa using hsF)]; first | assumption | (rw [World.cell?_drew]; assumption)
           have g2 : wz.cell? ⟨F, 1, none⟩ = some (.int .i64 d) := by rw [hbz.cell (p := ⟨F, 1, none⟩) (by simpa using hsF)]; first | assumption | (rw [World.cell?_drew]; assumption)
           have g3 : wz.cell? ⟨F, 2, none⟩ = some (.int .i64 v) := by rw [hbz.cell (p := ⟨F, 2, none⟩) (by simpa using hsF)]; first | assumption | (rw [World.cell?_drew]; assumption)
           clear hbz)
        | fail)
    all_goals
      go_wp2_with fail
      go_ret
      exact ⟨rfl, K.below⟩
end Go.Proofs.YtaknlphmplimhaaDoor
