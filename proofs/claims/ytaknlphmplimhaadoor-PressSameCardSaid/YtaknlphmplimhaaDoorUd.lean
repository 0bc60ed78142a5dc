/- The walk of TrieUnder, which returns true; the slice is read, a prefix by value, and the world holds the variable ten. -/
import Derived.Test.YtaknlphmplimhaaDoorCe
import Derived.Test.YtaknlphmplimhaaDoorTi
import Derived.Test.YtaknlphmplimhaaDoorTj
import Derived.Test.YtaknlphmplimhaaDoorTg
import Derived.IntWalk
set_option linter.unusedVariables false
set_option linter.unusedSimpArgs false
namespace Go.Proofs.YtaknlphmplimhaaDoor
open Go.RowKit Go.Proofs AT
/-- An entry of the prefix itself. -/
def ownE (s : AT) (a d : Nat) : List En := match AT.top s with | some v => [⟨a, d, v⟩] | none => []
theorem ents_split (s : AT) (a d : Nat) (hd : d < 32) : ents s a d = ownE s a d ++ (ents (s.kid false) a (d + 1) ++ ents (s.kid true) (a + 2 ^ (31 - d)) (d + 1)) := by
  cases s with
  | nil => rfl
  | node b l r v h => cases h <;> simp [ents, ownE, AT.top, AT.kid, show d ≠ 32 by omega]
theorem ents_32 (s : AT) (a : Nat) : ents s a 32 = ownE s a 32 := by
  cases s with
  | nil => rfl
  | node b l r v h => cases h <;> simp [ents, ownE, AT.top]
theorem under0_any (tb : Nat) (t : AT) (z : Int) (w : World) (hT : TR w tb z t) (hl : (ents t 0 0).length ≤ 1000000) :
    Calls Tryd.prog 33 #[.pointer (some ⟨tb, 0, none⟩), .agg #[.int .u32 0, .int .i64 0]] w (GivesE2 w (ents t 0 0)) := under_good tb t z 0 0 w Val0 hT hl
theorem underLow_any (tb : Nat) (t : AT) (z : Int) (a d : Nat) (w : World) (hV : Val a d) (hd : d < 32) (hT : TR w tb z t) (hl : (ents ((t.sub (path a d)).kid false) a (d + 1)).length ≤ 1000000) :
    Calls Tryd.prog 33 #[.pointer (some ⟨tb, 0, none⟩), .agg #[.int .u32 a, .int .i64 ((d : Int) + 1)]] w (GivesE2 w (ents ((t.sub (path a d)).kid false) a (d + 1))) := by
  have e : t.sub (path a (d + 1)) = (t.sub (path a d)).kid false := by rw [path_left hV hd, sub_snoc]
  have := under_good tb t z a (d + 1) w (hV.left hd) hT (by rw [e]; exact hl)
  rw [e] at this
  exact this
theorem underHigh_any (tb : Nat) (t : AT) (z : Int) (a d : Nat) (w : World) (hV : Val a d) (hd : d < 32) (hT : TR w tb z t) (hl : (ents ((t.sub (path a d)).kid true) (a + 2 ^ (31 - d)) (d + 1)).length ≤ 1000000) :
    Calls Tryd.prog 33 #[.pointer (some ⟨tb, 0, none⟩), .agg #[.int .u32 ((a + 2 ^ (31 - d) : Nat) : Int), .int .i64 ((d : Int) + 1)]] w (GivesE2 w (ents ((t.sub (path a d)).kid true) (a + 2 ^ (31 - d)) (d + 1))) := by
  have e : t.sub (path (a + 2 ^ (31 - d)) (d + 1)) = (t.sub (path a d)).kid true := by rw [path_right hV hd, sub_snoc]
  have := under_good tb t z (a + 2 ^ (31 - d)) (d + 1) w (hV.right hd) hT (by rw [e]; exact hl)
  rw [e] at this
  exact this
theorem readsE_nil (w : World) (A : Option Addr) : ReadsE w A 0 [] := ⟨rfl, by omega, fun h => absurd h (by omega), by simp⟩
theorem equalE_same {A B : Option Addr} {n m c d : Nat} {es fs : List En} {w : World} (hR : ReadsE w A n es) (hS : ReadsE w B m fs) (h : es = fs) :
    Calls Tryd.prog 34 #[.slice A n c, .slice B m d] w fun e w' => e = .returned (.bool true) ∧ Below w.heap.size w w' := by
  have := Classical.propDecidable (es = fs)
  have k := equalE_any A B n m c d es fs w hR hS
  rw [decide_eq_true h] at k
  exact k
/-- What holds at a world of the law. -/
structure UW (w : World) (a : Nat) (b : Int) (tb : Nat) (t : AT) (z : Int) (wi : World) : Prop where
  box : wi.heap[w.heap.size]? = some (.cells #[.int .u32 a, .int .i64 b] 25 (0, 0))
  tr : TR wi tb z t
  below : Below w.heap.size w wi
theorem UW.call {w wi wj : World} {a tb : Nat} {b z : Int} {t : AT} (h : UW w a b tb t z wi) (hb : Below wi.heap.size wi wj) : UW w a b tb t z wj :=
  ⟨(hb.block _ (Array.getElem?_eq_some_iff.1 h.box).1).trans h.box, h.tr.grow hb, bthen h.below h.below.size hb⟩
theorem UW.cells {w wi : World} {a tb : Nat} {b z : Int} {t : AT} (h : UW w a b tb t z wi) : wi.cell? ⟨w.heap.size, 0, none⟩ = some (.int .u32 a) ∧ wi.cell? ⟨w.heap.size, 1, none⟩ = some (.int .i64 b) :=
  ⟨cell_of_row wi w.heap.size 0 _ 25 (0, 0) h.box, cell_of_row wi w.heap.size 1 _ 25 (0, 0) h.box⟩
theorem UW.lt {w wi : World} {a tb : Nat} {b z : Int} {t : AT} (h : UW w a b tb t z wi) : w.heap.size < wi.heap.size := (Array.getElem?_eq_some_iff.1 h.box).1
set_option maxRecDepth 100000 in
set_option maxHeartbeats 4000000 in
theorem uw_bad (A : Option Addr) (n c : Nat) (es : List En) (a : Nat) (b : Int) (w : World) (hR : ReadsE w A n es) (hc : n ≤ c) (ha : a < 4294967296)
    (h0 : w.cell? ⟨0, 0, none⟩ = some (.int .u32 167772160)) (h1 : w.cell? ⟨0, 1, none⟩ = some (.int .i64 8)) (hv : chkE a b ≠ 0) :
    Calls Tryd.prog 5 #[.slice A n c, .agg #[.int .u32 a, .int .i64 b]] w fun e w' => e = .returned (.bool true) ∧ Below w.heap.size w w' := by
  have hl := World.block_lt_of_cell? w _ h0
  simp only at hl
  have HR := Lib.hid hR
  clear hR
  have Hv := Lib.hid hv
  have Hd : (chkE a b != 0) = true := by simpa using hv
  clear hv
  go_enter Tryd.func5, Tryd.ntmps5
  go_wp2_with fail
  refine (trieLives_true _ (by go_simp) (by go_simp)).mono ?_
  rintro e w1 ⟨rfl, hb1⟩
  have B1 : w1.heap[w.heap.size]? = some (.cells #[.int .u32 a, .int .i64 b] 25 (0, 0)) := (hb1.block _ (by simp)).trans (heap_alloc_new w _)
  have HB1 := Lib.hid (bthen ((Below.refl w.heap.size w).alloc (Nat.le_refl _) _) (by simp) hb1)
  have HR1 := Lib.hid (HR.out.below HB1.out)
  clear hb1
  go_wp2_with fail
  refine (built_any A n c 6 es _ HR1.out hc (by omega)).mono ?_
  rintro e w2 ⟨rfl, hb2, t, z, hT, hz0, hz1, hget, hd⟩
  have K : UW w a b w1.heap.size t z w2 := ⟨(hb2.block _ (Array.getElem?_eq_some_iff.1 B1).1).trans B1, hT, bthen HB1.out HB1.out.size hb2⟩
  have htk : (es.take 6).length ≤ 6 := by rw [List.length_take]; omega
  have hsm6 : ∀ e, e ∈ es.take 6 → e.a < 4294967296 := fun e he => HR.out.small e (List.mem_of_mem_take he)
  clear hT hget hd hb2 B1 HB1 HR1 hz0 hz1 htk hsm6
  generalize w1.heap.size = tb at K ⊢
  obtain ⟨p0, p1⟩ := K.cells
  go_wp2_with fail
  refine (under_bad tb a b _ ha Hv.out).mono ?_
  rintro e wz ⟨rfl, hbz⟩
  replace K := K.call hbz
  clear hbz p0 p1
  obtain ⟨p0, p1⟩ := K.cells
  go_wp2_with fail
  refine (check_any a b _ ha).mono ?_
  rintro e wz ⟨rfl, hbz⟩
  replace K := K.call hbz
  clear hbz p0 p1
  obtain ⟨p0, p1⟩ := K.cells
  go_wp2_with fail
  refine (check_any a b _ ha).mono ?_
  rintro e wz ⟨rfl, hbz⟩
  replace K := K.call hbz
  clear hbz p0 p1
  obtain ⟨p0, p1⟩ := K.cells
  go_wp2_with fail
  go_ret
  exact ⟨rfl, K.below⟩
set_option maxRecDepth 100000 in
set_option maxHeartbeats 4000000 in
theorem uw_eq (A : Option Addr) (n c : Nat) (es : List En) (a : Nat)  (w : World) (hR : ReadsE w A n es) (hc : n ≤ c) (ha : a < 4294967296)
    (h0 : w.cell? ⟨0, 0, none⟩ = some (.int .u32 167772160)) (h1 : w.cell? ⟨0, 1, none⟩ = some (.int .i64 8)) (hv : Val a 32) :
    Calls Tryd.prog 5 #[.slice A n c, .agg #[.int .u32 a, .int .i64 32]] w fun e w' => e = .returned (.bool true) ∧ Below w.heap.size w w' := by
  have hl := World.block_lt_of_cell? w _ h0
  simp only at hl
  have HR := Lib.hid hR
  clear hR
  have HV := Lib.hid hv
  have HC := Lib.hid (show chkE a 32 = 0 from (Val_chk hv.1).1 hv)
  clear hv
  go_enter Tryd.func5, Tryd.ntmps5
  go_wp2_with fail
  refine (trieLives_true _ (by go_simp) (by go_simp)).mono ?_
  rintro e w1 ⟨rfl, hb1⟩
  have B1 : w1.heap[w.heap.size]? = some (.cells #[.int .u32 a, .int .i64 32] 25 (0, 0)) := (hb1.block _ (by simp)).trans (heap_alloc_new w _)
  have HB1 := Lib.hid (bthen ((Below.refl w.heap.size w).alloc (Nat.le_refl _) _) (by simp) hb1)
  have HR1 := Lib.hid (HR.out.below HB1.out)
  clear hb1
  go_wp2_with fail
  refine (built_any A n c 6 es _ HR1.out hc (by omega)).mono ?_
  rintro e w2 ⟨rfl, hb2, t, z, hT, hz0, hz1, hget, hd⟩
  have K : UW w a 32 w1.heap.size t z w2 := ⟨(hb2.block _ (Array.getElem?_eq_some_iff.1 B1).1).trans B1, hT, bthen HB1.out HB1.out.size hb2⟩
  have htk : (es.take 6).length ≤ 6 := by rw [List.length_take]; omega
  have hsm6 : ∀ e, e ∈ es.take 6 → e.a < 4294967296 := fun e he => HR.out.small e (List.mem_of_mem_take he)
  have HL0 := Lib.hid (Nat.le_trans (Nat.le_trans (ents_len hsm6 hget) htk) (show 6 ≤ 1000000 by decide))
  have HLp := Lib.hid (Nat.le_trans (Nat.le_trans (sub_len hsm6 hget HV.out) htk) (show 6 ≤ 1000000 by decide))
  clear hT hget hd hb2 B1 HB1 HR1 hz0 hz1 htk hsm6
  generalize w1.heap.size = tb at K ⊢
  obtain ⟨p0, p1⟩ := K.cells
  go_wp2_with fail
  have HSP := Lib.hid (ents_32 (t.sub (path a 32)) a)
  refine (under_good tb t z a 32 _ HV.out K.tr HLp.out).mono ?_
  rintro e wz ⟨A3, c3, rfl, hc3, hR3, hbz⟩
  replace K := K.call hbz
  have R3 := Lib.hid hR3
  clear hc3 hR3
  clear hbz p0 p1
  obtain ⟨p0, p1⟩ := K.cells
  go_wp2_with fail
  refine (check_any a 32 _ ha).mono ?_
  rw [HC.out]
  rintro e wz ⟨rfl, hbz⟩
  replace R3 := Lib.hid (R3.out.below' hbz)
  replace K := K.call hbz
  clear hbz p0 p1
  obtain ⟨p0, p1⟩ := K.cells
  go_wp2_with fail
  refine (under0_any tb t z _ K.tr HL0.out).mono ?_
  rintro e wz ⟨A5, c5, rfl, hc5, hR5, hbz⟩
  replace R3 := Lib.hid (R3.out.below' hbz)
  replace K := K.call hbz
  have R5 := Lib.hid hR5
  clear hc5 hR5
  clear hbz p0 p1
  obtain ⟨p0, p1⟩ := K.cells
  go_wp2_with fail
  refine (listAll_any tb t z _ K.tr HL0.out).mono ?_
  rintro e wz ⟨A6, c6, rfl, hc6, hR6, hbz⟩
  replace R3 := Lib.hid (R3.out.below' hbz)
  replace R5 := Lib.hid (R5.out.below' hbz)
  replace K := K.call hbz
  have R6 := Lib.hid hR6
  clear hc6 hR6
  clear hbz p0 p1
  obtain ⟨p0, p1⟩ := K.cells
  go_wp2_with fail
  refine (equalE_same R5.out R6.out rfl).mono ?_
  rintro e wz ⟨rfl, hbz⟩
  replace R3 := Lib.hid (R3.out.below' hbz)
  replace K := K.call hbz
  clear hbz p0 p1
  obtain ⟨p0, p1⟩ := K.cells
  go_wp2_with fail
  have hgg : getR t a 32 = match AT.top (t.sub (path a 32)) with | some v => (v, 0) | none => (0, 4) := by
    unfold getR; rw [if_neg (by simpa using HC.out)]; rfl
  have hown : ownE (t.sub (path a 32)) a 32 = match AT.top (t.sub (path a 32)) with | some v => [⟨a, 32, v⟩] | none => [] := rfl
  refine (get_any tb t z a 32 _ ha K.tr).mono ?_
  rw [hgg]
  cases htop : AT.top (t.sub (path a 32)) with
  | none =>
    rw [htop] at hown
    have HOWN := Lib.hid hown
    clear hgg htop hown
    rintro e wz ⟨rfl, hbz⟩
    replace R3 := Lib.hid (R3.out.below' hbz)
    replace K := K.call hbz
    clear hbz p0 p1
    obtain ⟨p0, p1⟩ := K.cells
    go_wp2_with fail
    refine (equalE_same (B := none) (m := 0) (d := 0) (fs := []) R3.out (readsE_nil _ _) (by rw [HSP.out, HOWN.out])).mono ?_
    rintro e wz ⟨rfl, hbz⟩
    replace K := K.call hbz
    go_wp2_with fail
    go_ret
    exact ⟨rfl, K.below⟩
  | some v =>
    rw [htop] at hown
    have HOWN := Lib.hid hown
    clear hgg htop hown
    rintro e wz ⟨rfl, hbz⟩
    replace R3 := Lib.hid (R3.out.below' hbz)
    replace K := K.call hbz
    clear hbz p0 p1
    obtain ⟨p0, p1⟩ := K.cells
    obtain ⟨i0, hi, hz0, hz1, hz2⟩ := info_parts info36
    go_wp2_with (at_builtin
                 refine wpList_append_own _ rfl _ _ 22 rfl wz.heap.size 36 i0 (.agg #[.int .u32 0, .int .i64 0, .int .i64 0]) 3 24 Tryd.underlying22 hi hz0 hz1 hz2 rfl (by decide) _ _ _ rfl (World.ownsRow_nil _ _ _ _) ⟨wz.heap.size, 0, none⟩ 1 1 [.int .u32 a, .int .i64 32, .int .i64 v] rfl rfl (World.news_of_block (cs := #[.int .u32 a, .int .i64 32, .int .i64 v]) (t := 36) (fr := (0, 0)) (heap_alloc_new wz _)) (by simp [Value.oneCell']) (by unfold maxLen; omega) (by omega) (by simp) ?_
                 intro v' w3 hown' hgrow3 hnil3
                 have hb3 : Below wz.heap.size wz w3 := ((Below.refl _ _).alloc (Nat.le_refl _) _).trans ((below_of_grown hgrow3).mono (by simp))
                 obtain ⟨A9, c9, rfl, hc9, hR9⟩ := (show RowE wz.heap.size w3 v' [⟨a, 32, v⟩] from hown').reads (by simp; exact ha)
                 have CAP9 := Lib.hid (RowE.cap (show RowE wz.heap.size w3 (.slice A9 1 c9) [⟨a, 32, v⟩] from hown'))
                 have R9 := Lib.hid hR9
                 replace R3 := Lib.hid (R3.out.below' hb3)
                 have K' := K.call hb3
                 have q0 := K'.cells.1
                 have q1 := K'.cells.2
                 clear hgrow3 hnil3 hi hz0 hz1 hz2 hown' hR9 hc9)
    refine (equalE_same (fs := [⟨a, 32, v⟩]) R3.out R9.out (by rw [HSP.out, HOWN.out])).mono ?_
    rintro e wq ⟨rfl, hbq⟩
    replace K := K'.call hbq
    go_wp2_with fail
    go_ret
    exact ⟨rfl, K.below⟩
set_option maxRecDepth 100000 in
set_option maxHeartbeats 4000000 in
theorem uw_lt (A : Option Addr) (n c : Nat) (es : List En) (a : Nat) (d : Nat) (w : World) (hR : ReadsE w A n es) (hc : n ≤ c) (ha : a < 4294967296)
    (h0 : w.cell? ⟨0, 0, none⟩ = some (.int .u32 167772160)) (h1 : w.cell? ⟨0, 1, none⟩ = some (.int .i64 8)) (hv : Val a d) (hd32 : d < 32) :
    Calls Tryd.prog 5 #[.slice A n c, .agg #[.int .u32 a, .int .i64 d]] w fun e w' => e = .returned (.bool true) ∧ Below w.heap.size w w' := by
  have hl := World.block_lt_of_cell? w _ h0
  simp only at hl
  have HR := Lib.hid hR
  clear hR
  have HV := Lib.hid hv
  have HC := Lib.hid (show chkE a d = 0 from (Val_chk hv.1).1 hv)
  clear hv
  have hlt : (d : Int) < 32 := by omega
  have hwd : IntKind.i64.wrap (31 - (d : Int)) = 31 - (d : Int) := IntWalk.i64_in _ (by omega)
  have hwr : IntKind.i64.wrap ((d : Int) + 1) = (d : Int) + 1 := IntWalk.i64_in _ (by omega)
  have h31 : 0 ≤ 31 - (d : Int) := by omega
  have hnn : ¬ (31 - (d : Int) < 0) := by omega
  have HH1 := Lib.hid (high_val a d HV.out hd32)
  have HH2 := Lib.hid (high_val2 a d HV.out hd32)
  go_enter Tryd.func5, Tryd.ntmps5
  go_wp2_with fail
  refine (trieLives_true _ (by go_simp) (by go_simp)).mono ?_
  rintro e w1 ⟨rfl, hb1⟩
  have B1 : w1.heap[w.heap.size]? = some (.cells #[.int .u32 a, .int .i64 d] 25 (0, 0)) := (hb1.block _ (by simp)).trans (heap_alloc_new w _)
  have HB1 := Lib.hid (bthen ((Below.refl w.heap.size w).alloc (Nat.le_refl _) _) (by simp) hb1)
  have HR1 := Lib.hid (HR.out.below HB1.out)
  clear hb1
  go_wp2_with fail
  refine (built_any A n c 6 es _ HR1.out hc (by omega)).mono ?_
  rintro e w2 ⟨rfl, hb2, t, z, hT, hz0, hz1, hget, hd⟩
  have K : UW w a d w1.heap.size t z w2 := ⟨(hb2.block _ (Array.getElem?_eq_some_iff.1 B1).1).trans B1, hT, bthen HB1.out HB1.out.size hb2⟩
  have htk : (es.take 6).length ≤ 6 := by rw [List.length_take]; omega
  have hsm6 : ∀ e, e ∈ es.take 6 → e.a < 4294967296 := fun e he => HR.out.small e (List.mem_of_mem_take he)
  have HL0 := Lib.hid (Nat.le_trans (Nat.le_trans (ents_len hsm6 hget) htk) (show 6 ≤ 1000000 by decide))
  have HLp := Lib.hid (Nat.le_trans (Nat.le_trans (sub_len hsm6 hget HV.out) htk) (show 6 ≤ 1000000 by decide))
  have HLs := Lib.hid (show (ents (t.sub (path a d)) a d).length ≤ 6 from Nat.le_trans (sub_len hsm6 hget HV.out) htk)
  have hspl := congrArg List.length (ents_split (t.sub (path a d)) a d hd32)
  rw [List.length_append, List.length_append] at hspl
  have HLl := Lib.hid (show (ents ((t.sub (path a d)).kid false) a (d + 1)).length ≤ 1000000 by have := HLs.out; omega)
  have HLr := Lib.hid (show (ents ((t.sub (path a d)).kid true) (a + 2 ^ (31 - d)) (d + 1)).length ≤ 1000000 by have := HLs.out; omega)
  clear hspl
  clear hT hget hd hb2 B1 HB1 HR1 hz0 hz1 htk hsm6
  generalize w1.heap.size = tb at K ⊢
  obtain ⟨p0, p1⟩ := K.cells
  go_wp2_with fail
  have HSP := Lib.hid (ents_split (t.sub (path a d)) a d hd32)
  refine (under_good tb t z a d _ HV.out K.tr HLp.out).mono ?_
  rintro e wz ⟨A3, c3, rfl, hc3, hR3, hbz⟩
  replace K := K.call hbz
  have R3 := Lib.hid hR3
  clear hc3 hR3
  clear hbz p0 p1
  obtain ⟨p0, p1⟩ := K.cells
  go_wp2_with fail
  refine (check_any a d _ ha).mono ?_
  rw [HC.out]
  rintro e wz ⟨rfl, hbz⟩
  replace R3 := Lib.hid (R3.out.below' hbz)
  replace K := K.call hbz
  clear hbz p0 p1
  obtain ⟨p0, p1⟩ := K.cells
  go_wp2_with fail
  refine (under0_any tb t z _ K.tr HL0.out).mono ?_
  rintro e wz ⟨A5, c5, rfl, hc5, hR5, hbz⟩
  replace R3 := Lib.hid (R3.out.below' hbz)
  replace K := K.call hbz
  have R5 := Lib.hid hR5
  clear hc5 hR5
  clear hbz p0 p1
  obtain ⟨p0, p1⟩ := K.cells
  go_wp2_with fail
  refine (listAll_any tb t z _ K.tr HL0.out).mono ?_
  rintro e wz ⟨A6, c6, rfl, hc6, hR6, hbz⟩
  replace R3 := Lib.hid (R3.out.below' hbz)
  replace R5 := Lib.hid (R5.out.below' hbz)
  replace K := K.call hbz
  have R6 := Lib.hid hR6
  clear hc6 hR6
  clear hbz p0 p1
  obtain ⟨p0, p1⟩ := K.cells
  go_wp2_with fail
  refine (equalE_same R5.out R6.out rfl).mono ?_
  rintro e wz ⟨rfl, hbz⟩
  replace R3 := Lib.hid (R3.out.below' hbz)
  replace K := K.call hbz
  clear hbz p0 p1
  obtain ⟨p0, p1⟩ := K.cells
  go_wp2_with fail
  have hgg : getR t a d = match AT.top (t.sub (path a d)) with | some v => (v, 0) | none => (0, 4) := by
    unfold getR; rw [if_neg (by simpa using HC.out)]; rfl
  have hown : ownE (t.sub (path a d)) a d = match AT.top (t.sub (path a d)) with | some v => [⟨a, d, v⟩] | none => [] := rfl
  refine (get_any tb t z a d _ ha K.tr).mono ?_
  rw [hgg]
  cases htop : AT.top (t.sub (path a d)) with
  | none =>
    rw [htop] at hown
    have HOWN := Lib.hid hown
    clear hgg htop hown
    rintro e wz ⟨rfl, hbz⟩
    replace R3 := Lib.hid (R3.out.below' hbz)
    replace K := K.call hbz
    clear hbz p0 p1
    obtain ⟨p0, p1⟩ := K.cells
    go_wp2_with fail
    have KK := K
    refine (underLow_any tb t z a d _ HV.out hd32 KK.tr HLl.out).mono ?_
    rintro e wl ⟨A7, c7, rfl, hc7, hR7, hb7⟩
    replace R3 := Lib.hid (R3.out.below' hb7)
    have K7 := KK.call hb7
    have R7 := Lib.hid hR7
    have C7 := Lib.hid hc7.2
    clear hb7 hR7 hc7
    obtain ⟨s0, s1⟩ := K7.cells
    have HHH := Lib.hid (underHigh_any tb t z a d wl.drew HV.out hd32 ⟨K7.tr.root.keep (fun _ _ => rfl), K7.tr.rep.keep (fun _ _ => rfl), K7.tr.nd⟩ HLr.out)
    have hsl := K7.lt
    go_wp2_with fail
    go_region_held3 (fun w' => w'.cell? ⟨w.heap.size, 0, none⟩ = some (.int .u32 a) ∧ w'.cell? ⟨w.heap.size, 1, none⟩ = some (.int .i64 d))
      (first
        | go_keep
        | (go_split_ands; refine ⟨?_, ?_⟩ <;> assumption))
      (first
        | ((first | rw [HH1.out] | rw [HH2.out]); (with_reducible refine HHH.out.mono ?_); rintro e wr ⟨A8, c8, rfl, hc8, hR8, hb8⟩
           have hb8' : Below wl.heap.size wl wr := ⟨hb8.os, hb8.tape, hb8.output, hb8.size, hb8.block⟩
           replace R3 := Lib.hid (R3.out.below' hb8')
           replace R7 := Lib.hid (R7.out.below' hb8')
           have K8 := K7.call hb8'
           have R8 := Lib.hid hR8
           have C8 := Lib.hid hc8.2
           have t0 := K8.cells.1
           have t1 := K8.cells.2
           clear hb8 hb8' hR8 hc8)
        | fail)
    all_goals
      go_wp2_with fail
      have hba : Below wr.heap.size wr (wr.alloc (.cells #[.slice none 0 0, .slice A7 (ents ((t.sub (path a d)).kid false) a (d + 1)).length c7, .slice A8 (ents ((t.sub (path a d)).kid true) (a + 2 ^ (31 - d)) (d + 1)).length c8] 22)) := (Below.refl _ _).alloc (Nat.le_refl _) _
      have hlen := HLs.out
      have hle := congrArg List.length HSP.out
      rw [List.length_append, List.length_append] at hle
      have KA := K8.call hba
      have HCC := Lib.hid (concat3E (heap_alloc_new wr _) (readsE_nil _ none) (fun _ => rfl) (R7.out.below' hba) C7.out (R8.out.below' hba) C8.out (show 0 + (ents ((t.sub (path a d)).kid false) a (d + 1)).length + (ents ((t.sub (path a d)).kid true) (a + 2 ^ (31 - d)) (d + 1)).length ≤ 100000 by omega))
      replace R3 := Lib.hid (R3.out.below' hba)
      have HEQ := Lib.hid (show ents (t.sub (path a d)) a d = ([] : List En) ++ (ents ((t.sub (path a d)).kid false) a (d + 1) ++ ents ((t.sub (path a d)).kid true) (a + 2 ^ (31 - d)) (d + 1)) by rw [HSP.out, HOWN.out])
      clear hba hlen hle
      generalize ([] : List En) ++ (ents ((t.sub (path a d)).kid false) a (d + 1) ++ ents ((t.sub (path a d)).kid true) (a + 2 ^ (31 - d)) (d + 1)) = EE at HCC HEQ
      refine HCC.out.mono ?_
      rintro e wc ⟨Ac, cc, rfl, hcc, hRc, hbc⟩
      have KC := KA.call hbc
      replace R3 := Lib.hid (R3.out.below' hbc)
      have Rc := Lib.hid hRc
      clear hbc hRc hcc
      go_wp2_with fail
      refine (equalE_same R3.out Rc.out HEQ.out).mono ?_
      rintro e wd ⟨rfl, hbd⟩
      have KD := KC.call hbd
      go_wp2_with fail
      go_ret
      exact ⟨rfl, KD.below⟩
  | some v =>
    rw [htop] at hown
    have HOWN := Lib.hid hown
    clear hgg htop hown
    rintro e wz ⟨rfl, hbz⟩
    replace R3 := Lib.hid (R3.out.below' hbz)
    replace K := K.call hbz
    clear hbz p0 p1
    obtain ⟨p0, p1⟩ := K.cells
    obtain ⟨i0, hi, hz0, hz1, hz2⟩ := info_parts info36
    go_wp2_with (at_builtin
                 refine wpList_append_own _ rfl _ _ 22 rfl wz.heap.size 36 i0 (.agg #[.int .u32 0, .int .i64 0, .int .i64 0]) 3 24 Tryd.underlying22 hi hz0 hz1 hz2 rfl (by decide) _ _ _ rfl (World.ownsRow_nil _ _ _ _) ⟨wz.heap.size, 0, none⟩ 1 1 [.int .u32 a, .int .i64 d, .int .i64 v] rfl rfl (World.news_of_block (cs := #[.int .u32 a, .int .i64 d, .int .i64 v]) (t := 36) (fr := (0, 0)) (heap_alloc_new wz _)) (by simp [Value.oneCell']) (by unfold maxLen; omega) (by omega) (by simp) ?_
                 intro v' w3 hown' hgrow3 hnil3
                 have hb3 : Below wz.heap.size wz w3 := ((Below.refl _ _).alloc (Nat.le_refl _) _).trans ((below_of_grown hgrow3).mono (by simp))
                 obtain ⟨A9, c9, rfl, hc9, hR9⟩ := (show RowE wz.heap.size w3 v' [⟨a, d, v⟩] from hown').reads (by simp; exact ha)
                 have CAP9 := Lib.hid (RowE.cap (show RowE wz.heap.size w3 (.slice A9 1 c9) [⟨a, d, v⟩] from hown'))
                 have R9 := Lib.hid hR9
                 replace R3 := Lib.hid (R3.out.below' hb3)
                 have K' := K.call hb3
                 have q0 := K'.cells.1
                 have q1 := K'.cells.2
                 clear hgrow3 hnil3 hi hz0 hz1 hz2 hown' hR9 hc9)
    have KK := K'
    refine (underLow_any tb t z a d _ HV.out hd32 KK.tr HLl.out).mono ?_
    rintro e wl ⟨A7, c7, rfl, hc7, hR7, hb7⟩
    replace R3 := Lib.hid (R3.out.below' hb7)
    replace R9 := Lib.hid (R9.out.below' hb7)
    have K7 := KK.call hb7
    have R7 := Lib.hid hR7
    have C7 := Lib.hid hc7.2
    clear hb7 hR7 hc7
    obtain ⟨s0, s1⟩ := K7.cells
    have HHH := Lib.hid (underHigh_any tb t z a d wl.drew HV.out hd32 ⟨K7.tr.root.keep (fun _ _ => rfl), K7.tr.rep.keep (fun _ _ => rfl), K7.tr.nd⟩ HLr.out)
    have hsl := K7.lt
    go_wp2_with fail
    go_region_held3 (fun w' => w'.cell? ⟨w.heap.size, 0, none⟩ = some (.int .u32 a) ∧ w'.cell? ⟨w.heap.size, 1, none⟩ = some (.int .i64 d))
      (first
        | go_keep
        | (go_split_ands; refine ⟨?_, ?_⟩ <;> assumption))
      (first
        | ((first | rw [HH1.out] | rw [HH2.out]); (with_reducible refine HHH.out.mono ?_); rintro e wr ⟨A8, c8, rfl, hc8, hR8, hb8⟩
           have hb8' : Below wl.heap.size wl wr := ⟨hb8.os, hb8.tape, hb8.output, hb8.size, hb8.block⟩
           replace R3 := Lib.hid (R3.out.below' hb8')
           replace R7 := Lib.hid (R7.out.below' hb8')
           replace R9 := Lib.hid (R9.out.below' hb8')
           have K8 := K7.call hb8'
           have R8 := Lib.hid hR8
           have C8 := Lib.hid hc8.2
           have t0 := K8.cells.1
           have t1 := K8.cells.2
           clear hb8 hb8' hR8 hc8)
        | fail)
    all_goals
      go_wp2_with fail
      have hba : Below wr.heap.size wr (wr.alloc (.cells #[.slice A9 1 c9, .slice A7 (ents ((t.sub (path a d)).kid false) a (d + 1)).length c7, .slice A8 (ents ((t.sub (path a d)).kid true) (a + 2 ^ (31 - d)) (d + 1)).length c8] 22)) := (Below.refl _ _).alloc (Nat.le_refl _) _
      have hlen := HLs.out
      have hle := congrArg List.length HSP.out
      rw [List.length_append, List.length_append] at hle
      have KA := K8.call hba
      have HCC := Lib.hid (concat3E (heap_alloc_new wr _) (R9.out.below' hba) CAP9.out (R7.out.below' hba) C7.out (R8.out.below' hba) C8.out (show 1 + (ents ((t.sub (path a d)).kid false) a (d + 1)).length + (ents ((t.sub (path a d)).kid true) (a + 2 ^ (31 - d)) (d + 1)).length ≤ 100000 by omega))
      replace R3 := Lib.hid (R3.out.below' hba)
      have HEQ := Lib.hid (show ents (t.sub (path a d)) a d = [⟨a, d, v⟩] ++ (ents ((t.sub (path a d)).kid false) a (d + 1) ++ ents ((t.sub (path a d)).kid true) (a + 2 ^ (31 - d)) (d + 1)) by rw [HSP.out, HOWN.out])
      clear hba hlen hle
      generalize [⟨a, d, v⟩] ++ (ents ((t.sub (path a d)).kid false) a (d + 1) ++ ents ((t.sub (path a d)).kid true) (a + 2 ^ (31 - d)) (d + 1)) = EE at HCC HEQ
      refine HCC.out.mono ?_
      rintro e wc ⟨Ac, cc, rfl, hcc, hRc, hbc⟩
      have KC := KA.call hbc
      replace R3 := Lib.hid (R3.out.below' hbc)
      have Rc := Lib.hid hRc
      clear hbc hRc hcc
      go_wp2_with fail
      refine (equalE_same R3.out Rc.out HEQ.out).mono ?_
      rintro e wd ⟨rfl, hbd⟩
      have KD := KC.call hbd
      go_wp2_with fail
      go_ret
      exact ⟨rfl, KD.below⟩
/-- The law's walk, whole. -/
theorem under_any (A : Option Addr) (n c : Nat) (es : List En) (a : Nat) (b : Int) (w : World) (hR : ReadsE w A n es) (hc : n ≤ c) (ha : a < 4294967296)
    (h0 : w.cell? ⟨0, 0, none⟩ = some (.int .u32 167772160)) (h1 : w.cell? ⟨0, 1, none⟩ = some (.int .i64 8)) :
    Calls Tryd.prog 5 #[.slice A n c, .agg #[.int .u32 a, .int .i64 b]] w fun e w' => e = .returned (.bool true) ∧ Below w.heap.size w w' := by
  by_cases hv : chkE a b = 0
  · obtain ⟨d, rfl, hV⟩ := Val_of_chk ha hv
    by_cases hd : d < 32
    · exact uw_lt A n c es a d w hR hc ha h0 h1 hV hd
    · obtain rfl : d = 32 := by have := hV.2.1; omega
      exact uw_eq A n c es a w hR hc ha h0 h1 hV
  · exact uw_bad A n c es a b w hR hc ha h0 h1 hv
end Go.Proofs.YtaknlphmplimhaaDoor
