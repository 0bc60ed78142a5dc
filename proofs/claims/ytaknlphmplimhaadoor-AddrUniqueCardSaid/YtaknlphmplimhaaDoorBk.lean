/- The walk of AddrBack, which returns true: what Print prints Parse reads back, and so for prefixes. -/
import Derived.Test.YtaknlphmplimhaaDoorPt
set_option linter.unusedVariables false
set_option linter.unusedSimpArgs false
namespace Go.Proofs.YtaknlphmplimhaaDoor
open Go.RowKit Go.Proofs
theorem bsize (s : ByteArray) : s.size = s.data.toList.length := Array.length_toList.symm
theorem maxcell_below {w W : World} {m : Int} (hm : w.cell? ⟨2, 0, none⟩ = some (.int .i64 m)) (hW : Below w.heap.size w W) : W.cell? ⟨2, 0, none⟩ = some (.int .i64 m) := by
  have hml := World.block_lt_of_cell? w _ hm
  rw [hW.cell (p := ⟨2, 0, none⟩) hml]; exact hm
theorem dotted_size (a : Nat) : (⟨(dotted a).toArray⟩ : ByteArray).size ≤ 15 := by
  have := dotted_len a
  simpa [ByteArray.size] using this
theorem decB_size {b : Nat} (h : b < 1000) : (decB b).size ≤ 3 := by
  have := (dec_len h).2
  simpa [decB, ByteArray.size] using this
theorem pfxS_size {a b : Nat} (h : b < 1000) : (pfxS a b).size ≤ 19 := by
  have h1 := dotted_len a
  have h2 := (dec_len h).2
  rw [bsize, pfxS_eq, List.length_append, List.length_cons]
  omega
theorem pp_of_pfx {a b : Nat} (ha : a < 4294967296) (hb : b ≤ 32) (hc : chkE a b = 0) (m : Int) (W : World) (hm : W.cell? ⟨2, 0, none⟩ = some (.int .i64 m)) :
    Calls Tryd.prog 71 #[.string (pfxS a b)] W fun e w' => e = .returned (.tuple #[.agg #[.int .u32 a, .int .i64 (b : Nat)], .int .i64 0]) ∧ Below W.heap.size W w' := by
  have hcut : Lib.cut (pfxS a b).data.toList [47] = (dotted a, Lib.decDigits b, true) := by rw [pfxS_eq]; exact cut_at 47 _ _ (dotted_no a)
  have hsz := pfxS_size (a := a) (b := b) (by omega)
  have hP := ppCalls_of (pfxS a b) _ _ true m W (by omega) hm hcut (by
    rw [bsize, pfxS_eq, List.length_append]; omega)
  rw [par_dotted a ha, numV_dec (by omega), (num_dec (by omega)).1] at hP
  exact pp_good _ a b m W hP ha hb hc
set_option maxRecDepth 100000 in
set_option maxHeartbeats 2000000 in
theorem back_bad (a c : Nat) (d m : Int) (w : World) (ha : a < 4294967296) (hc4 : c < 4294967296) (hc : chkE c d ≠ 0) (hm : w.cell? ⟨2, 0, none⟩ = some (.int .i64 m))
    (htab : Lib.TabIs Tryd.prog w "internal/strconv.uint64pow10" .u64 Lib.pow10Tab)
    (h0 : w.cell? ⟨0, 0, none⟩ = some (.int .u32 167772160)) (h1 : w.cell? ⟨0, 1, none⟩ = some (.int .i64 8)) :
    Calls Tryd.prog 17 #[.int .u32 a, .agg #[.int .u32 c, .int .i64 d]] w fun e w' => e = .returned (.bool true) ∧ Below w.heap.size w w' := by
  have hl := World.block_lt_of_cell? w _ h0
  simp only at hl
  have HP := Lib.hid (fun W (hW : Below w.heap.size w W) => print_any a W ha (itoaAt_of a (tab_below htab hW)) (Nat.le_trans (dotted_len a) (by decide)))
  have HQ := Lib.hid (fun W (hW : Below w.heap.size w W) => parse_is (s := ⟨(dotted a).toArray⟩) (a := a) (e := 0) (by simpa using par_dotted a ha) m W (Nat.lt_of_le_of_lt (dotted_size a) (by decide)) (maxcell_below hm hW))
  have HC := Lib.hid hc
  have hne : (chkE c d != 0) = true := by simpa using hc
  clear hc htab hm
  generalize hdd : (⟨(dotted a).toArray⟩ : ByteArray) = dd at HP HQ
  clear hdd
  go_enter Tryd.func17, Tryd.ntmps17
  go_wp2_with fail
  refine (addrLives_true _ (by go_simp) (by go_simp)).mono ?_
  rintro e w1 ⟨rfl, hb1⟩
  have B1 := Lib.hid (show Box w1 w.heap.size c d from (hb1.block _ (by simp)).trans (heap_alloc_new w _))
  have HB1 := Lib.hid (show Below w.heap.size w w1 from bthen ((Below.refl _ _).alloc (Nat.le_refl _) _) (by simp) hb1)
  clear hb1
  go_wp2_with fail
  refine (HP.out _ HB1.out).mono ?_
  rintro e w2 ⟨rfl, hb2⟩
  have B2 := Lib.hid (B1.out.grow hb2)
  have HB2 := Lib.hid (bthen HB1.out HB1.out.size hb2)
  clear hb2
  go_wp2_with fail
  refine (HQ.out _ HB2.out).mono ?_
  rintro e w3 ⟨rfl, hb3⟩
  have B3 := B2.out.grow hb3
  have HB3 := Lib.hid (bthen HB2.out HB2.out.size hb3)
  obtain ⟨p0, p1⟩ := B3.cells
  have hs3 := B3.lt
  clear hb3
  go_wp2_with fail
  refine (printPrefix_bad c d _ hc4 HC.out).mono ?_
  rintro e w4 ⟨rfl, hb4⟩
  have B4 := B3.grow hb4
  have HB4 := Lib.hid (bthen HB3.out HB3.out.size hb4)
  obtain ⟨q0, q1⟩ := B4.cells
  have hs4 := B4.lt
  clear hb4
  go_wp2_with fail
  refine (check_any c d _ hc4).mono ?_
  rintro e w5 ⟨rfl, hb5⟩
  have HB5 := Lib.hid (bthen HB4.out HB4.out.size hb5)
  clear hb5
  go_wp2_with fail
  go_ret
  exact ⟨rfl, HB5.out⟩
set_option maxRecDepth 100000 in
set_option maxHeartbeats 2000000 in
theorem back_good (a c d : Nat) (m : Int) (w : World) (ha : a < 4294967296) (hc4 : c < 4294967296) (hd : d ≤ 32) (hc : chkE c d = 0) (hm : w.cell? ⟨2, 0, none⟩ = some (.int .i64 m))
    (htab : Lib.TabIs Tryd.prog w "internal/strconv.uint64pow10" .u64 Lib.pow10Tab)
    (h0 : w.cell? ⟨0, 0, none⟩ = some (.int .u32 167772160)) (h1 : w.cell? ⟨0, 1, none⟩ = some (.int .i64 8)) :
    Calls Tryd.prog 17 #[.int .u32 a, .agg #[.int .u32 c, .int .i64 d]] w fun e w' => e = .returned (.bool true) ∧ Below w.heap.size w w' := by
  have hl := World.block_lt_of_cell? w _ h0
  simp only at hl
  have HP := Lib.hid (fun W (hW : Below w.heap.size w W) => print_any a W ha (itoaAt_of a (tab_below htab hW)) (Nat.le_trans (dotted_len a) (by decide)))
  have HQ := Lib.hid (fun W (hW : Below w.heap.size w W) => parse_is (s := ⟨(dotted a).toArray⟩) (a := a) (e := 0) (by simpa using par_dotted a ha) m W (Nat.lt_of_le_of_lt (dotted_size a) (by decide)) (maxcell_below hm hW))
  have HC := Lib.hid hc
  have HR := Lib.hid (fun W (hW : Below w.heap.size w W) => printPrefix_good c d W hc4 hc (itoaAt_of c (tab_below htab hW)) (Nat.le_trans (dotted_len c) (by decide)) (Nat.le_trans (decB_size (by omega)) (by decide)))
  have HS := Lib.hid (fun W (hW : Below w.heap.size w W) => pp_of_pfx hc4 hd hc m W (maxcell_below hm hW))
  generalize hss : pfxS c d = ss at HR HS
  clear hss
  clear hc htab hm
  generalize hdd : (⟨(dotted a).toArray⟩ : ByteArray) = dd at HP HQ
  clear hdd
  go_enter Tryd.func17, Tryd.ntmps17
  go_wp2_with fail
  refine (addrLives_true _ (by go_simp) (by go_simp)).mono ?_
  rintro e w1 ⟨rfl, hb1⟩
  have B1 := Lib.hid (show Box w1 w.heap.size c d from (hb1.block _ (by simp)).trans (heap_alloc_new w _))
  have HB1 := Lib.hid (show Below w.heap.size w w1 from bthen ((Below.refl _ _).alloc (Nat.le_refl _) _) (by simp) hb1)
  clear hb1
  go_wp2_with fail
  refine (HP.out _ HB1.out).mono ?_
  rintro e w2 ⟨rfl, hb2⟩
  have B2 := Lib.hid (B1.out.grow hb2)
  have HB2 := Lib.hid (bthen HB1.out HB1.out.size hb2)
  clear hb2
  go_wp2_with fail
  refine (HQ.out _ HB2.out).mono ?_
  rintro e w3 ⟨rfl, hb3⟩
  have B3 := B2.out.grow hb3
  have HB3 := Lib.hid (bthen HB2.out HB2.out.size hb3)
  obtain ⟨p0, p1⟩ := B3.cells
  have hs3 := B3.lt
  clear hb3
  go_wp2_with fail
  refine (HR.out _ HB3.out).mono ?_
  rintro e w4 ⟨rfl, hb4⟩
  have B4 := Lib.hid (B3.grow hb4)
  have HB4 := Lib.hid (bthen HB3.out HB3.out.size hb4)
  clear hb4
  go_wp2_with fail
  refine (HS.out _ HB4.out).mono ?_
  rintro e w5 ⟨rfl, hb5⟩
  have B5 := B4.out.grow hb5
  have HB5 := Lib.hid (bthen HB4.out HB4.out.size hb5)
  obtain ⟨r0, r1⟩ := B5.cells
  have hs5 := B5.lt
  clear hb5
  go_wp2_with fail
  go_ret
  exact ⟨rfl, HB5.out.alloc (by have := HB5.out.size; omega) _⟩
theorem back_any (a : Nat) (c : Nat) (d m : Int) (w : World) (ha : a < 4294967296) (hc4 : c < 4294967296) (hm : w.cell? ⟨2, 0, none⟩ = some (.int .i64 m))
    (htab : Lib.TabIs Tryd.prog w "internal/strconv.uint64pow10" .u64 Lib.pow10Tab)
    (h0 : w.cell? ⟨0, 0, none⟩ = some (.int .u32 167772160)) (h1 : w.cell? ⟨0, 1, none⟩ = some (.int .i64 8)) :
    Calls Tryd.prog 17 #[.int .u32 a, .agg #[.int .u32 c, .int .i64 d]] w fun e w' => e = .returned (.bool true) ∧ Below w.heap.size w w' := by
  by_cases hc : chkE c d = 0
  · obtain ⟨z1, z2, _⟩ := chkE_zero.1 hc
    obtain ⟨n, rfl⟩ := Int.eq_ofNat_of_zero_le z1
    exact back_good a c n m w ha hc4 (by omega) hc hm htab h0 h1
  · exact back_bad a c d m w ha hc4 hc hm htab h0 h1
end Go.Proofs.YtaknlphmplimhaaDoor
