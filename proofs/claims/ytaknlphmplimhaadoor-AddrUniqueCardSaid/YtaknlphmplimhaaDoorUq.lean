/- The walk of AddrUnique, which returns true: a text that Parse or ParsePrefix takes is the one that Print or PrintPrefix gives. -/
import Derived.Test.YtaknlphmplimhaaDoorBk
set_option linter.unusedVariables false
set_option linter.unusedSimpArgs false
namespace Go.Proofs.YtaknlphmplimhaaDoor
open Go.RowKit Go.Proofs
/-- What ParsePrefix says of a text: a prefix whose print is the text, or an error. -/
def PpOut (s : ByteArray) (w : World) : Prop :=
  (∃ a b : Nat, a < 4294967296 ∧ b ≤ 32 ∧ chkE a b = 0 ∧ pfxS a b = s ∧ ∀ W, Below w.heap.size w W → Calls Tryd.prog 71 #[.string s] W fun e w' => e = .returned (.tuple #[.agg #[.int .u32 a, .int .i64 (b : Nat)], .int .i64 0]) ∧ Below W.heap.size W w') ∨
  (∀ W, Below w.heap.size w W → Calls Tryd.prog 71 #[.string s] W fun e w' => (∃ err : Int, err ≠ 0 ∧ e = .returned (.tuple #[.agg #[.int .u32 0, .int .i64 0], .int .i64 err])) ∧ Below W.heap.size W w')
theorem pp_out (s : ByteArray) (m : Int) (w : World) (hs : s.size < 4294967281) (hm : w.cell? ⟨2, 0, none⟩ = some (.int .i64 m)) : PpOut s w := by
  by_cases hc : (47 : UInt8) ∈ s.data.toList
  · obtain ⟨u, v, huv, hu⟩ := List.eq_append_cons_of_mem hc
    have hcut : Lib.cut s.data.toList [47] = (u, v, true) := by rw [huv]; exact cut_at 47 u v hu
    have hul : u.length ≤ s.size := by rw [bsize, huv, List.length_append]; omega
    have hP := fun W (hW : Below w.heap.size w W) => ppCalls_of s u v true m W hs (maxcell_below hm hW) hcut hul
    have hlt := par_lt u
    cases hv : numB v with
    | false =>
      refine .inr fun W hW => ?_
      have h := hP W hW
      rw [hv] at h
      exact pp_bad2 s _ _ _ m W h hlt
    | true =>
      rw [hv] at hP
      rcases par_err u with he | he | he
      · rw [he] at hP
        by_cases hb : numV v ≤ 32
        · by_cases hk : chkE (parR u).1 (numV v) = 0
          · refine .inl ⟨(parR u).1, numV v, hlt, hb, hk, ?_, fun W hW => pp_good s _ _ m W (hP W hW) hlt hb hk⟩
            have hd : dotted (parR u).1 = u := (par_back (s := u) (a := (parR u).1) (by rw [← he])).1
            have hn : Lib.decDigits (numV v) = v := by
              have := (dec_num hv).1
              unfold numV; rw [hv]; exact this
            have e : (pfxS (parR u).1 (numV v)).data.toList = s.data.toList := by rw [pfxS_eq, hd, hn, huv]
            cases hs1 : pfxS (parR u).1 (numV v) with
            | mk x => cases s with
              | mk y => rw [hs1] at e; simp only at e; rw [Array.toList_inj.1 e]
          · exact .inr fun W hW => pp_bad6 s _ _ m W (hP W hW) hlt hb hk
        · exact .inr fun W hW => pp_bad5 s _ _ m W (hP W hW) hlt (by omega)
      · rw [he] at hP
        exact .inr fun W hW => pp_bad4 s _ _ m W (hP W hW) hlt
      · rw [he] at hP
        exact .inr fun W hW => pp_bad3 s _ _ m W (hP W hW) hlt
  · have hcut : Lib.cut s.data.toList [47] = (s.data.toList, [], false) := cut_none 47 _ hc
    refine .inr fun W hW => ?_
    exact pp_bad1 s _ _ _ _ m W (ppCalls_of s _ _ false m W hs (maxcell_below hm hW) hcut (by rw [bsize]; exact Nat.le_refl _)) (par_lt _)
theorem par_text (s : ByteArray) (h : (parR s.data.toList).2 = 0) : (⟨(dotted (parR s.data.toList).1).toArray⟩ : ByteArray) = s := by
  have := (par_back (s := s.data.toList) (a := (parR s.data.toList).1) (by rw [← h])).1
  rw [this]
/-- The first forty bytes. -/
theorem begin_any (s : ByteArray) (w : World) : Calls Tryd.prog 72 #[.string s, .int .i64 40] w fun e w' => (∃ t : ByteArray, t.size ≤ 40 ∧ e = .returned (.string t)) ∧ Below w.heap.size w w' := by
  go_enter Tryd.func72, Tryd.ntmps72
  go_wp2_with fail
  go_ret
  refine ⟨⟨_, ?_, rfl⟩, Below.refl _ _⟩
  rw [ByteArray.size_extract]
  omega
/-! walk -/
set_option maxRecDepth 100000 in
set_option maxHeartbeats 4000000 in
theorem unique_any (s : ByteArray) (m : Int) (w : World) (hm : w.cell? ⟨2, 0, none⟩ = some (.int .i64 m))
    (htab : Lib.TabIs Tryd.prog w "internal/strconv.uint64pow10" .u64 Lib.pow10Tab)
    (h0 : w.cell? ⟨0, 0, none⟩ = some (.int .u32 167772160)) (h1 : w.cell? ⟨0, 1, none⟩ = some (.int .i64 8)) :
    Calls Tryd.prog 18 #[.string s] w fun e w' => e = .returned (.bool true) ∧ Below w.heap.size w w' := by
  have HM := Lib.hid hm
  have HT := Lib.hid htab
  have HL := Lib.hid (addrLives_true w h0 h1)
  clear hm htab h0 h1
  go_enter Tryd.func18, Tryd.ntmps18
  go_wp2_with fail
  refine HL.out.mono ?_
  rintro e w1 ⟨rfl, hb1⟩
  have HB1 := Lib.hid hb1
  clear hb1
  go_wp2_with fail
  refine (begin_any s _).mono ?_
  rintro e w2 ⟨⟨t, ht, rfl⟩, hb2⟩
  have HB2 := Lib.hid (bthen HB1.out HB1.out.size hb2)
  have hpar := fun W (hW : Below w.heap.size w W) => parse_any t m W (by omega) (maxcell_below HM.out hW)
  have hpp := pp_out t m w (by omega) HM.out
  have hpt := par_text t
  have hpr := fun W (hW : Below w.heap.size w W) => print_any (parR t.data.toList).1 W (par_lt _) (itoaAt_of _ (tab_below HT.out hW)) (Nat.le_trans (dotted_len _) (by decide))
  have hpe := par_err t.data.toList
  have hpx : ∀ a b : Nat, a < 4294967296 → b ≤ 32 → chkE a b = 0 → ∀ W, Below w.heap.size w W → Calls Tryd.prog 70 #[.agg #[.int .u32 a, .int .i64 b]] W fun e w' => e = .returned (.tuple #[.string (pfxS a b), .int .i64 0]) ∧ Below W.heap.size W w' :=
    fun a b ha hb hc W hW => printPrefix_good a b W ha hc (itoaAt_of a (tab_below HT.out hW)) (Nat.le_trans (dotted_len a) (by decide)) (Nat.le_trans (decB_size (by omega)) (by decide))
  clear hb2 ht
  generalize (parR t.data.toList).1 = a at hpar hpt hpr
  generalize (parR t.data.toList).2 = e1 at hpar hpt hpe
  have HX := Lib.hid hpx
  have HPP := Lib.hid hpp
  clear hpx hpp
  rcases hpe with rfl | rfl | rfl
  · rw [hpt rfl] at hpr
    have HPR := Lib.hid hpr
    have HPAR := Lib.hid hpar
    clear hpt hpr hpar
    go_wp2_with fail
    refine (HPAR.out _ HB2.out).mono ?_
    rintro e w3 ⟨rfl, hb3⟩
    have HB3 := Lib.hid (bthen HB2.out HB2.out.size hb3)
    clear hb3
    go_wp2_with fail
    refine (HPR.out _ HB3.out).mono ?_
    rintro e w4 ⟨rfl, hb4⟩
    have HB4 := Lib.hid (bthen HB3.out HB3.out.size hb4)
    clear hb4
    go_wp2_with fail
    rcases HPP.out with ⟨a2, b2, ha2, hb2, hc2, hs2, hpg⟩ | hpb
    · have hx := HX.out a2 b2 ha2 hb2 hc2
      rw [hs2] at hx
      have HPX := Lib.hid hx
      have HPG := Lib.hid hpg
      clear hx hpg hs2 hc2
      refine (HPG.out _ HB4.out).mono ?_
      rintro e w5 ⟨rfl, hb5⟩
      have HB5 := Lib.hid (bthen HB4.out HB4.out.size hb5)
      clear hb5
      go_wp2_with fail
      refine (HPX.out _ (HB5.out.alloc (by have := HB5.out.size; omega) _)).mono ?_
      rintro e w6 ⟨rfl, hb6⟩
      have HB6 := Lib.hid (bthen (HB5.out.alloc (by have := HB5.out.size; omega) _) (by have := HB5.out.size; simp; omega) hb6)
      clear hb6
      go_wp2_with fail
      go_ret
      exact ⟨rfl, HB6.out⟩
    · have HPB := Lib.hid hpb
      clear hpb
      refine (HPB.out _ HB4.out).mono ?_
      rintro e w5 ⟨⟨err, hne, rfl⟩, hb5⟩
      have hne2 : (err != 0) = true := by simpa using hne
      have HB5 := Lib.hid (bthen HB4.out HB4.out.size hb5)
      clear hb5
      go_wp2_with fail
      go_ret
      exact ⟨rfl, HB5.out.alloc (by have := HB5.out.size; omega) _⟩
  · have HPAR := Lib.hid hpar
    clear hpt hpr hpar
    go_wp2_with fail
    refine (HPAR.out _ HB2.out).mono ?_
    rintro e w3 ⟨rfl, hb3⟩
    have HB3 := Lib.hid (bthen HB2.out HB2.out.size hb3)
    clear hb3
    go_wp2_with fail
    have HB4 := HB3
    rcases HPP.out with ⟨a2, b2, ha2, hb2, hc2, hs2, hpg⟩ | hpb
    · have hx := HX.out a2 b2 ha2 hb2 hc2
      rw [hs2] at hx
      have HPX := Lib.hid hx
      have HPG := Lib.hid hpg
      clear hx hpg hs2 hc2
      refine (HPG.out _ HB4.out).mono ?_
      rintro e w5 ⟨rfl, hb5⟩
      have HB5 := Lib.hid (bthen HB4.out HB4.out.size hb5)
      clear hb5
      go_wp2_with fail
      refine (HPX.out _ (HB5.out.alloc (by have := HB5.out.size; omega) _)).mono ?_
      rintro e w6 ⟨rfl, hb6⟩
      have HB6 := Lib.hid (bthen (HB5.out.alloc (by have := HB5.out.size; omega) _) (by have := HB5.out.size; simp; omega) hb6)
      clear hb6
      go_wp2_with fail
      go_ret
      exact ⟨rfl, HB6.out⟩
    · have HPB := Lib.hid hpb
      clear hpb
      refine (HPB.out _ HB4.out).mono ?_
      rintro e w5 ⟨⟨err, hne, rfl⟩, hb5⟩
      have hne2 : (err != 0) = true := by simpa using hne
      have HB5 := Lib.hid (bthen HB4.out HB4.out.size hb5)
      clear hb5
      go_wp2_with fail
      go_ret
      exact ⟨rfl, HB5.out.alloc (by have := HB5.out.size; omega) _⟩
  · have HPAR := Lib.hid hpar
    clear hpt hpr hpar
    go_wp2_with fail
    refine (HPAR.out _ HB2.out).mono ?_
    rintro e w3 ⟨rfl, hb3⟩
    have HB3 := Lib.hid (bthen HB2.out HB2.out.size hb3)
    clear hb3
    go_wp2_with fail
    have HB4 := HB3
    rcases HPP.out with ⟨a2, b2, ha2, hb2, hc2, hs2, hpg⟩ | hpb
    · have hx := HX.out a2 b2 ha2 hb2 hc2
      rw [hs2] at hx
      have HPX := Lib.hid hx
      have HPG := Lib.hid hpg
      clear hx hpg hs2 hc2
      refine (HPG.out _ HB4.out).mono ?_
      rintro e w5 ⟨rfl, hb5⟩
      have HB5 := Lib.hid (bthen HB4.out HB4.out.size hb5)
      clear hb5
      go_wp2_with fail
      refine (HPX.out _ (HB5.out.alloc (by have := HB5.out.size; omega) _)).mono ?_
      rintro e w6 ⟨rfl, hb6⟩
      have HB6 := Lib.hid (bthen (HB5.out.alloc (by have := HB5.out.size; omega) _) (by have := HB5.out.size; simp; omega) hb6)
      clear hb6
      go_wp2_with fail
      go_ret
      exact ⟨rfl, HB6.out⟩
    · have HPB := Lib.hid hpb
      clear hpb
      refine (HPB.out _ HB4.out).mono ?_
      rintro e w5 ⟨⟨err, hne, rfl⟩, hb5⟩
      have hne2 : (err != 0) = true := by simpa using hne
      have HB5 := Lib.hid (bthen HB4.out HB4.out.size hb5)
      clear hb5
      go_wp2_with fail
      go_ret
      exact ⟨rfl, HB5.out.alloc (by have := HB5.out.size; omega) _⟩
end Go.Proofs.YtaknlphmplimhaaDoor
