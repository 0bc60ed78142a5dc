/- The walk of Parse: its answer is parR of the text's bytes; the cell of internal/bytealg.MaxLen as a premise. -/
import Derived.Test.YtaknlphmplimhaaDoorNl
import Derived.Test.YtaknlphmplimhaaDoorPr
set_option linter.unusedVariables false
set_option linter.unusedSimpArgs false
namespace Go.Proofs.YtaknlphmplimhaaDoor
open Go.RowKit Go.Proofs Go.Shelf
theorem split_m (s sep : ByteArray) (m : Int) (w : World) (hs : s.size < 4294967281) (hm : w.cell? ⟨2, 0, none⟩ = some (.int .i64 m)) (h1 : 1 ≤ sep.size) :
    Calls Tryd.prog 102 #[.string s, .string sep] w fun e w' =>
      e = .returned (.slice (some ⟨w.heap.size, 0, none⟩) (Lib.countB s sep + 1) (Lib.countB s sep + 1)) ∧ w' = w.alloc (.cells ((Lib.splitB sep 0 (Lib.countB s sep) s).map Value.string).toArray 9) :=
  Any.strings_Split { Sh.laysM146 with } Sh.laysM146.i9 s sep m w hs hm h1
theorem cut_m (s sep : ByteArray) (m : Int) (w : World) (hs : s.size < 4294967281) (hm : w.cell? ⟨2, 0, none⟩ = some (.int .i64 m)) :
    Calls Tryd.prog 106 #[.string s, .string sep] w fun e w' => e = .returned (.tuple #[.string ⟨(Lib.cut s.data.toList sep.data.toList).1.toArray⟩, .string ⟨(Lib.cut s.data.toList sep.data.toList).2.1.toArray⟩, .bool (Lib.cut s.data.toList sep.data.toList).2.2]) ∧ ∃ n, w' = w.drewN n :=
  Any.strings_Cut { Sh.laysM145 with } s sep m w hs hm
theorem wrap_i64_small (n : Nat) (h : n < 9223372036854775808) : IntKind.i64.wrap (n : Int) = (n : Int) := by
  have e : (n : Int) % 2 ^ 64 = n := Int.emod_eq_of_lt (by omega) (by omega)
  simp only [IntKind.wrap, IntKind.bits, IntKind.signed, e]
  rw [if_neg]
  simp
  omega
theorem i64_and_nat (a b : Nat) (ha : a < 9223372036854775808) (hb : b < 9223372036854775808) : bits .and .i64 (a : Int) (b : Int) = ((a &&& b : Nat) : Int) := by
  show IntKind.i64.wrap ((BitVec.ofInt 64 (a : Int) &&& BitVec.ofInt 64 (b : Int)).toNat : Int) = _
  rw [BitVec.toNat_and, ofInt_u64 a (by omega), ofInt_u64 b (by omega)]
  exact wrap_i64_small _ (Nat.lt_of_le_of_lt Nat.and_le_left ha)
theorem acc_step (A n : Nat) (hA : A < 4294967296) (hn : n < 1000) : bits .or .u32 ((A : Int) * 256 % 4294967296) (bits .and .i64 (n : Int) 255 % 4294967296) = (((A * 256 + n % 256) % 4294967296 : Nat) : Int) := by
  have h1 := i64_and_nat n 255 (by omega) (by decide)
  rw [show n &&& 255 = n % 256 from Nat.and_two_pow_sub_one_eq_mod _ 8] at h1
  rw [show (255 : Int) = ((255 : Nat) : Int) from rfl, h1]
  have e1 : ((A : Int) * 256 % 4294967296) = ((A * 256 % 4294967296 : Nat) : Int) := by omega
  have e2 : (((n % 256 : Nat) : Int) % 4294967296) = ((n % 256 : Nat) : Int) := by omega
  rw [e1, e2, u32_or_nat _ _ (Nat.mod_lt _ (by decide)) (by omega)]
  congr 1
  have e3 : A * 256 % 4294967296 = 2 ^ 8 * (A % 16777216) := by omega
  rw [e3, ← Nat.two_pow_add_eq_or_of_lt (by omega : n % 256 < 2 ^ 8)]
  omega
set_option maxRecDepth 100000 in
set_option maxHeartbeats 2000000 in
theorem parse_any (s : ByteArray) (m : Int) (w : World) (hs : s.size < 4294967281) (hm : w.cell? ⟨2, 0, none⟩ = some (.int .i64 m)) :
    Calls Tryd.prog 68 #[.string s] w fun e w' => e = .returned (.tuple #[.int .u32 ((parR s.data.toList).1 : Nat), .int .i64 ((parR s.data.toList).2 : Nat)]) ∧ Below w.heap.size w w' := by
  have hcnt := sp_count 46 s
  have hcon := split_m s ⟨#[46]⟩ m w hs hm (by decide)
  have hb1 : Below w.heap.size w (w.alloc (.cells ((Lib.splitB ⟨#[46]⟩ 0 (Lib.countB s ⟨#[46]⟩) s).map Value.string).toArray 9)) := (Below.refl _ _).alloc (Nat.le_refl _) _
  have hcell : ∀ j x, ((Lib.splitB ⟨#[46]⟩ 0 (Lib.countB s ⟨#[46]⟩) s))[j]? = some x → (w.alloc (.cells ((Lib.splitB ⟨#[46]⟩ 0 (Lib.countB s ⟨#[46]⟩) s).map Value.string).toArray 9)).cell? ⟨w.heap.size, j, none⟩ = some (.string x) := by
    intro j x hj
    rw [cell_of_row _ _ j _ _ _ (heap_alloc_new w _)]
    simp [hj]
  have hpl : (Lib.splitB ⟨#[46]⟩ 0 (Lib.countB s ⟨#[46]⟩) s).map (·.data.toList) = sp 46 s.data.toList := splitB_sp 46 s
  generalize hps : Lib.splitB ⟨#[46]⟩ 0 (Lib.countB s ⟨#[46]⟩) s = ps at hcon hb1 hcell hpl
  obtain ⟨W1, hW1⟩ : ∃ W1, W1 = w.alloc (.cells (ps.map Value.string).toArray 9) := ⟨_, rfl⟩
  rw [← hW1] at hcon hb1 hcell
  have hlt1 : w.heap.size < W1.heap.size := by rw [hW1]; simp
  have HCELL := Lib.hid hcell
  have HPL := Lib.hid hpl
  have HB1 := Lib.hid hb1
  have HCNT := Lib.hid hcnt
  have HC := Lib.hid hcon
  clear hW1 hps hcell hpl hb1 hcon hcnt
  go_enter Tryd.func68, Tryd.ntmps68
  go_wp2_with fail
  refine HC.out.mono ?_
  rintro e w1 ⟨rfl, rfl⟩
  rw [HCNT.out, ← HPL.out, List.length_map]
  by_cases h4 : ps.length = 4
  · rw [h4]
    go_wp2_with fail
    generalize hL : List.map (fun x : ByteArray => x.data.toList) ps = L at HPL
    have hLl : L.length = 4 := by rw [← hL, List.length_map]; exact h4
    have hget : ∀ k (p : ByteArray), ps[k]? = some p → L.getD k [] = p.data.toList := fun k p hp => by rw [← hL, List.getD_eq_getElem?_getD, List.getElem?_map, hp]; rfl
    have hbad : ∀ k, k < 4 → numB (L.getD k []) = false → parR s.data.toList = (0, 11) := fun k hk hf => by
      unfold parR
      rw [← HPL.out, if_neg]
      rintro ⟨_, h⟩
      have := List.all_eq_true.1 h (L.getD k []) (by rw [List.getD_eq_getElem?_getD, List.getElem?_eq_getElem (by omega)]; exact List.getElem_mem _)
      rw [hf] at this; cases this
    have hfine : (∀ j, j < 4 → numB (L.getD j []) = true) → parR s.data.toList = if bigB L 4 then (0, 10) else (accN L 4, 0) := fun h => by
      unfold parR
      rw [← HPL.out, if_pos ⟨hLl, List.all_eq_true.2 fun x hx => by
        obtain ⟨j, hj, rfl⟩ := List.getElem_of_mem hx
        have := h j (by omega)
        rwa [List.getD_eq_getElem?_getD, List.getElem?_eq_getElem hj] at this⟩]
    have HGET := Lib.hid hget
    have HBAD := Lib.hid hbad
    have HFINE := Lib.hid hfine
    clear hL hLl hget hbad hfine
    go_loopw [5, 6, 18] (fun av bv i wr => ∃ k : Nat, k ≤ 4 ∧ i = .int .i64 (k : Int) ∧ av = .int .u32 (accN L k : Nat) ∧ bv = .bool (bigB L k) ∧ Hid (∀ j, j < k → numB (L.getD j []) = true) ∧ Hid (Below w1.heap.size w1 wr)) (fun _ _ i _ => (4 - intOf i).toNat)
    case atStart => exact ⟨0, by omega, rfl, rfl, rfl, Lib.hid (fun j hj => by omega), Lib.hid (Below.refl _ _)⟩
    case round =>
      obtain ⟨k, hk, rfl, rfl, rfl, HALL, HBW⟩ := hrel
      by_cases hk4 : k < 4
      · obtain ⟨p, hp⟩ : ∃ p, ps[k]? = some p := ⟨_, List.getElem?_eq_getElem (by omega)⟩
        have c0 : wr.cell? ⟨w.heap.size, k, none⟩ = some (.string p) := by rw [HBW.out.cell (p := ⟨w.heap.size, k, none⟩) hlt1]; exact HCELL.out k p hp
        have hg := HGET.out k p hp
        have hki : ((k : Int) < 4) := by omega
        have hA := accN_lt L k
        have hA2 : accN L (k + 1) = (accN L k * 256 + numV p.data.toList % 256) % 4294967296 := by rw [accN, hg]
        have hB2 : bigB L (k + 1) = (bigB L k || decide (255 < numV p.data.toList)) := by rw [bigB, hg]
        have hnum := fun W => number_any p W
        cases hn : numB p.data.toList with
        | false =>
          have hR := HBAD.out k hk4 (by rw [hg]; exact hn)
          rw [hn] at hnum
          have HR := Lib.hid hR
          have HN := Lib.hid hnum
          clear hR hnum hn hA2 hB2 hg hp
          go_wp2_with fail
          refine (HN.out _).mono ?_
          rintro e w2 ⟨rfl, hb2⟩
          go_wp2_with fail
          go_ret2
          rw [HR.out]
          exact ⟨rfl, bthen HB1.out (Nat.le_of_lt hlt1) (bthen HBW.out HBW.out.size hb2)⟩
        | true =>
          rw [hn] at hnum
          have hlt : numV p.data.toList < 1000 := by unfold numV; rw [hn]; exact (dec_num hn).2
          have hstep := acc_step (accN L k) (numV p.data.toList) hA hlt
          rw [← hA2] at hstep
          have hall : ∀ j, j < k + 1 → numB (L.getD j []) = true := fun j hj => by
            by_cases hjk : j < k
            · exact HALL.out j hjk
            · obtain rfl : j = k := by omega
              rw [hg]; exact hn
          have HALL2 := Lib.hid hall
          have HN := Lib.hid hnum
          have HST := Lib.hid hstep
          clear hnum hn hg hp hall hstep hA2 hA HALL
          generalize numV p.data.toList = N at *
          rcases Nat.lt_or_ge 255 N with hbig | hbig
          · have hb3 : bigB L (k + 1) = true := by rw [hB2, decide_eq_true hbig, Bool.or_true]
            have HB3 := Lib.hid hb3
            have hbi : (255 : Int) < (N : Int) := by omega
            clear hB2 hb3
            go_wp2_with fail
            refine (HN.out _).mono ?_
            rintro e w2 ⟨rfl, hb2⟩
            have HBW2 := Lib.hid (bthen HBW.out HBW.out.size hb2)
            clear hb2
            cases hbk : bigB L k
            all_goals
              go_wp2_with fail
              exact ⟨⟨k + 1, by omega, rfl, congrArg (Value.int IntKind.u32) HST.out, by rw [HB3.out], HALL2, HBW2⟩, by simp [intOf]; omega⟩
          · have hb3 : bigB L (k + 1) = bigB L k := by rw [hB2, decide_eq_false (by omega), Bool.or_false]
            have HB3 := Lib.hid hb3
            have hbi : ¬ ((255 : Int) < (N : Int)) := by omega
            clear hB2 hb3
            go_wp2_with fail
            refine (HN.out _).mono ?_
            rintro e w2 ⟨rfl, hb2⟩
            have HBW2 := Lib.hid (bthen HBW.out HBW.out.size hb2)
            clear hb2
            cases hbk : bigB L k
            all_goals
              rw [hbk] at HB3
              go_wp2_with fail
              exact ⟨⟨k + 1, by omega, rfl, congrArg (Value.int IntKind.u32) HST.out, by rw [HB3.out] <;> simp <;> omega, HALL2, HBW2⟩, by simp [intOf]; omega⟩
      · obtain rfl : k = 4 := by omega
        have HR := Lib.hid (HFINE.out HALL.out)
        clear HFINE HBAD
        cases hbk : bigB L 4
        · rw [hbk] at HR
          go_wp2_with fail
          go_ret2
          rw [HR.out]
          exact ⟨rfl, bthen HB1.out (Nat.le_of_lt hlt1) HBW.out⟩
        · rw [hbk] at HR
          go_wp2_with fail
          go_ret2
          rw [HR.out]
          exact ⟨rfl, bthen HB1.out (Nat.le_of_lt hlt1) HBW.out⟩
  · have h4i : ((ps.length : Int) == 4) = false := by rw [beq_eq_false_iff_ne]; omega
    have HR := Lib.hid (show parR s.data.toList = (0, 11) by unfold parR; rw [← HPL.out, if_neg (by rw [List.length_map]; omega)])
    go_wp2_with fail
    go_ret2
    rw [HR.out]
    exact ⟨rfl, HB1.out⟩
end Go.Proofs.YtaknlphmplimhaaDoor
