/- The walk of addr.Print: four numerals joined by dots; under a contract of strconv.Itoa at the four octets, given as a premise. -/
import Derived.Test.YtaknlphmplimhaaDoorAd
import Derived.Test.YtaknlphmplimhaaDoorShA
import Derived.BigCall
import Derived.Maps.AppendAt
set_option linter.unusedVariables false
set_option linter.unusedSimpArgs false
namespace Go.Proofs.YtaknlphmplimhaaDoor
open Go.RowKit Go.Proofs
theorem info9 : (Tryd.prog.info? 9).map (fun i => (i.zero, i.size, i.bytes)) = some (some (.string ByteArray.empty), 1, 16) := by kernel_rfl
/-- An octet of an address, and its numeral. -/
def oct (a k : Nat) : Nat := a / 2 ^ (24 - 8 * k) % 256
def decB (n : Nat) : ByteArray := ⟨(Lib.decDigits n).toArray⟩
/-- The numerals of the first k octets. -/
def octs (a : Nat) : Nat → List ByteArray
  | 0 => []
  | k + 1 => octs a k ++ [decB (oct a k)]
theorem octs_len (a : Nat) : ∀ k, (octs a k).length = k
  | 0 => rfl
  | k + 1 => by rw [octs, List.length_append, octs_len a k]; rfl
/-- What Print gives. -/
def dotted (a : Nat) : List UInt8 := Lib.join ((octs a 4).map (·.data.toList)) [46]
theorem oct_eq (a s : Nat) (h : a < 4294967296) : wrap64 (bits .and .u32 ((a : Int) / (2 ^ s : Nat)) 255) = ((a / 2 ^ s % 256 : Nat) : Int) := by
  have e : ((a : Int) / (2 ^ s : Nat)) = ((a / 2 ^ s : Nat) : Int) := rfl
  have hd : a / 2 ^ s < 4294967296 := Nat.lt_of_le_of_lt (Nat.div_le_self _ _) h
  have h2 := u32_and_nat (a / 2 ^ s) 255 hd (by decide)
  rw [show a / 2 ^ s &&& 255 = a / 2 ^ s % 256 from Nat.and_two_pow_sub_one_eq_mod _ 8] at h2
  rw [e, show (255 : Int) = ((255 : Nat) : Int) from rfl, h2]
  unfold wrap64
  omega
theorem ownsRow_below {w w' : World} {base : Nat} {e : TypeId} {size : Nat} {v : Value} {n : Nat} {xs : List Value} (h : w.ownsRow base e size v n xs) (hb : Below w.heap.size w w') : w'.ownsRow base e size v n xs := by
  refine ⟨h.1, ?_⟩
  rcases h.2 with hn | ⟨g, cap, cur, hv, h1, h2, rest⟩
  · exact .inl hn
  · exact .inr ⟨g, cap, cur, hv, h1, (hb.block g (h.lt g (by rw [hv]; rfl)).2).trans h2, rest⟩
/-- Itoa's contract at the octets of a, in every world that has grown of w. -/
def ItoaAt (a : Nat) (w : World) : Prop := ∀ k W, k < 4 → Below w.heap.size w W → Calls Tryd.prog 104 #[.int .i64 (oct a k : Nat)] W fun e w' => e = .returned (.string (decB (oct a k))) ∧ Below W.heap.size W w'
set_option maxHeartbeats 2000000 in
theorem print_any (a : Nat) (w : World) (ha : a < 4294967296) (hI : ItoaAt a w) (hlen : (dotted a).length ≤ 100) :
    Calls Tryd.prog 69 #[.int .u32 a] w fun e w' => e = .returned (.string ⟨(dotted a).toArray⟩) ∧ Below w.heap.size w w' := by
  obtain ⟨i0, hi, hz0, hz1, hz2⟩ := info_parts info9
  have HI := Lib.hid hI
  have HL := Lib.hid hlen
  clear hI hlen
  go_enter Tryd.func69, Tryd.ntmps69
  go_wp2
  go_loopw [3, 4] (fun v i wr => ∃ (k : Nat) (ao : Option Addr) (cv : Nat), k ≤ 4 ∧ i = .int .i64 (24 - 8 * (k : Int)) ∧ v = .slice ao k cv ∧ wr.ownsRow w.heap.size 9 1 v k ((octs a k).map Value.string) ∧ Below w.heap.size w wr)
    (fun _ i _ => (intOf i + 8).toNat)
  case atStart => exact ⟨0, none, 0, Nat.zero_le _, rfl, rfl, World.ownsRow_nil _ _ _ _, Below.refl _ _⟩
  case round =>
    obtain ⟨k, ao, cv, hk, rfl, rfl, hown, hnx⟩ := hrel
    have hsize := hnx.size
    rcases (show k = 0 ∨ k = 1 ∨ k = 2 ∨ k = 3 ∨ k = 4 from by omega) with rfl | rfl | rfl | rfl | rfl
    · have HE := Lib.hid (show wrap64 (bits .and .u32 ((a : Int) / 16777216) 255) = ((oct a 0 : Nat) : Int) from oct_eq a 24 ha)
      have HO := Lib.hid hown
      have HC := Lib.hid (HI.out 0)
      clear hown
      go_wp2_with fail
      rw [HE.out]
      refine (HC.out _ (by omega) hnx).mono ?_
      rintro e w2 ⟨rfl, hb2⟩
      have hnx2 := bthen hnx hsize hb2
      have hsize2 := hnx2.size
      have hown : w2.ownsRow w.heap.size 9 1 (.slice ao 0 cv) 0 ((octs a 0).map Value.string) := ownsRow_below HO.out hb2
      have hpk : octs a (1) = octs a 0 ++ [decB (oct a 0)] := rfl
      generalize decB (oct a 0) = dk at hpk ⊢
      have HPK := Lib.hid hpk
      clear hpk hnx hb2 HO HC HE
      go_wp2_with (at_builtin; refine wpList_append_own _ rfl _ _ 140 rfl w.heap.size 9 i0 (.string ByteArray.empty) 1 16 Tryd.underlying140 hi hz0 hz1 hz2 rfl (by decide) _ _ _ rfl (hown.alloc _) ⟨w2.heap.size, 0, none⟩ 1 1 [.string dk] rfl rfl (cell_one_new _ _ _) (fun x hx => by simp at hx; subst hx; rfl) (by unfold maxLen; omega) (by omega) (by simp; omega) ?_; intro v' w3 hown' hgrow3 hnil3)
      obtain ⟨g3, cap3, rfl⟩ : ∃ g3 cap3, v' = .slice (some ⟨g3, 0, none⟩) (1) cap3 := by
        rcases hown'.2 with ⟨_, h⟩ | ⟨g3, cap3, _, h, _⟩
        · omega
        · exact ⟨g3, cap3, h⟩
      have HR := Lib.hid (show w3.ownsRow w.heap.size 9 1 (.slice (some ⟨g3, 0, none⟩) (1) cap3) (1) ((octs a (1)).map Value.string) ∧ Below w.heap.size w w3 from ⟨by rw [HPK.out, List.map_append]; exact hown', (hnx2.alloc hsize2 _).grown hgrow3 (by simp; omega) (fun q hq => (hown.lt q hq).1)⟩)
      clear hown' hgrow3 hnil3 hown hnx2 hsize2
      go_wp2_with fail
      go_roundw
      case rel => exact ⟨1, some ⟨g3, 0, none⟩, cap3, by omega, rfl, rfl, HR.out.1, HR.out.2⟩
      case measure => simp [intOf]
    · have HE := Lib.hid (show wrap64 (bits .and .u32 ((a : Int) / 65536) 255) = ((oct a 1 : Nat) : Int) from oct_eq a 16 ha)
      have HO := Lib.hid hown
      have HC := Lib.hid (HI.out 1)
      clear hown
      go_wp2_with fail
      rw [HE.out]
      refine (HC.out _ (by omega) hnx).mono ?_
      rintro e w2 ⟨rfl, hb2⟩
      have hnx2 := bthen hnx hsize hb2
      have hsize2 := hnx2.size
      have hown : w2.ownsRow w.heap.size 9 1 (.slice ao 1 cv) 1 ((octs a 1).map Value.string) := ownsRow_below HO.out hb2
      have hpk : octs a (2) = octs a 1 ++ [decB (oct a 1)] := rfl
      generalize decB (oct a 1) = dk at hpk ⊢
      have HPK := Lib.hid hpk
      clear hpk hnx hb2 HO HC HE
      go_wp2_with (at_builtin; refine wpList_append_own _ rfl _ _ 140 rfl w.heap.size 9 i0 (.string ByteArray.empty) 1 16 Tryd.underlying140 hi hz0 hz1 hz2 rfl (by decide) _ _ _ rfl (hown.alloc _) ⟨w2.heap.size, 0, none⟩ 1 1 [.string dk] rfl rfl (cell_one_new _ _ _) (fun x hx => by simp at hx; subst hx; rfl) (by unfold maxLen; omega) (by omega) (by simp; omega) ?_; intro v' w3 hown' hgrow3 hnil3)
      obtain ⟨g3, cap3, rfl⟩ : ∃ g3 cap3, v' = .slice (some ⟨g3, 0, none⟩) (2) cap3 := by
        rcases hown'.2 with ⟨_, h⟩ | ⟨g3, cap3, _, h, _⟩
        · omega
        · exact ⟨g3, cap3, h⟩
      have HR := Lib.hid (show w3.ownsRow w.heap.size 9 1 (.slice (some ⟨g3, 0, none⟩) (2) cap3) (2) ((octs a (2)).map Value.string) ∧ Below w.heap.size w w3 from ⟨by rw [HPK.out, List.map_append]; exact hown', (hnx2.alloc hsize2 _).grown hgrow3 (by simp; omega) (fun q hq => (hown.lt q hq).1)⟩)
      clear hown' hgrow3 hnil3 hown hnx2 hsize2
      go_wp2_with fail
      go_roundw
      case rel => exact ⟨2, some ⟨g3, 0, none⟩, cap3, by omega, rfl, rfl, HR.out.1, HR.out.2⟩
      case measure => simp [intOf]
    · have HE := Lib.hid (show wrap64 (bits .and .u32 ((a : Int) / 256) 255) = ((oct a 2 : Nat) : Int) from oct_eq a 8 ha)
      have HO := Lib.hid hown
      have HC := Lib.hid (HI.out 2)
      clear hown
      go_wp2_with fail
      rw [HE.out]
      refine (HC.out _ (by omega) hnx).mono ?_
      rintro e w2 ⟨rfl, hb2⟩
      have hnx2 := bthen hnx hsize hb2
      have hsize2 := hnx2.size
      have hown : w2.ownsRow w.heap.size 9 1 (.slice ao 2 cv) 2 ((octs a 2).map Value.string) := ownsRow_below HO.out hb2
      have hpk : octs a (3) = octs a 2 ++ [decB (oct a 2)] := rfl
      generalize decB (oct a 2) = dk at hpk ⊢
      have HPK := Lib.hid hpk
      clear hpk hnx hb2 HO HC HE
      go_wp2_with (at_builtin; refine wpList_append_own _ rfl _ _ 140 rfl w.heap.size 9 i0 (.string ByteArray.empty) 1 16 Tryd.underlying140 hi hz0 hz1 hz2 rfl (by decide) _ _ _ rfl (hown.alloc _) ⟨w2.heap.size, 0, none⟩ 1 1 [.string dk] rfl rfl (cell_one_new _ _ _) (fun x hx => by simp at hx; subst hx; rfl) (by unfold maxLen; omega) (by omega) (by simp; omega) ?_; intro v' w3 hown' hgrow3 hnil3)
      obtain ⟨g3, cap3, rfl⟩ : ∃ g3 cap3, v' = .slice (some ⟨g3, 0, none⟩) (3) cap3 := by
        rcases hown'.2 with ⟨_, h⟩ | ⟨g3, cap3, _, h, _⟩
        · omega
        · exact ⟨g3, cap3, h⟩
      have HR := Lib.hid (show w3.ownsRow w.heap.size 9 1 (.slice (some ⟨g3, 0, none⟩) (3) cap3) (3) ((octs a (3)).map Value.string) ∧ Below w.heap.size w w3 from ⟨by rw [HPK.out, List.map_append]; exact hown', (hnx2.alloc hsize2 _).grown hgrow3 (by simp; omega) (fun q hq => (hown.lt q hq).1)⟩)
      clear hown' hgrow3 hnil3 hown hnx2 hsize2
      go_wp2_with fail
      go_roundw
      case rel => exact ⟨3, some ⟨g3, 0, none⟩, cap3, by omega, rfl, rfl, HR.out.1, HR.out.2⟩
      case measure => simp [intOf]
    · have HE := Lib.hid (show wrap64 (bits .and .u32 (a : Int) 255) = ((oct a 3 : Nat) : Int) from by have := oct_eq a 0 ha; rw [show ((a : Int) / (2 ^ 0 : Nat)) = (a : Int) by simp] at this; exact this)
      have HO := Lib.hid hown
      have HC := Lib.hid (HI.out 3)
      clear hown
      go_wp2_with fail
      rw [HE.out]
      refine (HC.out _ (by omega) hnx).mono ?_
      rintro e w2 ⟨rfl, hb2⟩
      have hnx2 := bthen hnx hsize hb2
      have hsize2 := hnx2.size
      have hown : w2.ownsRow w.heap.size 9 1 (.slice ao 3 cv) 3 ((octs a 3).map Value.string) := ownsRow_below HO.out hb2
      have hpk : octs a (4) = octs a 3 ++ [decB (oct a 3)] := rfl
      generalize decB (oct a 3) = dk at hpk ⊢
      have HPK := Lib.hid hpk
      clear hpk hnx hb2 HO HC HE
      go_wp2_with (at_builtin; refine wpList_append_own _ rfl _ _ 140 rfl w.heap.size 9 i0 (.string ByteArray.empty) 1 16 Tryd.underlying140 hi hz0 hz1 hz2 rfl (by decide) _ _ _ rfl (hown.alloc _) ⟨w2.heap.size, 0, none⟩ 1 1 [.string dk] rfl rfl (cell_one_new _ _ _) (fun x hx => by simp at hx; subst hx; rfl) (by unfold maxLen; omega) (by omega) (by simp; omega) ?_; intro v' w3 hown' hgrow3 hnil3)
      obtain ⟨g3, cap3, rfl⟩ : ∃ g3 cap3, v' = .slice (some ⟨g3, 0, none⟩) (4) cap3 := by
        rcases hown'.2 with ⟨_, h⟩ | ⟨g3, cap3, _, h, _⟩
        · omega
        · exact ⟨g3, cap3, h⟩
      have HR := Lib.hid (show w3.ownsRow w.heap.size 9 1 (.slice (some ⟨g3, 0, none⟩) (4) cap3) (4) ((octs a (4)).map Value.string) ∧ Below w.heap.size w w3 from ⟨by rw [HPK.out, List.map_append]; exact hown', (hnx2.alloc hsize2 _).grown hgrow3 (by simp; omega) (fun q hq => (hown.lt q hq).1)⟩)
      clear hown' hgrow3 hnil3 hown hnx2 hsize2
      go_wp2_with fail
      go_roundw
      case rel => exact ⟨4, some ⟨g3, 0, none⟩, cap3, by omega, rfl, rfl, HR.out.1, HR.out.2⟩
      case measure => simp [intOf]
    · obtain ⟨g, hao⟩ : ∃ g, ao = some ⟨g, 0, none⟩ := by
        rcases hown.2 with ⟨_, h⟩ | ⟨g, cap, _, h, _⟩
        · omega
        · simp only [Value.slice.injEq] at h
          exact ⟨g, h.1⟩
      subst hao
      have hcells : ∀ (j : Nat) x, (octs a 4)[j]? = some x → wr.cell? ⟨g, 0 + j, none⟩ = some (.string x) := by
        intro j x hj
        have hjl := (List.getElem?_eq_some_iff.1 hj).1
        rw [octs_len] at hjl
        rw [Nat.zero_add, hown.cellAt j (by omega)]
        simp [hj]
      have hcv : 4 ≤ cv := by
        rcases hown.2 with ⟨_, h⟩ | ⟨g', cap, _, h, _, _, h2, _⟩
        · omega
        · simp only [Value.slice.injEq] at h
          omega
      have hgl : g < wr.heap.size := (hown.lt g rfl).2
      have hcon := Sh.strings_Join g 0 cv (octs a 4) ⟨#[46]⟩ wr hcells hgl (by rw [octs_len]; decide) (by rw [octs_len]; exact hcv) (Nat.le_trans HL.out (by decide))
      rw [octs_len] at hcon
      have HCON := Lib.hid hcon
      have HNX := Lib.hid hnx
      clear hcells hown hcon hnx
      go_wp2_with fail
      refine HCON.out.mono ?_
      rintro e w2 ⟨rfl, hb2⟩
      go_wp2_with fail
      go_ret
      exact ⟨rfl, bthen HNX.out hsize hb2⟩
end Go.Proofs.YtaknlphmplimhaaDoor
