/- The walk of built: the table of at most m of a slice's entries; the slice is read, m at most 10. -/
import Derived.Test.YtaknlphmplimhaaDoorTg
set_option linter.unusedVariables false
set_option linter.unusedSimpArgs false
namespace Go.Proofs.YtaknlphmplimhaaDoor
open Go.RowKit Go.Proofs AT

/-- An entry: address, bits, value. -/
structure En where
  (a : Nat) (b v : Int)
/-- The world holds the entries in a slice. -/
structure ReadsE (w : World) (A : Option Addr) (n : Nat) (es : List En) : Prop where
  len : es.length = n
  max : n ≤ 9223372036854775807
  at_ : 0 < n → ∃ b off, A = some ⟨b, off, none⟩ ∧ b < w.heap.size ∧ ∀ i (h : i < es.length), w.cell? ⟨b, off + i * 3, none⟩ = some (.int .u32 es[i].a) ∧ w.cell? ⟨b, off + i * 3 + 1, none⟩ = some (.int .i64 es[i].b) ∧ w.cell? ⟨b, off + i * 3 + 2, none⟩ = some (.int .i64 es[i].v)
  small : ∀ e, e ∈ es → e.a < 4294967296
def putM (m : List Bool → Option Int) (e : En) : List Bool → Option Int := fun q => if chkE e.a e.b = 0 ∧ q = path e.a e.b.toNat then some e.v else m q
def builtM (es : List En) : List Bool → Option Int := es.foldl putM (fun _ => none)
set_option maxRecDepth 100000 in
set_option maxHeartbeats 2000000 in
theorem built_any (A : Option Addr) (n c m : Nat) (es : List En) (w : World) (hR : ReadsE w A n es) (hc : n ≤ c) (hm : m ≤ 10) :
    Calls Tryd.prog 21 #[.slice A n c, .int .i64 m] w fun e w' => e = .returned (.pointer (some ⟨w.heap.size, 0, none⟩)) ∧ Below w.heap.size w w' ∧
      ∃ t z, TR w' w.heap.size z t ∧ 0 ≤ z ∧ z ≤ m ∧ t.get = builtM (es.take m) ∧ ∀ x, x ∈ t.dom → w.heap.size ≤ x := by
  have hmax := hR.max
  have HR := Lib.hid hR
  clear hR
  go_enter Tryd.func21, Tryd.ntmps21
  go_wp2_with fail
  refine (new_any _).mono ?_
  rintro e w1 ⟨rfl, rfl⟩
  go_wp2_with fail
  refine (some_any A n c m _ hmax hc (by omega)).mono ?_
  rintro e w1 ⟨rfl, rfl⟩
  go_wp2_with fail
  go_loopw [13] (fun i wr => ∃ (k : Nat) (t : AT) (z : Int), k ≤ min n m ∧ i = .int .i64 k ∧ TR wr w.heap.size z t ∧ 0 ≤ z ∧ z ≤ k ∧ t.get = builtM (es.take k) ∧ Below w.heap.size w wr ∧ ∀ x, x ∈ t.dom → w.heap.size ≤ x) (fun i _ => min n m - (intOf i).toNat)
  case atStart => exact ⟨0, .nil, 0, by omega, rfl, new_TR w, by omega, by omega, by funext q; rw [get_nil]; rfl, (Below.refl _ _).alloc (Nat.le_refl _) _, by simp [dom]⟩
  case round =>
    obtain ⟨k, t, z, hk, rfl, hT, hz0, hzk, hget, hB, hd⟩ := hrel
    have HT := Lib.hid hT
    have HG := Lib.hid hget
    have HD := Lib.hid hd
    clear hT hget hd
    by_cases hlt : k < min n m
    · obtain ⟨b, off, rfl, hbl, hcell⟩ := HR.out.at_ (by omega)
      have hkl : k < es.length := by rw [HR.out.len]; omega
      obtain ⟨q0, q1, q2⟩ := hcell k hkl
      have hsm := HR.out.small es[k] (List.getElem_mem hkl)
      have d0 := (hB.cell (p := ⟨b, off + k * 3, none⟩) hbl).trans q0
      have d1 := (hB.cell (p := ⟨b, off + k * 3 + 1, none⟩) hbl).trans q1
      have d2 := (hB.cell (p := ⟨b, off + k * 3 + 2, none⟩) hbl).trans q2
      clear hcell q0 q1 q2
      generalize hen : es[k] = en at hsm d0 d1 d2
      have HEN := Lib.hid hen
      clear hen
      have hTa := Lib.hid (HT.out.grow ((Below.refl _ _).alloc (Nat.le_refl _) (.cells #[.int .u32 en.a, .int .i64 en.b, .int .i64 en.v] 36)))
      have hBa : Below w.heap.size w (wr.alloc (.cells #[.int .u32 en.a, .int .i64 en.b, .int .i64 en.v] 36)) := hB.alloc hB.size _
      have htk : es.take (k + 1) = es.take k ++ [en] := by rw [List.take_succ_eq_append_getElem hkl, HEN.out]
      have HTK := Lib.hid htk
      clear htk
      go_wp2_with fail
      refine (put_any w.heap.size t z en.a en.b en.v _ hsm hTa.out (by omega) hz0).mono ?_
      intro e w2 hpost
      rcases hpost with ⟨hchk, rfl, t', z', hT', hz1, hz2, hg', hK, hd'⟩ | ⟨hchk, rfl, hb2⟩
      · have hB2 : Below w.heap.size w w2 := hBa.trans (hK.below (by have := hB.size; simp; omega) (fun x hx => by
          simp only [List.mem_cons] at hx
          rcases hx with rfl | hx
          · exact Nat.le_refl _
          · exact HD.out x hx))
        have hgn : t'.get = builtM (es.take (k + 1)) := by
          rw [HTK.out]
          unfold builtM
          rw [List.foldl_append]
          show _ = putM (builtM (es.take k)) en
          rw [← HG.out]
          funext q
          rw [hg' q]
          unfold putM
          simp only [hchk, true_and]
        have hdn : ∀ x, x ∈ t'.dom → w.heap.size ≤ x := fun x hx => by
          rcases hd' x hx with h | h
          · exact HD.out x h
          · have := hBa.size; omega
        have HT2 := Lib.hid hT'
        have HG2 := Lib.hid hgn
        have HD2 := Lib.hid hdn
        clear hg' hK hd' hT' hgn hdn
        go_wp2_with fail
        go_roundw
        case rel => exact ⟨k + 1, t', z', by omega, by go_num, HT2.out, by omega, by omega, HG2.out, hB2, HD2.out⟩
        case measure => simp [intOf]; omega
      · have hB2 : Below w.heap.size w w2 := bthen hBa hBa.size hb2
        have hgn : t.get = builtM (es.take (k + 1)) := by
          rw [HTK.out]
          unfold builtM
          rw [List.foldl_append]
          show _ = putM (builtM (es.take k)) en
          rw [← HG.out]
          funext q
          unfold putM
          rw [if_neg (fun h => hchk h.1)]
        have HT2 := Lib.hid (hTa.out.grow hb2)
        have HG2 := Lib.hid hgn
        clear hgn hchk
        go_wp2_with fail
        go_roundw
        case rel => exact ⟨k + 1, t, z, by omega, by go_num, HT2.out, by omega, by omega, HG2.out, hB2, HD.out⟩
        case measure => simp [intOf]; omega
    · obtain rfl : k = min n m := by omega
      have htk : es.take (min n m) = es.take m := by
        by_cases h : n ≤ m
        · rw [show min n m = n by omega, List.take_of_length_le (by rw [HR.out.len]; omega), List.take_of_length_le (by rw [HR.out.len]; omega)]
        · rw [show min n m = m by omega]
      have HTK := Lib.hid htk
      clear htk
      go_wp2_with fail
      go_ret
      exact ⟨rfl, hB, t, z, HT.out, hz0, by omega, by rw [HG.out, HTK.out], HD.out⟩
end Go.Proofs.YtaknlphmplimhaaDoor
