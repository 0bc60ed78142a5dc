/- press.common: the longest prefix that contains two prefixes; plain law and walk; valid prefixes. -/
import Derived.Test.YtaknlphmplimhaaDoorPb
import Derived.Test.YtaknlphmplimhaaDoorLp
import Derived.Test.YtaknlphmplimhaaDoorShP
import Derived.Lib.ItoaNum
set_option linter.unusedVariables false
set_option linter.unusedSimpArgs false
namespace Go.Proofs.YtaknlphmplimhaaDoor
open Go.RowKit Go.Proofs

theorem bitB_test (a i : Nat) (hi : i < 32) : bitB a i = a.testBit (31 - i) := by
  unfold bitB bitN
  rw [Nat.testBit_eq_decide_div_mod_eq]
  by_cases h : a / 2 ^ (31 - i) % 2 = 1 <;> simp [h]
/-- The number of leading bits that are alike. -/
def alike (a c : Nat) : Nat := 32 - Lib.bitLen (a ^^^ c)
theorem xor_lt {a c : Nat} (ha : a < 4294967296) (hc : c < 4294967296) : a ^^^ c < 4294967296 := Nat.xor_lt_two_pow (n := 32) ha hc
theorem bitLen_le32 {a c : Nat} (ha : a < 4294967296) (hc : c < 4294967296) : Lib.bitLen (a ^^^ c) ≤ 32 := Lib.bitLen_le _ 32 (by decide) (xor_lt ha hc)
theorem alike_same {a c i : Nat} (ha : a < 4294967296) (hc : c < 4294967296) (h : i < alike a c) : bitB a i = bitB c i := by
  have hl := bitLen_le32 ha hc
  unfold alike at h
  rw [bitB_test a i (by omega), bitB_test c i (by omega)]
  have hx : (a ^^^ c).testBit (31 - i) = false := by
    by_cases h0 : a ^^^ c = 0
    · rw [h0, Nat.zero_testBit]
    · have hb := (Lib.bitLenAux_bounds 64 (a ^^^ c) (Nat.lt_trans (xor_lt ha hc) (by decide)) h0).2.2
      refine Nat.testBit_lt_two_pow (Nat.lt_of_lt_of_le hb (Nat.pow_le_pow_right (by decide) ?_))
      show Lib.bitLen (a ^^^ c) ≤ _
      omega
  rw [Nat.testBit_xor] at hx
  cases h1 : a.testBit (31 - i) <;> cases h2 : c.testBit (31 - i) <;> rw [h1, h2] at hx <;> first | rfl | cases hx
theorem alike_part {a c : Nat} (ha : a < 4294967296) (hc : c < 4294967296) (h : alike a c < 32) : bitB a (alike a c) ≠ bitB c (alike a c) := by
  have hl := bitLen_le32 ha hc
  rw [bitB_test a _ h, bitB_test c _ h]
  have h0 : a ^^^ c ≠ 0 := by
    intro e
    unfold alike at h
    rw [e] at h
    have : Lib.bitLen 0 = 0 := rfl
    omega
  obtain ⟨b1, b2, b3⟩ := Lib.bitLenAux_bounds 64 (a ^^^ c) (Nat.lt_trans (xor_lt ha hc) (by decide)) h0
  have e : 31 - alike a c = Lib.bitLen (a ^^^ c) - 1 := by unfold alike; omega
  have hx : (a ^^^ c).testBit (31 - alike a c) = true := by
    rw [e, Nat.testBit_eq_decide_div_mod_eq, decide_eq_true_iff]
    have b2' : 2 ^ (Lib.bitLen (a ^^^ c) - 1) ≤ a ^^^ c := b2
    have b3' : a ^^^ c < 2 ^ Lib.bitLen (a ^^^ c) := b3
    have b1' : 1 ≤ Lib.bitLen (a ^^^ c) := b1
    generalize Lib.bitLen (a ^^^ c) = L at b1' b2' b3'
    obtain ⟨m, rfl⟩ : ∃ m, L = m + 1 := ⟨L - 1, by omega⟩
    rw [Nat.add_sub_cancel] at b2' ⊢
    rw [Nat.pow_succ] at b3'
    have : (a ^^^ c) / 2 ^ m = 1 := by
      rw [Nat.div_eq_iff (Nat.pow_pos (by decide))]
      omega
    rw [this]
  rw [Nat.testBit_xor] at hx
  intro k
  rw [k] at hx
  cases h2 : c.testBit (31 - alike a c) <;> rw [h2] at hx <;> cases hx
theorem path_pre {a k b : Nat} (h : k ≤ b) : path a k <+: path a b := by
  rcases Nat.eq_or_lt_of_le h with rfl | h
  · exact List.prefix_refl _
  · rw [path_split a k b h]; exact List.prefix_append _ _
theorem path_at {a b i : Nat} (h : i < b) : (path a b)[i]? = some (bitB a i) := by
  simp [path, List.getElem?_map, List.getElem?_range h]
theorem path_congr {a c k : Nat} (h : ∀ i, i < k → bitB a i = bitB c i) : path a k = path c k := List.map_congr_left fun i hi => h i (List.mem_range.1 hi)
theorem lcp_path {a b c d k : Nat} (h1 : k ≤ b) (h2 : k ≤ d) (he : ∀ i, i < k → bitB a i = bitB c i) (hs : k = b ∨ k = d ∨ bitB a k ≠ bitB c k) : lcp (path a b) (path c d) = path a k := by
  have hp : path a k <+: lcp (path a b) (path c d) := lcp_great (path_pre h1) (by rw [path_congr he]; exact path_pre h2)
  refine (hp.eq_of_length (Nat.le_antisymm hp.length_le ?_)).symm
  rw [path_length]
  refine Nat.le_of_not_lt fun hlt => ?_
  have l1 := lcp_left (path a b) (path c d)
  have l2 := lcp_right (path a b) (path c d)
  have n1 := l1.length_le
  have n2 := l2.length_le
  rw [path_length] at n1 n2
  obtain ⟨s1, e1⟩ := l1
  obtain ⟨s2, e2⟩ := l2
  have g1 := path_at (a := a) (b := b) (i := k) (by omega)
  have g2 := path_at (a := c) (b := d) (i := k) (by omega)
  rw [← e1, List.getElem?_append_left hlt] at g1
  rw [← e2, List.getElem?_append_left hlt, g1] at g2
  injection g2 with g2
  rcases hs with h | h | h
  · omega
  · omega
  · exact h g2
def comK (a b c d : Nat) : Nat := min (min b d) (alike a c)
def comA (a b c d : Nat) : Nat := a / sz (comK a b c d : Int) * sz (comK a b c d : Int)
theorem com_path {a b c d : Nat} (h1 : Val a b) (h2 : Val c d) : Val (comA a b c d) (comK a b c d) ∧ path (comA a b c d) (comK a b c d) = lcp (path a b) (path c d) := by
  have hk : comK a b c d ≤ 32 := by have := h1.2.1; unfold comK; omega
  refine ⟨val_masked h1.1 hk, ?_⟩
  unfold comA
  rw [path_masked _ _ hk, lcp_path (k := comK a b c d) (by unfold comK; omega) (by unfold comK; omega) (fun i hi => alike_same h1.1 h2.1 (by unfold comK at hi; omega))]
  by_cases e1 : comK a b c d = b
  · exact .inl e1
  · by_cases e2 : comK a b c d = d
    · exact .inr (.inl e2)
    · refine .inr (.inr ?_)
      have e3 : comK a b c d = alike a c := by unfold comK at e1 e2 ⊢; omega
      rw [e3]
      exact alike_part h1.1 h2.1 (by have := h1.2.1; have := h2.2.1; unfold comK at e1 e2 e3; omega)
theorem lz_any (a c : Nat) (w : World) (ha : a < 4294967296) (hc : c < 4294967296) : Calls Tryd.prog 121 #[.int .u32 ((a ^^^ c : Nat) : Int)] w fun e w' => e = .returned (.int .i64 (alike a c)) ∧ w' = w := by
  refine (Sh.bits_LeadingZeros32 _ w (by omega) (by have := xor_lt ha hc; omega)).mono fun e w' ⟨he, hw⟩ => ⟨?_, hw⟩
  rw [he]
  refine ret_int ?_
  rw [Int.toNat_natCast]
  have := bitLen_le32 ha hc
  unfold alike
  omega
theorem run_min3 {P : Program} (ats : Array TypeId) (ty : TypeId) (x y z : Int) (w : World) : (Builtin.min_ ats ty #[.int .i64 x, .int .i64 y, .int .i64 z]).run P w = .ok (.int .i64 (min (min x y) z)) w := by
  simp only [Builtin.min_, List.foldlM_cons, List.foldlM_nil]
  simp [Builtin.min2, go_sem]
  split <;> split <;> omega
set_option maxRecDepth 100000 in
set_option maxHeartbeats 1000000 in
theorem common_any (a b c d : Nat) (w : World) (h1 : Val a b) (h2 : Val c d) : Calls Tryd.prog 110 #[.agg #[.int .u32 a, .int .i64 b], .agg #[.int .u32 c, .int .i64 d]] w fun e w' => e = .returned (.agg #[.int .u32 (comA a b c d), .int .i64 (comK a b c d)]) ∧ Below w.heap.size w w' := by
  have hx := u32_xor_nat a c h1.1 h2.1
  have HX := Lib.hid hx
  have HL := Lib.hid (fun w => lz_any a c w h1.1 h2.1)
  have HK := Lib.hid (show min (b : Int) (min (d : Int) (alike a c : Int)) = (comK a b c d : Int) by unfold comK; omega)
  have hk : comK a b c d ≤ 32 := by have := h1.2.1; unfold comK; omega
  have HK32 := Lib.hid (show (comK a b c d : Int) ≤ 32 by omega)
  have hA := and_mask a (comK a b c d : Int) h1.1 (by omega)
  generalize hM : maskOf (comK a b c d : Int) = M at hA
  have HM := Lib.hid hM
  have HA := Lib.hid (show bits .and .u32 (a : Int) M = ((comA a b c d : Nat) : Int) from hA)
  clear hM hA hk
  clear hx
  go_enter Tryd.func110, Tryd.ntmps110
  go_wp2_with fail
  refine still_tail 10 (by kernel_rfl) (by kernel_rfl) ?_
  simp only [List.take_succ_cons, List.take_zero, List.drop_succ_cons, List.drop_zero]
  iterate 9 still_step
  rw [HX.out]
  still_call (HL.out _)
  refine wpStill_nil ?_
  go_wp2_with fail
  rw [run_min3]
  go_wp2_with fail
  rw [HK.out]
  refine (mask_good (comK a b c d) _ (by omega) HK32.out).mono ?_
  rintro e w1 ⟨rfl, rfl⟩
  rw [HM.out]
  go_wp2_with fail
  rw [HA.out]
  refine bodyPost_ret (v := .agg #[.int .u32 (comA a b c d), .int .i64 (comK a b c d)]) (by simp [results, Tryd.results110, go_sem]) rfl ⟨rfl, ?_⟩
  exact ((((Below.refl _ _).alloc (Nat.le_refl _) _).alloc (by simp) _).alloc (by simp; omega) _).drew
end Go.Proofs.YtaknlphmplimhaaDoor
