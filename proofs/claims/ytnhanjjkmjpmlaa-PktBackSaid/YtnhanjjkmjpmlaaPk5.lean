/- Plain laws of a packet's header: the fields that are read of a header are those that were written, and back; no program in sight but the sizes that each lemma names. -/
import Derived.Test.YtnhanjjkmjpmlaaHa
set_option linter.unusedVariables false
set_option linter.unusedSimpArgs false
namespace Go.Proofs.Ytnhanjjkmjpmlaa.Pk
open Go.RowKit Go.Proofs.Ytnhanjjkmjpmlaa.PPktBack Go.Proofs.YtnhanjjkmjpmlaaW.PrintWords Go.Proofs.YtnhanjjkmjpmlaaW.PrintLast
theorem bt_N (b : Fin 20 → UInt8) (rest : List UInt8) (i : Int) (j : Fin 20) (h : i = (j.val : Int)) : bt (mk b rest) i = N b j := by subst h; exact mk_bt b rest j
theorem n2_range (b : Fin 20 → UInt8) (i j : Fin 20) : 0 ≤ n2 b i j ∧ n2 b i j ≤ 65535 := by
  have := N_range b i
  have := N_range b j
  unfold n2; omega
theorem n4_range (b : Fin 20 → UInt8) (i j l m : Fin 20) : 0 ≤ n4 b i j l m ∧ n4 b i j l m < 4294967296 := by
  have := N_range b i
  have := N_range b j
  have := N_range b l
  have := N_range b m
  unfold n4; omega

theorem u8 (b : Fin 20 → UInt8) (i : Fin 20) (x : Int) (h : x = N b i) : UInt8.ofNat x.toNat = b i := by
  subst h; unfold N; simp
/-- The flags of a header whose highest bit is clear are what Encode writes. -/
theorem flags_eq (f : Int) (h0 : 0 ≤ f) (h1 : f ≤ 65535) (h2 : f / 32768 % 2 = 0) : flagsOf (f % 8192 * 8) (f / 8192 % 2 * 8192 != 0) (f / 16384 % 2 * 16384 != 0) = f := by
  unfold flagsOf
  have c1 : f / 8192 % 2 = 0 ∨ f / 8192 % 2 = 1 := by omega
  have c2 : f / 16384 % 2 = 0 ∨ f / 16384 % 2 = 1 := by omega
  rcases c1 with c1 | c1 <;> rcases c2 with c2 | c2 <;> rw [c1, c2] <;> simp <;> omega
theorem hdr_bytes (b : Fin 20 → UInt8) (hb : ¬ headBad b) (n : Int) (hn : n2 b 2 3 = n) (sum : Int) (x y : UInt8) (hx : UInt8.ofNat (sum / 256 % 256).toNat = x) (hy : UInt8.ofNat (sum % 256).toNat = y) :
    (hdr (n4 b 12 13 14 15) (n4 b 16 17 18 19) (N b 9) (N b 8) (n2 b 4 5) (n2 b 6 7 % 8192 * 8) (n2 b 6 7 / 8192 % 2 * 8192 != 0) (n2 b 6 7 / 16384 % 2 * 16384 != 0) n sum).map (fun n => UInt8.ofNat n.toNat) =
      [b 0, b 1, b 2, b 3, b 4, b 5, b 6, b 7, b 8, b 9, x, y, b 12, b 13, b 14, b 15, b 16, b 17, b 18, b 19] := by
  unfold headBad at hb
  have r := n2_range b 6 7
  have e0 : 69 = N b 0 := by omega
  have e1 : 0 = N b 1 := by omega
  unfold hdr
  rw [flags_eq _ r.1 r.2 (by omega)]
  subst hn hx hy
  have R := N_range b
  have R2 := R 2; have R3 := R 3; have R4 := R 4; have R5 := R 5; have R6 := R 6; have R7 := R 7; have R8 := R 8; have R9 := R 9
  have R12 := R 12; have R13 := R 13; have R14 := R 14; have R15 := R 15; have R16 := R 16; have R17 := R 17; have R18 := R 18; have R19 := R 19
  clear R hb r
  simp only [List.map_cons, List.map_nil, List.cons.injEq, and_true, true_and]
  unfold n2 n4
  refine ⟨u8 b 0 _ e0, u8 b 1 _ e1, u8 b 2 _ ?_, u8 b 3 _ ?_, u8 b 4 _ ?_, u8 b 5 _ ?_, u8 b 6 _ ?_, u8 b 7 _ ?_, u8 b 8 _ ?_, u8 b 9 _ ?_, u8 b 12 _ ?_, u8 b 13 _ ?_, u8 b 14 _ ?_, u8 b 15 _ ?_, u8 b 16 _ ?_, u8 b 17 _ ?_, u8 b 18 _ ?_, u8 b 19 _ ?_⟩ <;> omega
theorem hdr_zeroed (b : Fin 20 → UInt8) (hb : ¬ headBad b) (n : Int) (hn : n2 b 2 3 = n) :
    strOfNums (hdr (n4 b 12 13 14 15) (n4 b 16 17 18 19) (N b 9) (N b 8) (n2 b 4 5) (n2 b 6 7 % 8192 * 8) (n2 b 6 7 / 8192 % 2 * 8192 != 0) (n2 b 6 7 / 16384 % 2 * 16384 != 0) n 0) = zeroed b := by
  apply mk_ext
  rw [strOfNums_data, hdr_bytes b hb n hn 0 0 0 rfl rfl]
  rfl
theorem hdr_whole (b : Fin 20 → UInt8) (rest : List UInt8) (hb : ¬ headBad b) (n : Int) (hn : n2 b 2 3 = n) :
    strOfNums (hdr (n4 b 12 13 14 15) (n4 b 16 17 18 19) (N b 9) (N b 8) (n2 b 4 5) (n2 b 6 7 % 8192 * 8) (n2 b 6 7 / 8192 % 2 * 8192 != 0) (n2 b 6 7 / 16384 % 2 * 16384 != 0) n (n2 b 10 11)) ++ ⟨rest.toArray⟩ = mk b rest := by
  have R10 := N_range b 10
  have R11 := N_range b 11
  apply mk_ext
  rw [ByteArray.data_append, Array.toList_append, strOfNums_data, hdr_bytes b hb n hn (n2 b 10 11) (b 10) (b 11) (u8 b 10 _ (by unfold n2; omega)) (u8 b 11 _ (by unfold n2; omega))]
  simp [mk]

theorem gv2 (b : Fin 20 → UInt8) (rest : List UInt8) (p : Nat) (i j : Fin 20) (hi : p = i.val) (hj : p + 1 = j.val) : gv (mk b rest) p 2 = n2 b i j := by
  show (0 * 256 + bt (mk b rest) ((p + 0 : Nat) : Int)) * 256 + bt (mk b rest) ((p + 1 : Nat) : Int) = _
  rw [bt_N b rest _ i (by simp [hi]), bt_N b rest _ j (by simp [hj])]
  unfold n2; omega
theorem gv4 (b : Fin 20 → UInt8) (rest : List UInt8) (p : Nat) (i j l m : Fin 20) (hi : p = i.val) (hj : p + 1 = j.val) (hl : p + 2 = l.val) (hm : p + 3 = m.val) : gv (mk b rest) p 4 = n4 b i j l m := by
  show (((0 * 256 + bt (mk b rest) ((p + 0 : Nat) : Int)) * 256 + bt (mk b rest) ((p + 1 : Nat) : Int)) * 256 + bt (mk b rest) ((p + 2 : Nat) : Int)) * 256 + bt (mk b rest) ((p + 3 : Nat) : Int) = _
  rw [bt_N b rest _ i (by simp [hi]), bt_N b rest _ j (by simp [hj]), bt_N b rest _ l (by simp [hl]), bt_N b rest _ m (by simp [hm])]
  unfold n4; omega
theorem zstr_mk (b : Fin 20 → UInt8) (rest : List UInt8) : zstr (mk b rest) = zeroed b := zeroed_eq b rest
theorem u32_small (x : Int) (h0 : 0 ≤ x) (h1 : x < 4294967296) : IntKind.u32.wrap x = x := by
  have e : x % 2 ^ 32 = x := Int.emod_eq_of_lt (by omega) (by omega)
  simp only [IntKind.wrap, IntKind.bits, IntKind.signed, e]
  simp
theorem i64_small (x : Int) (h0 : 0 ≤ x) (h1 : x < 9223372036854775808) : IntKind.i64.wrap x = x := by
  obtain ⟨n, rfl⟩ := Int.eq_ofNat_of_zero_le h0
  exact wrap_i64_small n (by omega)
end Go.Proofs.Ytnhanjjkmjpmlaa.Pk
