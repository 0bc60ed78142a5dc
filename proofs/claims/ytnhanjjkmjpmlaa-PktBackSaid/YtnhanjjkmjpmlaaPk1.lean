/- Plain laws of the packet code's printed functions: what Check, Sum, put, header, Encode, get, Head and Decode compute, over numbers and byte lists; no condition beyond the sizes each lemma names. -/
import Derived.Test.YtnhanjjkmjpmlaaPPktBackx4
import Derived.Laws.BitsAllLaws
namespace Go.Proofs.Ytnhanjjkmjpmlaa.Pk
open Go.RowKit Go.Proofs.Ytnhanjjkmjpmlaa.PPktBack Go.Proofs.YtnhanjjkmjpmlaaW.PrintWords Go.Proofs.YtnhanjjkmjpmlaaW.PrintLast

/-! ### numbers -/
theorem w64 {x : Int} (h0 : -9223372036854775808 ≤ x) (h1 : x < 9223372036854775808) : wrap64 x = x := by
  unfold wrap64; omega

theorem wrap_i64_small (n : Nat) (h : n < 9223372036854775808) : IntKind.i64.wrap (n : Int) = (n : Int) := by
  have e : (n : Int) % 2 ^ 64 = n := Int.emod_eq_of_lt (by omega) (by omega)
  simp only [IntKind.wrap, IntKind.bits, IntKind.signed, e]
  rw [if_neg]
  simp
  omega

theorem and_nat (a b : Nat) (ha : a < 9223372036854775808) (hb : b < 9223372036854775808) : bits .and .i64 (a : Int) (b : Int) = ((a &&& b : Nat) : Int) := by
  show IntKind.i64.wrap ((BitVec.ofInt 64 (a : Int) &&& BitVec.ofInt 64 (b : Int)).toNat : Int) = _
  rw [BitVec.toNat_and, ofInt_u64 a (by omega), ofInt_u64 b (by omega)]
  exact wrap_i64_small _ (Nat.lt_of_le_of_lt Nat.and_le_left ha)
theorem or_nat (a b : Nat) (ha : a < 9223372036854775808) (hb : b < 9223372036854775808) : bits .or .i64 (a : Int) (b : Int) = ((a ||| b : Nat) : Int) := by
  show IntKind.i64.wrap ((BitVec.ofInt 64 (a : Int) ||| BitVec.ofInt 64 (b : Int)).toNat : Int) = _
  rw [BitVec.toNat_or, ofInt_u64 a (by omega), ofInt_u64 b (by omega)]
  exact wrap_i64_small _ (Nat.or_lt_two_pow (n := 63) (by omega) (by omega))
theorem xor_nat (a b : Nat) (ha : a < 9223372036854775808) (hb : b < 9223372036854775808) : bits .xor .i64 (a : Int) (b : Int) = ((a ^^^ b : Nat) : Int) := by
  show IntKind.i64.wrap ((BitVec.ofInt 64 (a : Int) ^^^ BitVec.ofInt 64 (b : Int)).toNat : Int) = _
  rw [BitVec.toNat_xor, ofInt_u64 a (by omega), ofInt_u64 b (by omega)]
  exact wrap_i64_small _ (Nat.xor_lt_two_pow (n := 63) (by omega) (by omega))

theorem and_ffff (a : Int) (h0 : 0 ≤ a) (h1 : a < 9223372036854775808) : bits .and .i64 a 65535 = a % 65536 := by
  obtain ⟨n, rfl⟩ := Int.eq_ofNat_of_zero_le h0
  have h := and_nat n 65535 (by omega) (by omega)
  rw [show n &&& 65535 = n % 65536 from Nat.and_two_pow_sub_one_eq_mod n 16] at h
  rw [show ((65535 : Int)) = ((65535 : Nat) : Int) from rfl, h]; omega
theorem and_1fff (a : Int) (h0 : 0 ≤ a) (h1 : a < 9223372036854775808) : bits .and .i64 a 8191 = a % 8192 := by
  obtain ⟨n, rfl⟩ := Int.eq_ofNat_of_zero_le h0
  have h := and_nat n 8191 (by omega) (by omega)
  rw [show n &&& 8191 = n % 8192 from Nat.and_two_pow_sub_one_eq_mod n 13] at h
  rw [show ((8191 : Int)) = ((8191 : Nat) : Int) from rfl, h]; omega
theorem and_2000 (a : Int) (h0 : 0 ≤ a) (h1 : a < 9223372036854775808) : bits .and .i64 a 8192 = a / 8192 % 2 * 8192 := by
  obtain ⟨n, rfl⟩ := Int.eq_ofNat_of_zero_le h0
  have h := and_nat n 8192 (by omega) (by omega)
  rw [show n &&& 8192 = n / 8192 % 2 * 8192 from nat_bit 13 n] at h
  rw [show ((8192 : Int)) = ((8192 : Nat) : Int) from rfl, h]; omega
theorem and_4000 (a : Int) (h0 : 0 ≤ a) (h1 : a < 9223372036854775808) : bits .and .i64 a 16384 = a / 16384 % 2 * 16384 := by
  obtain ⟨n, rfl⟩ := Int.eq_ofNat_of_zero_le h0
  have h := and_nat n 16384 (by omega) (by omega)
  rw [show n &&& 16384 = n / 16384 % 2 * 16384 from nat_bit 14 n] at h
  rw [show ((16384 : Int)) = ((16384 : Nat) : Int) from rfl, h]; omega
theorem and_8000 (a : Int) (h0 : 0 ≤ a) (h1 : a < 9223372036854775808) : bits .and .i64 a 32768 = a / 32768 % 2 * 32768 := by
  obtain ⟨n, rfl⟩ := Int.eq_ofNat_of_zero_le h0
  have h := and_nat n 32768 (by omega) (by omega)
  rw [show n &&& 32768 = n / 32768 % 2 * 32768 from nat_bit 15 n] at h
  rw [show ((32768 : Int)) = ((32768 : Nat) : Int) from rfl, h]; omega
theorem or_4000 (a : Int) (h0 : 0 ≤ a) (h1 : a < 16384) : bits .or .i64 a 16384 = a + 16384 := by
  obtain ⟨n, rfl⟩ := Int.eq_ofNat_of_zero_le h0
  have h := or_nat n 16384 (by omega) (by omega)
  rw [Nat.or_comm, nat_join 14 16384 n (by omega) (by omega)] at h
  rw [show ((16384 : Int)) = ((16384 : Nat) : Int) from rfl, h]; omega
theorem or_2000 (a : Int) (h0 : 0 ≤ a) (h1 : a % 16384 < 8192) (h2 : a < 65536) : bits .or .i64 a 8192 = a + 8192 := by
  obtain ⟨n, rfl⟩ := Int.eq_ofNat_of_zero_le h0
  have h := or_nat n 8192 (by omega) (by omega)
  have e : n ||| 8192 = n + 8192 := by
    have e1 : n = (n / 16384 * 16384) ||| (n % 16384) := by rw [nat_join 14 _ _ (by omega) (by omega)]; omega
    have e2 : n % 16384 ||| 8192 = n % 16384 + 8192 := by rw [Nat.or_comm, nat_join 13 8192 _ (by omega) (by omega)]; omega
    have e3 : (n / 16384 * 16384 ||| (n % 16384)) ||| 8192 = n + 8192 := by
      rw [Nat.or_assoc, e2, nat_join 14 _ _ (by omega) (by omega)]; omega
    rw [← e1] at e3; exact e3
  rw [e] at h
  rw [show ((8192 : Int)) = ((8192 : Nat) : Int) from rfl, h]; omega
theorem or_byte (a b : Int) (h0 : 0 ≤ a) (h1 : a < 1099511627776) (h2 : 0 ≤ b) (h3 : b < 256) : bits .or .i64 (a * 256) b = a * 256 + b := by
  obtain ⟨n, rfl⟩ := Int.eq_ofNat_of_zero_le h0
  obtain ⟨m, rfl⟩ := Int.eq_ofNat_of_zero_le h2
  have h := or_nat (n * 256) m (by omega) (by omega)
  rw [nat_join 8 (n * 256) m (by omega) (by omega)] at h
  rw [show ((n : Int) * 256) = ((n * 256 : Nat) : Int) by omega, h]; omega
theorem xor_ffff (a : Int) (h0 : 0 ≤ a) (h1 : a ≤ 65535) : 0 ≤ bits .xor .i64 a 65535 ∧ bits .xor .i64 a 65535 ≤ 65535 := by
  obtain ⟨n, rfl⟩ := Int.eq_ofNat_of_zero_le h0
  have h := xor_nat n 65535 (by omega) (by omega)
  have := Nat.xor_lt_two_pow (x := n) (y := 65535) (n := 16) (by omega) (by omega)
  rw [show ((65535 : Int)) = ((65535 : Nat) : Int) from rfl, h]; omega

/-! ### fold, Sum -/
theorem fold_step (k : Nat) (n : Int) (h0 : 0 ≤ n) (h1 : n < 1073741824) : pkt_fold.l0 (k + 1) n = if n > 65535 then pkt_fold.l0 k (n / 65536 + n % 65536) else some n := by
  simp only [pkt_fold.l0]
  rw [and_ffff n h0 (by omega), w64 (by omega) (by omega)]

theorem fold_ok (n : Int) (h0 : 0 ≤ n) (h1 : n < 1073741824) : ∃ v, 0 ≤ v ∧ v ≤ 65535 ∧ ∀ k, pkt_fold.l0 (k + 5) n = some v := by
  by_cases a : n > 65535
  · by_cases b : n / 65536 + n % 65536 > 65535
    · by_cases c : (n / 65536 + n % 65536) / 65536 + (n / 65536 + n % 65536) % 65536 > 65535
      · omega
      · refine ⟨(n / 65536 + n % 65536) / 65536 + (n / 65536 + n % 65536) % 65536, by omega, by omega, fun k => ?_⟩
        rw [fold_step _ _ (by omega) (by omega), if_pos a, fold_step _ _ (by omega) (by omega), if_pos b, fold_step _ _ (by omega) (by omega), if_neg c]
    · refine ⟨n / 65536 + n % 65536, by omega, by omega, fun k => ?_⟩
      rw [fold_step _ _ (by omega) (by omega), if_pos a, fold_step _ _ (by omega) (by omega), if_neg b]
  · refine ⟨n, by omega, by omega, fun k => ?_⟩
    rw [fold_step _ _ (by omega) (by omega), if_neg a]

theorem sum_loop (s : ByteArray) (hs : s.size ≤ 64) (d : Nat) : ∀ (i n : Int), 0 ≤ i → i ≤ s.size → (s.size : Int) - i = d → 0 ≤ n → n ≤ i * 65536 →
    ∃ v, 0 ≤ v ∧ v ≤ 65535 ∧ ∀ k, pkt_Sum.l0 (k + d + 6) s n s.size i = some v := by
  induction d with
  | zero =>
    intro i n hi hi2 hd hn hn2
    obtain ⟨v, v0, v1, hv⟩ := fold_ok n hn (by omega)
    obtain ⟨x0, x1⟩ := xor_ffff v v0 v1
    refine ⟨_, x0, x1, fun k => ?_⟩
    rw [show k + 0 + 6 = (k + 5) + 1 by omega]
    simp only [pkt_Sum.l0]
    rw [if_neg (by omega)]
    show (pkt_fold.l0 (k + 5) n).bind _ = _
    rw [hv]; rfl
  | succ d ih =>
    intro i n hi hi2 hd hn hn2
    have hb := bt_range s i
    by_cases e : Int.tmod i 2 = 0
    · obtain ⟨v, v0, v1, hv⟩ := ih (i + 1) (n + bt s i * 256) (by omega) (by omega) (by omega) (by omega) (by omega)
      refine ⟨v, v0, v1, fun k => ?_⟩
      have hk := hv k
      rw [show k + (d + 1) + 6 = (k + d + 6) + 1 by omega]
      generalize k + d + 6 = K at hk ⊢
      simp only [pkt_Sum.l0]
      rw [if_pos (by omega), if_pos e, if_pos hi, if_pos (by omega), w64 (x := bt s i) (by omega) (by omega), w64 (x := bt s i * 256) (by omega) (by omega), w64 (x := n + bt s i * 256) (by omega) (by omega), w64 (x := i + 1) (by omega) (by omega), hk]
    · obtain ⟨v, v0, v1, hv⟩ := ih (i + 1) (n + bt s i) (by omega) (by omega) (by omega) (by omega) (by omega)
      refine ⟨v, v0, v1, fun k => ?_⟩
      have hk := hv k
      rw [show k + (d + 1) + 6 = (k + d + 6) + 1 by omega]
      generalize k + d + 6 = K at hk ⊢
      simp only [pkt_Sum.l0]
      rw [if_pos (by omega), if_neg e, if_pos hi, if_pos (by omega), w64 (x := bt s i) (by omega) (by omega), w64 (x := n + bt s i) (by omega) (by omega), w64 (x := i + 1) (by omega) (by omega), hk]

/-- The checksum of a short string is a number of 16 bits, whatever the rounds. -/
theorem sum_ok (s : ByteArray) (hs : s.size ≤ 64) : ∃ v, 0 ≤ v ∧ v ≤ 65535 ∧ ∀ k, 70 ≤ k → pkt_Sum.f k s = some v := by
  obtain ⟨v, v0, v1, hv⟩ := sum_loop s hs s.size 0 0 (by omega) (by omega) (by omega) (by omega) (by omega)
  refine ⟨v, v0, v1, fun k hk => ?_⟩
  have := hv (k - s.size - 6)
  rw [show k - s.size - 6 + s.size + 6 = k by omega] at this
  exact this

/-! ### put -/
theorem put_step (k : Nat) (l : List Int) (a i : Int) (hl : l.length < 1000) (h0 : 0 ≤ i) (h1 : i < 8) : pkt_put.l0 (k + 1) l a i = pkt_put.l0 k (l ++ [a / 2 ^ (8 * i).toNat % 256]) a (i - 1) := by
  simp only [pkt_put.l0]
  rw [if_pos (by omega), w64 (x := 8 * i) (by omega) (by omega), if_pos (by omega), if_pos (by omega), w64 (x := i - 1) (by omega) (by omega)]
  unfold shr
  rw [show min (8 * i).toNat IntKind.i64.bits = (8 * i).toNat from Nat.min_eq_left (by simp only [IntKind.bits]; omega)]
theorem put_end (k : Nat) (l : List Int) (a : Int) : pkt_put.l0 (k + 1) l a (-1) = some l := by
  simp only [pkt_put.l0]
  rw [if_neg (by omega)]
theorem put2 (k : Nat) (l : List Int) (a : Int) (hl : l.length < 900) (hk : 10 ≤ k) : pkt_put.f k l a 2 = some (l ++ [a / 256 % 256, a % 256]) := by
  obtain ⟨k, rfl⟩ : ∃ m, k = m + 3 := ⟨k - 3, by omega⟩
  unfold pkt_put.f
  rw [show wrap64 (2 - 1) = 1 from w64 (by decide) (by decide), put_step _ _ _ _ (by omega) (by omega) (by omega), put_step _ _ _ _ (by simp; omega) (by omega) (by omega), show ((1 : Int) - 1 - 1) = -1 from rfl, put_end]
  simp
theorem put4 (k : Nat) (l : List Int) (a : Int) (hl : l.length < 900) (hk : 10 ≤ k) : pkt_put.f k l a 4 = some (l ++ [a / 16777216 % 256, a / 65536 % 256, a / 256 % 256, a % 256]) := by
  obtain ⟨k, rfl⟩ : ∃ m, k = m + 5 := ⟨k - 5, by omega⟩
  unfold pkt_put.f
  rw [show wrap64 (4 - 1) = 3 from w64 (by decide) (by decide), put_step _ _ _ _ (by omega) (by omega) (by omega), put_step _ _ _ _ (by simp; omega) (by omega) (by omega), put_step _ _ _ _ (by simp; omega) (by omega) (by omega), put_step _ _ _ _ (by simp; omega) (by omega) (by omega), show ((3 : Int) - 1 - 1 - 1 - 1) = -1 from rfl, put_end]
  simp

/-! ### header -/
def flagsOf (off : Int) (more whole : Bool) : Int := off / 8 + (if whole then 16384 else 0) + (if more then 8192 else 0)
def hdr (src dst proto ttl id off : Int) (more whole : Bool) (n sum : Int) : List Int :=
  [69, 0, n / 256 % 256, n % 256, id / 256 % 256, id % 256, flagsOf off more whole / 256 % 256, flagsOf off more whole % 256, ttl % 256, proto % 256,
   sum / 256 % 256, sum % 256, src / 16777216 % 256, src / 65536 % 256, src / 256 % 256, src % 256, dst / 16777216 % 256, dst / 65536 % 256, dst / 256 % 256, dst % 256]

theorem header_ok (k : Nat) (hk : 20 ≤ k) (src dst proto ttl id off : Int) (more whole : Bool) (body : ByteArray) (sum : Int)
    (s0 : 0 ≤ src) (s1 : src < 4294967296) (d0 : 0 ≤ dst) (d1 : dst < 4294967296) (o0 : 0 ≤ off) (o1 : off ≤ 65535) (hb : body.size ≤ 1000) :
    pkt_header.f k src dst proto ttl id off more whole body sum = some (hdr src dst proto ttl id off more whole (20 + body.size) sum) := by
  obtain ⟨k, rfl⟩ : ∃ m, k = m + 2 := ⟨k - 2, by omega⟩
  have ed : Int.tdiv off 8 = off / 8 := by rw [Int.tdiv_eq_ediv_of_nonneg o0]
  have main : ∀ fl, pkt_header.j1 (k + 1) sum fl src dst proto ttl id off more whole body = some [69, 0, (20 + body.size : Int) / 256 % 256, (20 + body.size : Int) % 256, id / 256 % 256, id % 256, fl / 256 % 256, fl % 256, ttl % 256, proto % 256,
   sum / 256 % 256, sum % 256, src / 16777216 % 256, src / 65536 % 256, src / 256 % 256, src % 256, dst / 16777216 % 256, dst / 65536 % 256, dst / 256 % 256, dst % 256] := by
    intro fl
    simp only [pkt_header.j1]
    rw [w64 (x := 20 + (body.size : Int)) (by omega) (by omega), put2 _ _ _ (by simp) (by omega)]; simp only [Option.bind_some]
    rw [put2 _ _ _ (by simp) (by omega)]; simp only [Option.bind_some]
    rw [put2 _ _ _ (by simp) (by omega)]; simp only [Option.bind_some]
    rw [if_pos (by simp), put2 _ _ _ (by simp) (by omega)]; simp only [Option.bind_some]
    rw [w64 (x := src) (by omega) (by omega), put4 _ _ _ (by simp) (by omega)]; simp only [Option.bind_some]
    rw [w64 (x := dst) (by omega) (by omega), put4 _ _ _ (by simp) (by omega)]; simp only [Option.bind_some]
    simp
  unfold pkt_header.f hdr flagsOf
  rw [ed, w64 (x := off / 8) (by omega) (by omega)]
  have hor : bits .or .i64 (off / 8) 16384 = off / 8 + 16384 := or_4000 _ (by omega) (by omega)
  cases whole <;> cases more <;> simp only [pkt_header.j0, if_true, if_false, Bool.false_eq_true, main, hor, Int.add_zero]
  · rw [or_2000 (off / 8) (by omega) (by omega) (by omega)]
  · rw [or_2000 (off / 8 + 16384) (by omega) (by omega) (by omega)]

/-! ### get -/
theorem get_step (k : Nat) (s : ByteArray) (at_ n m i : Int) (h : i < m) (i0 : 0 ≤ i) (hi : i < 100) (a0 : 0 ≤ at_) (a1 : at_ < 100) (a2 : at_ + i < s.size) (n0 : 0 ≤ n) (n1 : n < 1099511627776) :
    pkt_get.l0 (k + 1) s at_ n m i = pkt_get.l0 k s at_ (n * 256 + bt s (at_ + i)) m (i + 1) := by
  have hb := bt_range s (at_ + i)
  simp only [pkt_get.l0]
  rw [if_pos h, w64 (x := at_ + i) (by omega) (by omega), if_pos (by omega), if_pos a2, w64 (x := n * 256) (by omega) (by omega), w64 (x := bt s (at_ + i)) (by omega) (by omega), or_byte _ _ n0 n1 hb.1 (by omega), w64 (x := i + 1) (by omega) (by omega)]
theorem get_end (k : Nat) (s : ByteArray) (at_ n m : Int) : pkt_get.l0 (k + 1) s at_ n m m = some n := by
  simp only [pkt_get.l0]
  rw [if_neg (by omega)]
theorem get2 (k : Nat) (hk : 10 ≤ k) (s : ByteArray) (p : Int) (h0 : 0 ≤ p) (h1 : p < 50) (h2 : p + 1 < s.size) : pkt_get.f k s p 2 = some (bt s p * 256 + bt s (p + 1)) := by
  obtain ⟨k, rfl⟩ : ∃ m, k = m + 3 := ⟨k - 3, by omega⟩
  have b0 := bt_range s p
  have b1 := bt_range s (p + 1)
  unfold pkt_get.f
  have e1 : (0 : Int) + 1 = 1 := rfl
  have e2 : (1 : Int) + 1 = 2 := rfl
  have e3 : (2 : Int) + 1 = 3 := rfl
  have e4 : (3 : Int) + 1 = 4 := rfl
  rw [get_step _ _ _ _ _ _ (by omega) (by omega) (by omega) h0 (by omega) (by omega) (by omega) (by omega), Int.add_zero, e1, get_step _ _ _ _ _ _ (by omega) (by omega) (by omega) h0 (by omega) (by omega) (by omega) (by omega)]
  rw [e2, get_end]
  simp
theorem get4 (k : Nat) (hk : 10 ≤ k) (s : ByteArray) (p : Int) (h0 : 0 ≤ p) (h1 : p < 50) (h2 : p + 3 < s.size) : pkt_get.f k s p 4 = some (((bt s p * 256 + bt s (p + 1)) * 256 + bt s (p + 2)) * 256 + bt s (p + 3)) := by
  obtain ⟨k, rfl⟩ : ∃ m, k = m + 5 := ⟨k - 5, by omega⟩
  have b0 := bt_range s p
  have b1 := bt_range s (p + 1)
  have b2 := bt_range s (p + 2)
  have b3 := bt_range s (p + 3)
  unfold pkt_get.f
  have e1 : (0 : Int) + 1 = 1 := rfl
  have e2 : (1 : Int) + 1 = 2 := rfl
  have e3 : (2 : Int) + 1 = 3 := rfl
  have e4 : (3 : Int) + 1 = 4 := rfl
  rw [get_step _ _ _ _ _ _ (by omega) (by omega) (by omega) h0 (by omega) (by omega) (by omega) (by omega), Int.add_zero, e1, get_step _ _ _ _ _ _ (by omega) (by omega) (by omega) h0 (by omega) (by omega) (by omega) (by omega),
    e2, get_step _ _ _ _ _ _ (by omega) (by omega) (by omega) h0 (by omega) (by omega) (by omega) (by omega), e3, get_step _ _ _ _ _ _ (by omega) (by omega) (by omega) h0 (by omega) (by omega) (by omega) (by omega)]
  rw [e4, get_end]
  simp

/-! ### Check -/
def chk (proto ttl id off : Int) (more whole : Bool) (body : ByteArray) : Int :=
  if proto < 0 ∨ proto > 255 ∨ ttl < 1 ∨ ttl > 255 ∨ id < 0 ∨ id > 65535 ∨ off < 0 ∨ off > 65528 then 10
  else if (body.size : Int) > 1500 ∨ off + body.size > 65535 then 2
  else if off % 8 ≠ 0 ∨ (more = true ∧ (body.size : Int) % 8 ≠ 0) ∨ ((more = true ∨ off > 0) ∧ (body.toList = [] ∨ whole = true)) then 3
  else 0

theorem check_ok (k : Nat) (hk : 5 ≤ k) (src dst proto ttl id off : Int) (more whole : Bool) (body : ByteArray) (hb : body.size ≤ 1000) :
    pkt_Check.f k src dst proto ttl id off more whole body = some (chk proto ttl id off more whole body) := by
  obtain ⟨k, rfl⟩ : ∃ m, k = m + 2 := ⟨k - 2, by omega⟩
  have j0t : pkt_Check.j0 (k + 2) true src dst proto ttl id off more whole body = some 10 := by simp only [pkt_Check.j0, if_true]
  have j1t : pkt_Check.j1 (k + 1) true src dst proto ttl id off more whole body = some 2 := by simp only [pkt_Check.j1, if_true]
  unfold pkt_Check.f chk
  by_cases a1 : proto < 0
  · rw [if_pos a1, if_pos (.inl a1), j0t]
  by_cases a2 : proto > 255
  · rw [if_neg a1, if_pos a2, if_pos (by omega), j0t]
  by_cases a3 : ttl < 1
  · rw [if_neg a1, if_neg a2, if_pos a3, if_pos (by omega), j0t]
  by_cases a4 : ttl > 255
  · rw [if_neg a1, if_neg a2, if_neg a3, if_pos a4, if_pos (by omega), j0t]
  by_cases a5 : id < 0
  · rw [if_neg a1, if_neg a2, if_neg a3, if_neg a4, if_pos a5, if_pos (by omega), j0t]
  by_cases a6 : id > 65535
  · rw [if_neg a1, if_neg a2, if_neg a3, if_neg a4, if_neg a5, if_pos a6, if_pos (by omega), j0t]
  by_cases a7 : off < 0
  · rw [if_neg a1, if_neg a2, if_neg a3, if_neg a4, if_neg a5, if_neg a6, if_pos a7, if_pos (by omega), j0t]
  rw [if_neg a1, if_neg a2, if_neg a3, if_neg a4, if_neg a5, if_neg a6, if_neg a7]
  by_cases a8 : off > 65528
  · rw [decide_eq_true a8, if_pos (by omega), j0t]
  rw [decide_eq_false a8, if_neg (by omega)]
  simp only [pkt_Check.j0, Bool.false_eq_true, if_false]
  rw [if_neg (by omega), w64 (by omega) (by omega)]
  by_cases b1 : off + (body.size : Int) > 65535
  · rw [decide_eq_true b1, if_pos (by omega), j1t]
  rw [decide_eq_false b1, if_neg (by omega)]
  have em : Int.tmod off 8 = off % 8 := by rw [Int.tmod_eq_emod_of_nonneg (by omega)]
  simp only [pkt_Check.j1, Bool.false_eq_true, if_false]
  rw [em]
  by_cases c1 : off % 8 = 0
  · rw [if_pos c1]
    cases more
    · by_cases c2 : off > 0
      · by_cases c3 : body.toList = []
        · simp [c1, c2, c3]
        · cases whole <;> simp [c1, c2, c3]
      · simp [c1, c2]
    · by_cases c2 : (body.size : Int) % 8 = 0
      · by_cases c3 : body.toList = []
        · simp [c1, c2, c3]
        · cases whole <;> simp [c1, c2, c3]
      · simp [c1, c2]
  · rw [if_neg c1]
    simp [c1]

/-! ### Encode -/
theorem encode_bad (k : Nat) (hk : 5 ≤ k) (src dst proto ttl id off : Int) (more whole : Bool) (body : ByteArray) (hb : body.size ≤ 1000) (hc : chk proto ttl id off more whole body ≠ 0) :
    pkt_Encode.f k src dst proto ttl id off more whole body = some (⟨#[]⟩, chk proto ttl id off more whole body) := by
  unfold pkt_Encode.f
  rw [check_ok k hk _ _ _ _ _ _ _ _ _ hb]; simp only [Option.bind_some]
  rw [if_neg hc]
theorem chk_ranges {proto ttl id off : Int} {more whole : Bool} {body : ByteArray} (hc : chk proto ttl id off more whole body = 0) :
    0 ≤ proto ∧ proto ≤ 255 ∧ 1 ≤ ttl ∧ ttl ≤ 255 ∧ 0 ≤ id ∧ id ≤ 65535 ∧ 0 ≤ off ∧ off ≤ 65528 ∧ off % 8 = 0 := by
  unfold chk at hc
  by_cases a : proto < 0 ∨ proto > 255 ∨ ttl < 1 ∨ ttl > 255 ∨ id < 0 ∨ id > 65535 ∨ off < 0 ∨ off > 65528
  · rw [if_pos a] at hc; omega
  rw [if_neg a] at hc
  by_cases b : (body.size : Int) > 1500 ∨ off + body.size > 65535
  · rw [if_pos b] at hc; omega
  rw [if_neg b] at hc
  by_cases c : off % 8 = 0
  · omega
  · rw [if_pos (.inl c)] at hc; omega
theorem encode_ok (k : Nat) (hk : 80 ≤ k) (src dst proto ttl id off : Int) (more whole : Bool) (body : ByteArray) (hb : body.size ≤ 1000)
    (s0 : 0 ≤ src) (s1 : src < 4294967296) (d0 : 0 ≤ dst) (d1 : dst < 4294967296) (hc : chk proto ttl id off more whole body = 0) (v : Int)
    (hv : pkt_Sum.f k (strOfNums (hdr src dst proto ttl id off more whole (20 + body.size) 0)) = some v) :
    pkt_Encode.f k src dst proto ttl id off more whole body = some (strOfNums (hdr src dst proto ttl id off more whole (20 + body.size) v) ++ body, 0) := by
  obtain ⟨_, _, _, _, _, _, o0, o1, _⟩ := chk_ranges hc
  unfold pkt_Encode.f
  rw [check_ok k (by omega) _ _ _ _ _ _ _ _ _ hb]; simp only [Option.bind_some]
  rw [if_pos hc, header_ok k (by omega) _ _ _ _ _ _ _ _ _ _ s0 s1 d0 d1 o0 (by omega) hb]; simp only [Option.bind_some]
  rw [hv]; simp only [Option.bind_some]
  rw [header_ok k (by omega) _ _ _ _ _ _ _ _ _ _ s0 s1 d0 d1 o0 (by omega) hb]; simp only [Option.bind_some]
  rw [if_pos (by rw [strOfNums_size]; simp only [hdr, List.length_cons, List.length_nil]; omega)]

/-! ### Head, Decode over a string whose first twenty bytes are named -/
def mk (b : Fin 20 → UInt8) (rest : List UInt8) : ByteArray := ⟨(List.ofFn b ++ rest).toArray⟩
theorem mk_size (b : Fin 20 → UInt8) (rest : List UInt8) : (mk b rest).size = rest.length + 20 := by simp [mk, ByteArray.size]
theorem mk_at (b : Fin 20 → UInt8) (rest : List UInt8) (i : Fin 20) (h : i.val < (mk b rest).size) : (mk b rest)[i.val] = b i := by
  show (mk b rest).data[i.val]'_ = b i
  simp only [mk, List.getElem_toArray]
  rw [List.getElem_append_left (by simp), List.getElem_ofFn]
theorem mk_bt (b : Fin 20 → UInt8) (rest : List UInt8) (i : Fin 20) : bt (mk b rest) (i.val : Int) = ((b i).toNat : Int) := by
  have hi := i.isLt
  unfold bt
  rw [dif_pos (by rw [mk_size]; omega)]
  exact congrArg (fun x : UInt8 => (x.toNat : Int)) (mk_at b rest i (by rw [mk_size]; omega))
def N (b : Fin 20 → UInt8) (i : Fin 20) : Int := ((b i).toNat : Int)
theorem N_range (b : Fin 20 → UInt8) (i : Fin 20) : 0 ≤ N b i ∧ N b i ≤ 255 := by
  unfold N; have := (b i).toNat_lt; omega
theorem mk_ext (x y : ByteArray) (h : x.data.toList = y.data.toList) : x = y := by
  cases x; cases y; simp only [ByteArray.mk.injEq]; exact Array.toList_inj.1 h
set_option maxRecDepth 4000 in
theorem mk_of (s : ByteArray) (h : 20 ≤ s.size) : ∃ b rest, s = mk b rest := by
  have hl : 20 ≤ s.data.toList.length := by rw [Array.length_toList]; exact h
  refine ⟨fun i => s.data.toList[i.val]'(by omega), s.data.toList.drop 20, ?_⟩
  apply mk_ext
  have e : List.ofFn (fun i : Fin 20 => s.data.toList[i.val]'(by omega)) = s.data.toList.take 20 := by
    apply List.ext_getElem
    · rw [List.length_ofFn, List.length_take]; omega
    · intro i h1 h2; rw [List.getElem_ofFn, List.getElem_take]
  show s.data.toList = List.ofFn _ ++ _
  rw [e, List.take_append_drop]
theorem ofFn20 (b : Fin 20 → UInt8) : List.ofFn b = [b 0, b 1, b 2, b 3, b 4, b 5, b 6, b 7, b 8, b 9, b 10, b 11, b 12, b 13, b 14, b 15, b 16, b 17, b 18, b 19] := rfl
/-- The string whose checksum Decode asks for. -/
def zeroed (b : Fin 20 → UInt8) : ByteArray := ⟨#[b 0, b 1, b 2, b 3, b 4, b 5, b 6, b 7, b 8, b 9, 0, 0, b 12, b 13, b 14, b 15, b 16, b 17, b 18, b 19]⟩
theorem zeroed_eq (b : Fin 20 → UInt8) (rest : List UInt8) : ((mk b rest).extract 0 10 ++ (⟨#[0, 0]⟩ : ByteArray)) ++ (mk b rest).extract 12 20 = zeroed b := by
  apply mk_ext
  simp only [mk, zeroed, ofFn20, ByteArray.data_append, ByteArray.data_extract, List.extract_toArray]
  rfl
theorem body_eq (b : Fin 20 → UInt8) (rest : List UInt8) : (mk b rest).extract 20 (mk b rest).size = ⟨rest.toArray⟩ := by
  apply mk_ext
  rw [mk_size]
  simp only [mk, ofFn20, ByteArray.data_extract, List.extract_toArray]
  simp [List.extract]

def n2 (b : Fin 20 → UInt8) (i j : Fin 20) : Int := N b i * 256 + N b j
def n4 (b : Fin 20 → UInt8) (i j k l : Fin 20) : Int := ((N b i * 256 + N b j) * 256 + N b k) * 256 + N b l
def headBad (b : Fin 20 → UInt8) : Prop := N b 0 ≠ 69 ∨ N b 1 ≠ 0 ∨ n2 b 2 3 < 20 ∨ n2 b 6 7 / 32768 % 2 ≠ 0 ∨ N b 8 = 0
abbrev Z (e : Int) : Int × Int × Int × Int × Int × Int × Bool × Bool × ByteArray × Int := (0, 0, 0, 0, 0, 0, false, false, ⟨#[]⟩, e)

/-- pktLives: the fixed example. -/
theorem lives (k : Nat) (hk : 80 ≤ k) : patchbaykeep2_pktLives.f k = some true := by
  obtain ⟨v, _, _, hv⟩ := sum_ok (strOfNums (hdr 0 0 0 9 0 0 false false (20 + (⟨#[97, 98]⟩ : ByteArray).size) 0)) (by rw [strOfNums_size]; simp [hdr])
  unfold patchbaykeep2_pktLives.f
  rw [encode_ok k hk 0 0 0 9 0 0 false false ⟨#[97, 98]⟩ (by decide) (by omega) (by omega) (by omega) (by omega) (by decide) v (hv k (by omega))]; simp only [Option.bind_some]
  rw [if_pos trivial, ByteArray.size_append, strOfNums_size]
  rfl
end Go.Proofs.Ytnhanjjkmjpmlaa.Pk
