/- The walk of pkt.Head by hand, one theorem a way: too short, a bad form, a bad sum, good; a string of at most 1000 bytes. -/
import Derived.Test.YtnhanjjkmjpmlaaPk1
import Derived.Outline
import Derived.Lib.Hide
import Derived.IntWalk
import Derived.Deep.QuietTactic
import Derived.BigQuiet
import Derived.Deep.RegionHeld3
import Derived.Deep.DeepCutAuto
set_option linter.unusedVariables false
set_option linter.unusedSimpArgs false
namespace Go.Proofs.Ytnhanjjkmjpmlaa.Pk
open Go.RowKit Go.Proofs.Ytnhanjjkmjpmlaa.PPktBack Go.Proofs.YtnhanjjkmjpmlaaW.PrintWords Go.Proofs.YtnhanjjkmjpmlaaW.PrintLast
/-- What get has read of the i bytes from p on. -/
def gv (s : ByteArray) (p : Nat) : Nat → Int
  | 0 => 0
  | i + 1 => gv s p i * 256 + bt s ((p + i : Nat) : Int)
theorem gv_range (s : ByteArray) (p i : Nat) : 0 ≤ gv s p i ∧ gv s p i < 256 ^ i := by
  induction i with
  | zero => simp [gv]
  | succ i ih =>
    have hb := bt_range s ((p + i : Nat) : Int)
    simp only [gv, Int.pow_succ]
    omega
theorem b_at (s : ByteArray) (i : Nat) (h : i < s.size) : ((s[i]'h).toNat : Int) = bt s (i : Int) := bt_at s (i : Int) (by simpa using h)
theorem pow_le4 (i : Nat) (h : i ≤ 4) : (256 : Int) ^ i ≤ 4294967296 := by
  have : i = 0 ∨ i = 1 ∨ i = 2 ∨ i = 3 ∨ i = 4 := by omega
  rcases this with rfl | rfl | rfl | rfl | rfl <;> decide
set_option maxHeartbeats 400000 in
theorem get_same (s : ByteArray) (w : World) (p n : Nat) (hp : p ≤ 100) (hn : n ≤ 4) (h : p + n ≤ s.size) :
    Calls Try.prog 16 #[.string s, .int .i64 p, .int .i64 n] w fun e w' => e = .returned (.int .i64 (gv s p n)) ∧ w' = w := by
  go_enter Try.func16, Try.ntmps16
  go_wp2
  go_loop [7, 10] (fun v i => ∃ k : Nat, k ≤ n ∧ i = .int .i64 k ∧ v = .int .i64 (gv s p k)) (fun _ i => n - (intOf i).toNat)
  case atStart => exact ⟨0, by omega, rfl, rfl⟩
  case round =>
    obtain ⟨k, hk, rfl, rfl⟩ := hrel
    by_cases hlt : k < n
    · have hg := gv_range s p k
      have hg2 : gv s p k < 4294967296 := Int.lt_of_lt_of_le hg.2 (pow_le4 k (by omega))
      have hb := bt_range s ((p + k : Nat) : Int)
      have hg0 := hg.1
      have hix : p + k < s.size := by omega
      have HS := Lib.hid (show gv s p (k + 1) = gv s p k * 256 + bt s ((p + k : Nat) : Int) from rfl)
      have HO := Lib.hid (or_byte (gv s p k) (bt s ((p + k : Nat) : Int)) hg0 (by omega) hb.1 (by omega))
      have HB := Lib.hid (b_at s (p + k) hix)
      clear hg
      go_wp2
      go_round
      case rel => exact ⟨k + 1, by omega, by go_num, by rw [HB.out, w64 (by omega) (by omega), HO.out, HS.out]⟩
      case measure => simp [intOf]; omega
    · obtain rfl : k = n := by omega
      go_wp2
      go_ret
      exact ⟨rfl, rfl⟩
def zstr (s : ByteArray) : ByteArray := (s.extract 0 10 ++ (⟨#[0, 0]⟩ : ByteArray)) ++ s.extract 12 20
def zeros (b : Int) : Ending := .returned (.tuple #[.agg #[.int .u32 0, .int .u32 0, .int .i64 0, .int .i64 0, .int .i64 0, .int .i64 0, .bool false, .bool false, .string ⟨#[]⟩], .int .i64 0, .int .i64 b])
theorem quiet_add {P : Program} {f : FuncId} {args : Array Value} {w : World} {a n : Nat} {v : Value}
    (h : Calls P f args (w.drewN (a + n)) fun e w' => e = .returned v ∧ Drawn0 (w.drewN (a + n)) w') :
    Calls P f args (w.drewN (a + n)) fun e w'' => e = .returned v ∧ ∃ m, w'' = w.drewN (a + m) :=
  h.mono fun _ _ ⟨he, ⟨m, hm⟩⟩ => ⟨he, n + m, by rw [hm, World.drewN_drewN, Nat.add_assoc]⟩
theorem quiet_from {P : Program} {f : FuncId} {args : Array Value} {w : World} {n : Nat} {v : Value}
    (h : Calls P f args (w.drewN n) fun e w' => e = .returned v ∧ Drawn0 (w.drewN n) w') :
    Calls P f args (w.drewN n) fun e w'' => e = .returned v ∧ ∃ m, w'' = w.drewN m :=
  h.mono fun _ _ ⟨he, ⟨m, hm⟩⟩ => ⟨he, n + m, by rw [hm, World.drewN_drewN]⟩
theorem get_two (s : ByteArray) (w : World) (p : Nat) (hp : p ≤ 100) (h : p + 2 ≤ s.size) : Calls Try.prog 16 #[.string s, .int .i64 p, .int .i64 2] w fun e w' => e = .returned (.int .i64 (gv s p 2)) ∧ w' = w := get_same s w p 2 hp (by omega) h
theorem get_four (s : ByteArray) (w : World) (p : Nat) (hp : p ≤ 100) (h : p + 4 ≤ s.size) : Calls Try.prog 16 #[.string s, .int .i64 p, .int .i64 4] w fun e w' => e = .returned (.int .i64 (gv s p 4)) ∧ w' = w := get_same s w p 4 hp (by omega) h
theorem get12 (s : ByteArray) (w : World) (h : 20 ≤ s.size) : Calls Try.prog 16 #[.string s, .int .i64 12, .int .i64 4] w fun e w' => e = .returned (.int .i64 (gv s 12 4)) ∧ w' = w := get_four s w 12 (by omega) (by omega)
theorem get16 (s : ByteArray) (w : World) (h : 20 ≤ s.size) : Calls Try.prog 16 #[.string s, .int .i64 16, .int .i64 4] w fun e w' => e = .returned (.int .i64 (gv s 16 4)) ∧ w' = w := get_four s w 16 (by omega) (by omega)
theorem get04 (s : ByteArray) (w : World) (h : 20 ≤ s.size) : Calls Try.prog 16 #[.string s, .int .i64 4, .int .i64 2] w fun e w' => e = .returned (.int .i64 (gv s 4 2)) ∧ w' = w := get_two s w 4 (by omega) (by omega)
theorem get02 (s : ByteArray) (w : World) (h : 20 ≤ s.size) : Calls Try.prog 16 #[.string s, .int .i64 2, .int .i64 2] w fun e w' => e = .returned (.int .i64 (gv s 2 2)) ∧ w' = w := get_two s w 2 (by omega) (by omega)
theorem get06 (s : ByteArray) (w : World) (h : 20 ≤ s.size) : Calls Try.prog 16 #[.string s, .int .i64 6, .int .i64 2] w fun e w' => e = .returned (.int .i64 (gv s 6 2)) ∧ w' = w := get_two s w 6 (by omega) (by omega)
theorem get10 (s : ByteArray) (w : World) (h : 20 ≤ s.size) : Calls Try.prog 16 #[.string s, .int .i64 10, .int .i64 2] w fun e w' => e = .returned (.int .i64 (gv s 10 2)) ∧ w' = w := get_two s w 10 (by omega) (by omega)
set_option maxHeartbeats 400000 in
theorem head_short (s : ByteArray) (w : World) (h : s.size < 20) : Calls Try.prog 13 #[.string s] w fun e w' => e = zeros 9 ∧ Below w.heap.size w w' := by
  have h' : decide ((s.size : Int) < 20) = true := by simp; omega
  have h2 : (s.size : Int) < 20 := by omega
  go_enter Try.func13, Try.ntmps13
  go_wp2_with fail
  exact bodyPost_ret (v := .tuple #[.agg #[.int .u32 0, .int .u32 0, .int .i64 0, .int .i64 0, .int .i64 0, .int .i64 0, .bool false, .bool false, .string ⟨#[]⟩], .int .i64 0, .int .i64 9]) (by simp [results, Try.results13, go_sem]) rfl ⟨rfl, (Below.refl _ _).alloc (Nat.le_refl _) _⟩
/-- What Head makes of a good header. -/
def HeadIs (s : ByteArray) (e : Ending) : Prop := e = .returned (.tuple #[.agg #[.int .u32 (IntKind.u32.wrap (gv s 12 4)), .int .u32 (IntKind.u32.wrap (gv s 16 4)), .int .i64 (IntKind.i64.wrap (bt s 9)), .int .i64 (IntKind.i64.wrap (bt s 8)), .int .i64 (gv s 4 2), .int .i64 (IntKind.i64.wrap (bits .and .i64 (gv s 6 2) 8191 * 8)), .bool (bits .and .i64 (gv s 6 2) 8192 != 0), .bool (bits .and .i64 (gv s 6 2) 16384 != 0), .string ⟨#[]⟩], .int .i64 (gv s 2 2), .int .i64 0])
end Go.Proofs.Ytnhanjjkmjpmlaa.Pk
