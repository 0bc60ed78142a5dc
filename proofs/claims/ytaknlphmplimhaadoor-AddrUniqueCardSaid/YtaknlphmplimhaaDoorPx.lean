/- The walks of addr.PrintPrefix and of addrLives, which returns true; a prefix of 32 bits, Itoa's contract at the octets as a premise; the world holds the variable ten. -/
import Derived.Test.YtaknlphmplimhaaDoorPr
import Derived.Deep.RegionHeld3
set_option linter.unusedVariables false
set_option linter.unusedSimpArgs false
namespace Go.Proofs.YtaknlphmplimhaaDoor
open Go.RowKit Go.Proofs
theorem itoa_small (i : Nat) (hi : i < 100) (W : World) : Calls Tryd.prog 104 #[.int .i64 i] W fun e w' => e = .returned (.string (decB i)) ∧ Below W.heap.size W w' :=
  (Sh.strconv_Itoa_small i hi W).mono fun _ _ ⟨he, hw⟩ => ⟨he, hw ▸ Below.refl _ _⟩
set_option maxHeartbeats 400000 in
theorem printPrefix_bad (a : Nat) (b : Int) (w : World) (ha : a < 4294967296) (hc : chkE a b ≠ 0) :
    Calls Tryd.prog 70 #[.agg #[.int .u32 a, .int .i64 b]] w fun e w' => e = .returned (.tuple #[.string ⟨#[]⟩, .int .i64 (chkE a b)]) ∧ Below w.heap.size w w' := by
  have Hd : (chkE a b != 0) = true := by simpa using hc
  clear hc
  go_enter Tryd.func70, Tryd.ntmps70
  go_wp2_with fail
  refine (check_any a b _ ha).mono ?_
  rintro e w' ⟨rfl, hb⟩
  go_wp2_with fail
  go_ret2
  exact ⟨rfl, bthen ((Below.refl _ _).alloc (Nat.le_refl _) _) (by simp) hb⟩
/-- What PrintPrefix gives. -/
def pfxS (a b : Nat) : ByteArray := ((⟨(dotted a).toArray⟩ : ByteArray) ++ (⟨#[47]⟩ : ByteArray)) ++ decB b
set_option maxRecDepth 100000 in
set_option maxHeartbeats 2000000 in
theorem printPrefix_good (a b : Nat) (w : World) (ha : a < 4294967296) (hc : chkE a b = 0) (hI : ItoaAt a w) (hlen : (dotted a).length ≤ 100) (hlb : (decB b).size ≤ 100) :
    Calls Tryd.prog 70 #[.agg #[.int .u32 a, .int .i64 b]] w fun e w' => e = .returned (.tuple #[.string (pfxS a b), .int .i64 0]) ∧ Below w.heap.size w w' := by
  have hb32 := (chkE_zero.1 hc).2.1
  have Hc := Lib.hid hc
  have HI := Lib.hid hI
  have HS := Lib.hid (show ((⟨(dotted a).toArray⟩ : ByteArray) ++ (⟨#[47]⟩ : ByteArray)) ++ decB b = pfxS a b from rfl)
  have hs1 : (⟨(dotted a).toArray⟩ : ByteArray).size ≤ 100 := by simpa [ByteArray.size] using hlen
  have hsz : ((⟨(dotted a).toArray⟩ : ByteArray) ++ (⟨#[47]⟩ : ByteArray)).size ≤ 101 := by
    rw [ByteArray.size_append]; simp [ByteArray.size]; exact hlen
  clear hc hI
  go_enter Tryd.func70, Tryd.ntmps70
  go_wp2_with fail
  refine (check_any a b _ ha).mono ?_
  rw [Hc.out]
  rintro e w1 ⟨rfl, hb1⟩
  have hs : w.heap.size + 1 ≤ w1.heap.size := by have := hb1.size; simp at this; omega
  have hB : Below w.heap.size w w1 := bthen ((Below.refl _ _).alloc (Nat.le_refl _) _) (by simp) hb1
  have p0 : w1.cell? ⟨w.heap.size, 0, none⟩ = some (.int .u32 a) := by rw [hb1.cell (p := ⟨w.heap.size, 0, none⟩) (by simp)]; go_simp
  have p1 : w1.cell? ⟨w.heap.size, 1, none⟩ = some (.int .i64 b) := by rw [hb1.cell (p := ⟨w.heap.size, 1, none⟩) (by simp)]; go_simp
  have HB := Lib.hid hB
  have hP : ∀ W, Below w.heap.size w W → Calls Tryd.prog 69 #[.int .u32 a] W fun e w' => e = .returned (.string ⟨(dotted a).toArray⟩) ∧ Below W.heap.size W w' := fun W hW =>
    print_any a W ha (fun k W' hk hW' => HI.out k W' hk (bthen hW hW.size hW')) hlen
  have HP := Lib.hid hP
  clear hb1 hB hlen hP
  generalize hdd : (⟨(dotted a).toArray⟩ : ByteArray) = dd at hs1 hsz HS HP
  clear hdd
  generalize hbb : decB b = bb at hlb HS
  have HBB := Lib.hid hbb
  clear hbb
  go_wp2_with fail
  have hA : ¬ (9223372036854775807 < dd.size + 1) := by omega
  have hA2 : ¬ (9223372036854775807 < dd.size + 1 + bb.size) := by omega
  go_region_held3 (fun w' => w'.cell? ⟨w.heap.size, 0, none⟩ = some (.int .u32 a) ∧ w'.cell? ⟨w.heap.size, 1, none⟩ = some (.int .i64 b))
    (first
      | go_keep
      | (go_split_ands; refine ⟨?_, ?_⟩ <;> assumption))
    (first
      | ((with_reducible refine (HP.out _ HB.out.drew).mono ?_); rintro e w2 ⟨rfl, hb2⟩
         have HB2 := Lib.hid (bthen HB.out.drew (by simp; omega) hb2)
         have hs2 : w.heap.size + 1 ≤ w2.heap.size := by have := hb2.size; simp at this; omega
         have q0 : w2.cell? ⟨w.heap.size, 0, none⟩ = some (.int .u32 a) := by rw [hb2.cell (p := ⟨w.heap.size, 0, none⟩) (by simp; omega)]; simpa using p0
         have q1 : w2.cell? ⟨w.heap.size, 1, none⟩ = some (.int .i64 b) := by rw [hb2.cell (p := ⟨w.heap.size, 1, none⟩) (by simp; omega)]; simpa using p1
         clear hb2)
      | ((with_reducible refine (itoa_small b (by omega) _).mono ?_); rw [HBB.out]; rintro e w3 ⟨rfl, hb3⟩
         have HB3 := Lib.hid (bthen HB2.out HB2.out.size hb3)
         have s0 : w3.cell? ⟨w.heap.size, 0, none⟩ = some (.int .u32 a) := by rw [hb3.cell (p := ⟨w.heap.size, 0, none⟩) (by simp; omega)]; exact q0
         have s1 : w3.cell? ⟨w.heap.size, 1, none⟩ = some (.int .i64 b) := by rw [hb3.cell (p := ⟨w.heap.size, 1, none⟩) (by simp; omega)]; exact q1
         clear hb3))
  all_goals
    go_wp2_with fail
    go_ret2
    exact ⟨by rw [HS.out]; rfl, HB3.out⟩
def tenS : ByteArray := ⟨#[49, 48, 46, 48, 46, 48, 46, 48, 47, 56]⟩
theorem pfx_ten : pfxS 167772160 8 = tenS := by decide +kernel
theorem dotted_ten : (dotted 167772160).length ≤ 100 := by decide +kernel
theorem oct_ten (k : Nat) (hk : k < 4) : oct 167772160 k < 100 := by
  have : k = 0 ∨ k = 1 ∨ k = 2 ∨ k = 3 := by omega
  rcases this with rfl | rfl | rfl | rfl <;> decide
set_option maxHeartbeats 400000 in
theorem addrLives_true (w : World) (h0 : w.cell? ⟨0, 0, none⟩ = some (.int .u32 167772160)) (h1 : w.cell? ⟨0, 1, none⟩ = some (.int .i64 8)) :
    Calls Tryd.prog 54 #[] w fun e w' => e = .returned (.bool true) ∧ Below w.heap.size w w' := by
  have hl := World.block_lt_of_cell? w _ h0
  simp only at hl
  have hcon := printPrefix_good 167772160 8 w (by decide) (by decide) (fun k W hk _ => itoa_small _ (oct_ten k hk) W) dotted_ten (by decide +kernel)
  rw [pfx_ten] at hcon
  have HC := Lib.hid hcon
  clear hcon
  go_enter Tryd.func54, Tryd.ntmps54
  go_wp2_with fail
  refine HC.out.mono ?_
  rintro e w1 ⟨rfl, hb⟩
  unfold tenS
  go_wp2_with fail
  go_ret
  exact ⟨rfl, hb⟩
end Go.Proofs.YtaknlphmplimhaaDoor
