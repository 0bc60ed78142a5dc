/- pkt.Decode's contract in plain words: of a string of 20 to 120 bytes, an error and no packet, or the packet whose encoding the string is. -/
import Derived.Test.YtnhanjjkmjpmlaaHu
import Derived.Test.YtnhanjjkmjpmlaaHb
import Derived.Test.YtnhanjjkmjpmlaaPk5
set_option linter.unusedVariables false
set_option linter.unusedSimpArgs false
namespace Go.Proofs.Ytnhanjjkmjpmlaa.Pk
open Go.RowKit Go.Proofs.Ytnhanjjkmjpmlaa.PPktBack Go.Proofs.YtnhanjjkmjpmlaaW.PrintWords Go.Proofs.YtnhanjjkmjpmlaaW.PrintLast

theorem head_bad (s : ByteArray) (h : 20 ≤ s.size) (h2 : s.size ≤ 1000) (hb : bt s 0 ≠ 69 ∨ bt s 1 ≠ 0 ∨ gv s 2 2 < 20 ∨ bits .and .i64 (gv s 6 2) 32768 ≠ 0 ∨ bt s 8 = 0) (w : World) :
    Calls Try.prog 13 #[.string s] w fun e w' => e = zeros 3 ∧ Below w.heap.size w w' := by
  by_cases c0 : bt s 0 = 69
  · have t0 : (bt s 0 != 69) = false := bne_eq_false_iff_eq.2 c0
    by_cases c1 : bt s 1 = 0
    · have t1 : (bt s 1 != 0) = false := bne_eq_false_iff_eq.2 c1
      by_cases c2 : gv s 2 2 < 20
      · exact head_bad2 s w h h2 t0 t1 c2
      · by_cases c3 : bits .and .i64 (gv s 6 2) 32768 = 0
        · have t3 : (bits .and .i64 (gv s 6 2) 32768 != 0) = false := bne_eq_false_iff_eq.2 c3
          have c4 : bt s 8 = 0 := by
            rcases hb with h | h | h | h | h
            · exact absurd c0 h
            · exact absurd c1 h
            · exact absurd h c2
            · exact absurd c3 h
            · exact h
          exact head_bad4 s w h h2 t0 t1 c2 t3 (beq_iff_eq.2 c4)
        · exact head_bad3 s w h h2 t0 t1 c2 (bne_iff_ne.2 c3)
    · exact head_bad1 s w h h2 t0 (bne_iff_ne.2 c1)
  · exact head_bad0 s w h h2 (bne_iff_ne.2 c0)

/-- The packet that a good string gives. -/
def chkR (b : Fin 20 → UInt8) (rest : List UInt8) : Int := chk (N b 9) (N b 8) (n2 b 4 5) (n2 b 6 7 % 8192 * 8) (n2 b 6 7 / 8192 % 2 * 8192 != 0) (n2 b 6 7 / 16384 % 2 * 16384 != 0) ⟨rest.toArray⟩
def pktOf (b : Fin 20 → UInt8) (rest : List UInt8) : Value := .agg #[.int .u32 (n4 b 12 13 14 15), .int .u32 (n4 b 16 17 18 19), .int .i64 (N b 9), .int .i64 (N b 8), .int .i64 (n2 b 4 5), .int .i64 (n2 b 6 7 % 8192 * 8), .bool (n2 b 6 7 / 8192 % 2 * 8192 != 0), .bool (n2 b 6 7 / 16384 % 2 * 16384 != 0), .string ⟨rest.toArray⟩]
def DecErr (s : ByteArray) : Prop := ∃ e : Int, (e != 0) = true ∧ ∀ w, Calls Try.prog 9 #[.string s] w fun e' w' => e' = zero2 e ∧ Below w.heap.size w w'
def DecOk (b : Fin 20 → UInt8) (rest : List UInt8) : Prop := ∀ w, Calls Try.prog 9 #[.string (mk b rest)] w fun e' w' => e' = .returned (.tuple #[pktOf b rest, .int .i64 0]) ∧ Below w.heap.size w w'

theorem decode_mk (b : Fin 20 → UInt8) (rest : List UInt8) (hr : rest.length ≤ 100) (v : Int) (hv : pkt_Sum.f 80 (zeroed b) = some v) :
    (headBad b → DecErr (mk b rest)) ∧
    (¬ headBad b → n2 b 10 11 ≠ v → DecErr (mk b rest)) ∧
    (¬ headBad b → n2 b 10 11 = v → n2 b 2 3 ≠ 20 + rest.length → DecErr (mk b rest)) ∧
    (¬ headBad b → n2 b 10 11 = v → n2 b 2 3 = 20 + rest.length → chkR b rest ≠ 0 → DecErr (mk b rest)) ∧
    (¬ headBad b → n2 b 10 11 = v → n2 b 2 3 = 20 + rest.length → chkR b rest = 0 → DecOk b rest) := by
  have hs := mk_size b rest
  have hsz : (⟨rest.toArray⟩ : ByteArray).size = rest.length := by simp [ByteArray.size]
  have r67 := n2_range b 6 7
  have R8 := N_range b 8
  have R9 := N_range b 9
  have ra := n4_range b 12 13 14 15
  have rb := n4_range b 16 17 18 19
  have e0 : bt (mk b rest) 0 = N b 0 := bt_N b rest 0 0 rfl
  have e1 : bt (mk b rest) 1 = N b 1 := bt_N b rest 1 1 rfl
  have e8 : bt (mk b rest) 8 = N b 8 := bt_N b rest 8 8 rfl
  have e9 : bt (mk b rest) 9 = N b 9 := bt_N b rest 9 9 rfl
  have g23 : gv (mk b rest) 2 2 = n2 b 2 3 := gv2 b rest 2 2 3 rfl rfl
  have g67 : gv (mk b rest) 6 2 = n2 b 6 7 := gv2 b rest 6 6 7 rfl rfl
  have g45 : gv (mk b rest) 4 2 = n2 b 4 5 := gv2 b rest 4 4 5 rfl rfl
  have gab : gv (mk b rest) 10 2 = n2 b 10 11 := gv2 b rest 10 10 11 rfl rfl
  have gA : gv (mk b rest) 12 4 = n4 b 12 13 14 15 := gv4 b rest 12 12 13 14 15 rfl rfl rfl rfl
  have gB : gv (mk b rest) 16 4 = n4 b 16 17 18 19 := gv4 b rest 16 16 17 18 19 rfl rfl rfl rfl
  have f15 := and_8000 (n2 b 6 7) r67.1 (by omega)
  have bad : ∀ e : Int, (e != 0) = true → (∀ w, Calls Try.prog 13 #[.string (mk b rest)] w fun e' w' => e' = zeros e ∧ Below w.heap.size w w') → DecErr (mk b rest) := fun e he h => ⟨e, he, fun w => decode_err (mk b rest) w e he h⟩
  have good : ¬ headBad b → n2 b 10 11 = v → ∀ w, Calls Try.prog 13 #[.string (mk b rest)] w fun e w' => e = .returned (.tuple #[.agg #[.int .u32 (n4 b 12 13 14 15), .int .u32 (n4 b 16 17 18 19), .int .i64 (N b 9), .int .i64 (N b 8), .int .i64 (n2 b 4 5), .int .i64 (n2 b 6 7 % 8192 * 8), .bool (n2 b 6 7 / 8192 % 2 * 8192 != 0), .bool (n2 b 6 7 / 16384 % 2 * 16384 != 0), .string ⟨#[]⟩], .int .i64 (n2 b 2 3), .int .i64 0]) ∧ Below w.heap.size w w' := by
    intro hh hc w
    unfold headBad at hh
    refine (head_good (mk b rest) w (by omega) (by omega) (by rw [e0, bne_eq_false_iff_eq]; omega) (by rw [e1, bne_eq_false_iff_eq]; omega) (by rw [g23]; omega) (by rw [g67, f15, bne_eq_false_iff_eq]; omega) (by rw [e8, beq_eq_false_iff_ne]; omega) v (by rw [zstr_mk]; exact hv) (by rw [gab, bne_eq_false_iff_eq]; exact hc)).mono fun e w' ⟨he, hb⟩ => ⟨?_, hb⟩
    rw [he, g23, g67, g45, gA, gB, e8, e9, u32_small _ ra.1 ra.2, u32_small _ rb.1 rb.2, i64_small _ R9.1 (by omega), i64_small _ R8.1 (by omega), and_1fff _ r67.1 (by omega), and_2000 _ r67.1 (by omega), and_4000 _ r67.1 (by omega), i64_small _ (by omega) (by omega)]
  refine ⟨fun hh => bad 3 rfl (head_bad _ (by omega) (by omega) ?_), fun hh hc => bad 8 rfl fun w => ?_, fun hh hc hn => ?_, fun hh hc hn hk => ?_, fun hh hc hn hk => ?_⟩
  · unfold headBad at hh
    rw [e0, e1, g23, g67, e8, f15]
    rcases hh with h | h | h | h | h
    · exact .inl h
    · exact .inr (.inl h)
    · exact .inr (.inr (.inl h))
    · exact .inr (.inr (.inr (.inl (by omega))))
    · exact .inr (.inr (.inr (.inr h)))
  · unfold headBad at hh
    exact head_sum (mk b rest) w (by omega) (by omega) (by rw [e0, bne_eq_false_iff_eq]; omega) (by rw [e1, bne_eq_false_iff_eq]; omega) (by rw [g23]; omega) (by rw [g67, f15, bne_eq_false_iff_eq]; omega) (by rw [e8, beq_eq_false_iff_ne]; omega) v (by rw [zstr_mk]; exact hv) (by rw [gab, bne_iff_ne]; exact hc)
  · by_cases hlt : ((mk b rest).size : Int) < n2 b 2 3
    · exact ⟨9, rfl, fun w => decode_short (mk b rest) w _ _ _ _ _ _ _ _ _ hlt (good hh hc)⟩
    · exact ⟨3, rfl, fun w => decode_long (mk b rest) w _ _ _ _ _ _ _ _ _ (by omega) (good hh hc)⟩
  · exact ⟨chkR b rest, bne_iff_ne.2 hk, fun w => decode_bad (mk b rest) w _ _ _ _ _ _ _ _ _ (by omega) (by omega) (by omega) _ (bne_iff_ne.2 hk) _ (body_eq b rest) (check_ok 10 (by omega) _ _ _ _ _ _ _ _ _ (by omega)) (good hh hc)⟩
  · intro w
    refine decode_good (mk b rest) w _ _ _ _ _ _ _ _ _ (by omega) (by omega) (by omega) _ (body_eq b rest) ?_ (good hh hc)
    rw [check_ok 10 (by omega) _ _ _ _ _ _ _ _ _ (by omega)]
    exact congrArg some hk
theorem decode_tiny (s : ByteArray) (h : s.size < 20) : DecErr s := ⟨9, rfl, fun w => decode_err s w 9 rfl fun w => head_short s w h⟩
end Go.Proofs.Ytnhanjjkmjpmlaa.Pk
