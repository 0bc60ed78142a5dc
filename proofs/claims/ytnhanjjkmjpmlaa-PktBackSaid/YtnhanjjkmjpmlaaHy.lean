/- The walk of PktUnique, which returns true. -/
import Derived.Test.YtnhanjjkmjpmlaaHx
import Derived.Test.YtnhanjjkmjpmlaaPPktBackx1
set_option linter.unusedVariables false
set_option linter.unusedSimpArgs false
namespace Go.Proofs.Ytnhanjjkmjpmlaa.Pk
open Go.RowKit Go.Proofs.Ytnhanjjkmjpmlaa.PPktBack Go.Proofs.YtnhanjjkmjpmlaaW.PrintWords Go.Proofs.YtnhanjjkmjpmlaaW.PrintLast
attribute [local go_sem high] eqA24
theorem begin_ok (s : ByteArray) : ∃ t, patchbaykeep2_begin.f s 40 = some t ∧ t.size ≤ 40 := by
  have h : mn (s.size : Int) 40 ≤ s.size ∧ mn (s.size : Int) 40 ≤ 40 ∧ 0 ≤ mn (s.size : Int) 40 := by unfold mn; split <;> omega
  refine ⟨s.extract 0 (mn (s.size : Int) 40).toNat, ?_, ?_⟩
  · unfold patchbaykeep2_begin.f
    rw [if_pos h.2.2, if_pos h.1]
  · rw [ByteArray.size_extract]; omega
def Says (r : Bool) (w : World) (e : Ending) (w' : World) : Prop := e = .returned (.bool r) ∧ Below w.heap.size w w'
set_option maxRecDepth 100000 in
set_option maxHeartbeats 2000000 in
theorem unique_err (s t : ByteArray) (w : World) (ht : patchbaykeep2_begin.f s 40 = some t) (hd : DecErr t) : Calls Try.prog 4 #[.string s] w (Says true w) := by
  have HT := Lib.hid ht
  obtain ⟨n, hn, hD⟩ := hd
  have HD := Lib.hid hD
  clear ht hD
  go_enter Try.func4, Try.ntmps4
  go_wp2_with fail
  refine (patchbaykeep2_pktLives.calls 80 true _ (lives 80 (by omega))).mono ?_
  rintro e w1 ⟨rfl, hb1⟩
  have HB1 := Lib.hid hb1
  clear hb1
  go_wp2_with fail
  refine (patchbaykeep2_begin.calls s 40 t _ HT.out).mono ?_
  rintro e w2 ⟨rfl, hb2⟩
  have HB2 := Lib.hid (HB1.out.trans (hb2.mono HB1.out.size))
  clear hb2 HB1
  go_wp2_with fail
  refine (HD.out _).mono ?_
  unfold zero2
  rintro e w3 ⟨rfl, hb3⟩
  have HB3 := Lib.hid (HB2.out.trans (hb3.mono HB2.out.size))
  clear hb3 HB2 HD HT
  go_upto_region 5 with (fail)
  have HB4 := Lib.hid (HB3.out.alloc HB3.out.size (.cells #[.int .u32 0, .int .u32 0, .int .i64 0, .int .i64 0, .int .i64 0, .int .i64 0, .bool false, .bool false, .string ⟨#[]⟩] 24))
  have hr := heap_alloc_new w3 (.cells #[.int .u32 0, .int .u32 0, .int .i64 0, .int .i64 0, .int .i64 0, .int .i64 0, .bool false, .bool false, .string ⟨#[]⟩] 24)
  generalize w3.alloc (.cells #[.int .u32 0, .int .u32 0, .int .i64 0, .int .i64 0, .int .i64 0, .int .i64 0, .bool false, .bool false, .string ⟨#[]⟩] 24) = V at HB4 hr ⊢
  generalize w3.heap.size = g at hr ⊢
  have dc0 : V.cell? ⟨g, 0, none⟩ = some (.int .u32 0) := cell_of_row V g 0 _ 24 (0, 0) hr
  have df0 : V.frozen? ⟨g, 0, none⟩ = false := frozen_of_row hr 0
  have dc1 : V.cell? ⟨g, 1, none⟩ = some (.int .u32 0) := cell_of_row V g 1 _ 24 (0, 0) hr
  have df1 : V.frozen? ⟨g, 1, none⟩ = false := frozen_of_row hr 1
  have dc2 : V.cell? ⟨g, 2, none⟩ = some (.int .i64 0) := cell_of_row V g 2 _ 24 (0, 0) hr
  have df2 : V.frozen? ⟨g, 2, none⟩ = false := frozen_of_row hr 2
  have dc3 : V.cell? ⟨g, 3, none⟩ = some (.int .i64 0) := cell_of_row V g 3 _ 24 (0, 0) hr
  have df3 : V.frozen? ⟨g, 3, none⟩ = false := frozen_of_row hr 3
  have dc4 : V.cell? ⟨g, 4, none⟩ = some (.int .i64 0) := cell_of_row V g 4 _ 24 (0, 0) hr
  have df4 : V.frozen? ⟨g, 4, none⟩ = false := frozen_of_row hr 4
  have dc5 : V.cell? ⟨g, 5, none⟩ = some (.int .i64 0) := cell_of_row V g 5 _ 24 (0, 0) hr
  have df5 : V.frozen? ⟨g, 5, none⟩ = false := frozen_of_row hr 5
  have dc6 : V.cell? ⟨g, 6, none⟩ = some (.bool false) := cell_of_row V g 6 _ 24 (0, 0) hr
  have df6 : V.frozen? ⟨g, 6, none⟩ = false := frozen_of_row hr 6
  have dc7 : V.cell? ⟨g, 7, none⟩ = some (.bool false) := cell_of_row V g 7 _ 24 (0, 0) hr
  have df7 : V.frozen? ⟨g, 7, none⟩ = false := frozen_of_row hr 7
  have dc8 : V.cell? ⟨g, 8, none⟩ = some (.string ⟨#[]⟩) := cell_of_row V g 8 _ 24 (0, 0) hr
  have df8 : V.frozen? ⟨g, 8, none⟩ = false := frozen_of_row hr 8
  clear hr HB3
  go_wp2_with fail
  go_ret
  exact ⟨rfl, HB4.out⟩
set_option maxRecDepth 100000 in
set_option maxHeartbeats 2000000 in
theorem unique_ok (s t : ByteArray) (w : World) (x0 x1 x2 x3 x4 x5 : Int) (x6 x7 : Bool) (x8 : ByteArray) (ht : patchbaykeep2_begin.f s 40 = some t)
    (hD : ∀ w, Calls Try.prog 9 #[.string t] w fun e' w' => e' = .returned (.tuple #[.agg #[.int .u32 x0, .int .u32 x1, .int .i64 x2, .int .i64 x3, .int .i64 x4, .int .i64 x5, .bool x6, .bool x7, .string x8], .int .i64 0]) ∧ Below w.heap.size w w') (hE : pkt_Encode.f 80 x0 x1 x2 x3 x4 x5 x6 x7 x8 = some (t, 0)) : Calls Try.prog 4 #[.string s] w (Says true w) := by
  have HT := Lib.hid ht
  have HD := Lib.hid hD
  have HE := Lib.hid hE
  clear ht hD hE
  go_enter Try.func4, Try.ntmps4
  go_wp2_with fail
  refine (patchbaykeep2_pktLives.calls 80 true _ (lives 80 (by omega))).mono ?_
  rintro e w1 ⟨rfl, hb1⟩
  have HB1 := Lib.hid hb1
  clear hb1
  go_wp2_with fail
  refine (patchbaykeep2_begin.calls s 40 t _ HT.out).mono ?_
  rintro e w2 ⟨rfl, hb2⟩
  have HB2 := Lib.hid (HB1.out.trans (hb2.mono HB1.out.size))
  clear hb2 HB1
  go_wp2_with fail
  refine (HD.out _).mono ?_
  rintro e w3 ⟨rfl, hb3⟩
  have HB3 := Lib.hid (HB2.out.trans (hb3.mono HB2.out.size))
  clear hb3 HB2 HD HT
  go_upto_region 5 with (fail)
  have HB4 := Lib.hid (HB3.out.alloc HB3.out.size (.cells #[.int .u32 x0, .int .u32 x1, .int .i64 x2, .int .i64 x3, .int .i64 x4, .int .i64 x5, .bool x6, .bool x7, .string x8] 24))
  have hr := heap_alloc_new w3 (.cells #[.int .u32 x0, .int .u32 x1, .int .i64 x2, .int .i64 x3, .int .i64 x4, .int .i64 x5, .bool x6, .bool x7, .string x8] 24)
  generalize w3.alloc (.cells #[.int .u32 x0, .int .u32 x1, .int .i64 x2, .int .i64 x3, .int .i64 x4, .int .i64 x5, .bool x6, .bool x7, .string x8] 24) = V at HB4 hr ⊢
  generalize w3.heap.size = g at hr ⊢
  have dc0 : V.cell? ⟨g, 0, none⟩ = some (.int .u32 x0) := cell_of_row V g 0 _ 24 (0, 0) hr
  have df0 : V.frozen? ⟨g, 0, none⟩ = false := frozen_of_row hr 0
  have dc1 : V.cell? ⟨g, 1, none⟩ = some (.int .u32 x1) := cell_of_row V g 1 _ 24 (0, 0) hr
  have df1 : V.frozen? ⟨g, 1, none⟩ = false := frozen_of_row hr 1
  have dc2 : V.cell? ⟨g, 2, none⟩ = some (.int .i64 x2) := cell_of_row V g 2 _ 24 (0, 0) hr
  have df2 : V.frozen? ⟨g, 2, none⟩ = false := frozen_of_row hr 2
  have dc3 : V.cell? ⟨g, 3, none⟩ = some (.int .i64 x3) := cell_of_row V g 3 _ 24 (0, 0) hr
  have df3 : V.frozen? ⟨g, 3, none⟩ = false := frozen_of_row hr 3
  have dc4 : V.cell? ⟨g, 4, none⟩ = some (.int .i64 x4) := cell_of_row V g 4 _ 24 (0, 0) hr
  have df4 : V.frozen? ⟨g, 4, none⟩ = false := frozen_of_row hr 4
  have dc5 : V.cell? ⟨g, 5, none⟩ = some (.int .i64 x5) := cell_of_row V g 5 _ 24 (0, 0) hr
  have df5 : V.frozen? ⟨g, 5, none⟩ = false := frozen_of_row hr 5
  have dc6 : V.cell? ⟨g, 6, none⟩ = some (.bool x6) := cell_of_row V g 6 _ 24 (0, 0) hr
  have df6 : V.frozen? ⟨g, 6, none⟩ = false := frozen_of_row hr 6
  have dc7 : V.cell? ⟨g, 7, none⟩ = some (.bool x7) := cell_of_row V g 7 _ 24 (0, 0) hr
  have df7 : V.frozen? ⟨g, 7, none⟩ = false := frozen_of_row hr 7
  have dc8 : V.cell? ⟨g, 8, none⟩ = some (.string x8) := cell_of_row V g 8 _ 24 (0, 0) hr
  have df8 : V.frozen? ⟨g, 8, none⟩ = false := frozen_of_row hr 8
  clear hr HB3
  go_wp2_with fail
  refine (pkt_Encode.calls 80 x0 x1 x2 x3 x4 x5 x6 x7 x8 t 0 _ HE.out).mono ?_
  rintro e w5 ⟨rfl, hb5⟩
  have HB5 := Lib.hid (HB4.out.trans (hb5.mono HB4.out.size))
  clear hb5 HB4 HE
  go_wp2_with fail
  go_ret
  exact ⟨rfl, HB5.out⟩
theorem unique_any (s : ByteArray) (w : World) : Calls Try.prog 4 #[.string s] w (Says true w) := by
  obtain ⟨t, ht, hl⟩ := begin_ok s
  by_cases h20 : t.size < 20
  · exact unique_err s t w ht (decode_tiny t h20)
  · obtain ⟨b, rest, rfl⟩ := mk_of t (by omega)
    have hz := mk_size b rest
    have hsz : (⟨rest.toArray⟩ : ByteArray).size = rest.length := by simp [ByteArray.size]
    obtain ⟨v, v0, v1, hv⟩ := sum_ok (zeroed b) (by simp [zeroed, ByteArray.size])
    obtain ⟨d1, d2, d3, d4, d5⟩ := decode_mk b rest (by omega) v (hv 80 (by omega))
    by_cases h1 : headBad b
    · exact unique_err s _ w ht (d1 h1)
    by_cases h2 : n2 b 10 11 = v
    · by_cases h3 : n2 b 2 3 = 20 + rest.length
      · by_cases h4 : chkR b rest = 0
        · have r1 := n4_range b 12 13 14 15
          have r2 := n4_range b 16 17 18 19
          refine unique_ok s _ w _ _ _ _ _ _ _ _ _ ht (d5 h1 h2 h3 h4) ?_
          rw [encode_ok 80 (by omega) _ _ _ _ _ _ _ _ _ (by rw [hsz]; omega) r1.1 r1.2 r2.1 r2.2 h4 v (by rw [hsz, hdr_zeroed b h1 _ h3]; exact hv 80 (by omega))]
          rw [hsz, ← h2, hdr_whole b rest h1 _ h3]
        · exact unique_err s _ w ht (d4 h1 h2 h3 h4)
      · exact unique_err s _ w ht (d3 h1 h2 h3)
    · exact unique_err s _ w ht (d2 h1 h2)
end Go.Proofs.Ytnhanjjkmjpmlaa.Pk
