/- The walk of pkt.Head at a good header: its last region by the order laws. -/
import Derived.Test.YtnhanjjkmjpmlaaHv
set_option linter.unusedVariables false
set_option linter.unusedSimpArgs false
namespace Go.Proofs.Ytnhanjjkmjpmlaa.Pk
open Go.RowKit Go.Proofs.Ytnhanjjkmjpmlaa.PPktBack Go.Proofs.YtnhanjjkmjpmlaaW.PrintWords Go.Proofs.YtnhanjjkmjpmlaaW.PrintLast
set_option maxRecDepth 100000 in
set_option maxHeartbeats 4000000 in
theorem head_good (s : ByteArray) (w : World) (h : 20 ≤ s.size) (h2 : s.size ≤ 1000) (t0 : (bt s 0 != 69) = false) (t1 : (bt s 1 != 0) = false) (t2 : ¬ gv s 2 2 < 20) (t3 : (bits .and .i64 (gv s 6 2) 32768 != 0) = false) (t4 : (bt s 8 == 0) = false) (v : Int) (hv : pkt_Sum.f 80 (zstr s) = some v) (t5 : (gv s 10 2 != v) = false) :
    Calls Try.prog 13 #[.string s] w fun e w' => HeadIs s e ∧ Below w.heap.size w w' := by
  have Hv := Lib.hid hv
  clear hv
  have hn : ¬ ((s.size : Int) < 20) := by omega
  have b0 := b_at s 0 (by omega)
  have b1 := b_at s 1 (by omega)
  have b8 := b_at s 8 (by omega)
  have r6 := gv_range s 6 2
  have r2 := gv_range s 2 2
  go_enter Try.func13, Try.ntmps13
  go_wp2_with fail
  refine (get02 s _ h).mono ?_
  rintro e w1 ⟨rfl, rfl⟩
  go_wp2_with fail
  refine (get06 s _ h).mono ?_
  rintro e w1 ⟨rfl, rfl⟩
  go_wp2_with fail
  have m10 : ¬ (9223372036854775807 < min 10 s.size + 2) := by omega
  have m20 : ¬ (9223372036854775807 < min 10 s.size + 2 + (min 20 s.size - 12)) := by omega
  go_quiet (first | exact Calls.quiet_of_same (get10 s _ h) | exact quiet_from (pkt_Sum.calls 80 _ _ _ Hv.out))
  go_wp2_with fail
  have i9 : 9 < s.size := by omega
  have i8 : 8 < s.size := by omega
  have b9 := b_at s 9 (by omega)
  have f9 : (9 : Int) < (s.size : Int) := by omega
  have f8 : (8 : Int) < (s.size : Int) := by omega
  clear b0 b1 t0 t1 t2 t3 t4 t5 Hv hn m10 m20 r6 r2
  have B8 := Lib.hid b8
  have B9 := Lib.hid b9
  clear b8 b9
  have GT12 : ∀ w, Calls Try.prog 16 #[.string s, .int .i64 12, .int .i64 4] w fun e w' => e = .returned (.int .i64 (gv s 12 4)) ∧ w' = w := fun w => get12 s w h
  have GT16 : ∀ w, Calls Try.prog 16 #[.string s, .int .i64 16, .int .i64 4] w fun e w' => e = .returned (.int .i64 (gv s 16 4)) ∧ w' = w := fun w => get16 s w h
  have GT04 : ∀ w, Calls Try.prog 16 #[.string s, .int .i64 4, .int .i64 2] w fun e w' => e = .returned (.int .i64 (gv s 4 2)) ∧ w' = w := fun w => get04 s w h
  have r6 := gv_range s 6 2
  generalize e12 : gv s 12 4 = v12 at GT12 ⊢
  generalize e16 : gv s 16 4 = v16 at GT16 ⊢
  generalize e04 : gv s 4 2 = v04 at GT04 ⊢
  generalize en : gv s 2 2 = vn
  generalize ef : gv s 6 2 = vf at r6 ⊢
  have E12 := Lib.hid e12
  have E16 := Lib.hid e16
  have E04 := Lib.hid e04
  have EN := Lib.hid en
  have EF := Lib.hid ef
  clear e12 e16 e04 en ef
  have G12 := Lib.hid GT12
  have G16 := Lib.hid GT16
  have G04 := Lib.hid GT04
  have R6 := Lib.hid r6
  clear GT12 GT16 GT04 r6
  generalize hW : (w.alloc (Obj.cells #[Value.int IntKind.u32 0, Value.int IntKind.u32 0, Value.int IntKind.i64 0, Value.int IntKind.i64 0, Value.int IntKind.i64 0, Value.int IntKind.i64 0, Value.bool false, Value.bool false, Value.string { data := #[] }] 24)).drewN nq = W
  have hrow : W.heap[w.heap.size]? = some (Obj.cells #[Value.int IntKind.u32 0, Value.int IntKind.u32 0, Value.int IntKind.i64 0, Value.int IntKind.i64 0, Value.int IntKind.i64 0, Value.int IntKind.i64 0, Value.bool false, Value.bool false, Value.string { data := #[] }] 24 (0, 0)) := by
    rw [← hW]
    show (w.heap.push _)[w.heap.size]? = _
    simp
  have hlW : w.heap.size < W.heap.size := (Array.getElem?_eq_some_iff.1 hrow).1
  have hc0 : W.cell? ⟨w.heap.size, 0, none⟩ = some (.int .u32 0) := by simp [World.cell?, hrow]
  have hf0 : W.frozen? ⟨w.heap.size, 0, none⟩ = false := by simp [World.frozen?, hrow]
  have hc1 : W.cell? ⟨w.heap.size, 1, none⟩ = some (.int .u32 0) := by simp [World.cell?, hrow]
  have hf1 : W.frozen? ⟨w.heap.size, 1, none⟩ = false := by simp [World.frozen?, hrow]
  have hc2 : W.cell? ⟨w.heap.size, 2, none⟩ = some (.int .i64 0) := by simp [World.cell?, hrow]
  have hf2 : W.frozen? ⟨w.heap.size, 2, none⟩ = false := by simp [World.frozen?, hrow]
  have hc3 : W.cell? ⟨w.heap.size, 3, none⟩ = some (.int .i64 0) := by simp [World.cell?, hrow]
  have hf3 : W.frozen? ⟨w.heap.size, 3, none⟩ = false := by simp [World.frozen?, hrow]
  have hc4 : W.cell? ⟨w.heap.size, 4, none⟩ = some (.int .i64 0) := by simp [World.cell?, hrow]
  have hf4 : W.frozen? ⟨w.heap.size, 4, none⟩ = false := by simp [World.frozen?, hrow]
  have hc5 : W.cell? ⟨w.heap.size, 5, none⟩ = some (.int .i64 0) := by simp [World.cell?, hrow]
  have hf5 : W.frozen? ⟨w.heap.size, 5, none⟩ = false := by simp [World.frozen?, hrow]
  have hc6 : W.cell? ⟨w.heap.size, 6, none⟩ = some (.bool false) := by simp [World.cell?, hrow]
  have hf6 : W.frozen? ⟨w.heap.size, 6, none⟩ = false := by simp [World.frozen?, hrow]
  have hc7 : W.cell? ⟨w.heap.size, 7, none⟩ = some (.bool false) := by simp [World.cell?, hrow]
  have hf7 : W.frozen? ⟨w.heap.size, 7, none⟩ = false := by simp [World.frozen?, hrow]
  have hc8 : W.cell? ⟨w.heap.size, 8, none⟩ = some (.string ⟨#[]⟩) := by simp [World.cell?, hrow]
  have hf8 : W.frozen? ⟨w.heap.size, 8, none⟩ = false := by simp [World.frozen?, hrow]
  have HBW := Lib.hid (show Below w.heap.size w W by rw [← hW]; exact ⟨rfl, rfl, rfl, by show w.heap.size ≤ (w.heap.push _).size; simp, fun k hk => by show (w.heap.push _)[k]? = _; rw [Array.getElem?_push_lt hk]; simp [hk]⟩)
  clear hrow
  have hs0 : (W.cell? ⟨w.heap.size, 0, none⟩).isSome := by rw [hc0]; rfl
  have hs1 : (W.cell? ⟨w.heap.size, 1, none⟩).isSome := by rw [hc1]; rfl
  have hs2 : (W.cell? ⟨w.heap.size, 2, none⟩).isSome := by rw [hc2]; rfl
  have hs3 : (W.cell? ⟨w.heap.size, 3, none⟩).isSome := by rw [hc3]; rfl
  have hs4 : (W.cell? ⟨w.heap.size, 4, none⟩).isSome := by rw [hc4]; rfl
  have hs5 : (W.cell? ⟨w.heap.size, 5, none⟩).isSome := by rw [hc5]; rfl
  have hs6 : (W.cell? ⟨w.heap.size, 6, none⟩).isSome := by rw [hc6]; rfl
  have hs7 : (W.cell? ⟨w.heap.size, 7, none⟩).isSome := by rw [hc7]; rfl
  have hs8 : (W.cell? ⟨w.heap.size, 8, none⟩).isSome := by rw [hc8]; rfl
  clear hW
  generalize s.extract 0 10 = t1
  generalize s.extract 12 20 = t2
  generalize t1 ++ (⟨#[0, 0]⟩ : ByteArray) = t3
  generalize t3 ++ t2 = t4
  generalize decide (vn < 20) = q20
  have b8 := B8.out
  have b9 := B9.out
  refine wp_region_any (by kernel_rfl) ?_
  try (change wpAny _ _ _ _ _ _ _ (World.drew _))
  refine wpAny_take (i := 0) (v := ?_) rfl (by kernel_rfl) (by kernel_rfl) (by kernel_rfl) (fun _ _ _ h => h) (Or.inl ⟨by rfl, ?_⟩) ?_
  rotate_left
  · intro w; go_simp <;> (try with_reducible rfl)
  refine wpAny_take (i := 3) (v := ?_) rfl (by kernel_rfl) (by kernel_rfl) (by kernel_rfl) (fun _ _ _ h => h) (Or.inl ⟨by rfl, ?_⟩) ?_
  rotate_left
  · intro w; go_simp <;> (try with_reducible rfl)
  refine wpAny_take (i := 6) (v := ?_) rfl (by kernel_rfl) (by kernel_rfl) (by kernel_rfl) (fun _ _ _ h => h) (Or.inl ⟨by rfl, ?_⟩) ?_
  rotate_left
  · intro w; go_simp <;> (try with_reducible rfl)
  refine wpAny_take (i := 7) (v := ?_) rfl (by kernel_rfl) (by kernel_rfl) (by kernel_rfl) (fun _ _ _ h => h) (Or.inl ⟨by rfl, ?_⟩) ?_
  rotate_left
  · intro w; go_simp <;> (try with_reducible rfl)
  refine wpAny_take (i := 8) (v := ?_) rfl (by kernel_rfl) (by kernel_rfl) (by kernel_rfl) (fun _ _ _ h => h) (Or.inl ⟨by rfl, ?_⟩) ?_
  rotate_left
  · intro w; go_simp <;> (try with_reducible rfl)
  refine wpAny_take (i := 9) (v := ?_) rfl (by kernel_rfl) (by kernel_rfl) (by kernel_rfl) (fun _ _ _ h => h) (Or.inl ⟨by rfl, ?_⟩) ?_
  rotate_left
  · intro w; go_simp <;> (try with_reducible rfl)
  refine wpAny_take (i := 10) (v := ?_) rfl (by kernel_rfl) (by kernel_rfl) (by kernel_rfl) (fun _ _ _ h => h) (Or.inl ⟨by rfl, ?_⟩) ?_
  rotate_left
  · intro w; go_simp <;> (try with_reducible rfl)
  refine wpAny_take (i := 11) (v := ?_) rfl (by kernel_rfl) (by kernel_rfl) (by kernel_rfl) (fun _ _ _ h => h) (Or.inl ⟨by rfl, ?_⟩) ?_
  rotate_left
  · intro w; go_simp <;> (try with_reducible rfl)
  refine wpAny_take (i := 12) (v := ?_) rfl (by kernel_rfl) (by kernel_rfl) (by kernel_rfl) (fun _ _ _ h => h) (Or.inl ⟨by rfl, ?_⟩) ?_
  rotate_left
  · intro w; go_simp <;> (try with_reducible rfl)
  refine wpAny_take (i := 14) (v := ?_) rfl (by kernel_rfl) (by kernel_rfl) (by kernel_rfl) (fun _ _ _ h => h) (Or.inl ⟨by rfl, ?_⟩) ?_
  rotate_left
  · intro w; go_simp <;> (try with_reducible rfl)
  refine wpAny_take (i := 15) (v := ?_) rfl (by kernel_rfl) (by kernel_rfl) (by kernel_rfl) (fun _ _ _ h => h) (Or.inl ⟨by rfl, ?_⟩) ?_
  rotate_left
  · intro w; go_simp <;> (try with_reducible rfl)
  refine wpAny_take (i := 16) (v := ?_) rfl (by kernel_rfl) (by kernel_rfl) (by kernel_rfl) (fun _ _ _ h => h) (Or.inl ⟨by rfl, ?_⟩) ?_
  rotate_left
  · intro w; go_simp <;> (try with_reducible rfl)
  refine wpAny_take (i := 17) (v := ?_) rfl (by kernel_rfl) (by kernel_rfl) (by kernel_rfl) (fun _ _ _ h => h) (Or.inl ⟨by rfl, ?_⟩) ?_
  rotate_left
  · intro w; go_simp <;> (try with_reducible rfl)
  refine wpAny_take (i := 18) (v := ?_) rfl (by kernel_rfl) (by kernel_rfl) (by kernel_rfl) (fun _ _ _ h => h) (Or.inl ⟨by rfl, ?_⟩) ?_
  rotate_left
  · intro w; go_simp <;> (try with_reducible rfl)
  refine wpAny_take (i := 19) (v := ?_) rfl (by kernel_rfl) (by kernel_rfl) (by kernel_rfl) (fun _ _ _ h => h) (Or.inl ⟨by rfl, ?_⟩) ?_
  rotate_left
  · intro w; go_simp <;> (try with_reducible rfl)
  refine wpAny_take (i := 20) (v := ?_) rfl (by kernel_rfl) (by kernel_rfl) (by kernel_rfl) (fun _ _ _ h => h) (Or.inl ⟨by rfl, ?_⟩) ?_
  rotate_left
  · intro w; go_simp <;> (try with_reducible rfl)
  refine wpAny_take (i := 21) (v := ?_) rfl (by kernel_rfl) (by kernel_rfl) (by kernel_rfl) (fun _ _ _ h => h) (Or.inl ⟨by rfl, ?_⟩) ?_
  rotate_left
  · intro w; go_simp <;> (try with_reducible rfl)
  refine wpAny_take (i := 22) (v := ?_) rfl (by kernel_rfl) (by kernel_rfl) (by kernel_rfl) (fun _ _ _ h => h) (Or.inl ⟨by rfl, ?_⟩) ?_
  rotate_left
  · intro w; go_simp <;> (try with_reducible rfl)
  refine wpAny_ready (rs := [1, 24]) (by kernel_rfl) (by simp) ?_
  refine AllReady.cons rfl (fun K hK => ?_) ?_
  · go_simp
    go_wp2_with (go_at_call 16; refine (G12.out _).mono ?_; rintro e wz ⟨rfl, rfl⟩)
    refine wpAny_take (i := 2) (v := ?_) rfl (by kernel_rfl) (by kernel_rfl) (by kernel_rfl) (fun _ _ _ h => h) (Or.inl ⟨by rfl, ?_⟩) ?_
    rotate_left
    · intro w; go_simp <;> (try with_reducible rfl)
    refine wpAny_ready (rs := [4, 24]) (by kernel_rfl) (by simp) ?_
    refine AllReady.cons rfl (fun K hK => ?_) ?_
    · go_simp
      go_wp2_with (go_at_call 16; refine (G16.out _).mono ?_; rintro e wz ⟨rfl, rfl⟩)
      refine wpAny_take (i := 5) (v := ?_) rfl (by kernel_rfl) (by kernel_rfl) (by kernel_rfl) (fun _ _ _ h => h) (Or.inl ⟨by rfl, ?_⟩) ?_
      rotate_left
      · intro w; go_simp <;> (try with_reducible rfl)
      refine wpAny_ready (rs := [13, 24]) (by kernel_rfl) (by simp) ?_
      refine AllReady.cons rfl (fun K hK => ?_) ?_
      · go_simp
        go_wp2_with (go_at_call 16; refine (G04.out _).mono ?_; rintro e wz ⟨rfl, rfl⟩)
        refine wpAny_take (i := 23) (v := ?_) rfl (by kernel_rfl) (by kernel_rfl) (by kernel_rfl) (fun _ _ _ h => h) (Or.inl ⟨by rfl, ?_⟩) ?_
        rotate_left
        · intro w; go_simp <;> (try with_reducible rfl)
        refine wpAny_ready (rs := [24]) (by kernel_rfl) (by simp) ?_
        refine AllReady.cons rfl (fun K hK => ?_) AllReady.nil
        go_simp
        refine hK _ _ ?_
        clear hK K
        refine wpAny_ready (rs := [25]) (by kernel_rfl) (by simp) ?_
        refine AllReady.cons rfl (fun K hK => ?_) AllReady.nil
        go_simp
        refine hK _ _ ?_
        clear hK K
        refine wpAny_done (by kernel_rfl) ?_ _
        generalize e0 : IntKind.u32.wrap v12 = y0
        generalize e1 : IntKind.u32.wrap v16 = y1
        generalize e2 : IntKind.i64.wrap (bt s 9) = y2
        generalize e3 : IntKind.i64.wrap (bt s 8) = y3
        generalize e5 : IntKind.i64.wrap (bits BinOp.and IntKind.i64 vf 8191 * 8) = y5
        generalize e6 : (bits BinOp.and IntKind.i64 vf 8192 != 0) = y6
        generalize e7 : (bits BinOp.and IntKind.i64 vf 16384 != 0) = y7
        have HE := Lib.hid (show HeadIs s (.returned (.tuple #[.agg #[.int .u32 y0, .int .u32 y1, .int .i64 y2, .int .i64 y3, .int .i64 v04, .int .i64 y5, .bool y6, .bool y7, .string ⟨#[]⟩], .int .i64 vn, .int .i64 0])) from by
          unfold HeadIs
          rw [← e0, ← e1, ← e2, ← e3, ← e5, ← e6, ← e7, E12.out, E16.out, E04.out, EF.out, EN.out])
        clear e0 e1 e2 e3 e5 e6 e7 b8 b9 i8 i9 f8 f9 G12 G16 G04 R6 E12 E16 E04 EF EN B8 B9 h h2
        generalize hV : World.drew (World.alloc W _) = V
        have HVW := Lib.hid (show Below W.heap.size W V by rw [← hV]; exact ((Below.refl _ _).alloc (Nat.le_refl _) _).drew)
        have n0 : V.cell? ⟨W.heap.size, 0, none⟩ = some (.int .u32 y0) := by rw [← hV]; exact (World.cell?_alloc_at _ _ _ _ rfl).trans rfl
        have o0 : V.cell? ⟨w.heap.size, 0, none⟩ = some (.int .u32 0) := by rw [HVW.out.cell (p := ⟨w.heap.size, 0, none⟩) hlW]; exact hc0
        have p0 : V.frozen? ⟨w.heap.size, 0, none⟩ = false := by rw [HVW.out.frozen (p := ⟨w.heap.size, 0, none⟩) hlW]; exact hf0
        have n1 : V.cell? ⟨W.heap.size, 1, none⟩ = some (.int .u32 y1) := by rw [← hV]; exact (World.cell?_alloc_at _ _ _ _ rfl).trans rfl
        have o1 : V.cell? ⟨w.heap.size, 1, none⟩ = some (.int .u32 0) := by rw [HVW.out.cell (p := ⟨w.heap.size, 1, none⟩) hlW]; exact hc1
        have p1 : V.frozen? ⟨w.heap.size, 1, none⟩ = false := by rw [HVW.out.frozen (p := ⟨w.heap.size, 1, none⟩) hlW]; exact hf1
        have n2 : V.cell? ⟨W.heap.size, 2, none⟩ = some (.int .i64 y2) := by rw [← hV]; exact (World.cell?_alloc_at _ _ _ _ rfl).trans rfl
        have o2 : V.cell? ⟨w.heap.size, 2, none⟩ = some (.int .i64 0) := by rw [HVW.out.cell (p := ⟨w.heap.size, 2, none⟩) hlW]; exact hc2
        have p2 : V.frozen? ⟨w.heap.size, 2, none⟩ = false := by rw [HVW.out.frozen (p := ⟨w.heap.size, 2, none⟩) hlW]; exact hf2
        have n3 : V.cell? ⟨W.heap.size, 3, none⟩ = some (.int .i64 y3) := by rw [← hV]; exact (World.cell?_alloc_at _ _ _ _ rfl).trans rfl
        have o3 : V.cell? ⟨w.heap.size, 3, none⟩ = some (.int .i64 0) := by rw [HVW.out.cell (p := ⟨w.heap.size, 3, none⟩) hlW]; exact hc3
        have p3 : V.frozen? ⟨w.heap.size, 3, none⟩ = false := by rw [HVW.out.frozen (p := ⟨w.heap.size, 3, none⟩) hlW]; exact hf3
        have n4 : V.cell? ⟨W.heap.size, 4, none⟩ = some (.int .i64 v04) := by rw [← hV]; exact (World.cell?_alloc_at _ _ _ _ rfl).trans rfl
        have o4 : V.cell? ⟨w.heap.size, 4, none⟩ = some (.int .i64 0) := by rw [HVW.out.cell (p := ⟨w.heap.size, 4, none⟩) hlW]; exact hc4
        have p4 : V.frozen? ⟨w.heap.size, 4, none⟩ = false := by rw [HVW.out.frozen (p := ⟨w.heap.size, 4, none⟩) hlW]; exact hf4
        have n5 : V.cell? ⟨W.heap.size, 5, none⟩ = some (.int .i64 y5) := by rw [← hV]; exact (World.cell?_alloc_at _ _ _ _ rfl).trans rfl
        have o5 : V.cell? ⟨w.heap.size, 5, none⟩ = some (.int .i64 0) := by rw [HVW.out.cell (p := ⟨w.heap.size, 5, none⟩) hlW]; exact hc5
        have p5 : V.frozen? ⟨w.heap.size, 5, none⟩ = false := by rw [HVW.out.frozen (p := ⟨w.heap.size, 5, none⟩) hlW]; exact hf5
        have n6 : V.cell? ⟨W.heap.size, 6, none⟩ = some (.bool y6) := by rw [← hV]; exact (World.cell?_alloc_at _ _ _ _ rfl).trans rfl
        have o6 : V.cell? ⟨w.heap.size, 6, none⟩ = some (.bool false) := by rw [HVW.out.cell (p := ⟨w.heap.size, 6, none⟩) hlW]; exact hc6
        have p6 : V.frozen? ⟨w.heap.size, 6, none⟩ = false := by rw [HVW.out.frozen (p := ⟨w.heap.size, 6, none⟩) hlW]; exact hf6
        have n7 : V.cell? ⟨W.heap.size, 7, none⟩ = some (.bool y7) := by rw [← hV]; exact (World.cell?_alloc_at _ _ _ _ rfl).trans rfl
        have o7 : V.cell? ⟨w.heap.size, 7, none⟩ = some (.bool false) := by rw [HVW.out.cell (p := ⟨w.heap.size, 7, none⟩) hlW]; exact hc7
        have p7 : V.frozen? ⟨w.heap.size, 7, none⟩ = false := by rw [HVW.out.frozen (p := ⟨w.heap.size, 7, none⟩) hlW]; exact hf7
        have n8 : V.cell? ⟨W.heap.size, 8, none⟩ = some (.string ⟨#[]⟩) := by rw [← hV]; exact (World.cell?_alloc_at _ _ _ _ rfl).trans rfl
        have o8 : V.cell? ⟨w.heap.size, 8, none⟩ = some (.string ⟨#[]⟩) := by rw [HVW.out.cell (p := ⟨w.heap.size, 8, none⟩) hlW]; exact hc8
        have p8 : V.frozen? ⟨w.heap.size, 8, none⟩ = false := by rw [HVW.out.frozen (p := ⟨w.heap.size, 8, none⟩) hlW]; exact hf8
        have HBV := Lib.hid (show Below w.heap.size w V by rw [← hV]; exact (HBW.out.alloc (by omega) _).drew)
        have hlV : w.heap.size < V.heap.size := by rw [← hV]; simp; omega
        clear hV HBW hc0 hc1 hc2 hc3 hc4 hc5 hc6 hc7 hc8 hf0 hf1 hf2 hf3 hf4 hf5 hf6 hf7 hf8 hs0 hs1 hs2 hs3 hs4 hs5 hs6 hs7 hs8
        generalize W.heap.size = c at *
        go_wp2_with fail
        refine head_end2 s w V _ v04 vn y0 y1 y2 y3 y5 y6 y7 ?_ ?_ ?_ hlV (by rw [o0]; rfl) (by rw [o1]; rfl) (by rw [o2]; rfl) (by rw [o3]; rfl) (by rw [o4]; rfl) (by rw [o5]; rfl) (by rw [o6]; rfl) (by rw [o7]; rfl) (by rw [o8]; rfl) HE.out HBV.out
        · rfl
        · rfl
        · rfl
      refine AllReady.cons rfl (fun K hK => ?_) AllReady.nil
      go_simp
      refine hK _ _ ?_
      clear hK K
      refine wpAny_ready (rs := [13]) (by kernel_rfl) (by simp) ?_
      refine AllReady.cons rfl (fun K hK => ?_) AllReady.nil
      go_simp
      go_wp2_with (go_at_call 16; refine (G04.out _).mono ?_; rintro e wz ⟨rfl, rfl⟩)
      refine wpAny_take (i := 23) (v := ?_) rfl (by kernel_rfl) (by kernel_rfl) (by kernel_rfl) (fun _ _ _ h => h) (Or.inl ⟨by rfl, ?_⟩) ?_
      rotate_left
      · intro w; go_simp <;> (try with_reducible rfl)
      refine wpAny_ready (rs := [25]) (by kernel_rfl) (by simp) ?_
      refine AllReady.cons rfl (fun K hK => ?_) AllReady.nil
      go_simp
      refine hK _ _ ?_
      clear hK K
      refine wpAny_done (by kernel_rfl) ?_ _
      generalize e0 : IntKind.u32.wrap v12 = y0
      generalize e1 : IntKind.u32.wrap v16 = y1
      generalize e2 : IntKind.i64.wrap (bt s 9) = y2
      generalize e3 : IntKind.i64.wrap (bt s 8) = y3
      generalize e5 : IntKind.i64.wrap (bits BinOp.and IntKind.i64 vf 8191 * 8) = y5
      generalize e6 : (bits BinOp.and IntKind.i64 vf 8192 != 0) = y6
      generalize e7 : (bits BinOp.and IntKind.i64 vf 16384 != 0) = y7
      have HE := Lib.hid (show HeadIs s (.returned (.tuple #[.agg #[.int .u32 y0, .int .u32 y1, .int .i64 y2, .int .i64 y3, .int .i64 v04, .int .i64 y5, .bool y6, .bool y7, .string ⟨#[]⟩], .int .i64 vn, .int .i64 0])) from by
        unfold HeadIs
        rw [← e0, ← e1, ← e2, ← e3, ← e5, ← e6, ← e7, E12.out, E16.out, E04.out, EF.out, EN.out])
      clear e0 e1 e2 e3 e5 e6 e7 b8 b9 i8 i9 f8 f9 G12 G16 G04 R6 E12 E16 E04 EF EN B8 B9 h h2
      generalize hV : World.drew (World.alloc W _) = V
      have HVW := Lib.hid (show Below W.heap.size W V by rw [← hV]; exact ((Below.refl _ _).alloc (Nat.le_refl _) _).drew)
      have n0 : V.cell? ⟨W.heap.size, 0, none⟩ = some (.int .u32 y0) := by rw [← hV]; exact (World.cell?_alloc_at _ _ _ _ rfl).trans rfl
      have o0 : V.cell? ⟨w.heap.size, 0, none⟩ = some (.int .u32 0) := by rw [HVW.out.cell (p := ⟨w.heap.size, 0, none⟩) hlW]; exact hc0
      have p0 : V.frozen? ⟨w.heap.size, 0, none⟩ = false := by rw [HVW.out.frozen (p := ⟨w.heap.size, 0, none⟩) hlW]; exact hf0
      have n1 : V.cell? ⟨W.heap.size, 1, none⟩ = some (.int .u32 y1) := by rw [← hV]; exact (World.cell?_alloc_at _ _ _ _ rfl).trans rfl
      have o1 : V.cell? ⟨w.heap.size, 1, none⟩ = some (.int .u32 0) := by rw [HVW.out.cell (p := ⟨w.heap.size, 1, none⟩) hlW]; exact hc1
      have p1 : V.frozen? ⟨w.heap.size, 1, none⟩ = false := by rw [HVW.out.frozen (p := ⟨w.heap.size, 1, none⟩) hlW]; exact hf1
      have n2 : V.cell? ⟨W.heap.size, 2, none⟩ = some (.int .i64 y2) := by rw [← hV]; exact (World.cell?_alloc_at _ _ _ _ rfl).trans rfl
      have o2 : V.cell? ⟨w.heap.size, 2, none⟩ = some (.int .i64 0) := by rw [HVW.out.cell (p := ⟨w.heap.size, 2, none⟩) hlW]; exact hc2
      have p2 : V.frozen? ⟨w.heap.size, 2, none⟩ = false := by rw [HVW.out.frozen (p := ⟨w.heap.size, 2, none⟩) hlW]; exact hf2
      have n3 : V.cell? ⟨W.heap.size, 3, none⟩ = some (.int .i64 y3) := by rw [← hV]; exact (World.cell?_alloc_at _ _ _ _ rfl).trans rfl
      have o3 : V.cell? ⟨w.heap.size, 3, none⟩ = some (.int .i64 0) := by rw [HVW.out.cell (p := ⟨w.heap.size, 3, none⟩) hlW]; exact hc3
      have p3 : V.frozen? ⟨w.heap.size, 3, none⟩ = false := by rw [HVW.out.frozen (p := ⟨w.heap.size, 3, none⟩) hlW]; exact hf3
      have n4 : V.cell? ⟨W.heap.size, 4, none⟩ = some (.int .i64 v04) := by rw [← hV]; exact (World.cell?_alloc_at _ _ _ _ rfl).trans rfl
      have o4 : V.cell? ⟨w.heap.size, 4, none⟩ = some (.int .i64 0) := by rw [HVW.out.cell (p := ⟨w.heap.size, 4, none⟩) hlW]; exact hc4
      have p4 : V.frozen? ⟨w.heap.size, 4, none⟩ = false := by rw [HVW.out.frozen (p := ⟨w.heap.size, 4, none⟩) hlW]; exact hf4
      have n5 : V.cell? ⟨W.heap.size, 5, none⟩ = some (.int .i64 y5) := by rw [← hV]; exact (World.cell?_alloc_at _ _ _ _ rfl).trans rfl
      have o5 : V.cell? ⟨w.heap.size, 5, none⟩ = some (.int .i64 0) := by rw [HVW.out.cell (p := ⟨w.heap.size, 5, none⟩) hlW]; exact hc5
      have p5 : V.frozen? ⟨w.heap.size, 5, none⟩ = false := by rw [HVW.out.frozen (p := ⟨w.heap.size, 5, none⟩) hlW]; exact hf5
      have n6 : V.cell? ⟨W.heap.size, 6, none⟩ = some (.bool y6) := by rw [← hV]; exact (World.cell?_alloc_at _ _ _ _ rfl).trans rfl
      have o6 : V.cell? ⟨w.heap.size, 6, none⟩ = some (.bool false) := by rw [HVW.out.cell (p := ⟨w.heap.size, 6, none⟩) hlW]; exact hc6
      have p6 : V.frozen? ⟨w.heap.size, 6, none⟩ = false := by rw [HVW.out.frozen (p := ⟨w.heap.size, 6, none⟩) hlW]; exact hf6
      have n7 : V.cell? ⟨W.heap.size, 7, none⟩ = some (.bool y7) := by rw [← hV]; exact (World.cell?_alloc_at _ _ _ _ rfl).trans rfl
      have o7 : V.cell? ⟨w.heap.size, 7, none⟩ = some (.bool false) := by rw [HVW.out.cell (p := ⟨w.heap.size, 7, none⟩) hlW]; exact hc7
      have p7 : V.frozen? ⟨w.heap.size, 7, none⟩ = false := by rw [HVW.out.frozen (p := ⟨w.heap.size, 7, none⟩) hlW]; exact hf7
      have n8 : V.cell? ⟨W.heap.size, 8, none⟩ = some (.string ⟨#[]⟩) := by rw [← hV]; exact (World.cell?_alloc_at _ _ _ _ rfl).trans rfl
      have o8 : V.cell? ⟨w.heap.size, 8, none⟩ = some (.string ⟨#[]⟩) := by rw [HVW.out.cell (p := ⟨w.heap.size, 8, none⟩) hlW]; exact hc8
      have p8 : V.frozen? ⟨w.heap.size, 8, none⟩ = false := by rw [HVW.out.frozen (p := ⟨w.heap.size, 8, none⟩) hlW]; exact hf8
      have HBV := Lib.hid (show Below w.heap.size w V by rw [← hV]; exact (HBW.out.alloc (by omega) _).drew)
      have hlV : w.heap.size < V.heap.size := by rw [← hV]; simp; omega
      clear hV HBW hc0 hc1 hc2 hc3 hc4 hc5 hc6 hc7 hc8 hf0 hf1 hf2 hf3 hf4 hf5 hf6 hf7 hf8 hs0 hs1 hs2 hs3 hs4 hs5 hs6 hs7 hs8
      generalize W.heap.size = c at *
      go_wp2_with fail
      refine head_end2 s w V _ v04 vn y0 y1 y2 y3 y5 y6 y7 ?_ ?_ ?_ hlV (by rw [o0]; rfl) (by rw [o1]; rfl) (by rw [o2]; rfl) (by rw [o3]; rfl) (by rw [o4]; rfl) (by rw [o5]; rfl) (by rw [o6]; rfl) (by rw [o7]; rfl) (by rw [o8]; rfl) HE.out HBV.out
      · rfl
      · rfl
      · rfl
    refine AllReady.cons rfl (fun K hK => ?_) AllReady.nil
    go_simp
    refine hK _ _ ?_
    clear hK K
    refine wpAny_ready (rs := [4]) (by kernel_rfl) (by simp) ?_
    refine AllReady.cons rfl (fun K hK => ?_) AllReady.nil
    go_simp
    go_wp2_with (go_at_call 16; refine (G16.out _).mono ?_; rintro e wz ⟨rfl, rfl⟩)
    refine wpAny_take (i := 5) (v := ?_) rfl (by kernel_rfl) (by kernel_rfl) (by kernel_rfl) (fun _ _ _ h => h) (Or.inl ⟨by rfl, ?_⟩) ?_
    rotate_left
    · intro w; go_simp <;> (try with_reducible rfl)
    refine wpAny_ready (rs := [13]) (by kernel_rfl) (by simp) ?_
    refine AllReady.cons rfl (fun K hK => ?_) AllReady.nil
    go_simp
    go_wp2_with (go_at_call 16; refine (G04.out _).mono ?_; rintro e wz ⟨rfl, rfl⟩)
    refine wpAny_take (i := 23) (v := ?_) rfl (by kernel_rfl) (by kernel_rfl) (by kernel_rfl) (fun _ _ _ h => h) (Or.inl ⟨by rfl, ?_⟩) ?_
    rotate_left
    · intro w; go_simp <;> (try with_reducible rfl)
    refine wpAny_ready (rs := [25]) (by kernel_rfl) (by simp) ?_
    refine AllReady.cons rfl (fun K hK => ?_) AllReady.nil
    go_simp
    refine hK _ _ ?_
    clear hK K
    refine wpAny_done (by kernel_rfl) ?_ _
    generalize e0 : IntKind.u32.wrap v12 = y0
    generalize e1 : IntKind.u32.wrap v16 = y1
    generalize e2 : IntKind.i64.wrap (bt s 9) = y2
    generalize e3 : IntKind.i64.wrap (bt s 8) = y3
    generalize e5 : IntKind.i64.wrap (bits BinOp.and IntKind.i64 vf 8191 * 8) = y5
    generalize e6 : (bits BinOp.and IntKind.i64 vf 8192 != 0) = y6
    generalize e7 : (bits BinOp.and IntKind.i64 vf 16384 != 0) = y7
    have HE := Lib.hid (show HeadIs s (.returned (.tuple #[.agg #[.int .u32 y0, .int .u32 y1, .int .i64 y2, .int .i64 y3, .int .i64 v04, .int .i64 y5, .bool y6, .bool y7, .string ⟨#[]⟩], .int .i64 vn, .int .i64 0])) from by
      unfold HeadIs
      rw [← e0, ← e1, ← e2, ← e3, ← e5, ← e6, ← e7, E12.out, E16.out, E04.out, EF.out, EN.out])
    clear e0 e1 e2 e3 e5 e6 e7 b8 b9 i8 i9 f8 f9 G12 G16 G04 R6 E12 E16 E04 EF EN B8 B9 h h2
    generalize hV : World.drew (World.alloc W _) = V
    have HVW := Lib.hid (show Below W.heap.size W V by rw [← hV]; exact ((Below.refl _ _).alloc (Nat.le_refl _) _).drew)
    have n0 : V.cell? ⟨W.heap.size, 0, none⟩ = some (.int .u32 y0) := by rw [← hV]; exact (World.cell?_alloc_at _ _ _ _ rfl).trans rfl
    have o0 : V.cell? ⟨w.heap.size, 0, none⟩ = some (.int .u32 0) := by rw [HVW.out.cell (p := ⟨w.heap.size, 0, none⟩) hlW]; exact hc0
    have p0 : V.frozen? ⟨w.heap.size, 0, none⟩ = false := by rw [HVW.out.frozen (p := ⟨w.heap.size, 0, none⟩) hlW]; exact hf0
    have n1 : V.cell? ⟨W.heap.size, 1, none⟩ = some (.int .u32 y1) := by rw [← hV]; exact (World.cell?_alloc_at _ _ _ _ rfl).trans rfl
    have o1 : V.cell? ⟨w.heap.size, 1, none⟩ = some (.int .u32 0) := by rw [HVW.out.cell (p := ⟨w.heap.size, 1, none⟩) hlW]; exact hc1
    have p1 : V.frozen? ⟨w.heap.size, 1, none⟩ = false := by rw [HVW.out.frozen (p := ⟨w.heap.size, 1, none⟩) hlW]; exact hf1
    have n2 : V.cell? ⟨W.heap.size, 2, none⟩ = some (.int .i64 y2) := by rw [← hV]; exact (World.cell?_alloc_at _ _ _ _ rfl).trans rfl
    have o2 : V.cell? ⟨w.heap.size, 2, none⟩ = some (.int .i64 0) := by rw [HVW.out.cell (p := ⟨w.heap.size, 2, none⟩) hlW]; exact hc2
    have p2 : V.frozen? ⟨w.heap.size, 2, none⟩ = false := by rw [HVW.out.frozen (p := ⟨w.heap.size, 2, none⟩) hlW]; exact hf2
    have n3 : V.cell? ⟨W.heap.size, 3, none⟩ = some (.int .i64 y3) := by rw [← hV]; exact (World.cell?_alloc_at _ _ _ _ rfl).trans rfl
    have o3 : V.cell? ⟨w.heap.size, 3, none⟩ = some (.int .i64 0) := by rw [HVW.out.cell (p := ⟨w.heap.size, 3, none⟩) hlW]; exact hc3
    have p3 : V.frozen? ⟨w.heap.size, 3, none⟩ = false := by rw [HVW.out.frozen (p := ⟨w.heap.size, 3, none⟩) hlW]; exact hf3
    have n4 : V.cell? ⟨W.heap.size, 4, none⟩ = some (.int .i64 v04) := by rw [← hV]; exact (World.cell?_alloc_at _ _ _ _ rfl).trans rfl
    have o4 : V.cell? ⟨w.heap.size, 4, none⟩ = some (.int .i64 0) := by rw [HVW.out.cell (p := ⟨w.heap.size, 4, none⟩) hlW]; exact hc4
    have p4 : V.frozen? ⟨w.heap.size, 4, none⟩ = false := by rw [HVW.out.frozen (p := ⟨w.heap.size, 4, none⟩) hlW]; exact hf4
    have n5 : V.cell? ⟨W.heap.size, 5, none⟩ = some (.int .i64 y5) := by rw [← hV]; exact (World.cell?_alloc_at _ _ _ _ rfl).trans rfl
    have o5 : V.cell? ⟨w.heap.size, 5, none⟩ = some (.int .i64 0) := by rw [HVW.out.cell (p := ⟨w.heap.size, 5, none⟩) hlW]; exact hc5
    have p5 : V.frozen? ⟨w.heap.size, 5, none⟩ = false := by rw [HVW.out.frozen (p := ⟨w.heap.size, 5, none⟩) hlW]; exact hf5
    have n6 : V.cell? ⟨W.heap.size, 6, none⟩ = some (.bool y6) := by rw [← hV]; exact (World.cell?_alloc_at _ _ _ _ rfl).trans rfl
    have o6 : V.cell? ⟨w.heap.size, 6, none⟩ = some (.bool false) := by rw [HVW.out.cell (p := ⟨w.heap.size, 6, none⟩) hlW]; exact hc6
    have p6 : V.frozen? ⟨w.heap.size, 6, none⟩ = false := by rw [HVW.out.frozen (p := ⟨w.heap.size, 6, none⟩) hlW]; exact hf6
    have n7 : V.cell? ⟨W.heap.size, 7, none⟩ = some (.bool y7) := by rw [← hV]; exact (World.cell?_alloc_at _ _ _ _ rfl).trans rfl
    have o7 : V.cell? ⟨w.heap.size, 7, none⟩ = some (.bool false) := by rw [HVW.out.cell (p := ⟨w.heap.size, 7, none⟩) hlW]; exact hc7
    have p7 : V.frozen? ⟨w.heap.size, 7, none⟩ = false := by rw [HVW.out.frozen (p := ⟨w.heap.size, 7, none⟩) hlW]; exact hf7
    have n8 : V.cell? ⟨W.heap.size, 8, none⟩ = some (.string ⟨#[]⟩) := by rw [← hV]; exact (World.cell?_alloc_at _ _ _ _ rfl).trans rfl
    have o8 : V.cell? ⟨w.heap.size, 8, none⟩ = some (.string ⟨#[]⟩) := by rw [HVW.out.cell (p := ⟨w.heap.size, 8, none⟩) hlW]; exact hc8
    have p8 : V.frozen? ⟨w.heap.size, 8, none⟩ = false := by rw [HVW.out.frozen (p := ⟨w.heap.size, 8, none⟩) hlW]; exact hf8
    have HBV := Lib.hid (show Below w.heap.size w V by rw [← hV]; exact (HBW.out.alloc (by omega) _).drew)
    have hlV : w.heap.size < V.heap.size := by rw [← hV]; simp; omega
    clear hV HBW hc0 hc1 hc2 hc3 hc4 hc5 hc6 hc7 hc8 hf0 hf1 hf2 hf3 hf4 hf5 hf6 hf7 hf8 hs0 hs1 hs2 hs3 hs4 hs5 hs6 hs7 hs8
    generalize W.heap.size = c at *
    go_wp2_with fail
    refine head_end2 s w V _ v04 vn y0 y1 y2 y3 y5 y6 y7 ?_ ?_ ?_ hlV (by rw [o0]; rfl) (by rw [o1]; rfl) (by rw [o2]; rfl) (by rw [o3]; rfl) (by rw [o4]; rfl) (by rw [o5]; rfl) (by rw [o6]; rfl) (by rw [o7]; rfl) (by rw [o8]; rfl) HE.out HBV.out
    · rfl
    · rfl
    · rfl
  refine AllReady.cons rfl (fun K hK => ?_) AllReady.nil
  go_simp
  refine hK _ _ ?_
  clear hK K
  refine wpAny_ready (rs := [1]) (by kernel_rfl) (by simp) ?_
  refine AllReady.cons rfl (fun K hK => ?_) AllReady.nil
  go_simp
  go_wp2_with (go_at_call 16; refine (G12.out _).mono ?_; rintro e wz ⟨rfl, rfl⟩)
  refine wpAny_take (i := 2) (v := ?_) rfl (by kernel_rfl) (by kernel_rfl) (by kernel_rfl) (fun _ _ _ h => h) (Or.inl ⟨by rfl, ?_⟩) ?_
  rotate_left
  · intro w; go_simp <;> (try with_reducible rfl)
  refine wpAny_ready (rs := [4]) (by kernel_rfl) (by simp) ?_
  refine AllReady.cons rfl (fun K hK => ?_) AllReady.nil
  go_simp
  go_wp2_with (go_at_call 16; refine (G16.out _).mono ?_; rintro e wz ⟨rfl, rfl⟩)
  refine wpAny_take (i := 5) (v := ?_) rfl (by kernel_rfl) (by kernel_rfl) (by kernel_rfl) (fun _ _ _ h => h) (Or.inl ⟨by rfl, ?_⟩) ?_
  rotate_left
  · intro w; go_simp <;> (try with_reducible rfl)
  refine wpAny_ready (rs := [13]) (by kernel_rfl) (by simp) ?_
  refine AllReady.cons rfl (fun K hK => ?_) AllReady.nil
  go_simp
  go_wp2_with (go_at_call 16; refine (G04.out _).mono ?_; rintro e wz ⟨rfl, rfl⟩)
  refine wpAny_take (i := 23) (v := ?_) rfl (by kernel_rfl) (by kernel_rfl) (by kernel_rfl) (fun _ _ _ h => h) (Or.inl ⟨by rfl, ?_⟩) ?_
  rotate_left
  · intro w; go_simp <;> (try with_reducible rfl)
  refine wpAny_ready (rs := [25]) (by kernel_rfl) (by simp) ?_
  refine AllReady.cons rfl (fun K hK => ?_) AllReady.nil
  go_simp
  refine hK _ _ ?_
  clear hK K
  refine wpAny_done (by kernel_rfl) ?_ _
  generalize e0 : IntKind.u32.wrap v12 = y0
  generalize e1 : IntKind.u32.wrap v16 = y1
  generalize e2 : IntKind.i64.wrap (bt s 9) = y2
  generalize e3 : IntKind.i64.wrap (bt s 8) = y3
  generalize e5 : IntKind.i64.wrap (bits BinOp.and IntKind.i64 vf 8191 * 8) = y5
  generalize e6 : (bits BinOp.and IntKind.i64 vf 8192 != 0) = y6
  generalize e7 : (bits BinOp.and IntKind.i64 vf 16384 != 0) = y7
  have HE := Lib.hid (show HeadIs s (.returned (.tuple #[.agg #[.int .u32 y0, .int .u32 y1, .int .i64 y2, .int .i64 y3, .int .i64 v04, .int .i64 y5, .bool y6, .bool y7, .string ⟨#[]⟩], .int .i64 vn, .int .i64 0])) from by
    unfold HeadIs
    rw [← e0, ← e1, ← e2, ← e3, ← e5, ← e6, ← e7, E12.out, E16.out, E04.out, EF.out, EN.out])
  clear e0 e1 e2 e3 e5 e6 e7 b8 b9 i8 i9 f8 f9 G12 G16 G04 R6 E12 E16 E04 EF EN B8 B9 h h2
  generalize hV : World.drew (World.alloc W _) = V
  have HVW := Lib.hid (show Below W.heap.size W V by rw [← hV]; exact ((Below.refl _ _).alloc (Nat.le_refl _) _).drew)
  have n0 : V.cell? ⟨W.heap.size, 0, none⟩ = some (.int .u32 y0) := by rw [← hV]; exact (World.cell?_alloc_at _ _ _ _ rfl).trans rfl
  have o0 : V.cell? ⟨w.heap.size, 0, none⟩ = some (.int .u32 0) := by rw [HVW.out.cell (p := ⟨w.heap.size, 0, none⟩) hlW]; exact hc0
  have p0 : V.frozen? ⟨w.heap.size, 0, none⟩ = false := by rw [HVW.out.frozen (p := ⟨w.heap.size, 0, none⟩) hlW]; exact hf0
  have n1 : V.cell? ⟨W.heap.size, 1, none⟩ = some (.int .u32 y1) := by rw [← hV]; exact (World.cell?_alloc_at _ _ _ _ rfl).trans rfl
  have o1 : V.cell? ⟨w.heap.size, 1, none⟩ = some (.int .u32 0) := by rw [HVW.out.cell (p := ⟨w.heap.size, 1, none⟩) hlW]; exact hc1
  have p1 : V.frozen? ⟨w.heap.size, 1, none⟩ = false := by rw [HVW.out.frozen (p := ⟨w.heap.size, 1, none⟩) hlW]; exact hf1
  have n2 : V.cell? ⟨W.heap.size, 2, none⟩ = some (.int .i64 y2) := by rw [← hV]; exact (World.cell?_alloc_at _ _ _ _ rfl).trans rfl
  have o2 : V.cell? ⟨w.heap.size, 2, none⟩ = some (.int .i64 0) := by rw [HVW.out.cell (p := ⟨w.heap.size, 2, none⟩) hlW]; exact hc2
  have p2 : V.frozen? ⟨w.heap.size, 2, none⟩ = false := by rw [HVW.out.frozen (p := ⟨w.heap.size, 2, none⟩) hlW]; exact hf2
  have n3 : V.cell? ⟨W.heap.size, 3, none⟩ = some (.int .i64 y3) := by rw [← hV]; exact (World.cell?_alloc_at _ _ _ _ rfl).trans rfl
  have o3 : V.cell? ⟨w.heap.size, 3, none⟩ = some (.int .i64 0) := by rw [HVW.out.cell (p := ⟨w.heap.size, 3, none⟩) hlW]; exact hc3
  have p3 : V.frozen? ⟨w.heap.size, 3, none⟩ = false := by rw [HVW.out.frozen (p := ⟨w.heap.size, 3, none⟩) hlW]; exact hf3
  have n4 : V.cell? ⟨W.heap.size, 4, none⟩ = some (.int .i64 v04) := by rw [← hV]; exact (World.cell?_alloc_at _ _ _ _ rfl).trans rfl
  have o4 : V.cell? ⟨w.heap.size, 4, none⟩ = some (.int .i64 0) := by rw [HVW.out.cell (p := ⟨w.heap.size, 4, none⟩) hlW]; exact hc4
  have p4 : V.frozen? ⟨w.heap.size, 4, none⟩ = false := by rw [HVW.out.frozen (p := ⟨w.heap.size, 4, none⟩) hlW]; exact hf4
  have n5 : V.cell? ⟨W.heap.size, 5, none⟩ = some (.int .i64 y5) := by rw [← hV]; exact (World.cell?_alloc_at _ _ _ _ rfl).trans rfl
  have o5 : V.cell? ⟨w.heap.size, 5, none⟩ = some (.int .i64 0) := by rw [HVW.out.cell (p := ⟨w.heap.size, 5, none⟩) hlW]; exact hc5
  have p5 : V.frozen? ⟨w.heap.size, 5, none⟩ = false := by rw [HVW.out.frozen (p := ⟨w.heap.size, 5, none⟩) hlW]; exact hf5
  have n6 : V.cell? ⟨W.heap.size, 6, none⟩ = some (.bool y6) := by rw [← hV]; exact (World.cell?_alloc_at _ _ _ _ rfl).trans rfl
  have o6 : V.cell? ⟨w.heap.size, 6, none⟩ = some (.bool false) := by rw [HVW.out.cell (p := ⟨w.heap.size, 6, none⟩) hlW]; exact hc6
  have p6 : V.frozen? ⟨w.heap.size, 6, none⟩ = false := by rw [HVW.out.frozen (p := ⟨w.heap.size, 6, none⟩) hlW]; exact hf6
  have n7 : V.cell? ⟨W.heap.size, 7, none⟩ = some (.bool y7) := by rw [← hV]; exact (World.cell?_alloc_at _ _ _ _ rfl).trans rfl
  have o7 : V.cell? ⟨w.heap.size, 7, none⟩ = some (.bool false) := by rw [HVW.out.cell (p := ⟨w.heap.size, 7, none⟩) hlW]; exact hc7
  have p7 : V.frozen? ⟨w.heap.size, 7, none⟩ = false := by rw [HVW.out.frozen (p := ⟨w.heap.size, 7, none⟩) hlW]; exact hf7
  have n8 : V.cell? ⟨W.heap.size, 8, none⟩ = some (.string ⟨#[]⟩) := by rw [← hV]; exact (World.cell?_alloc_at _ _ _ _ rfl).trans rfl
  have o8 : V.cell? ⟨w.heap.size, 8, none⟩ = some (.string ⟨#[]⟩) := by rw [HVW.out.cell (p := ⟨w.heap.size, 8, none⟩) hlW]; exact hc8
  have p8 : V.frozen? ⟨w.heap.size, 8, none⟩ = false := by rw [HVW.out.frozen (p := ⟨w.heap.size, 8, none⟩) hlW]; exact hf8
  have HBV := Lib.hid (show Below w.heap.size w V by rw [← hV]; exact (HBW.out.alloc (by omega) _).drew)
  have hlV : w.heap.size < V.heap.size := by rw [← hV]; simp; omega
  clear hV HBW hc0 hc1 hc2 hc3 hc4 hc5 hc6 hc7 hc8 hf0 hf1 hf2 hf3 hf4 hf5 hf6 hf7 hf8 hs0 hs1 hs2 hs3 hs4 hs5 hs6 hs7 hs8
  generalize W.heap.size = c at *
  go_wp2_with fail
  refine head_end2 s w V _ v04 vn y0 y1 y2 y3 y5 y6 y7 ?_ ?_ ?_ hlV (by rw [o0]; rfl) (by rw [o1]; rfl) (by rw [o2]; rfl) (by rw [o3]; rfl) (by rw [o4]; rfl) (by rw [o5]; rfl) (by rw [o6]; rfl) (by rw [o7]; rfl) (by rw [o8]; rfl) HE.out HBV.out
  · rfl
  · rfl
  · rfl
end Go.Proofs.Ytnhanjjkmjpmlaa.Pk
