/- The walk of (*trie.Trie).Find: the longest entry on an address's path; a trie that the world holds. -/
import Derived.Test.YtaknlphmplimhaaDoorTb
import Derived.Deep.DeepCutAuto
set_option linter.unusedVariables false
set_option linter.unusedSimpArgs false
namespace Go.Proofs.YtaknlphmplimhaaDoor
open Go.RowKit Go.Proofs AT

/-- The longest entry on an address's path among the first k. -/
def best (t : AT) (a : Nat) : Nat → Option (Nat × Int)
  | 0 => none
  | k + 1 => match t.get (path a k) with | some v => some (k, v) | none => best t a k
theorem best_stop (t : AT) (a k : Nat) (h : t.sub (path a k) = .nil) : ∀ j, k ≤ j → best t a j = best t a k := by
  intro j hj
  induction j with
  | zero => rw [show k = 0 by omega]
  | succ j ih =>
    rcases Nat.eq_or_lt_of_le hj with rfl | hlt
    · rfl
    · have : t.get (path a j) = none := by
        unfold AT.get
        rw [path_sub_nil t a k j (by omega) h]; rfl
      rw [show best t a (j + 1) = match t.get (path a j) with | some v => some (j, v) | none => best t a j from rfl, this]
      exact ih (by omega)
/-- Cells of the entry found. -/
def fa (a : Nat) : Option (Nat × Int) → Int
  | none => 0
  | some (d, _) => ((a / sz (d : Int) * sz (d : Int) : Nat) : Int)
def fd : Option (Nat × Int) → Int
  | none => 0
  | some (d, _) => (d : Int)
def fv : Option (Nat × Int) → Int
  | none => 0
  | some (_, v) => v
theorem heap_set3 {w : World} {g : Nat} {x0 x1 x2 y0 y1 y2 : Value} {t : TypeId} (h : w.heap[g]? = some (.cells #[x0, x1, x2] t (0, 0))) :
    (((w.setCell ⟨g, 0, none⟩ y0).setCell ⟨g, 1, none⟩ y1).setCell ⟨g, 2, none⟩ y2).heap[g]? = some (.cells #[y0, y1, y2] t (0, 0)) := by
  have h1 := heap_setCell_same h 0 y0
  have h2 := heap_setCell_same h1 1 y1
  have h3 := heap_setCell_same h2 2 y2
  rw [h3]; simp
theorem heap_far3 {w : World} {g g' : Nat} {y0 y1 y2 : Value} (h : g' ≠ g) :
    (((w.setCell ⟨g, 0, none⟩ y0).setCell ⟨g, 1, none⟩ y1).setCell ⟨g, 2, none⟩ y2).heap[g']? = w.heap[g']? := by
  rw [Below.heap_setCell _ _ _ _ h, Below.heap_setCell _ _ _ _ h, Below.heap_setCell _ _ _ _ h]
set_option maxHeartbeats 4000000 in
theorem find_any (tb : Nat) (t : AT) (z : Int) (a : Nat) (w : World) (ha : a < 4294967296) (hT : TR w tb z t) :
    Calls Tryd.prog 26 #[.pointer (some ⟨tb, 0, none⟩), .int .u32 a] w fun e w' =>
      e = .returned (.tuple #[.agg #[.int .u32 (fa a (best t a 33)), .int .i64 (fd (best t a 33)), .int .i64 (fv (best t a 33))], .bool (best t a 33).isSome]) ∧ Below w.heap.size w w' := by
  have htl : tb < w.heap.size := hT.lt tb (by simp)
  obtain ⟨cr0, cr1⟩ := cell_root hT.root
  have HT := Lib.hid hT
  clear hT
  go_enter Tryd.func26, Tryd.ntmps26
  go_wp2_with fail
  go_loopw [7, 8, 9] (fun f n i wr => ∃ k : Nat, k ≤ 32 ∧ i = .int .i64 k ∧ n = (t.sub (path a k)).ptr ∧ f = .bool (best t a k).isSome ∧ Below w.heap.size w wr ∧
    wr.heap[w.heap.size]? = some (.cells #[.int .u32 0, .int .i64 0, .int .i64 0] 36 (0, 0)) ∧ wr.heap[w.heap.size + 1]? = some (.cells #[.int .u32 (fa a (best t a k)), .int .i64 (fd (best t a k)), .int .i64 (fv (best t a k))] 36 (0, 0))) (fun _ _ i _ => 33 - (intOf i).toNat)
  case atStart =>
    refine ⟨0, by omega, rfl, rfl, rfl, ((Below.refl _ _).alloc (Nat.le_refl _) _).alloc (by simp) _, ?_, ?_⟩
    · rw [Below.heap_alloc _ _ _ (by simp)]; exact heap_alloc_new _ _
    · have := heap_alloc_new (w.alloc (.cells #[.int .u32 0, .int .i64 0, .int .i64 0] 36)) (.cells #[.int .u32 0, .int .i64 0, .int .i64 0] 36)
      rw [show fa a (best t a 0) = 0 from rfl, show fd (best t a 0) = 0 from rfl, show fv (best t a 0) = 0 from rfl]
      simpa using this
  case round =>
    obtain ⟨k, hk, rfl, rfl, rfl, hB, hb0, hb1⟩ := hrel
    have hTr := HT.out.grow hB
    have hs := hTr.rep.sub (path a k)
    have hsn := sub_snoc t (path a k) (bitB a k)
    rw [← path_succ] at hsn
    have HN := Lib.hid hsn
    clear hsn hTr
    have d0 : wr.cell? ⟨w.heap.size + 1, 0, none⟩ = some (.int .u32 (fa a (best t a k))) := cell_of_row wr (w.heap.size + 1) 0 _ 36 (0, 0) hb1
    have d1 : wr.cell? ⟨w.heap.size + 1, 1, none⟩ = some (.int .i64 (fd (best t a k))) := cell_of_row wr (w.heap.size + 1) 1 _ 36 (0, 0) hb1
    have d2 : wr.cell? ⟨w.heap.size + 1, 2, none⟩ = some (.int .i64 (fv (best t a k))) := cell_of_row wr (w.heap.size + 1) 2 _ 36 (0, 0) hb1
    have r0 : wr.cell? ⟨w.heap.size, 0, none⟩ = some (.int .u32 0) := cell_of_row wr w.heap.size 0 _ 36 (0, 0) hb0
    have r1 : wr.cell? ⟨w.heap.size, 1, none⟩ = some (.int .i64 0) := cell_of_row wr w.heap.size 1 _ 36 (0, 0) hb0
    have r2 : wr.cell? ⟨w.heap.size, 2, none⟩ = some (.int .i64 0) := cell_of_row wr w.heap.size 2 _ 36 (0, 0) hb0
    have e1 : ∀ o, wr.frozen? ⟨w.heap.size + 1, o, none⟩ = false := fun o => by simp [World.frozen?, hb1]
    have e0 : ∀ o, wr.frozen? ⟨w.heap.size, o, none⟩ = false := fun o => by simp [World.frozen?, hb0]
    have hz1 : w.heap.size + 1 < wr.heap.size := (Array.getElem?_eq_some_iff.1 hb1).1
    have hz0 : w.heap.size < wr.heap.size := by omega
    have HB0 := Lib.hid hb0
    have HB1 := Lib.hid hb1
    clear hb0 hb1
    generalize hz : t.sub (path a k) = s at hs HN ⊢
    have HZ := Lib.hid hz
    clear hz
    cases s with
    | nil =>
      have hbs := Lib.hid (best_stop t a k HZ.out 33 (by omega))
      simp only [ptr_nil]
      go_wp2_with fail
      have hbk := heap_set3 (y0 := .int .u32 (fa a (best t a k))) (y1 := .int .i64 (fd (best t a k))) (y2 := .int .i64 (fv (best t a k))) HB0.out
      have hBy : Below w.heap.size w (((wr.setCell ⟨w.heap.size, 0, none⟩ (.int .u32 (fa a (best t a k)))).setCell ⟨w.heap.size, 1, none⟩ (.int .i64 (fd (best t a k)))).setCell ⟨w.heap.size, 2, none⟩ (.int .i64 (fv (best t a k)))) := ((hB.setCell (p := ⟨w.heap.size, 0, none⟩) (Nat.le_refl _) _).setCell (p := ⟨w.heap.size, 1, none⟩) (Nat.le_refl _) _).setCell (p := ⟨w.heap.size, 2, none⟩) (Nat.le_refl _) _
      generalize (((wr.setCell ⟨w.heap.size, 0, none⟩ (.int .u32 (fa a (best t a k)))).setCell ⟨w.heap.size, 1, none⟩ (.int .i64 (fd (best t a k)))).setCell ⟨w.heap.size, 2, none⟩ (.int .i64 (fv (best t a k)))) = wy at hbk hBy ⊢
      have y0 : wy.cell? ⟨w.heap.size, 0, none⟩ = _ := cell_of_row wy w.heap.size 0 _ 36 (0, 0) hbk
      have y1 : wy.cell? ⟨w.heap.size, 1, none⟩ = _ := cell_of_row wy w.heap.size 1 _ 36 (0, 0) hbk
      have y2 : wy.cell? ⟨w.heap.size, 2, none⟩ = _ := cell_of_row wy w.heap.size 2 _ 36 (0, 0) hbk
      simp only [List.getElem?_toArray, List.getElem?_cons_zero, List.getElem?_cons_succ] at y0 y1 y2
      exact bodyPost_ret (v := .tuple #[.agg #[.int .u32 (fa a (best t a k)), .int .i64 (fd (best t a k)), .int .i64 (fv (best t a k))], .bool (best t a k).isSome]) (by simp [results, Tryd.results26, go_sem, y0, y1, y2]) rfl ⟨by rw [hbs.out], hBy⟩
    | node g l r v h =>
      obtain ⟨c0, c1, c2, c3⟩ := cell_node hs
      have hgl := World.block_lt_of_cell? wr _ c0
      simp only at hgl
      have hgB : g < w.heap.size := by
        have : Rep w (t.sub (path a k)) := HT.out.rep.sub _
        rw [HZ.out] at this
        exact this.lt g (by simp [dom])
      simp only [ptr_node]
      have hgk : t.get (path a k) = AT.top (.node g l r v h) := by rw [← HZ.out]; rfl
      have hbk1 : best t a (k + 1) = match t.get (path a k) with | some v => some (k, v) | none => best t a k := rfl
      rw [hgk] at hbk1
      have HBK := Lib.hid hbk1
      clear hgk hbk1
      cases h with
      | false =>
        have hbe : best t a k = best t a (k + 1) := by rw [HBK.out]; rfl
        rw [hbe] at HB1 d0 d1 d2 ⊢
        clear hbe
        go_upto_region 10 with (fail)
        have HX0 := HB0
        have HX1 := HB1
        have hsx := hs
        have HXB := Lib.hid hB
        obtain ⟨wx, rfl⟩ : ∃ wx, wx = wr := ⟨_, rfl⟩
        clear c0 c1 c2 c3 d0 d1 d2 r0 r1 r2 e0 e1 hgl hB
        have x0 : wx.cell? ⟨w.heap.size + 1, 0, none⟩ = some (.int .u32 (fa a (best t a (k + 1)))) := cell_of_row wx (w.heap.size + 1) 0 _ 36 (0, 0) HX1.out
        have x1 : wx.cell? ⟨w.heap.size + 1, 1, none⟩ = some (.int .i64 (fd (best t a (k + 1)))) := cell_of_row wx (w.heap.size + 1) 1 _ 36 (0, 0) HX1.out
        have x2 : wx.cell? ⟨w.heap.size + 1, 2, none⟩ = some (.int .i64 (fv (best t a (k + 1)))) := cell_of_row wx (w.heap.size + 1) 2 _ 36 (0, 0) HX1.out
        have p0 : wx.cell? ⟨w.heap.size, 0, none⟩ = some (.int .u32 0) := cell_of_row wx w.heap.size 0 _ 36 (0, 0) HX0.out
        have p1 : wx.cell? ⟨w.heap.size, 1, none⟩ = some (.int .i64 0) := cell_of_row wx w.heap.size 1 _ 36 (0, 0) HX0.out
        have p2 : wx.cell? ⟨w.heap.size, 2, none⟩ = some (.int .i64 0) := cell_of_row wx w.heap.size 2 _ 36 (0, 0) HX0.out
        have f0 : ∀ o, wx.frozen? ⟨w.heap.size, o, none⟩ = false := fun o => by simp [World.frozen?, HX0.out]
        obtain ⟨c0, c1, c2, c3⟩ := cell_node hsx
        have hgl := World.block_lt_of_cell? wx _ c0
        simp only at hgl
        have hxl : w.heap.size + 1 < wx.heap.size := (Array.getElem?_eq_some_iff.1 HX1.out).1
        by_cases h32 : k = 32
        · subst h32
          go_wp2_with fail
          have hbk := heap_set3 (y0 := .int .u32 (fa a (best t a (32 + 1)))) (y1 := .int .i64 (fd (best t a (32 + 1)))) (y2 := .int .i64 (fv (best t a (32 + 1)))) HX0.out
          have hBy : Below w.heap.size w (((wx.setCell ⟨w.heap.size, 0, none⟩ (.int .u32 (fa a (best t a (32 + 1))))).setCell ⟨w.heap.size, 1, none⟩ (.int .i64 (fd (best t a (32 + 1))))).setCell ⟨w.heap.size, 2, none⟩ (.int .i64 (fv (best t a (32 + 1))))) := ((HXB.out.setCell (p := ⟨w.heap.size, 0, none⟩) (Nat.le_refl _) _).setCell (p := ⟨w.heap.size, 1, none⟩) (Nat.le_refl _) _).setCell (p := ⟨w.heap.size, 2, none⟩) (Nat.le_refl _) _
          generalize (((wx.setCell ⟨w.heap.size, 0, none⟩ (.int .u32 (fa a (best t a (32 + 1))))).setCell ⟨w.heap.size, 1, none⟩ (.int .i64 (fd (best t a (32 + 1))))).setCell ⟨w.heap.size, 2, none⟩ (.int .i64 (fv (best t a (32 + 1))))) = wy at hbk hBy ⊢
          have y0 : wy.cell? ⟨w.heap.size, 0, none⟩ = _ := cell_of_row wy w.heap.size 0 _ 36 (0, 0) hbk
          have y1 : wy.cell? ⟨w.heap.size, 1, none⟩ = _ := cell_of_row wy w.heap.size 1 _ 36 (0, 0) hbk
          have y2 : wy.cell? ⟨w.heap.size, 2, none⟩ = _ := cell_of_row wy w.heap.size 2 _ 36 (0, 0) hbk
          simp only [List.getElem?_toArray, List.getElem?_cons_zero, List.getElem?_cons_succ] at y0 y1 y2
          exact bodyPost_ret (v := .tuple #[.agg #[.int .u32 (fa a (best t a (32 + 1))), .int .i64 (fd (best t a (32 + 1))), .int .i64 (fv (best t a (32 + 1)))], .bool (best t a (32 + 1)).isSome]) (by simp [results, Tryd.results26, go_sem, y0, y1, y2]) rfl ⟨rfl, hBy⟩
        · have h32b : ((k : Int) == 32) = false := by rw [beq_eq_false_iff_ne]; omega
          cases hbit : bitB a k with
          | false =>
            rw [hbit] at HN
            have Hb := Lib.hid hbit
            clear hbit
            go_wp2_with fail
            go_quiet ((go_at_call 80; exact Calls.quiet_of_same (bit_false a k _ ha (by omega) Hb.out)))
            go_wp2_with fail
            go_roundw
            case rel => exact ⟨k + 1, by omega, by go_num, by rw [HN.out]; rfl, rfl, below_drewN HXB.out _, HX0.out, HX1.out⟩
            case measure => simp [intOf]; omega
          | true =>
            rw [hbit] at HN
            have Hb := Lib.hid hbit
            clear hbit
            go_wp2_with fail
            go_quiet ((go_at_call 80; exact Calls.quiet_of_same (bit_true a k _ ha (by omega) Hb.out)))
            go_wp2_with fail
            go_roundw
            case rel => exact ⟨k + 1, by omega, by go_num, by rw [HN.out]; rfl, rfl, below_drewN HXB.out _, HX0.out, HX1.out⟩
            case measure => simp [intOf]; omega
      | true =>
        have hbe : best t a (k + 1) = some (k, v) := by rw [HBK.out]; rfl
        have hand := and_mask a k ha (by omega)
        generalize hM : maskOf (k : Int) = M at hand
        have HM := Lib.hid hM
        have HA := Lib.hid hand
        have HBE := Lib.hid hbe
        clear hM hand hbe
        go_upto_region 10 with (go_at_call 79; refine (mask_good k _ (by omega) (by omega)).mono ?_; rw [HM.out]; rintro e w' ⟨rfl, rfl⟩)
        rw [HA.out]
        have hb1' := heap_set3 (y0 := .int .u32 ((a / sz (k : Int) * sz (k : Int) : Nat) : Int)) (y1 := .int .i64 (k : Int)) (y2 := .int .i64 v) HB1.out
        have hb0' := (heap_far3 (w := wr) (g := w.heap.size + 1) (g' := w.heap.size) (y0 := .int .u32 ((a / sz (k : Int) * sz (k : Int) : Nat) : Int)) (y1 := .int .i64 (k : Int)) (y2 := .int .i64 v) (by omega)).trans HB0.out
        have hsx : Rep (((wr.setCell ⟨w.heap.size + 1, 0, none⟩ (.int .u32 ((a / sz (k : Int) * sz (k : Int) : Nat) : Int))).setCell ⟨w.heap.size + 1, 1, none⟩ (.int .i64 (k : Int))).setCell ⟨w.heap.size + 1, 2, none⟩ (.int .i64 v)) (.node g l r v true) := by
          have hd : w.heap.size + 1 ∉ (AT.dom (.node g l r v true)) := by
            have : Rep w (t.sub (path a k)) := HT.out.rep.sub _
            rw [HZ.out] at this
            intro hx
            have := this.lt _ hx
            omega
          exact ((hs.far (q := ⟨w.heap.size + 1, 0, none⟩) hd _).far (q := ⟨w.heap.size + 1, 1, none⟩) hd _).far (q := ⟨w.heap.size + 1, 2, none⟩) hd _
        have hBx : Below w.heap.size w (((wr.setCell ⟨w.heap.size + 1, 0, none⟩ (.int .u32 ((a / sz (k : Int) * sz (k : Int) : Nat) : Int))).setCell ⟨w.heap.size + 1, 1, none⟩ (.int .i64 (k : Int))).setCell ⟨w.heap.size + 1, 2, none⟩ (.int .i64 v)) := ((hB.setCell (p := ⟨w.heap.size + 1, 0, none⟩) (by simp) _).setCell (p := ⟨w.heap.size + 1, 1, none⟩) (by simp) _).setCell (p := ⟨w.heap.size + 1, 2, none⟩) (by simp) _
        generalize (((wr.setCell ⟨w.heap.size + 1, 0, none⟩ (.int .u32 ((a / sz (k : Int) * sz (k : Int) : Nat) : Int))).setCell ⟨w.heap.size + 1, 1, none⟩ (.int .i64 (k : Int))).setCell ⟨w.heap.size + 1, 2, none⟩ (.int .i64 v)) = wx at hb1' hb0' hsx hBx ⊢
        rw [show ((a / sz (k : Int) * sz (k : Int) : Nat) : Int) = fa a (best t a (k + 1)) by rw [HBE.out]; rfl, show (Value.int .i64 (k : Int)) = .int .i64 (fd (best t a (k + 1))) by rw [HBE.out]; rfl, show (Value.int .i64 v) = .int .i64 (fv (best t a (k + 1))) by rw [HBE.out]; rfl] at hb1'
        have HX0 := Lib.hid hb0'
        have HX1 := Lib.hid hb1'
        have HXB := Lib.hid hBx
        have hsome : true = (best t a (k + 1)).isSome := by rw [HBE.out]; rfl
        have HSM := Lib.hid hsome
        clear c0 c1 c2 c3 d0 d1 d2 r0 r1 r2 e0 e1 hgl hB hb0' hb1' hBx hsome
        have x0 : wx.cell? ⟨w.heap.size + 1, 0, none⟩ = some (.int .u32 (fa a (best t a (k + 1)))) := cell_of_row wx (w.heap.size + 1) 0 _ 36 (0, 0) HX1.out
        have x1 : wx.cell? ⟨w.heap.size + 1, 1, none⟩ = some (.int .i64 (fd (best t a (k + 1)))) := cell_of_row wx (w.heap.size + 1) 1 _ 36 (0, 0) HX1.out
        have x2 : wx.cell? ⟨w.heap.size + 1, 2, none⟩ = some (.int .i64 (fv (best t a (k + 1)))) := cell_of_row wx (w.heap.size + 1) 2 _ 36 (0, 0) HX1.out
        have p0 : wx.cell? ⟨w.heap.size, 0, none⟩ = some (.int .u32 0) := cell_of_row wx w.heap.size 0 _ 36 (0, 0) HX0.out
        have p1 : wx.cell? ⟨w.heap.size, 1, none⟩ = some (.int .i64 0) := cell_of_row wx w.heap.size 1 _ 36 (0, 0) HX0.out
        have p2 : wx.cell? ⟨w.heap.size, 2, none⟩ = some (.int .i64 0) := cell_of_row wx w.heap.size 2 _ 36 (0, 0) HX0.out
        have f0 : ∀ o, wx.frozen? ⟨w.heap.size, o, none⟩ = false := fun o => by simp [World.frozen?, HX0.out]
        obtain ⟨c0, c1, c2, c3⟩ := cell_node hsx
        have hgl := World.block_lt_of_cell? wx _ c0
        simp only at hgl
        have hxl : w.heap.size + 1 < wx.heap.size := (Array.getElem?_eq_some_iff.1 HX1.out).1
        by_cases h32 : k = 32
        · subst h32
          go_wp2_with fail
          have hbk := heap_set3 (y0 := .int .u32 (fa a (best t a (32 + 1)))) (y1 := .int .i64 (fd (best t a (32 + 1)))) (y2 := .int .i64 (fv (best t a (32 + 1)))) HX0.out
          have hBy : Below w.heap.size w (((wx.setCell ⟨w.heap.size, 0, none⟩ (.int .u32 (fa a (best t a (32 + 1))))).setCell ⟨w.heap.size, 1, none⟩ (.int .i64 (fd (best t a (32 + 1))))).setCell ⟨w.heap.size, 2, none⟩ (.int .i64 (fv (best t a (32 + 1))))) := ((HXB.out.setCell (p := ⟨w.heap.size, 0, none⟩) (Nat.le_refl _) _).setCell (p := ⟨w.heap.size, 1, none⟩) (Nat.le_refl _) _).setCell (p := ⟨w.heap.size, 2, none⟩) (Nat.le_refl _) _
          generalize (((wx.setCell ⟨w.heap.size, 0, none⟩ (.int .u32 (fa a (best t a (32 + 1))))).setCell ⟨w.heap.size, 1, none⟩ (.int .i64 (fd (best t a (32 + 1))))).setCell ⟨w.heap.size, 2, none⟩ (.int .i64 (fv (best t a (32 + 1))))) = wy at hbk hBy ⊢
          have y0 : wy.cell? ⟨w.heap.size, 0, none⟩ = _ := cell_of_row wy w.heap.size 0 _ 36 (0, 0) hbk
          have y1 : wy.cell? ⟨w.heap.size, 1, none⟩ = _ := cell_of_row wy w.heap.size 1 _ 36 (0, 0) hbk
          have y2 : wy.cell? ⟨w.heap.size, 2, none⟩ = _ := cell_of_row wy w.heap.size 2 _ 36 (0, 0) hbk
          simp only [List.getElem?_toArray, List.getElem?_cons_zero, List.getElem?_cons_succ] at y0 y1 y2
          exact bodyPost_ret (v := .tuple #[.agg #[.int .u32 (fa a (best t a (32 + 1))), .int .i64 (fd (best t a (32 + 1))), .int .i64 (fv (best t a (32 + 1)))], .bool true]) (by simp [results, Tryd.results26, go_sem, y0, y1, y2]) rfl ⟨by rw [show best t a 33 = best t a (32 + 1) from rfl, ← HSM.out], hBy⟩
        · have h32b : ((k : Int) == 32) = false := by rw [beq_eq_false_iff_ne]; omega
          cases hbit : bitB a k with
          | false =>
            rw [hbit] at HN
            have Hb := Lib.hid hbit
            clear hbit
            go_wp2_with fail
            go_quiet ((go_at_call 80; exact Calls.quiet_of_same (bit_false a k _ ha (by omega) Hb.out)))
            go_wp2_with fail
            go_roundw
            case rel => exact ⟨k + 1, by omega, by go_num, by rw [HN.out]; rfl, by rw [HSM.out], below_drewN HXB.out _, HX0.out, HX1.out⟩
            case measure => simp [intOf]; omega
          | true =>
            rw [hbit] at HN
            have Hb := Lib.hid hbit
            clear hbit
            go_wp2_with fail
            go_quiet ((go_at_call 80; exact Calls.quiet_of_same (bit_true a k _ ha (by omega) Hb.out)))
            go_wp2_with fail
            go_roundw
            case rel => exact ⟨k + 1, by omega, by go_num, by rw [HN.out]; rfl, by rw [HSM.out], below_drewN HXB.out _, HX0.out, HX1.out⟩
            case measure => simp [intOf]; omega
end Go.Proofs.YtaknlphmplimhaaDoor
