/- The walk of (*trie.node).list: the entries of a subtrie are appended in order; a trie that the world holds below the row that is appended to. -/
import Derived.Test.YtaknlphmplimhaaDoorEn
import Derived.Test.YtaknlphmplimhaaDoorPa
import Derived.Deep.RegionHeld3
import Derived.Deep.AppendLies
import Derived.Deep.RegionWith
import Derived.Laws.Pointers
import Derived.StillTailTactics
import Derived.Maps.Range
import Derived.Maps.AppendAt
import Derived.Lib.HexFns2
set_option linter.unusedVariables false
set_option linter.unusedSimpArgs false
namespace Go.Proofs.YtaknlphmplimhaaDoor
open Go.RowKit Go.Proofs AT
theorem grown_step {a b c : World} {r1 r2 : Option Nat} (h : a.grownBy b r1) (k : b.grownBy c r2) (hs : ∀ j, r2 = some j → a.heap.size ≤ j ∨ r1 = some j) : a.grownBy c r1 :=
  ⟨k.os.trans h.os, k.tape.trans h.tape, k.output.trans h.output, Nat.le_trans h.size k.size, fun i hi hne => (k.block i (Nat.lt_of_lt_of_le hi h.size) (fun e => by
    rcases hs i e.symm with g | g
    · omega
    · exact hne g.symm)).trans (h.block i hi hne)⟩
theorem high_val (a d : Nat) (hV : Val a d) (hd : d < 32) : bits .or .u32 (a : Int) (IntKind.u32.wrap (2 ^ (31 - d))) = ((a + 2 ^ (31 - d) : Nat) : Int) := by
  have hc := (Val_chk hV.1).1 hV
  have e : sz ((d : Int) + 1) = 2 ^ (31 - d) := by unfold sz; rw [show (32 - ((d : Int) + 1)).toNat = 31 - d by omega]
  have hl : 2 ^ (31 - d) ≤ 2 ^ 31 := Nat.pow_le_pow_right (by decide) (by omega)
  have e2 : IntKind.u32.wrap (2 ^ (31 - d)) = ((2 ^ (31 - d) : Nat) : Int) := by
    rw [show ((2 : Int) ^ (31 - d)) = ((2 ^ (31 - d) : Nat) : Int) by rw [Int.natCast_pow]; rfl]
    generalize 2 ^ (31 - d) = n at hl
    have e : (n : Int) % 2 ^ 32 = n := Int.emod_eq_of_lt (by omega) (by omega)
    simp only [IntKind.wrap, IntKind.bits, IntKind.signed, e]
    simp
  rw [e2, u32_or_nat a _ hV.1 (by omega), ← e, or_half hV.1 hc (by omega)]
theorem high_val2 (a d : Nat) (hV : Val a d) (hd : d < 32) : bits .or .u32 (a : Int) (2 ^ (31 - d) % 4294967296) = ((a + 2 ^ (31 - d) : Nat) : Int) := by
  rw [← high_val a d hV hd]
  have hl : 2 ^ (31 - d) ≤ 2 ^ 31 := Nat.pow_le_pow_right (by decide) (by omega)
  rw [show ((2 : Int) ^ (31 - d)) = ((2 ^ (31 - d) : Nat) : Int) by rw [Int.natCast_pow]; rfl]
  generalize 2 ^ (31 - d) = n at hl
  congr 1
theorem info36 : (Tryd.prog.info? 36).map (fun i => (i.zero, i.size, i.bytes)) = some (some (.agg #[.int .u32 0, .int .i64 0, .int .i64 0]), 3, 24) := by kernel_rfl
/-- The cells of an entry. -/
def cell3 (e : En) : List Value := [.int .u32 e.a, .int .i64 e.b, .int .i64 e.v]
/-- The world owns the entries in a row of its own. -/
def RowE (base : Nat) (w : World) (ov : Value) (es : List En) : Prop := w.ownsRow base 36 3 ov es.length (es.flatMap cell3)
theorem RowE.grow {base : Nat} {w w' : World} {ov : Value} {es : List En} (h : RowE base w ov es) (hb : ∀ k, ov.ownBlock = some k → w'.heap[k]? = w.heap[k]?) : RowE base w' ov es := by
  refine ⟨h.1, ?_⟩
  rcases h.2 with hn | ⟨g, cap, cur, hv, h1, h2, rest⟩
  · exact .inl hn
  · exact .inr ⟨g, cap, cur, hv, h1, (hb g (by rw [hv]; rfl)).trans h2, rest⟩
theorem RowE.lt {base : Nat} {w : World} {ov : Value} {es : List En} (h : RowE base w ov es) : ∀ k, ov.ownBlock = some k → base ≤ k ∧ k < w.heap.size := World.ownsRow.lt h
def ListPost (base : Nat) (w : World) (ov : Value) (es : List En) (e : Ending) (w' : World) : Prop :=
  ∃ ov', e = .returned ov' ∧ RowE base w' ov' es ∧ w.grownBy w' ov.ownBlock ∧ ∀ j, ov'.ownBlock = some j → w.heap.size ≤ j ∨ ov.ownBlock = some j
theorem Rep.grownBy {w w' : World} {t : AT} {row : Option Nat} (h : Rep w t) (hg : w.grownBy w' row) (hd : ∀ x ∈ t.dom, some x ≠ row) : Rep w' t := h.keep fun b hb => hg.block b (h.lt b hb) (hd b hb)
set_option maxRecDepth 100000 in
set_option maxHeartbeats 3200000 in
theorem list_any (base : Nat) : ∀ (t : AT) (a d : Nat) (w : World) (ov : Value) (es : List En), Val a d → Rep w t → (∀ x ∈ t.dom, x < base) → base ≤ w.heap.size → RowE base w ov es → es.length + (ents t a d).length ≤ 1000000 →
    Calls Tryd.prog 83 #[t.ptr, .agg #[.int .u32 a, .int .i64 d], ov] w (ListPost base w ov (es ++ ents t a d)) := by
  intro t
  induction t with
  | nil =>
    intro a d w ov es hV hr hd hb hown hlen
    rw [ptr_nil]
    have HO := Lib.hid hown
    clear hown
    go_enter Tryd.func83, Tryd.ntmps83
    go_wp2_with fail
    go_ret
    refine ⟨ov, rfl, ?_, World.grownBy_alloc _ _ _, fun j hj => .inr hj⟩
    · simp only [ents, List.append_nil]
      exact HO.out.grow fun k hk => heap_alloc_old w _ (HO.out.lt k hk).2
  | node g l r v h ihl ihr =>
    intro a d w ov es hV hr hdm hb hown hlen
    obtain ⟨i0, hi0, hz0, hz1, hz2⟩ := info_parts info36
    obtain ⟨c0, c1, c2, c3⟩ := cell_node hr
    have hgl := World.block_lt_of_cell? w _ c0
    simp only at hgl
    have hgb : g < base := hdm g (by simp [dom])
    have HO := Lib.hid hown
    have HR := Lib.hid hr
    have HV := Lib.hid hV
    have HL := Lib.hid hlen
    have HD := Lib.hid hdm
    have HIL := Lib.hid ihl
    have HIR := Lib.hid ihr
    have hd32 := hV.2.1
    have ha32 := hV.1
    have hn : es.length + 1 ≤ maxLen := by simp only [maxLen]; omega
    have hbt : (es.length + 1) * 24 ≤ 140737488355328 := by omega
    have ag : ov.ownBlock ≠ some g := fun h => by have := (hown.lt g h).1; omega
    have ab : ov.ownBlock ≠ some w.heap.size := fun h => by have := (hown.lt _ h).2; omega
    clear hown hr hV hlen hdm ihl ihr
    rw [ptr_node]
    have hbx := heap_alloc_new w (.cells #[.int .u32 a, .int .i64 d] 25)
    have hG1 : w.grownBy (w.alloc (.cells #[.int .u32 a, .int .i64 d] 25)) ov.ownBlock := World.grownBy_alloc _ _ _
    have hs1 : w.heap.size < (w.alloc (.cells #[.int .u32 a, .int .i64 d] 25)).heap.size := by simp
    have hown1 : RowE base (w.alloc (.cells #[.int .u32 a, .int .i64 d] 25)) ov es := HO.out.grow fun k hk => heap_alloc_old w _ (HO.out.lt k hk).2
    have hk0 := hG1.cell_far ⟨g, 0, none⟩ hgl (Ne.symm ag)
    have hk1 := hG1.cell_far ⟨g, 1, none⟩ hgl (Ne.symm ag)
    have hk2 := hG1.cell_far ⟨g, 2, none⟩ hgl (Ne.symm ag)
    have HBX := Lib.hid hbx
    have HG1 := Lib.hid hG1
    have HOW := Lib.hid hown1
    have HK0 := Lib.hid (hk0.trans c0)
    have HK1 := Lib.hid (hk1.trans c1)
    have HK2 := Lib.hid (hk2.trans c2)
    have HS1 := Lib.hid hs1
    clear hbx hG1 hs1 hown1 hk0 hk1 hk2
    cases h with
    | true =>
      go_enter Tryd.func83, Tryd.ntmps83
      go_wp2_with fail
      have hs1 := HS1.out
      clear c0 c1 c2 c3
      generalize (w.alloc (.cells #[.int .u32 a, .int .i64 d] 25)) = w1 at HBX HG1 HOW HK0 HK1 HK2 HS1 hs1 ⊢
      have k2 := HK2.out
      have p0 : w1.cell? ⟨w.heap.size, 0, none⟩ = some (.int .u32 a) := cell_of_row w1 w.heap.size 0 _ 25 (0, 0) HBX.out
      have p1 : w1.cell? ⟨w.heap.size, 1, none⟩ = some (.int .i64 d) := cell_of_row w1 w.heap.size 1 _ 25 (0, 0) HBX.out
      go_region_held3 (fun w' => w'.cell? ⟨w.heap.size, 0, none⟩ = some (.int .u32 a) ∧ w'.cell? ⟨w.heap.size, 1, none⟩ = some (.int .i64 d) ∧ w'.cell? ⟨g, 2, none⟩ = some (.int .i64 v))
        (first
          | go_keep
          | (go_split_ands
             refine ⟨?_, ?_, ?_⟩
             · (rw [hgrow.cell_far _ (by simp; omega) (Ne.symm ab)]; assumption)
             · (rw [hgrow.cell_far _ (by simp; omega) (Ne.symm ab)]; assumption)
             · (rw [hgrow.cell_far _ (by simp; omega) (Ne.symm ag)]; assumption)))
        ((refine step_append_lies _ (by rfl) _ _ _ (by rfl) base 36 i0 _ 3 24 Tryd.underlying22 hi0 hz0 hz1 hz2 rfl (by omega) ov es.length (es.flatMap cell3) (by rfl) ((World.ownsRow.alloc HOW.out _).drew)
            ⟨w1.heap.size, 0, none⟩ 1 1 [.int .u32 a, .int .i64 d, .int .i64 v] (by rfl) (by rfl) (World.news_of_block (cs := #[.int .u32 a, .int .i64 d, .int .i64 v]) (t := 36) (fr := (0, 0)) (heap_alloc_new w1 _)) (by simp [Value.oneCell'])
            (by omega) hn hbt (by simp; omega) (w1.heap.size + 1) (by simp) ?_; intro gg cap w2 hown2 hgrow hat hlt))
      clear k2 p0 p1
      have hrow2 : RowE base w2 (.slice (some ⟨gg, 0, none⟩) (es.length + 1) cap) (es ++ [⟨a, d, v⟩]) := by
        unfold RowE
        rw [List.length_append, List.flatMap_append]
        exact hown2
      have hg2 : w1.grownBy w2 ov.ownBlock := (Lib.Hx.grownBy_drew (World.grownBy_alloc w1 _ _)).trans hgrow
      have hat2 : ∀ j, (Value.slice (some ⟨gg, 0, none⟩) (es.length + 1) cap).ownBlock = some j → w1.heap.size ≤ j ∨ ov.ownBlock = some j := by
        intro j hj
        obtain rfl : gg = j := by simpa [Value.ownBlock] using hj
        rcases hat with h1 | h1
        · exact .inr h1
        · exact .inl (by omega)
      have he2 : ents (.node g l r v true) a d = [⟨a, d, v⟩] ++ (if d = 32 then [] else ents l a (d + 1) ++ ents r (a + 2 ^ (31 - d)) (d + 1)) := rfl
      clear hown2 hgrow hat hlt
      have hes2 : es ++ ents (.node g l r v true) a d = (es ++ [⟨a, d, v⟩]) ++ (if d = 32 then [] else ents l a (d + 1) ++ ents r (a + 2 ^ (31 - d)) (d + 1)) := by rw [he2, List.append_assoc]
      generalize (Value.slice (some ⟨gg, 0, none⟩) (es.length + 1) cap) = ov2 at hrow2 hat2 ⊢
      generalize es ++ [⟨a, d, v⟩] = es2 at hrow2 hes2
      have ag2 : ov2.ownBlock ≠ some g := fun h => by rcases hat2 g h with h1 | h1; omega; exact ag h1
      have ab2 : ov2.ownBlock ≠ some w.heap.size := fun h => by rcases hat2 _ h with h1 | h1; omega; exact ab h1
      have hbb : w2.heap[w.heap.size]? = some (.cells #[.int .u32 a, .int .i64 d] 25 (0, 0)) := (hg2.block _ hs1 (Ne.symm ab)).trans HBX.out
      have q0 : w2.cell? ⟨w.heap.size, 0, none⟩ = some (.int .u32 a) := cell_of_row w2 w.heap.size 0 _ 25 (0, 0) hbb
      have q1 : w2.cell? ⟨w.heap.size, 1, none⟩ = some (.int .i64 d) := cell_of_row w2 w.heap.size 1 _ 25 (0, 0) hbb
      have m0 : w2.cell? ⟨g, 0, none⟩ = some l.ptr := (hg2.cell_far ⟨g, 0, none⟩ (by simp; omega) (Ne.symm ag)).trans HK0.out
      have m1 : w2.cell? ⟨g, 1, none⟩ = some r.ptr := (hg2.cell_far ⟨g, 1, none⟩ (by simp; omega) (Ne.symm ag)).trans HK1.out
      have hw2 : w.heap.size < w2.heap.size := Nat.lt_of_lt_of_le hs1 hg2.size
      have HG2 := Lib.hid (HG1.out.trans hg2)
      have HA2 := Lib.hid (show ∀ j, ov2.ownBlock = some j → w.heap.size ≤ j ∨ ov.ownBlock = some j from fun j hj => (hat2 j hj).imp (fun h => by omega) id)
      have HE2 := Lib.hid hes2
      have HR2 := Lib.hid hrow2
      have HBB := Lib.hid hbb
      have HRL := Lib.hid (show Rep w2 l from ((Rep.grownBy HR.out HG1.out (fun x hx h => by have := (HO.out.lt x h.symm).1; have := HD.out x hx; omega)).grownBy hg2 (fun x hx h => by have := (HO.out.lt x h.symm).1; have := HD.out x hx; omega)).2.1)
      have HRR := Lib.hid (show Rep w2 r from ((Rep.grownBy HR.out HG1.out (fun x hx h => by have := (HO.out.lt x h.symm).1; have := HD.out x hx; omega)).grownBy hg2 (fun x hx h => by have := (HO.out.lt x h.symm).1; have := HD.out x hx; omega)).2.2)
      clear hg2 hat2 hes2 hrow2 hbb HG1 HOW HK0 HK1 HK2 HBX
      by_cases hd : d = 32
      · have hdd : ((d : Int) == 32) = true := by simp [hd]
        go_wp2_with fail
        go_ret
        refine ⟨ov2, rfl, ?_, HG2.out, HA2.out⟩
        rw [HE2.out, if_pos hd, List.append_nil]
        exact HR2.out
      · have hdd : ((d : Int) == 32) = false := by rw [beq_eq_false_iff_ne]; omega
        go_wp2_with fail
        have hwr : IntKind.i64.wrap ((d : Int) + 1) = (d : Int) + 1 := IntWalk.i64_in _ (by omega)
        have hVL := HV.out.left (by omega : d < 32)
        have hVR := HV.out.right (by omega : d < 32)
        have IHL := Lib.hid (show ∀ W, Rep W l → base ≤ W.heap.size → RowE base W ov2 es2 → Calls Tryd.prog 83 #[l.ptr, .agg #[.int .u32 a, .int .i64 ((d : Int) + 1)], ov2] W (ListPost base W ov2 (es2 ++ ents l a (d + 1))) from fun W h1 h2 h3 => by
          have := HIL.out a (d + 1) W ov2 es2 hVL h1 (fun x hx => HD.out x (by simp [dom, hx])) h2 h3 (by have := HL.out; have e := congrArg List.length HE2.out; rw [if_neg hd] at e; simp only [List.length_append] at e; omega)
          rw [show ((d + 1 : Nat) : Int) = (d : Int) + 1 by omega] at this
          exact this)
        clear HIL hVL
        refine still_tail 12 (by kernel_rfl) (by kernel_rfl) ?_
        simp only [List.take_succ_cons, List.take_zero, List.drop_succ_cons, List.drop_zero]
        iterate 12 still_step
        refine wpStill_nil ?_
        go_wp2_with fail
        refine (IHL.out w2.drew (HRL.out.keep (fun _ _ => rfl)) (by show base ≤ w2.heap.size; omega) (HR2.out.grow (fun _ _ => rfl))).mono ?_
        rintro e w3 ⟨ov3, rfl, hrow3, hg3, hat3⟩
        have f0 : w3.cell? ⟨w.heap.size, 0, none⟩ = some (.int .u32 a) := (hg3.cell_far ⟨w.heap.size, 0, none⟩ hw2 (Ne.symm ab2)).trans q0
        have f1 : w3.cell? ⟨w.heap.size, 1, none⟩ = some (.int .i64 d) := (hg3.cell_far ⟨w.heap.size, 1, none⟩ hw2 (Ne.symm ab2)).trans q1
        have f2 : w3.cell? ⟨g, 1, none⟩ = some r.ptr := (hg3.cell_far ⟨g, 1, none⟩ (by simp; omega) (Ne.symm ag2)).trans m1
        have HROW3 := Lib.hid hrow3
        have HG3 := Lib.hid hg3
        have HAT3 := Lib.hid hat3
        clear hrow3 hg3 hat3
        go_wp2_with fail
        have hd31 : d ≤ 31 := by omega
        have hwd : IntKind.i64.wrap (31 - (d : Int)) = 31 - (d : Int) := IntWalk.i64_in _ (by omega)
        refine still_tail 17 (by kernel_rfl) (by kernel_rfl) ?_
        simp only [List.take_succ_cons, List.take_zero, List.drop_succ_cons, List.drop_zero]
        iterate 17 still_step
        refine wpStill_nil ?_
        have hsz3 : w2.heap.size ≤ w3.heap.size := HG3.out.size
        have HHV := Lib.hid (high_val2 a d HV.out (by omega))
        have IHR := Lib.hid (show Calls Tryd.prog 83 #[r.ptr, .agg #[.int .u32 ((a + 2 ^ (31 - d) : Nat) : Int), .int .i64 ((d : Int) + 1)], ov3] w3.drew (ListPost base w3.drew ov3 ((es2 ++ ents l a (d + 1)) ++ ents r (a + 2 ^ (31 - d)) (d + 1))) from by
          have h2 := (HRR.out.keep (w' := w2.drew) (fun _ _ => rfl)).grownBy HG3.out (fun x hx h => by have h3 := (HR2.out.lt x h.symm).1; have := HD.out x (by simp [dom, hx]); omega)
          have := HIR.out (a + 2 ^ (31 - d)) (d + 1) w3.drew ov3 (es2 ++ ents l a (d + 1)) hVR (h2.keep (fun _ _ => rfl)) (fun x hx => HD.out x (by simp [dom, hx])) (by show base ≤ w3.heap.size; omega) (HROW3.out.grow (fun _ _ => rfl)) (by have := HL.out; have e := congrArg List.length HE2.out; rw [if_neg hd] at e; simp only [List.length_append] at e ⊢; omega)
          rw [show ((d + 1 : Nat) : Int) = (d : Int) + 1 by omega] at this
          exact this)
        clear HIR hVR
        go_wp2_with fail
        rw [HHV.out]
        refine IHR.out.mono ?_
        rintro e w4 ⟨ov4, rfl, hrow4, hg4, hat4⟩
        have HROW4 := Lib.hid hrow4
        have HG4 := Lib.hid hg4
        have HAT4 := Lib.hid hat4
        clear hrow4 hg4 hat4
        go_wp2_with fail
        go_ret
        have A3 : ∀ j, ov3.ownBlock = some j → w.heap.size ≤ j ∨ ov.ownBlock = some j := fun j hj => by
          rcases HAT3.out j hj with h | h
          · left; have : w2.heap.size ≤ j := h; omega
          · exact HA2.out j h
        refine ⟨ov4, rfl, ?_, grown_step (grown_step HG2.out ⟨HG3.out.os, HG3.out.tape, HG3.out.output, HG3.out.size, HG3.out.block⟩ HA2.out) ⟨HG4.out.os, HG4.out.tape, HG4.out.output, HG4.out.size, HG4.out.block⟩ A3, fun j hj => ?_⟩
        · rw [HE2.out, if_neg hd, ← List.append_assoc]
          exact HROW4.out
        · rcases HAT4.out j hj with h | h
          · left; have : w3.heap.size ≤ j := h; omega
          · exact A3 j h
    | false =>
      go_enter Tryd.func83, Tryd.ntmps83
      go_upto_region 5 with (fail)
      have hs1 := HS1.out
      clear c0 c1 c2 c3
      generalize (w.alloc (.cells #[.int .u32 a, .int .i64 d] 25)) = w1 at HBX HG1 HOW HK0 HK1 HK2 HS1 hs1 ⊢
      have hrow2 : RowE base w1 ov es := HOW.out
      have hg2 : w1.grownBy w1 ov.ownBlock := World.grownBy.refl _ _
      have hat2 : ∀ j, ov.ownBlock = some j → w1.heap.size ≤ j ∨ ov.ownBlock = some j := fun j hj => .inr hj
      have hes2 : es ++ ents (.node g l r v false) a d = es ++ (if d = 32 then [] else ents l a (d + 1) ++ ents r (a + 2 ^ (31 - d)) (d + 1)) := rfl
      skip
      have ag2 : ov.ownBlock ≠ some g := fun h => by rcases hat2 g h with h1 | h1; omega; exact ag h1
      have ab2 : ov.ownBlock ≠ some w.heap.size := fun h => by rcases hat2 _ h with h1 | h1; omega; exact ab h1
      have hbb : w1.heap[w.heap.size]? = some (.cells #[.int .u32 a, .int .i64 d] 25 (0, 0)) := (hg2.block _ hs1 (Ne.symm ab)).trans HBX.out
      have q0 : w1.cell? ⟨w.heap.size, 0, none⟩ = some (.int .u32 a) := cell_of_row w1 w.heap.size 0 _ 25 (0, 0) hbb
      have q1 : w1.cell? ⟨w.heap.size, 1, none⟩ = some (.int .i64 d) := cell_of_row w1 w.heap.size 1 _ 25 (0, 0) hbb
      have m0 : w1.cell? ⟨g, 0, none⟩ = some l.ptr := (hg2.cell_far ⟨g, 0, none⟩ (by simp; omega) (Ne.symm ag)).trans HK0.out
      have m1 : w1.cell? ⟨g, 1, none⟩ = some r.ptr := (hg2.cell_far ⟨g, 1, none⟩ (by simp; omega) (Ne.symm ag)).trans HK1.out
      have hw2 : w.heap.size < w1.heap.size := Nat.lt_of_lt_of_le hs1 hg2.size
      have HG2 := Lib.hid (HG1.out.trans hg2)
      have HA2 := Lib.hid (show ∀ j, ov.ownBlock = some j → w.heap.size ≤ j ∨ ov.ownBlock = some j from fun j hj => (hat2 j hj).imp (fun h => by omega) id)
      have HE2 := Lib.hid hes2
      have HR2 := Lib.hid hrow2
      have HBB := Lib.hid hbb
      have HRL := Lib.hid (show Rep w1 l from ((Rep.grownBy HR.out HG1.out (fun x hx h => by have := (HO.out.lt x h.symm).1; have := HD.out x hx; omega)).grownBy hg2 (fun x hx h => by have := (HO.out.lt x h.symm).1; have := HD.out x hx; omega)).2.1)
      have HRR := Lib.hid (show Rep w1 r from ((Rep.grownBy HR.out HG1.out (fun x hx h => by have := (HO.out.lt x h.symm).1; have := HD.out x hx; omega)).grownBy hg2 (fun x hx h => by have := (HO.out.lt x h.symm).1; have := HD.out x hx; omega)).2.2)
      clear hg2 hat2 hes2 hrow2 hbb HG1 HOW HK0 HK1 HK2 HBX
      by_cases hd : d = 32
      · have hdd : ((d : Int) == 32) = true := by simp [hd]
        go_wp2_with fail
        go_ret
        refine ⟨ov, rfl, ?_, HG2.out, HA2.out⟩
        rw [HE2.out, if_pos hd, List.append_nil]
        exact HR2.out
      · have hdd : ((d : Int) == 32) = false := by rw [beq_eq_false_iff_ne]; omega
        go_wp2_with fail
        have hwr : IntKind.i64.wrap ((d : Int) + 1) = (d : Int) + 1 := IntWalk.i64_in _ (by omega)
        have hVL := HV.out.left (by omega : d < 32)
        have hVR := HV.out.right (by omega : d < 32)
        have IHL := Lib.hid (show ∀ W, Rep W l → base ≤ W.heap.size → RowE base W ov es → Calls Tryd.prog 83 #[l.ptr, .agg #[.int .u32 a, .int .i64 ((d : Int) + 1)], ov] W (ListPost base W ov (es ++ ents l a (d + 1))) from fun W h1 h2 h3 => by
          have := HIL.out a (d + 1) W ov es hVL h1 (fun x hx => HD.out x (by simp [dom, hx])) h2 h3 (by have := HL.out; have e := congrArg List.length HE2.out; rw [if_neg hd] at e; simp only [List.length_append] at e; omega)
          rw [show ((d + 1 : Nat) : Int) = (d : Int) + 1 by omega] at this
          exact this)
        clear HIL hVL
        refine still_tail 12 (by kernel_rfl) (by kernel_rfl) ?_
        simp only [List.take_succ_cons, List.take_zero, List.drop_succ_cons, List.drop_zero]
        iterate 12 still_step
        refine wpStill_nil ?_
        go_wp2_with fail
        refine (IHL.out w1.drew (HRL.out.keep (fun _ _ => rfl)) (by show base ≤ w1.heap.size; omega) (HR2.out.grow (fun _ _ => rfl))).mono ?_
        rintro e w3 ⟨ov3, rfl, hrow3, hg3, hat3⟩
        have f0 : w3.cell? ⟨w.heap.size, 0, none⟩ = some (.int .u32 a) := (hg3.cell_far ⟨w.heap.size, 0, none⟩ hw2 (Ne.symm ab2)).trans q0
        have f1 : w3.cell? ⟨w.heap.size, 1, none⟩ = some (.int .i64 d) := (hg3.cell_far ⟨w.heap.size, 1, none⟩ hw2 (Ne.symm ab2)).trans q1
        have f2 : w3.cell? ⟨g, 1, none⟩ = some r.ptr := (hg3.cell_far ⟨g, 1, none⟩ (by simp; omega) (Ne.symm ag2)).trans m1
        have HROW3 := Lib.hid hrow3
        have HG3 := Lib.hid hg3
        have HAT3 := Lib.hid hat3
        clear hrow3 hg3 hat3
        go_wp2_with fail
        have hd31 : d ≤ 31 := by omega
        have hwd : IntKind.i64.wrap (31 - (d : Int)) = 31 - (d : Int) := IntWalk.i64_in _ (by omega)
        refine still_tail 17 (by kernel_rfl) (by kernel_rfl) ?_
        simp only [List.take_succ_cons, List.take_zero, List.drop_succ_cons, List.drop_zero]
        iterate 17 still_step
        refine wpStill_nil ?_
        have hsz3 : w1.heap.size ≤ w3.heap.size := HG3.out.size
        have HHV := Lib.hid (high_val2 a d HV.out (by omega))
        have IHR := Lib.hid (show Calls Tryd.prog 83 #[r.ptr, .agg #[.int .u32 ((a + 2 ^ (31 - d) : Nat) : Int), .int .i64 ((d : Int) + 1)], ov3] w3.drew (ListPost base w3.drew ov3 ((es ++ ents l a (d + 1)) ++ ents r (a + 2 ^ (31 - d)) (d + 1))) from by
          have h2 := (HRR.out.keep (w' := w1.drew) (fun _ _ => rfl)).grownBy HG3.out (fun x hx h => by have h3 := (HR2.out.lt x h.symm).1; have := HD.out x (by simp [dom, hx]); omega)
          have := HIR.out (a + 2 ^ (31 - d)) (d + 1) w3.drew ov3 (es ++ ents l a (d + 1)) hVR (h2.keep (fun _ _ => rfl)) (fun x hx => HD.out x (by simp [dom, hx])) (by show base ≤ w3.heap.size; omega) (HROW3.out.grow (fun _ _ => rfl)) (by have := HL.out; have e := congrArg List.length HE2.out; rw [if_neg hd] at e; simp only [List.length_append] at e ⊢; omega)
          rw [show ((d + 1 : Nat) : Int) = (d : Int) + 1 by omega] at this
          exact this)
        clear HIR hVR
        go_wp2_with fail
        rw [HHV.out]
        refine IHR.out.mono ?_
        rintro e w4 ⟨ov4, rfl, hrow4, hg4, hat4⟩
        have HROW4 := Lib.hid hrow4
        have HG4 := Lib.hid hg4
        have HAT4 := Lib.hid hat4
        clear hrow4 hg4 hat4
        go_wp2_with fail
        go_ret
        have A3 : ∀ j, ov3.ownBlock = some j → w.heap.size ≤ j ∨ ov.ownBlock = some j := fun j hj => by
          rcases HAT3.out j hj with h | h
          · left; have : w1.heap.size ≤ j := h; omega
          · exact HA2.out j h
        refine ⟨ov4, rfl, ?_, grown_step (grown_step HG2.out ⟨HG3.out.os, HG3.out.tape, HG3.out.output, HG3.out.size, HG3.out.block⟩ HA2.out) ⟨HG4.out.os, HG4.out.tape, HG4.out.output, HG4.out.size, HG4.out.block⟩ A3, fun j hj => ?_⟩
        · rw [HE2.out, if_neg hd, ← List.append_assoc]
          exact HROW4.out
        · rcases HAT4.out j hj with h | h
          · left; have : w3.heap.size ≤ j := h; omega
          · exact A3 j h
end Go.Proofs.YtaknlphmplimhaaDoor
