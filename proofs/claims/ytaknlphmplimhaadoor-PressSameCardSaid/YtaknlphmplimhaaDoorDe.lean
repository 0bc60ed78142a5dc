/- The walks of slices.Clone and IsSortedFunc at entries, and slices.Reverse by the shelf's contract; slices that the world holds. -/
import Derived.Test.YtaknlphmplimhaaDoorCe
import Derived.Deep.RegionHeld3
import Derived.WalkSpells
import Derived.IntWalk
set_option linter.unusedVariables false
set_option linter.unusedSimpArgs false
namespace Go.Proofs.YtaknlphmplimhaaDoor
open Go.RowKit Go.Proofs Go.Shelf Go.Lib Go.Sort
def CloneEPost (w : World) (es : List En) (A : Option Addr) (e : Ending) (w' : World) : Prop := ∃ v, e = .returned v ∧ RowE w.heap.size w' v es ∧ (A ≠ none → v ≠ .slice none 0 0) ∧ Below w.heap.size w w'
set_option maxHeartbeats 1000000 in
theorem cloneE_any (A : Option Addr) (n c : Nat) (es : List En) (w : World) (hR : ReadsE w A n es) (hn : n ≤ 100000) : Calls Tryd.prog 36 #[.slice A n c] w (CloneEPost w es A) := by
  have q22 : ∀ (w : World) (a : Option Addr) (n c n' c' : Nat), (binOp .eql 22 (.slice a n c) (.slice none n' c')).run Tryd.prog w = .ok (.bool a.isNone) w := fun w a n c n' c' => Lib.run_eql_slice_nil w _ _ a n c n' c' Tryd.underlying22
  obtain ⟨i0, hi, hz0, hz1, hz2⟩ := info_parts info36
  have HR := Lib.hid hR
  have hlen := hR.len
  cases A with
  | none =>
    have h0 : n = 0 := by
      rcases Nat.eq_zero_or_pos n with h | h
      · exact h
      · obtain ⟨b, off, e, _⟩ := hR.at_ h; cases e
    have he : es = [] := List.length_eq_zero_iff.1 (by omega)
    subst he
    clear hR hlen
    go_enter Tryd.func36, Tryd.ntmps36
    go_wp2
    go_ret
    exact ⟨_, rfl, ⟨by simp, .inl ⟨rfl, rfl⟩⟩, fun h => absurd rfl h, Below.refl _ _⟩
  | some ad =>
    have HL := Lib.hid hlen
    clear hR hlen
    go_enter Tryd.func36, Tryd.ntmps36
    go_wp2_with (at_builtin
                 refine wpList_append_own _ rfl _ _ 22 rfl w.heap.size 36 i0 (.agg #[.int .u32 0, .int .i64 0, .int .i64 0]) 3 24 Tryd.underlying22 hi hz0 hz1 hz2 rfl (by decide) _ 0 [] rfl (⟨by simp, .inr ⟨w.heap.size, 0, #[], rfl, Nat.le_refl _, heap_alloc_new w _, by omega, by unfold maxLen; omega, by simp, by simp⟩⟩) ad n c (es.flatMap cell3) rfl (by rw [flatE_len, HL.out]) (fun j u hu => by
                   have h := ReadsE.news (ReadsE.below' HR.out ((Below.refl _ _).alloc (Nat.le_refl _) (.cells #[] 36))) j u hu
                   exact h) (oneE es) (by unfold maxLen; omega) (by omega) (by simp) ?_
                 intro v' w3 hown' hgrow3 hnil3
                 clear hi hz0 hz1 hz2 q22)
    go_ret
    refine ⟨v', rfl, ?_, fun _ h => ?_, ((Below.refl _ _).alloc (Nat.le_refl _) _).grown hgrow3 (by simp) (fun j hj => ?_)⟩
    · unfold RowE
      rw [HL.out]
      simpa using hown'
    · have := (hnil3.1 h).1
      cases this
    · have h : some w.heap.size = some j := hj
      simp only [Option.some.injEq] at h
      omega
/-- A row's cells, none frozen. -/
theorem RowE.holds {base g cap : Nat} {w : World} {n : Nat} {es : List En} (h : RowE base w (.slice (some ⟨g, 0, none⟩) n cap) es) : HoldsK cell3 3 w g 0 es.toArray := by
  intro j hj
  rw [size_flatK] at hj
  have hj' : j < es.length * 3 := by simpa using hj
  refine ⟨?_, ?_⟩
  · rw [get_flatK _ _ _ _ (by simpa using hj')]
    rcases h.2 with ⟨e, _⟩ | ⟨g', cap', cur, e, hb, hg, _⟩
    · cases e
    · have hc := World.ownsRow.cells h (g := g) rfl j ((es.flatMap cell3)[j]'(by rw [flatE_len]; exact hj')) (List.getElem?_eq_getElem _)
      rw [Go.WideShapes.add_plain] at hc
      rw [hc]
      congr 1
      have hi : j / 3 < es.length := by omega
      have hf := flatE_at es (j / 3) hi
      rw [show es.toArray[j / 3]! = es[j / 3] from by rw [getElem!_pos _ _ (by simpa using hi)]; simp]
      have hr : j % 3 < 3 := Nat.mod_lt _ (by decide)
      have hx : (es.flatMap cell3)[j]? = some ((cell3 es[j / 3])[j % 3]!) := by
        rcases (show j % 3 = 0 ∨ j % 3 = 1 ∨ j % 3 = 2 by omega) with h | h | h
        · have e := hf.1; rw [show j / 3 * 3 = j by omega] at e; rw [h, e]; rfl
        · have e := hf.2.1; rw [show j / 3 * 3 + 1 = j by omega] at e; rw [h, e]; rfl
        · have e := hf.2.2; rw [show j / 3 * 3 + 2 = j by omega] at e; rw [h, e]; rfl
      rw [List.getElem?_eq_getElem (by rw [flatE_len]; exact hj')] at hx
      simpa using hx
  · rcases h.2 with ⟨e, _⟩ | ⟨g', cap', cur, e, hb, hg, _⟩
    · cases e
    · simp only [Value.slice.injEq, Option.some.injEq, Addr.mk.injEq] at e
      obtain ⟨⟨rfl, _⟩, _⟩ := e
      simp [World.frozen?, hg]
/-- What a row of held cells reads as. -/
theorem readsE_of_holds {w : World} {g : Nat} {es : List En} (h : HoldsK cell3 3 w g 0 es.toArray) (hg : g < w.heap.size) (hm : es.length ≤ 100000) (hsm : ∀ e, e ∈ es → e.a < 4294967296) : ReadsE w (some ⟨g, 0, none⟩) es.length es := by
  refine ⟨rfl, by omega, fun _ => ⟨g, 0, rfl, hg, fun i hi => ?_⟩, hsm⟩
  have hc : ∀ r, r < 3 → w.cell? ⟨g, 0 + i * 3 + r, none⟩ = some ((cell3 es[i])[r]!) := fun r hr => by
    have h1 := (h (i * 3 + r) (by rw [size_flatK]; simp; omega)).1
    rw [get_flatK _ _ _ _ (by simp; omega)] at h1
    rw [show (i * 3 + r) / 3 = i by omega, show (i * 3 + r) % 3 = r by omega] at h1
    rw [show es.toArray[i]! = es[i] from by rw [getElem!_pos _ _ (by simpa using hi)]; simp] at h1
    rw [← Nat.add_assoc] at h1
    exact h1
  exact ⟨hc 0 (by decide), hc 1 (by decide), hc 2 (by decide)⟩
theorem keep_putRowE (w : World) (n g : Nat) (d : Array En) : Kp [g] w (putRowK cell3 3 (Sort.ahead w n) g 0 d) :=
  ⟨rfl, rfl, rfl, by simp [putRowK], fun i hi hne => by
    simp only [List.mem_singleton] at hne
    simp [putRowK, putRow, mapBlock, Array.getElem?_modify, Sort.ahead, Ne.symm hne]⟩
theorem cell1E : ∀ x : En, ∀ v ∈ cell3 x, v.oneCell' = true := by
  intro x v hv
  simp only [cell3, List.mem_cons, List.not_mem_nil, or_false] at hv
  rcases hv with rfl | rfl | rfl <;> rfl
def ReverseEPost (w : World) (g : Nat) (es : List En) (e : Ending) (w' : World) : Prop := e = .returned (.tuple #[]) ∧ HoldsK cell3 3 w' g 0 es.reverse.toArray ∧ Kp [g] w w'
theorem reverseE_any (g cap : Nat) (es : List En) (w : World) (hH : HoldsK cell3 3 w g 0 es.toArray) (hm : es.length ≤ 100000) :
    Calls Tryd.prog 37 #[.slice (some ⟨g, 0, none⟩) es.length cap] w (ReverseEPost w g es) := by
  have := AnyQ.slices_Reverse Sh.reverseE 3 Tryd.isAgg36 Tryd.sizeOf36 cell3 (fun _ => rfl) cell1E g 0 cap es.toArray w hH (by simp; omega)
  have e1 : es.toArray.size = es.length := by simp
  rw [e1] at this
  refine Calls.mono this ?_
  rintro e w' ⟨rfl, n, rfl⟩
  refine ⟨rfl, ?_, keep_putRowE _ _ _ _⟩
  rw [show es.reverse.toArray = es.toArray.reverse by simp]
  exact holdsK_putRowK cell3 3 (Sort.ahead w n) g 0 es.toArray _ (holdsK_ahead cell3 3 w n g 0 _ hH) (by simp)
theorem enters39 : ∀ args w, (callFunc 39 args).run Tryd.prog w = .ok (.enter 39 args) w := enters_of Tryd.func39 (by kernel_rfl) rfl
set_option maxHeartbeats 400000 in
theorem cmpE_any (x y : En) (W : World) : Calls Tryd.prog 39 #[.agg #[.int .u32 x.a, .int .i64 x.b, .int .i64 x.v], .agg #[.int .u32 y.a, .int .i64 y.b, .int .i64 y.v]] W fun e w' => e = .returned (.int .i64 (cmpP x.a x.b y.a y.b)) ∧ Below W.heap.size W w' := by
  go_enter Tryd.func39, Tryd.ntmps39
  go_wp2_with fail
  refine (compare_any x.a x.b y.a y.b _).mono ?_
  rintro e w1 ⟨rfl, hb⟩
  go_wp2_with fail
  go_ret
  exact ⟨rfl, bthen (((Below.refl _ _).alloc (Nat.le_refl _) _).alloc (by simp) _) (by simp; omega) hb⟩
set_option maxRecDepth 100000 in
set_option maxHeartbeats 4000000 in
theorem sortedE_any (A : Option Addr) (n c : Nat) (es : List En) (w : World) (hR : ReadsE w A n es) (hn : n ≤ 100000) (hs : ∀ i (h : i < es.length), 0 < i → ¬ cmpP es[i].a es[i].b es[i - 1].a es[i - 1].b < 0) :
    Calls Tryd.prog 38 #[.slice A n c, .func (.func 39) #[] #[]] w fun e w' => e = .returned (.bool true) ∧ Below w.heap.size w w' := by
  have HR := Lib.hid hR
  have HS := Lib.hid hs
  clear hR hs
  have hw1 : IntKind.i64.wrap ((n : Int) - 1) = (n : Int) - 1 := IntWalk.i64_in _ (by omega)
  have HW := Lib.hid hw1
  clear hw1
  go_enter Tryd.func38, Tryd.ntmps38
  go_wp2
  go_loopw [5] (fun i wr => ∃ j : Int, -1 ≤ j ∧ j < n ∧ i = .int .i64 j ∧ Below w.heap.size w wr) (fun i _ => (intOf i + 1).toNat)
  case atStart => exact ⟨(n : Int) - 1, by omega, by omega, by first | rfl | (congr 1), Below.refl _ _⟩
  case round =>
    obtain ⟨j, hj0, hj1, rfl, hbw⟩ := hrel
    by_cases hpos : 0 < j
    · obtain ⟨j, rfl⟩ := Int.eq_ofNat_of_zero_le (show 0 ≤ j by omega)
      have hjl : j < es.length := by rw [HR.out.len]; omega
      obtain ⟨b, off, rfl, hbl, hc⟩ := HR.out.at_ (by omega)
      have hca := hc j hjl
      have hcb := hc (j - 1) (by omega)
      have hno := HS.out j hjl (by omega)
      have hblw : b < wr.heap.size := Nat.lt_of_lt_of_le hbl hbw.size
      have hget : ∀ q v, w.cell? ⟨b, q, none⟩ = some v → wr.cell? ⟨b, q, none⟩ = some v := fun q v h => (hbw.cell (p := ⟨b, q, none⟩) hbl).trans h
      generalize es[j] = x at hca hno
      generalize es[j - 1] = y at hcb hno
      obtain ⟨a0, a1, a2⟩ := hca
      obtain ⟨c0, c1, c2⟩ := hcb
      replace a0 := hget _ _ a0
      replace c0 := hget _ _ c0
      replace a1 := hget _ _ a1
      replace c1 := hget _ _ c1
      replace a2 := hget _ _ a2
      replace c2 := hget _ _ c2
      clear hget hc
      have HNO := Lib.hid hno
      have HBW := Lib.hid hbw
      clear hno hbw
      have hwj : IntKind.i64.wrap ((j : Int) - 1) = (j : Int) - 1 := IntWalk.i64_in _ (by omega)
      have hjt : ((j : Int) - 1).toNat = j - 1 := by omega
      have hj1' : (j : Int) - 1 < n := by omega
      have hj2' : 0 ≤ (j : Int) - 1 := by omega
      have hj3 : (1 : Int) ≤ j := by omega
      have hj4 : (j : Int) ≤ n := by omega
      have hj5 : 1 ≤ j := by omega
      have hj6 : j ≤ n := by omega
      have hj7 : ¬ ((j : Int) - 1 < 0) := by omega
      go_wp2_with fail
      go_region_held3 (fun w' => w'.cell? ⟨b, off + j * 3, none⟩ = some (.int .u32 x.a) ∧ w'.cell? ⟨b, off + j * 3 + 1, none⟩ = some (.int .i64 x.b) ∧ w'.cell? ⟨b, off + j * 3 + 2, none⟩ = some (.int .i64 x.v) ∧ w'.cell? ⟨b, off + (j - 1) * 3, none⟩ = some (.int .u32 y.a) ∧ w'.cell? ⟨b, off + (j - 1) * 3 + 1, none⟩ = some (.int .i64 y.b) ∧ w'.cell? ⟨b, off + (j - 1) * 3 + 2, none⟩ = some (.int .i64 y.v))
        (first
          | go_keep
          | (go_split_ands; refine ⟨?_, ?_, ?_, ?_, ?_, ?_⟩ <;> assumption))
        (first
          | ((with_reducible refine (cmpE_any x y _).mono ?_); rintro e wz ⟨rfl, hbz0⟩
             have hbz : Below wr.heap.size wr wz := ⟨hbz0.os, hbz0.tape, hbz0.output, hbz0.size, hbz0.block⟩
             have s0 : wz.cell? ⟨b, off + j * 3, none⟩ = some (.int .u32 x.a) := (hbz.cell (p := ⟨b, off + j * 3, none⟩) (by exact hblw)).trans a0
             have s1 : wz.cell? ⟨b, off + j * 3 + 1, none⟩ = some (.int .i64 x.b) := (hbz.cell (p := ⟨b, off + j * 3 + 1, none⟩) (by exact hblw)).trans a1
             have s2 : wz.cell? ⟨b, off + j * 3 + 2, none⟩ = some (.int .i64 x.v) := (hbz.cell (p := ⟨b, off + j * 3 + 2, none⟩) (by exact hblw)).trans a2
             have u0' : wz.cell? ⟨b, off + (j - 1) * 3, none⟩ = some (.int .u32 y.a) := (hbz.cell (p := ⟨b, off + (j - 1) * 3, none⟩) (by exact hblw)).trans c0
             have u1' : wz.cell? ⟨b, off + (j - 1) * 3 + 1, none⟩ = some (.int .i64 y.b) := (hbz.cell (p := ⟨b, off + (j - 1) * 3 + 1, none⟩) (by exact hblw)).trans c1
             have u2' : wz.cell? ⟨b, off + (j - 1) * 3 + 2, none⟩ = some (.int .i64 y.v) := (hbz.cell (p := ⟨b, off + (j - 1) * 3 + 2, none⟩) (by exact hblw)).trans c2
             have HBZ := Lib.hid (bthen HBW.out HBW.out.size hbz)
             clear hbz0 hbz)
          | fail)
      all_goals
        have hno := HNO.out
        go_wp2_with fail
        go_roundw
        case rel => exact ⟨(j : Int) - 1, by omega, by omega, rfl, HBZ.out⟩
        case measure => simp [intOf] <;> omega
    · have hle : ¬ 0 < j := hpos
      go_wp2
      go_ret
      exact ⟨rfl, hbw⟩
end Go.Proofs.YtaknlphmplimhaaDoor
