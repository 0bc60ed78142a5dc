/- The walks of (*trie.Trie).List and Under: a trie that the world holds; a bound on the listing's length. -/
import Derived.Test.YtaknlphmplimhaaDoorSe
import Derived.Test.YtaknlphmplimhaaDoorEo
import Derived.Deep.RegionHeld3
set_option linter.unusedVariables false
set_option linter.unusedSimpArgs false
namespace Go.Proofs.YtaknlphmplimhaaDoor
open Go.RowKit Go.Proofs AT
/-- The call gives a slice of these entries, in memory of its own. -/
def GivesE (w : World) (es : List En) (e : Ending) (w' : World) : Prop := ∃ A c, e = .returned (.slice A es.length c) ∧ (es.length ≤ c ∧ (A = none → c = 0)) ∧ ReadsE w' A es.length es ∧ Below w.heap.size w w'
def GivesE2 (w : World) (es : List En) (e : Ending) (w' : World) : Prop := ∃ A c, e = .returned (.tuple #[.slice A es.length c, .int .i64 0]) ∧ (es.length ≤ c ∧ (A = none → c = 0)) ∧ ReadsE w' A es.length es ∧ Below w.heap.size w w'
theorem ents_small (t : AT) (a d : Nat) (hV : Val a d) : ∀ e, e ∈ ents t a d → e.a < 4294967296 := fun e he => by
  obtain ⟨k, _, _, h, _⟩ := (mem_ents t a d hV e).1 he
  exact h.1
theorem below_of_grown {w w' : World} (h : w.grownBy w' none) : Below w.heap.size w w' := ⟨h.os, h.tape, h.output, h.size, fun i hi => h.block i hi (fun e => by cases e)⟩
theorem RowE.cap {base : Nat} {w : World} {A : Option Addr} {n c : Nat} {es : List En} (h : RowE base w (.slice A n c) es) : A = none → c = 0 := by
  intro hA
  rcases h.2 with ⟨e, _⟩ | ⟨g, cap, cur, e, _⟩
  · injection e
  · subst hA; simp at e
theorem list_gives (t : AT) (a d : Nat) (w : World) (hV : Val a d) (hr : Rep w t) (hl : (ents t a d).length ≤ 1000000) :
    Calls Tryd.prog 83 #[t.ptr, .agg #[.int .u32 a, .int .i64 d], .slice none 0 0] w (GivesE w (ents t a d)) := by
  refine (list_any w.heap.size t a d w (.slice none 0 0) [] hV hr hr.lt (Nat.le_refl _) ⟨by simp, .inl ⟨rfl, rfl⟩⟩ (by simpa using hl)).mono ?_
  rintro e w' ⟨ov, rfl, hrow, hg, _⟩
  rw [List.nil_append] at hrow
  obtain ⟨A, c, rfl, hc, hR⟩ := hrow.reads (ents_small t a d hV)
  exact ⟨A, c, rfl, ⟨hc, hrow.cap⟩, hR, below_of_grown hg⟩
theorem Val0 : Val 0 0 := ⟨by decide, by decide, by decide⟩
set_option maxHeartbeats 400000 in
theorem listAll_any (tb : Nat) (t : AT) (z : Int) (w : World) (hT : TR w tb z t) (hl : (ents t 0 0).length ≤ 1000000) :
    Calls Tryd.prog 28 #[.pointer (some ⟨tb, 0, none⟩)] w (GivesE w (ents t 0 0)) := by
  obtain ⟨c0, c1⟩ := cell_root hT.root
  have hcon := list_gives t 0 0 w Val0 hT.rep hl
  have HC := Lib.hid (show Calls Tryd.prog 83 #[t.ptr, .agg #[.int .u32 0, .int .i64 0], .slice none 0 0] w (GivesE w (ents t 0 0)) from hcon)
  clear hcon hT hl
  go_enter Tryd.func28, Tryd.ntmps28
  go_wp2_with fail
  refine HC.out.mono ?_
  rintro e w1 ⟨A, c, rfl, h1, h2, h3⟩
  have H1 := Lib.hid h1
  have H2 := Lib.hid h2
  have H3 := Lib.hid h3
  clear h1 h2 h3
  go_wp2_with fail
  go_ret
  exact ⟨A, c, rfl, H1.out, H2.out, H3.out⟩
set_option maxHeartbeats 1000000 in
theorem under_good (tb : Nat) (t : AT) (z : Int) (a d : Nat) (w : World) (hV : Val a d) (hT : TR w tb z t) (hl : (ents (t.sub (path a d)) a d).length ≤ 1000000) :
    Calls Tryd.prog 33 #[.pointer (some ⟨tb, 0, none⟩), .agg #[.int .u32 a, .int .i64 d]] w (GivesE2 w (ents (t.sub (path a d)) a d)) := by
  have hc := (Val_chk hV.1).1 hV
  have ha := hV.1
  have hd := hV.2.1
  have Hc := Lib.hid hc
  have HV := Lib.hid hV
  have HT := Lib.hid hT
  have HL := Lib.hid hl
  clear hc hV hT hl
  go_enter Tryd.func33, Tryd.ntmps33
  go_wp2_with fail
  refine (check_any a d _ ha).mono ?_
  rw [Hc.out]
  rintro e w1 ⟨rfl, hb1⟩
  have hB : Below w.heap.size w w1 := bthen ((Below.refl _ _).alloc (Nat.le_refl _) _) (by simp) hb1
  have hs : w.heap.size + 1 ≤ w1.heap.size := by have := hb1.size; simp at this; omega
  have p0 : w1.cell? ⟨w.heap.size, 0, none⟩ = some (.int .u32 a) := by rw [hb1.cell (p := ⟨w.heap.size, 0, none⟩) (by simp)]; go_simp
  have p1 : w1.cell? ⟨w.heap.size, 1, none⟩ = some (.int .i64 d) := by rw [hb1.cell (p := ⟨w.heap.size, 1, none⟩) (by simp)]; go_simp
  have HB := Lib.hid hB
  have HT1 := Lib.hid (HT.out.grow hB)
  have HAT := Lib.hid (at_any tb t z a d w1.drew ha hd (HT1.out.root.keep (fun _ _ => rfl)) (HT1.out.rep.keep (fun _ _ => rfl)))
  clear hB hb1 HT
  go_wp2_with fail
  go_region_held3 (fun w' => w'.cell? ⟨w.heap.size, 0, none⟩ = some (.int .u32 a) ∧ w'.cell? ⟨w.heap.size, 1, none⟩ = some (.int .i64 d))
    (first
      | go_keep
      | (go_split_ands; refine ⟨?_, ?_⟩ <;> assumption))
    (first
      | ((with_reducible refine HAT.out.mono ?_); rintro e w2 ⟨rfl, hb2⟩
         have HB2 := Lib.hid (bthen HB.out.drew (by have := HB.out.size; exact this) hb2)
         have hs2 : w.heap.size + 1 ≤ w2.heap.size := by have := hb2.size; simp at this; omega
         have q0 : w2.cell? ⟨w.heap.size, 0, none⟩ = some (.int .u32 a) := by rw [hb2.cell (p := ⟨w.heap.size, 0, none⟩) (by simp; omega)]; simpa using p0
         have q1 : w2.cell? ⟨w.heap.size, 1, none⟩ = some (.int .i64 d) := by rw [hb2.cell (p := ⟨w.heap.size, 1, none⟩) (by simp; omega)]; simpa using p1
         have HT2 := Lib.hid ((HT1.out.rep.keep (w' := w1.drew) (fun _ _ => rfl)).grow hb2)
         clear hb2)
      | ((with_reducible refine (list_gives (t.sub (path a d)) a d _ HV.out (HT2.out.sub (path a d)) HL.out).mono ?_); rintro e w3 ⟨A, c, rfl, h1, h2, hb3⟩
         have s0 : w3.cell? ⟨w.heap.size, 0, none⟩ = some (.int .u32 a) := by rw [hb3.cell (p := ⟨w.heap.size, 0, none⟩) (by simp; omega)]; exact q0
         have s1 : w3.cell? ⟨w.heap.size, 1, none⟩ = some (.int .i64 d) := by rw [hb3.cell (p := ⟨w.heap.size, 1, none⟩) (by simp; omega)]; exact q1
         have HB3 := Lib.hid (bthen HB2.out HB2.out.size hb3)
         have H1 := Lib.hid h1
         have H2 := Lib.hid h2
         clear hb3 h1 h2))
  all_goals
    go_wp2_with fail
    go_ret2
    exact ⟨A, c, rfl, H1.out, H2.out, HB3.out⟩
set_option maxHeartbeats 400000 in
theorem under_bad (tb : Nat) (a : Nat) (b : Int) (w : World) (ha : a < 4294967296) (hc : chkE a b ≠ 0) :
    Calls Tryd.prog 33 #[.pointer (some ⟨tb, 0, none⟩), .agg #[.int .u32 a, .int .i64 b]] w fun e w' => e = .returned (.tuple #[.slice none 0 0, .int .i64 (chkE a b)]) ∧ Below w.heap.size w w' := by
  have Hd : (chkE a b != 0) = true := by simpa using hc
  clear hc
  go_enter Tryd.func33, Tryd.ntmps33
  go_wp2_with fail
  refine (check_any a b _ ha).mono ?_
  rintro e w' ⟨rfl, hb⟩
  go_wp2_with fail
  go_ret2
  exact ⟨rfl, bthen ((Below.refl _ _).alloc (Nat.le_refl _) _) (by simp) hb⟩
end Go.Proofs.YtaknlphmplimhaaDoor
