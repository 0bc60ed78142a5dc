/- The walks of some at entries and of trieLives, which returns true; the world holds the variable ten. -/
import Derived.Test.YtaknlphmplimhaaDoorTf
import Derived.Test.YtaknlphmplimhaaDoorTc
import Derived.Test.YtaknlphmplimhaaDoorTe
set_option linter.unusedVariables false
set_option linter.unusedSimpArgs false
namespace Go.Proofs.YtaknlphmplimhaaDoor
open Go.RowKit Go.Proofs AT
set_option maxHeartbeats 400000 in
theorem some_any (A : Option Addr) (n c m : Nat) (w : World) (hn : n ≤ 9223372036854775807) (hc : n ≤ c) (hm : m ≤ 1000) : Calls Tryd.prog 77 #[.slice A n c, .int .i64 m] w fun e w' => e = .returned (.slice A (min n m) c) ∧ w = w' := by
  by_cases h : n ≤ m
  · have h' : min n m = n := by omega
    have H := Lib.hid h'
    clear h'
    go_enter Tryd.func77, Tryd.ntmps77
    go_wp2
    go_ret
    exact ⟨ret_val (by rw [H.out]; rfl), rfl⟩
  · have h' : min n m = m := by omega
    have H := Lib.hid h'
    clear h'
    go_enter Tryd.func77, Tryd.ntmps77
    go_wp2
    go_ret
    exact ⟨ret_val (by rw [H.out]; rfl), rfl⟩

theorem best_only (t : AT) (a d : Nat) (v : Int) (h1 : t.get (path a d) = some v) (h2 : ∀ k, k ≠ d → t.get (path a k) = none) : ∀ n, d < n → best t a n = some (d, v) := by
  intro n
  induction n with
  | zero => intro h; omega
  | succ n ih =>
    intro h
    rw [show best t a (n + 1) = match t.get (path a n) with | some v => some (n, v) | none => best t a n from rfl]
    by_cases hn : n = d
    · subst hn; rw [h1]
    · rw [h2 n hn]; exact ih (by omega)
theorem new_TR (w : World) : TR (w.alloc (.cells #[.pointer none, .int .i64 0] 109)) w.heap.size 0 .nil :=
  ⟨heap_alloc_new _ _, trivial, by simp [dom]⟩
theorem put_ten (tb : Nat) (w : World) (hT : TR w tb 0 .nil) : Calls Tryd.prog 24 #[.pointer (some ⟨tb, 0, none⟩), .agg #[.int .u32 167772160, .int .i64 8], .int .i64 7] w (PutPost w tb 0 .nil 167772160 8 7) := by
  have := put_new tb .nil 0 167772160 8 7 w (by decide) (by decide) hT (by decide) (by decide) (.inl (sub_nil _))
  exact this
theorem find_ten (tb : Nat) (t : AT) (z : Int) (w : World) (hT : TR w tb z t) :
    Calls Tryd.prog 26 #[.pointer (some ⟨tb, 0, none⟩), .int .u32 167772161] w fun e w' =>
      e = .returned (.tuple #[.agg #[.int .u32 (fa 167772161 (best t 167772161 33)), .int .i64 (fd (best t 167772161 33)), .int .i64 (fv (best t 167772161 33))], .bool (best t 167772161 33).isSome]) ∧ Below w.heap.size w w' :=
  find_any tb t z 167772161 w (by decide) hT
theorem find_ten' (tb : Nat) (t : AT) (z : Int) (w : World) (hT : TR w tb z t) (hb : best t 167772161 33 = some (8, 7)) :
    Calls Tryd.prog 26 #[.pointer (some ⟨tb, 0, none⟩), .int .u32 167772161] w fun e w' =>
      e = .returned (.tuple #[.agg #[.int .u32 167772160, .int .i64 8, .int .i64 7], .bool true]) ∧ Below w.heap.size w w' := by
  have h := find_ten tb t z w hT
  rw [hb] at h
  have e1 : fa 167772161 (some (8, 7)) = 167772160 := by simp [fa, sz]
  have e2 : fd (some (8, (7 : Int))) = 8 := rfl
  have e3 : fv (some (8, (7 : Int))) = 7 := rfl
  rw [e1, e2, e3] at h
  exact h
theorem path_ten : path 167772161 8 = path 167772160 8 := by decide
set_option maxRecDepth 100000 in
set_option maxHeartbeats 1000000 in
theorem trieLives_true (w : World) (h0 : w.cell? ⟨0, 0, none⟩ = some (.int .u32 167772160)) (h1 : w.cell? ⟨0, 1, none⟩ = some (.int .i64 8)) :
    Calls Tryd.prog 20 #[] w fun e w' => e = .returned (.bool true) ∧ Below w.heap.size w w' := by
  have hl := World.block_lt_of_cell? w _ h0
  simp only at hl
  go_enter Tryd.func20, Tryd.ntmps20
  go_wp2_with fail
  refine (new_any _).mono ?_
  rintro e w1 ⟨rfl, rfl⟩
  go_wp2_with fail
  refine (put_ten _ _ (new_TR w)).mono ?_
  rintro e w2 ⟨rfl, t', z', hT', hz1, hz2, hget, hK, hd⟩
  have hB : Below w.heap.size w w2 := ((Below.refl _ _).alloc (Nat.le_refl _) _).trans (hK.below (by simp) (fun x hx => by simp [dom] at hx; omega))
  have c0 : w2.cell? ⟨0, 0, none⟩ = some (.int .u32 167772160) := (hB.cell (p := ⟨0, 0, none⟩) hl).trans h0
  have c1 : w2.cell? ⟨0, 1, none⟩ = some (.int .i64 8) := (hB.cell (p := ⟨0, 1, none⟩) hl).trans h1
  have hbest : best t' 167772161 33 = some (8, 7) := by
    apply best_only
    · rw [hget, if_pos path_ten]
    · intro k hk
      rw [hget, if_neg (fun e => hk (by have := congrArg List.length e; rw [path_length, path_length] at this; exact this))]
      exact get_nil _
    · decide
  have HB := Lib.hid hbest
  have HT := Lib.hid hT'
  clear hbest hT' hget hK hd
  go_wp2_with fail
  refine (find_ten' _ t' z' _ HT.out HB.out).mono ?_
  rintro e w3 ⟨rfl, hB3⟩
  have d0 : w3.cell? ⟨0, 0, none⟩ = some (.int .u32 167772160) := (hB3.cell (p := ⟨0, 0, none⟩) (by have := hB.size; simp; omega)).trans c0
  have d1 : w3.cell? ⟨0, 1, none⟩ = some (.int .i64 8) := (hB3.cell (p := ⟨0, 1, none⟩) (by have := hB.size; simp; omega)).trans c1
  have hl3 : 0 < w3.heap.size := by have := hB.size; have := hB3.size; omega
  go_wp2_with fail
  go_ret
  exact ⟨rfl, (bthen hB hB.size hB3).alloc (by have := hB.size; have := hB3.size; omega) _⟩
end Go.Proofs.YtaknlphmplimhaaDoor
