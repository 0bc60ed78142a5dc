/- Slices of entries by the shelf's contracts: Contains, ContainsFunc, Equal; every slice, nil too; and the row that list lays reads as its entries. -/
import Derived.Test.YtaknlphmplimhaaDoorLi
import Derived.Test.YtaknlphmplimhaaDoorOp
import Derived.Test.YtaknlphmplimhaaDoorShT
import Derived.Laws.StructEq
set_option linter.unusedVariables false
set_option linter.unusedSimpArgs false
namespace Go.Proofs.YtaknlphmplimhaaDoor
open Go.RowKit Go.Proofs Go.Shelf Go.Lib
/-- Equality of entries. -/
def eqE (x y : En) : Bool := (x.a == y.a && x.b == y.b) && x.v == y.v
theorem eqE_iff {x y : En} : eqE x y = true ↔ x = y := by
  unfold eqE
  rw [Bool.and_eq_true, Bool.and_eq_true, beq_iff_eq, beq_iff_eq, beq_iff_eq]
  constructor
  · rintro ⟨⟨h1, h2⟩, h3⟩; cases x; cases y; simp_all
  · rintro rfl; exact ⟨⟨rfl, rfl⟩, rfl⟩
theorem fields36 : Tryd.prog.underlying 36 = some (.struct (Tryd.prog.fieldsOf 36)) := by kernel_rfl
theorem stood36 : Tryd.prog.stoodInHeld 36 = false := by kernel_rfl
theorem guard36 : Tryd.prog.eqGuardType Tryd.prog.depth 36 = false := by kernel_rfl
set_option maxHeartbeats 1000000 in
theorem eqlE : EqlAt Tryd.prog 36 (fun x => .agg (cell3 x).toArray) eqE := by
  refine ⟨fun x y w => ?_, GuardAt.agg _ guard36⟩
  have u3 := Tryd.underlying3
  have a3 := Tryd.isAgg3
  have z3 := Tryd.sizeOf3
  have u23 := Tryd.underlying23
  have a23 := Tryd.isAgg23
  have z23 := Tryd.sizeOf23
  have u25 := Tryd.underlying25
  have a25 := Tryd.isAgg25
  have z25 := Tryd.sizeOf25
  simp only [cell3]
  rw [run_eql_struct, show (10000 : Nat) = 9999 + 1 from rfl, run_equalIn_agg w 9999 36 _ _ fields36 stood36]
  simp only [Program.fieldsOf, Tryd.underlying36]
  go_simp
  by_cases h1 : x.a = y.a <;> by_cases h2 : x.b = y.b <;> by_cases h3 : x.v = y.v <;> simp [eqE, h1, h2, h3, Int.natCast_inj]
set_option maxHeartbeats 1000000 in
theorem neqE : NeqAt Tryd.prog 36 (fun x => .agg (cell3 x).toArray) eqE := by
  refine ⟨fun x y w => ?_, GuardAt.agg _ guard36⟩
  have u3 := Tryd.underlying3
  have a3 := Tryd.isAgg3
  have z3 := Tryd.sizeOf3
  have u23 := Tryd.underlying23
  have a23 := Tryd.isAgg23
  have z23 := Tryd.sizeOf23
  have u25 := Tryd.underlying25
  have a25 := Tryd.isAgg25
  have z25 := Tryd.sizeOf25
  simp only [cell3]
  rw [run_neq_struct, show (10000 : Nat) = 9999 + 1 from rfl, run_equalIn_agg w 9999 36 _ _ fields36 stood36]
  simp only [Program.fieldsOf, Tryd.underlying36]
  go_simp
  by_cases h1 : x.a = y.a <;> by_cases h2 : x.b = y.b <;> by_cases h3 : x.v = y.v <;> simp [eqE, h1, h2, h3, Int.natCast_inj]
/-- A slice's cells, as the shelf asks for them. -/
theorem ReadsE.flat {w : World} {n : Nat} {es : List En} {b off : Nat} (h : ReadsE w (some ⟨b, off, none⟩) n es) (hn : 0 < n) :
    b < w.heap.size ∧ ∀ j, j < es.length → ∀ i v, (cell3 es[j]!)[i]? = some v → w.cell? ⟨b, off + j * 3 + i, none⟩ = some v := by
  obtain ⟨b', off', e, hl, hc⟩ := h.at_ hn
  simp only [Option.some.injEq, Addr.mk.injEq] at e
  obtain ⟨rfl, rfl, _⟩ := e
  refine ⟨hl, fun j hj i v hi => ?_⟩
  have hc := hc j hj
  rw [getElem!_pos es j hj] at hi
  match i, hi with
  | 0, hi => simp [cell3] at hi; rw [← hi]; exact hc.1
  | 1, hi => simp [cell3] at hi; rw [← hi]; exact hc.2.1
  | 2, hi => simp [cell3] at hi; rw [← hi]; exact hc.2.2
  | i + 3, hi => simp [cell3] at hi
theorem ReadsE.opt {w : World} {A : Option Addr} {n : Nat} {es : List En} (h : ReadsE w A n es) (hn : 0 < n) : ∃ b off, A = some ⟨b, off, none⟩ := by
  obtain ⟨b, off, e, _⟩ := h.at_ hn
  exact ⟨b, off, e⟩
theorem enters (g : Nat) : ∀ args w, Enters Tryd.prog g → (callFunc g args).run Tryd.prog w = .ok (.enter g args) w := fun args w h => h args w
set_option maxHeartbeats 1000000 in
theorem containsE_none (A : Option Addr) (c : Nat) (x : En) (w : World) : Calls Tryd.prog 31 #[.slice A 0 c, .agg (cell3 x).toArray] w fun e w' => e = .returned (.bool false) ∧ Below w.heap.size w w' := by
  show Calls Tryd.prog 31 #[.slice A 0 c, .agg #[.int .u32 x.a, .int .i64 x.b, .int .i64 x.v]] w _
  go_enter Tryd.func31, Tryd.ntmps31
  go_wp2_with fail
  refine (show Calls Tryd.prog 84 _ _ (fun e w' => e = .returned (.int .i64 (-1)) ∧ Below (w.heap.size + 1) (w.alloc (.cells #[.int .u32 x.a, .int .i64 x.b, .int .i64 x.v] 36)) w') from ?_).mono ?_
  · go_enter Tryd.func84, Tryd.ntmps84
    go_wp2
    refine wp_loop_rounds 1 ?_
    rw [rounds_succ]
    go_wp2
    go_ret
    exact ⟨rfl, (Below.refl _ _).alloc (by simp) _⟩
  · rintro e w1 ⟨rfl, hb⟩
    go_wp2_with fail
    go_ret
    exact ⟨rfl, ((Below.refl _ _).alloc (Nat.le_refl _) _).trans (hb.mono (by omega))⟩
set_option maxHeartbeats 1000000 in
theorem containsE_any (A : Option Addr) (n c : Nat) (es : List En) (x : En) (w : World) (hR : ReadsE w A n es) :
    Calls Tryd.prog 31 #[.slice A n c, .agg (cell3 x).toArray] w fun e w' => e = .returned (.bool (es.any fun y => eqE x y)) ∧ Below w.heap.size w w' := by
  rcases Nat.eq_zero_or_pos n with h0 | hn
  · subst h0
    have he : es = [] := List.length_eq_zero_iff.1 hR.len
    subst he
    exact containsE_none A c x w
  · obtain ⟨b, off, rfl⟩ := hR.opt hn
    obtain ⟨hb, hc⟩ := hR.flat hn
    have := AnyQ.slices_Contains Sh.containsE 3 Tryd.isAgg36 Tryd.sizeOf36 cell3 (fun _ => rfl) eqE eqlE b off n c es x w (by rw [hR.len]; exact Nat.le_refl _) hR.max hc
    rw [List.take_of_length_le (by rw [hR.len]; exact Nat.le_refl _)] at this
    exact this
set_option maxHeartbeats 1000000 in
theorem containsFE_none (A : Option Addr) (c g : Nat) (lb : Array Value) (w : World) : Calls Tryd.prog 27 #[.slice A 0 c, .func (.func g) #[] lb] w fun e w' => e = .returned (.bool false) ∧ w = w' := by
  go_enter Tryd.func27, Tryd.ntmps27
  go_wp2_with fail
  refine (show Calls Tryd.prog 82 _ _ (fun e w' => e = .returned (.int .i64 (-1)) ∧ w = w') from ?_).mono ?_
  · go_enter Tryd.func82, Tryd.ntmps82
    go_wp2
    refine wp_loop_rounds 1 ?_
    rw [rounds_succ]
    go_wp2
    go_ret
    exact ⟨rfl, rfl⟩
  · rintro e w1 ⟨rfl, rfl⟩
    go_wp2_with fail
    go_ret
    exact ⟨rfl, rfl⟩
set_option maxHeartbeats 1000000 in
theorem containsFE_any (A : Option Addr) (n c : Nat) (es : List En) (p : En → Bool) (g : Nat) (lb : Array Value) (w : World) (hR : ReadsE w A n es)
    (eg : ∀ args w, (callFunc g args).run Tryd.prog w = .ok (.enter g args) w) (hp : PredBelow Tryd.prog g lb (fun x => .agg (cell3 x).toArray) p w) :
    Calls Tryd.prog 27 #[.slice A n c, .func (.func g) #[] lb] w fun e w' => e = .returned (.bool (es.any p)) ∧ Below w.heap.size w w' := by
  rcases Nat.eq_zero_or_pos n with h0 | hn
  · subst h0
    have he : es = [] := List.length_eq_zero_iff.1 hR.len
    subst he
    exact (containsFE_none A c g lb w).mono fun _ _ ⟨h1, h2⟩ => ⟨h1, h2 ▸ Below.refl _ _⟩
  · obtain ⟨b, off, rfl⟩ := hR.opt hn
    obtain ⟨hb, hc⟩ := hR.flat hn
    have := AnyQ.slices_ContainsFunc Sh.containsFE 3 Tryd.isAgg36 Tryd.sizeOf36 cell3 (fun _ => rfl) p g lb eg b off n c es w hp (by rw [hR.len]; exact Nat.le_refl _) hR.max hb hc
    rw [List.take_of_length_le (by rw [hR.len]; exact Nat.le_refl _)] at this
    exact this
/-- The element with an address of 32 bits. -/
def smallE (x : En) : En := ⟨x.a % 4294967296, x.b, x.v⟩
theorem smallE_of {x : En} (h : x.a < 4294967296) : smallE x = x := by cases x; simp [smallE] at h ⊢; omega
theorem any_smallE (p : En → Bool) : ∀ (es : List En), (∀ e, e ∈ es → e.a < 4294967296) → (es.any fun x => p (smallE x)) = es.any p
  | [], _ => rfl
  | x :: es, h => by rw [List.any_cons, List.any_cons, smallE_of (h x (by simp)), any_smallE p es (fun e he => h e (by simp [he]))]
set_option maxHeartbeats 1000000 in
theorem containsFE_small (A : Option Addr) (n c : Nat) (es : List En) (p : En → Bool) (g : Nat) (lb : Array Value) (w : World) (hR : ReadsE w A n es)
    (eg : ∀ args w, (callFunc g args).run Tryd.prog w = .ok (.enter g args) w)
    (hp : ∀ (W : World) (x : En), x.a < 4294967296 → Below w.heap.size w W → Calls Tryd.prog g (#[.agg (cell3 x).toArray] ++ lb) W fun e w' => e = .returned (.bool (p x)) ∧ Below w.heap.size w w') :
    Calls Tryd.prog 27 #[.slice A n c, .func (.func g) #[] lb] w fun e w' => e = .returned (.bool (es.any p)) ∧ Below w.heap.size w w' := by
  rcases Nat.eq_zero_or_pos n with h0 | hn
  · subst h0
    have he : es = [] := List.length_eq_zero_iff.1 hR.len
    subst he
    exact (containsFE_none A c g lb w).mono fun _ _ ⟨h1, h2⟩ => ⟨h1, h2 ▸ Below.refl _ _⟩
  · obtain ⟨b, off, rfl⟩ := hR.opt hn
    obtain ⟨hb, hc⟩ := hR.flat hn
    have hc' : ∀ j, j < es.length → ∀ i v, (cell3 (smallE es[j]!))[i]? = some v → w.cell? ⟨b, off + j * 3 + i, none⟩ = some v := fun j hj => by
      rw [smallE_of (hR.small _ (by rw [getElem!_pos es j hj]; exact List.getElem_mem hj))]; exact hc j hj
    have := AnyQ.slices_ContainsFunc Sh.containsFE 3 Tryd.isAgg36 Tryd.sizeOf36 (fun x => cell3 (smallE x)) (fun _ => rfl) (fun x => p (smallE x)) g lb eg b off n c es w
      (fun W x hb => hp W (smallE x) (Nat.mod_lt _ (by decide)) hb) (by rw [hR.len]; exact Nat.le_refl _) hR.max hb hc'
    rw [List.take_of_length_le (by rw [hR.len]; exact Nat.le_refl _), any_smallE p es hR.small] at this
    exact this
theorem allEqE : ∀ (xs ys : List En), Lib.allEq eqE xs ys = true ↔ xs = ys
  | [], [] => by simp [Lib.allEq]
  | [], y :: ys => by simp [Lib.allEq]
  | x :: xs, [] => by simp [Lib.allEq]
  | x :: xs, y :: ys => by rw [Lib.allEq, Bool.and_eq_true, eqE_iff, allEqE xs ys, List.cons.injEq]
set_option maxHeartbeats 1000000 in
theorem equalE_len (A B : Option Addr) (n m c d : Nat) (w : World) (hn : n ≤ 9223372036854775807) (hm : m ≤ 9223372036854775807) (h : n ≠ m) : Calls Tryd.prog 34 #[.slice A n c, .slice B m d] w fun e w' => e = .returned (.bool false) ∧ w = w' := by
  have hne : ((n : Int) != m) = true := by rw [bne_iff_ne]; omega
  go_enter Tryd.func34, Tryd.ntmps34
  go_wp2
  go_ret
  exact ⟨rfl, rfl⟩
set_option maxHeartbeats 1000000 in
theorem equalE_zero (A B : Option Addr) (c d : Nat) (w : World) : Calls Tryd.prog 34 #[.slice A 0 c, .slice B 0 d] w fun e w' => e = .returned (.bool true) ∧ w = w' := by
  go_enter Tryd.func34, Tryd.ntmps34
  go_wp2
  refine wp_loop_rounds 1 ?_
  rw [rounds_succ]
  go_wp2
  go_ret
  exact ⟨rfl, rfl⟩
theorem equalE_any (A B : Option Addr) (n m c d : Nat) (es fs : List En) (w : World) (hR : ReadsE w A n es) (hS : ReadsE w B m fs) [Decidable (es = fs)] :
    Calls Tryd.prog 34 #[.slice A n c, .slice B m d] w fun e w' => e = .returned (.bool (decide (es = fs))) ∧ Below w.heap.size w w' := by
  by_cases h : n = m
  · subst h
    rcases Nat.eq_zero_or_pos n with h0 | hn
    · subst h0
      have he : es = [] := List.length_eq_zero_iff.1 hR.len
      have hf : fs = [] := List.length_eq_zero_iff.1 hS.len
      subst he hf
      exact (equalE_zero A B c d w).mono fun _ _ ⟨h1, h2⟩ => ⟨by rw [h1, decide_eq_true rfl], h2 ▸ Below.refl _ _⟩
    · obtain ⟨b, off, rfl⟩ := hR.opt hn
      obtain ⟨b2, off2, rfl⟩ := hS.opt hn
      obtain ⟨hb, hc⟩ := hR.flat hn
      obtain ⟨hb2, hc2⟩ := hS.flat hn
      have := AnyQ.slices_Equal Sh.equalE 3 Tryd.isAgg36 Tryd.sizeOf36 cell3 (fun _ => rfl) eqE neqE b off n c b2 off2 n d es fs w (by rw [hR.len]; exact Nat.le_refl _) (by rw [hS.len]; exact Nat.le_refl _) hR.max hS.max hc hc2
      rw [List.take_of_length_le (by rw [hR.len]; exact Nat.le_refl _), List.take_of_length_le (by rw [hS.len]; exact Nat.le_refl _)] at this
      refine Calls.mono this fun e w' ⟨h1, q, h2⟩ => ⟨?_, h2 ▸ below_drewN (Below.refl _ _) q⟩
      rw [h1]
      congr 2
      rw [Bool.eq_iff_iff, decide_eq_true_iff]
      exact allEqE es fs
  · have hne : es ≠ fs := fun e => h (by rw [← hR.len, ← hS.len, e])
    exact (equalE_len A B n m c d w hR.max hS.max h).mono fun _ _ ⟨h1, h2⟩ => ⟨by rw [h1, decide_eq_false hne], h2 ▸ Below.refl _ _⟩
/-- What list lays reads as its entries. -/
theorem RowE.reads {base : Nat} {w : World} {ov : Value} {es : List En} (h : RowE base w ov es) (hsm : ∀ e, e ∈ es → e.a < 4294967296) : ∃ A c, ov = .slice A es.length c ∧ es.length ≤ c ∧ ReadsE w A es.length es := by
  rcases h.2 with ⟨rfl, h0⟩ | ⟨g, cap, cur, rfl, hb, hg, hle, hmx, hsz, htk⟩
  · rw [h0]
    exact ⟨none, 0, rfl, Nat.le_refl _, h0, by omega, fun hn => absurd hn (by omega), hsm⟩
  · refine ⟨some ⟨g, 0, none⟩, cap, rfl, hle, rfl, by unfold maxLen at hmx; omega, fun hn => ⟨g, 0, rfl, (Array.getElem?_eq_some_iff.1 hg).1, fun i hi => ?_⟩, hsm⟩
    have hcell : ∀ j u, (es.flatMap cell3)[j]? = some u → w.cell? ⟨g, j, none⟩ = some u := fun j u hu => by
      have := World.ownsRow.cells h (g := g) rfl j u hu
      simpa [Go.WideShapes.add_plain] using this
    have hfl : ∀ (l : List En) (i : Nat) (hi : i < l.length), (l.flatMap cell3)[i * 3]? = some (.int .u32 l[i].a) ∧ (l.flatMap cell3)[i * 3 + 1]? = some (.int .i64 l[i].b) ∧ (l.flatMap cell3)[i * 3 + 2]? = some (.int .i64 l[i].v) := by
      intro l
      induction l with
      | nil => intro i hi; simp at hi
      | cons x l ih =>
        intro i hi
        cases i with
        | zero => simp [cell3]
        | succ i =>
          have := ih i (by simpa using hi)
          rw [List.flatMap_cons]
          have hl : (cell3 x).length = 3 := rfl
          rw [List.getElem?_append_right (by rw [hl]; omega), List.getElem?_append_right (by rw [hl]; omega), List.getElem?_append_right (by rw [hl]; omega), hl]
          rw [show (i + 1) * 3 - 3 = i * 3 by omega, show (i + 1) * 3 + 1 - 3 = i * 3 + 1 by omega, show (i + 1) * 3 + 2 - 3 = i * 3 + 2 by omega]
          simpa using this
    obtain ⟨f0, f1, f2⟩ := hfl es i hi
    rw [Nat.zero_add]
    exact ⟨hcell _ _ f0, hcell _ _ f1, hcell _ _ f2⟩
end Go.Proofs.YtaknlphmplimhaaDoor
