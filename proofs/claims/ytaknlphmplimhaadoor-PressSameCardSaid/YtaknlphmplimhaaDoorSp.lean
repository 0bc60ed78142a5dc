/- Slices of prefixes by the shelf's contracts: Contains, ContainsFunc, Equal; every slice, nil too. -/
import Derived.Test.YtaknlphmplimhaaDoorSe
import Derived.Test.YtaknlphmplimhaaDoorPm
import Derived.Test.YtaknlphmplimhaaDoorShP
import Derived.Laws.StructEq
set_option linter.unusedVariables false
set_option linter.unusedSimpArgs false
namespace Go.Proofs.YtaknlphmplimhaaDoor
open Go.RowKit Go.Proofs Go.Shelf Go.Lib
/-- A prefix: address, bits. -/
structure Pf where
  (a : Nat) (b : Int)
instance : Inhabited Pf := ⟨⟨0, 0⟩⟩
/-- The cells of a prefix. -/
def cell2 (e : Pf) : List Value := [.int .u32 e.a, .int .i64 e.b]
/-- The world holds the prefixes in a slice. -/
structure ReadsP (w : World) (A : Option Addr) (n : Nat) (es : List Pf) : Prop where
  len : es.length = n
  max : n ≤ 9223372036854775807
  at_ : 0 < n → ∃ b off, A = some ⟨b, off, none⟩ ∧ b < w.heap.size ∧ ∀ i (h : i < es.length), w.cell? ⟨b, off + i * 2, none⟩ = some (.int .u32 es[i].a) ∧ w.cell? ⟨b, off + i * 2 + 1, none⟩ = some (.int .i64 es[i].b)
  small : ∀ e, e ∈ es → e.a < 4294967296
/-- Equality of prefixes. -/
def eqP (x y : Pf) : Bool := x.a == y.a && x.b == y.b
theorem eqP_iff {x y : Pf} : eqP x y = true ↔ x = y := by
  unfold eqP
  rw [Bool.and_eq_true, beq_iff_eq, beq_iff_eq]
  constructor
  · rintro ⟨h1, h2⟩; cases x; cases y; simp_all
  · rintro rfl; exact ⟨rfl, rfl⟩
theorem guard25 : Tryd.prog.eqGuardType Tryd.prog.depth 25 = false := by kernel_rfl
set_option maxHeartbeats 1000000 in
theorem eqlP : EqlAt Tryd.prog 25 (fun x => .agg (cell2 x).toArray) eqP := by
  refine ⟨fun x y w => ?_, GuardAt.agg _ guard25⟩
  have u3 := Tryd.underlying3
  have a3 := Tryd.isAgg3
  have z3 := Tryd.sizeOf3
  have u23 := Tryd.underlying23
  have a23 := Tryd.isAgg23
  have z23 := Tryd.sizeOf23
  simp only [cell2]
  rw [run_eql_struct, show (10000 : Nat) = 9999 + 1 from rfl, run_equalIn_agg w 9999 25 _ _ fields25 stood25]
  simp only [Program.fieldsOf, Tryd.underlying25]
  go_simp
  by_cases h1 : x.a = y.a <;> by_cases h2 : x.b = y.b <;> simp [eqP, h1, h2, Int.natCast_inj]
set_option maxHeartbeats 1000000 in
theorem neqP : NeqAt Tryd.prog 25 (fun x => .agg (cell2 x).toArray) eqP := by
  refine ⟨fun x y w => ?_, GuardAt.agg _ guard25⟩
  have u3 := Tryd.underlying3
  have a3 := Tryd.isAgg3
  have z3 := Tryd.sizeOf3
  have u23 := Tryd.underlying23
  have a23 := Tryd.isAgg23
  have z23 := Tryd.sizeOf23
  simp only [cell2]
  rw [run_neq_struct, show (10000 : Nat) = 9999 + 1 from rfl, run_equalIn_agg w 9999 25 _ _ fields25 stood25]
  simp only [Program.fieldsOf, Tryd.underlying25]
  go_simp
  by_cases h1 : x.a = y.a <;> by_cases h2 : x.b = y.b <;> simp [eqP, h1, h2, Int.natCast_inj]
/-- A slice's cells, as the shelf asks for them. -/
theorem ReadsP.flat {w : World} {n : Nat} {es : List Pf} {b off : Nat} (h : ReadsP w (some ⟨b, off, none⟩) n es) (hn : 0 < n) :
    b < w.heap.size ∧ ∀ j, j < es.length → ∀ i v, (cell2 es[j]!)[i]? = some v → w.cell? ⟨b, off + j * 2 + i, none⟩ = some v := by
  obtain ⟨b', off', e, hl, hc⟩ := h.at_ hn
  simp only [Option.some.injEq, Addr.mk.injEq] at e
  obtain ⟨rfl, rfl, _⟩ := e
  refine ⟨hl, fun j hj i v hi => ?_⟩
  have hc := hc j hj
  rw [getElem!_pos es j hj] at hi
  match i, hi with
  | 0, hi => simp [cell2] at hi; rw [← hi]; exact hc.1
  | 1, hi => simp [cell2] at hi; rw [← hi]; exact hc.2
  | i + 2, hi => simp [cell2] at hi
theorem ReadsP.opt {w : World} {A : Option Addr} {n : Nat} {es : List Pf} (h : ReadsP w A n es) (hn : 0 < n) : ∃ b off, A = some ⟨b, off, none⟩ := by
  obtain ⟨b, off, e, _⟩ := h.at_ hn
  exact ⟨b, off, e⟩
theorem entersP (g : Nat) : ∀ args w, Enters Tryd.prog g → (callFunc g args).run Tryd.prog w = .ok (.enter g args) w := fun args w h => h args w
set_option maxHeartbeats 1000000 in
theorem containsP_none (A : Option Addr) (c : Nat) (x : Pf) (w : World) : Calls Tryd.prog 44 #[.slice A 0 c, .agg (cell2 x).toArray] w fun e w' => e = .returned (.bool false) ∧ Below w.heap.size w w' := by
  show Calls Tryd.prog 44 #[.slice A 0 c, .agg #[.int .u32 x.a, .int .i64 x.b]] w _
  go_enter Tryd.func44, Tryd.ntmps44
  go_wp2_with fail
  refine (show Calls Tryd.prog 92 _ _ (fun e w' => e = .returned (.int .i64 (-1)) ∧ Below (w.heap.size + 1) (w.alloc (.cells #[.int .u32 x.a, .int .i64 x.b] 25)) w') from ?_).mono ?_
  · go_enter Tryd.func92, Tryd.ntmps92
    go_wp2
    refine wp_loop_rounds 1 ?_
    rw [rounds_succ]
    go_wp2
    go_ret
    exact ⟨rfl, (Below.refl _ _).alloc (by simp) _⟩
  · rintro e w1 ⟨rfl, hb⟩
    go_wp2_with fail
    go_ret
    exact ⟨rfl, ((Below.refl _ _).alloc (Nat.le_refl _) _).trans (hb.mono (by omega))⟩
set_option maxHeartbeats 1000000 in
theorem containsP_any (A : Option Addr) (n c : Nat) (es : List Pf) (x : Pf) (w : World) (hR : ReadsP w A n es) :
    Calls Tryd.prog 44 #[.slice A n c, .agg (cell2 x).toArray] w fun e w' => e = .returned (.bool (es.any fun y => eqP x y)) ∧ Below w.heap.size w w' := by
  rcases Nat.eq_zero_or_pos n with h0 | hn
  · subst h0
    have he : es = [] := List.length_eq_zero_iff.1 hR.len
    subst he
    exact containsP_none A c x w
  · obtain ⟨b, off, rfl⟩ := hR.opt hn
    obtain ⟨hb, hc⟩ := hR.flat hn
    have := AnyQ.slices_Contains Sh.containsP 2 Tryd.isAgg25 Tryd.sizeOf25 cell2 (fun _ => rfl) eqP eqlP b off n c es x w (by rw [hR.len]; exact Nat.le_refl _) hR.max hc
    rw [List.take_of_length_le (by rw [hR.len]; exact Nat.le_refl _)] at this
    exact this
set_option maxHeartbeats 1000000 in
theorem containsFP_none (A : Option Addr) (c g : Nat) (lb : Array Value) (w : World) : Calls Tryd.prog 74 #[.slice A 0 c, .func (.func g) #[] lb] w fun e w' => e = .returned (.bool false) ∧ w = w' := by
  go_enter Tryd.func74, Tryd.ntmps74
  go_wp2_with fail
  refine (show Calls Tryd.prog 107 _ _ (fun e w' => e = .returned (.int .i64 (-1)) ∧ w = w') from ?_).mono ?_
  · go_enter Tryd.func107, Tryd.ntmps107
    go_wp2
    refine wp_loop_rounds 1 ?_
    rw [rounds_succ]
    go_wp2
    go_ret
    exact ⟨rfl, rfl⟩
  · rintro e w1 ⟨rfl, rfl⟩
    go_wp2_with fail
    go_ret
    exact ⟨rfl, rfl⟩
set_option maxHeartbeats 1000000 in
theorem containsFP_any (A : Option Addr) (n c : Nat) (es : List Pf) (p : Pf → Bool) (g : Nat) (lb : Array Value) (w : World) (hR : ReadsP w A n es)
    (eg : ∀ args w, (callFunc g args).run Tryd.prog w = .ok (.enter g args) w) (hp : PredBelow Tryd.prog g lb (fun x => .agg (cell2 x).toArray) p w) :
    Calls Tryd.prog 74 #[.slice A n c, .func (.func g) #[] lb] w fun e w' => e = .returned (.bool (es.any p)) ∧ Below w.heap.size w w' := by
  rcases Nat.eq_zero_or_pos n with h0 | hn
  · subst h0
    have he : es = [] := List.length_eq_zero_iff.1 hR.len
    subst he
    exact (containsFP_none A c g lb w).mono fun _ _ ⟨h1, h2⟩ => ⟨h1, h2 ▸ Below.refl _ _⟩
  · obtain ⟨b, off, rfl⟩ := hR.opt hn
    obtain ⟨hb, hc⟩ := hR.flat hn
    have := AnyQ.slices_ContainsFunc Sh.containsFP 2 Tryd.isAgg25 Tryd.sizeOf25 cell2 (fun _ => rfl) p g lb eg b off n c es w hp (by rw [hR.len]; exact Nat.le_refl _) hR.max hb hc
    rw [List.take_of_length_le (by rw [hR.len]; exact Nat.le_refl _)] at this
    exact this
/-- The element with an address of 32 bits. -/
def smallP (x : Pf) : Pf := ⟨x.a % 4294967296, x.b⟩
theorem smallP_of {x : Pf} (h : x.a < 4294967296) : smallP x = x := by cases x; simp [smallP] at h ⊢; omega
theorem any_smallP (p : Pf → Bool) : ∀ (es : List Pf), (∀ e, e ∈ es → e.a < 4294967296) → (es.any fun x => p (smallP x)) = es.any p
  | [], _ => rfl
  | x :: es, h => by rw [List.any_cons, List.any_cons, smallP_of (h x (by simp)), any_smallP p es (fun e he => h e (by simp [he]))]
set_option maxHeartbeats 1000000 in
theorem containsFP_small (A : Option Addr) (n c : Nat) (es : List Pf) (p : Pf → Bool) (g : Nat) (lb : Array Value) (w : World) (hR : ReadsP w A n es)
    (eg : ∀ args w, (callFunc g args).run Tryd.prog w = .ok (.enter g args) w)
    (hp : ∀ (W : World) (x : Pf), x.a < 4294967296 → Below w.heap.size w W → Calls Tryd.prog g (#[.agg (cell2 x).toArray] ++ lb) W fun e w' => e = .returned (.bool (p x)) ∧ Below w.heap.size w w') :
    Calls Tryd.prog 74 #[.slice A n c, .func (.func g) #[] lb] w fun e w' => e = .returned (.bool (es.any p)) ∧ Below w.heap.size w w' := by
  rcases Nat.eq_zero_or_pos n with h0 | hn
  · subst h0
    have he : es = [] := List.length_eq_zero_iff.1 hR.len
    subst he
    exact (containsFP_none A c g lb w).mono fun _ _ ⟨h1, h2⟩ => ⟨h1, h2 ▸ Below.refl _ _⟩
  · obtain ⟨b, off, rfl⟩ := hR.opt hn
    obtain ⟨hb, hc⟩ := hR.flat hn
    have hc' : ∀ j, j < es.length → ∀ i v, (cell2 (smallP es[j]!))[i]? = some v → w.cell? ⟨b, off + j * 2 + i, none⟩ = some v := fun j hj => by
      rw [smallP_of (hR.small _ (by rw [getElem!_pos es j hj]; exact List.getElem_mem hj))]; exact hc j hj
    have := AnyQ.slices_ContainsFunc Sh.containsFP 2 Tryd.isAgg25 Tryd.sizeOf25 (fun x => cell2 (smallP x)) (fun _ => rfl) (fun x => p (smallP x)) g lb eg b off n c es w
      (fun W x hb => hp W (smallP x) (Nat.mod_lt _ (by decide)) hb) (by rw [hR.len]; exact Nat.le_refl _) hR.max hb hc'
    rw [List.take_of_length_le (by rw [hR.len]; exact Nat.le_refl _), any_smallP p es hR.small] at this
    exact this
theorem allEqP : ∀ (xs ys : List Pf), Lib.allEq eqP xs ys = true ↔ xs = ys
  | [], [] => by simp [Lib.allEq]
  | [], y :: ys => by simp [Lib.allEq]
  | x :: xs, [] => by simp [Lib.allEq]
  | x :: xs, y :: ys => by rw [Lib.allEq, Bool.and_eq_true, eqP_iff, allEqP xs ys, List.cons.injEq]
set_option maxHeartbeats 1000000 in
theorem equalP_len (A B : Option Addr) (n m c d : Nat) (w : World) (hn : n ≤ 9223372036854775807) (hm : m ≤ 9223372036854775807) (h : n ≠ m) : Calls Tryd.prog 53 #[.slice A n c, .slice B m d] w fun e w' => e = .returned (.bool false) ∧ w = w' := by
  have hne : ((n : Int) != m) = true := by rw [bne_iff_ne]; omega
  go_enter Tryd.func53, Tryd.ntmps53
  go_wp2
  go_ret
  exact ⟨rfl, rfl⟩
set_option maxHeartbeats 1000000 in
theorem equalP_zero (A B : Option Addr) (c d : Nat) (w : World) : Calls Tryd.prog 53 #[.slice A 0 c, .slice B 0 d] w fun e w' => e = .returned (.bool true) ∧ w = w' := by
  go_enter Tryd.func53, Tryd.ntmps53
  go_wp2
  refine wp_loop_rounds 1 ?_
  rw [rounds_succ]
  go_wp2
  go_ret
  exact ⟨rfl, rfl⟩
theorem equalP_any (A B : Option Addr) (n m c d : Nat) (es fs : List Pf) (w : World) (hR : ReadsP w A n es) (hS : ReadsP w B m fs) [Decidable (es = fs)] :
    Calls Tryd.prog 53 #[.slice A n c, .slice B m d] w fun e w' => e = .returned (.bool (decide (es = fs))) ∧ Below w.heap.size w w' := by
  by_cases h : n = m
  · subst h
    rcases Nat.eq_zero_or_pos n with h0 | hn
    · subst h0
      have he : es = [] := List.length_eq_zero_iff.1 hR.len
      have hf : fs = [] := List.length_eq_zero_iff.1 hS.len
      subst he hf
      exact (equalP_zero A B c d w).mono fun _ _ ⟨h1, h2⟩ => ⟨by rw [h1, decide_eq_true rfl], h2 ▸ Below.refl _ _⟩
    · obtain ⟨b, off, rfl⟩ := hR.opt hn
      obtain ⟨b2, off2, rfl⟩ := hS.opt hn
      obtain ⟨hb, hc⟩ := hR.flat hn
      obtain ⟨hb2, hc2⟩ := hS.flat hn
      have := AnyQ.slices_Equal Sh.equalP 2 Tryd.isAgg25 Tryd.sizeOf25 cell2 (fun _ => rfl) eqP neqP b off n c b2 off2 n d es fs w (by rw [hR.len]; exact Nat.le_refl _) (by rw [hS.len]; exact Nat.le_refl _) hR.max hS.max hc hc2
      rw [List.take_of_length_le (by rw [hR.len]; exact Nat.le_refl _), List.take_of_length_le (by rw [hS.len]; exact Nat.le_refl _)] at this
      refine Calls.mono this fun e w' ⟨h1, q, h2⟩ => ⟨?_, h2 ▸ below_drewN (Below.refl _ _) q⟩
      rw [h1]
      congr 2
      rw [Bool.eq_iff_iff, decide_eq_true_iff]
      exact allEqP es fs
  · have hne : es ≠ fs := fun e => h (by rw [← hR.len, ← hS.len, e])
    exact (equalP_len A B n m c d w hR.max hS.max h).mono fun _ _ ⟨h1, h2⟩ => ⟨by rw [h1, decide_eq_false hne], h2 ▸ Below.refl _ _⟩
theorem info25 : (Tryd.prog.info? 25).map (fun i => (i.zero, i.size, i.bytes)) = some (some (.agg #[.int .u32 0, .int .i64 0]), 2, 16) := by kernel_rfl
/-- The world owns the prefixes in a row of its own. -/
def RowP (base : Nat) (w : World) (ov : Value) (es : List Pf) : Prop := w.ownsRow base 25 2 ov es.length (es.flatMap cell2)
theorem RowP.grow {base : Nat} {w w' : World} {ov : Value} {es : List Pf} (h : RowP base w ov es) (hb : ∀ k, ov.ownBlock = some k → w'.heap[k]? = w.heap[k]?) : RowP base w' ov es := by
  refine ⟨h.1, ?_⟩
  rcases h.2 with hn | ⟨g, cap, cur, hv, h1, h2, rest⟩
  · exact .inl hn
  · exact .inr ⟨g, cap, cur, hv, h1, (hb g (by rw [hv]; rfl)).trans h2, rest⟩
theorem RowP.lt {base : Nat} {w : World} {ov : Value} {es : List Pf} (h : RowP base w ov es) : ∀ k, ov.ownBlock = some k → base ≤ k ∧ k < w.heap.size := World.ownsRow.lt h
theorem RowP.reads {base : Nat} {w : World} {ov : Value} {es : List Pf} (h : RowP base w ov es) (hsm : ∀ e, e ∈ es → e.a < 4294967296) : ∃ A c, ov = .slice A es.length c ∧ es.length ≤ c ∧ (A = none → c = 0) ∧ ReadsP w A es.length es := by
  rcases h.2 with ⟨rfl, h0⟩ | ⟨g, cap, cur, rfl, hb, hg, hle, hmx, hsz, htk⟩
  · rw [h0]
    exact ⟨none, 0, rfl, Nat.le_refl _, fun _ => rfl, h0, by omega, fun hn => absurd hn (by omega), hsm⟩
  · refine ⟨some ⟨g, 0, none⟩, cap, rfl, hle, (fun e => by cases e), rfl, by unfold maxLen at hmx; omega, fun hn => ⟨g, 0, rfl, (Array.getElem?_eq_some_iff.1 hg).1, fun i hi => ?_⟩, hsm⟩
    have hcell : ∀ j u, (es.flatMap cell2)[j]? = some u → w.cell? ⟨g, j, none⟩ = some u := fun j u hu => by
      have := World.ownsRow.cells h (g := g) rfl j u hu
      simpa [Go.WideShapes.add_plain] using this
    have hfl : ∀ (l : List Pf) (i : Nat) (hi : i < l.length), (l.flatMap cell2)[i * 2]? = some (.int .u32 l[i].a) ∧ (l.flatMap cell2)[i * 2 + 1]? = some (.int .i64 l[i].b) := by
      intro l
      induction l with
      | nil => intro i hi; simp at hi
      | cons x l ih =>
        intro i hi
        cases i with
        | zero => simp [cell2]
        | succ i =>
          have := ih i (by simpa using hi)
          rw [List.flatMap_cons]
          have hl : (cell2 x).length = 2 := rfl
          rw [List.getElem?_append_right (by rw [hl]; omega), List.getElem?_append_right (by rw [hl]; omega), hl]
          rw [show (i + 1) * 2 - 2 = i * 2 by omega, show (i + 1) * 2 + 1 - 2 = i * 2 + 1 by omega]
          simpa using this
    obtain ⟨f0, f1⟩ := hfl es i hi
    rw [Nat.zero_add]
    exact ⟨hcell _ _ f0, hcell _ _ f1⟩
end Go.Proofs.YtaknlphmplimhaaDoor
