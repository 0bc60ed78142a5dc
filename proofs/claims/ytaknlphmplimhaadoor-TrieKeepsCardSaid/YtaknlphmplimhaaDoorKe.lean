/- The law TrieKeeps: the walk as a whole, the contract over the row's readings, and the witness; for every input that the row speaks of. -/
import Derived.Test.YtaknlphmplimhaaDoorOp
import Derived.Test.YtaknlphmplimhaaDoorTj
set_option linter.unusedVariables false
set_option linter.unusedSimpArgs false
namespace Go.Proofs.YtaknlphmplimhaaDoor.trieKeeps
open Go.ChangeShapes Go.WideShapes Go.ChangeAt Go.RowKit Go.Joins Go.Proofs Go.Proofs.YtaknlphmplimhaaDoor

theorem walk (A : Option Addr) (n c : Nat) (es : List En) (pa qa : Nat) (pb qb v : Int) (w : World) (hR : ReadsE w A n es) (hc : n ≤ c) (hpa : pa < 4294967296) (hqa : qa < 4294967296)
    (h0 : w.cell? ⟨0, 0, none⟩ = some (.int .u32 167772160)) (h1 : w.cell? ⟨0, 1, none⟩ = some (.int .i64 8)) :
    Calls Tryd.prog 3 #[.slice A n c, .agg #[.int .u32 pa, .int .i64 pb], .int .i64 v, .agg #[.int .u32 qa, .int .i64 qb]] w fun e w' => e = .returned (.bool true) ∧ Below w.heap.size w w' := by
  by_cases hp : chkE pa pb = 0
  · obtain ⟨b0, _, _⟩ := chkE_zero.1 hp
    obtain ⟨pb, rfl⟩ := Int.eq_ofNat_of_zero_le b0
    by_cases ha : (qa : Int) = (pa : Int)
    · obtain rfl : qa = pa := by omega
      by_cases hb : qb = (pb : Int)
      · subst hb
        exact keeps_e A n c es qa pb v w hR hc hpa h0 h1 hp
      · exact keeps_b A n c es qa pb qb v w hR hc hpa h0 h1 hp hb
    · exact keeps_a A n c es pa qa pb qb v w hR hc hpa hqa h0 h1 hp ha
  · exact keeps_bad A n c es pa qa pb qb v w hR hc hpa hqa h0 h1 hp

theorem laidOut : laidOutB Tryd.prog = true := by kernel_rfl
set_option maxRecDepth 100000 in
theorem contract (H : Type) (enc : TypeId × Value → H) (W : World) (base : Nat) (args : Array Value) (ds gs : List (DataW H)) (before : List MemPlace)
    (hval : ∀ (j : Nat) t v, Tryd.f3.params[j]? = some t → args[j]? = some v → Value.okWide Tryd.prog W .any base t v)
    (hW : DataW.Whole enc Tryd.prog Tryd.f3.params.toList Rows.trieKeepsSpec.vars false W args.toList ds gs before) (hL : laidMetH Tryd.prog Rows.trieKeepsRow.laid W) :
    Calls Tryd.prog 3 args W fun e W' => ∃ v, e = .returned v ∧ Rows.trieKeepsSpec.post enc Tryd.prog Tryd.f3 false true false false W args v W' := by
  have hW' := hW
  have hlt := hW.lt
  obtain ⟨p, q, hA0, hV, rfl, hfz, hnd⟩ := hW
  have hA : DataW.TrodAll enc Tryd.prog W 0 (fun _ => true) true Tryd.f3.params.toList args.toList ds p := hA0
  rw [Tryd.params3] at hA hval
  obtain ⟨v0, vs0, d0, ds0, p0, q0, hargs, rfl, rfl, g0, r0⟩ := trodAll_cons hA
  obtain ⟨v1, vs1, d1, ds1, p1, q1, rfl, rfl, rfl, g1, r1⟩ := trodAll_cons r0
  obtain ⟨v2, vs2, d2, ds2, p2, q2, rfl, rfl, rfl, g2, r2⟩ := trodAll_cons r1
  obtain ⟨v3, vs3, d3, ds3, p3, q3, rfl, rfl, rfl, g3, r3⟩ := trodAll_cons r2
  obtain ⟨rfl, rfl, rfl⟩ := trodAll_nil r3
  obtain rfl : args = #[v0, v1, v2, v3] := by cases args; simp_all
  obtain ⟨rfl, rfl⟩ := trodVars_none hV
  obtain ⟨A, n, c, es, rfl, hnc, hR⟩ := open_entries (hval 0 22 v0 rfl rfl) g0
  obtain ⟨pa, pb, rfl, hpa, _⟩ := open_prefix (hval 1 25 v1 rfl rfl) g1
  obtain ⟨v, e2, rfl, _, wv⟩ := open_int Tryd.underlying3 (hval 2 3 v2 rfl rfl) g2
  obtain ⟨qa, qb, rfl, hqa, _⟩ := open_prefix (hval 3 25 v3 rfl rfl) g3
  clear hA0
  subst e2
  obtain ⟨t0, t1⟩ := ten_of_vars hL
  have hlt0 : ∀ x ∈ p0, x.block < W.heap.size := fun x hx => hlt x (by simp [hx])
  have hlt1 : ∀ x ∈ p1, x.block < W.heap.size := fun x hx => hlt x (by simp [hx])
  have hlt2 : ∀ x ∈ p2, x.block < W.heap.size := fun x hx => hlt x (by simp [hx])
  have hlt3 : ∀ x ∈ p3, x.block < W.heap.size := fun x hx => hlt x (by simp [hx])
  refine (walk A n c es pa qa pb qb v W hR hnc hpa hqa t0 t1).mono fun e W' ⟨he, bel⟩ => ?_
  subst he
  exact ⟨_, rfl, _, _, _, [], _, [], hW', trodAll_mk1 (shut_bool Tryd.underlying4 _),
    (trodAll_cons_mk (Below.trod laidOut (by kernel_rfl) (of_decide_eq_true (by kernel_rfl)) g0 bel hlt0)
      (trodAll_cons_mk (Below.trod laidOut (by kernel_rfl) (of_decide_eq_true (by kernel_rfl)) g1 bel hlt1)
        (trodAll_cons_mk (Below.trod laidOut (by kernel_rfl) (of_decide_eq_true (by kernel_rfl)) g2 bel hlt2)
          (trodAll_cons_mk (Below.trod laidOut (by kernel_rfl) (of_decide_eq_true (by kernel_rfl)) g3 bel hlt3) trodAll_mk0)))), rfl, bel.frame _, fun h => by cases h⟩

/-- A world for the witness: the settled one, the variable ten (block 0) holding what its initialiser lays. -/
noncomputable def laidWorld (os : Os) : World :=
  { World.holding Tryd.prog os ⟨#[], #[], []⟩ with heap := (World.holding Tryd.prog os ⟨#[], #[], []⟩).heap.modify 0 fun
      | .cells _ t frozen => .cells #[.int .u32 167772160, .int .i64 8] t frozen
      | o => o }
abbrev wargs : Array Value := #[.slice none 0 0, .agg #[.int .u32 0, .int .i64 0], .int .i64 0, .agg #[.int .u32 0, .int .i64 0]]
theorem laid_met (os : Os) : laidMet Tryd.prog Rows.trieKeepsRow.laid ((laidWorld os).forCall (fun _ _ => 0) ⟨#[], wargs, []⟩).memory :=
  laidMet_of_run' 8 (by kernel_rfl) (by kernel_rfl)
theorem reads (os : Os) {H : Type} (enc : TypeId × Value → H) : ∃ places, DataW.whole enc Tryd.prog ((laidWorld os).forCall (fun _ _ => 0) ⟨#[], wargs, []⟩).memory Tryd.f3.params.toList Rows.trieKeepsSpec.vars false wargs.toList 8 = some ([.nil, .agg [.lit (.int .u32 0), .lit (.int .i64 0)], .lit (.int .i64 0), .agg [.lit (.int .u32 0), .lit (.int .i64 0)]], [], places) :=
  ⟨[], by kernel_rfl⟩

set_option maxRecDepth 100000 in
theorem lifted (os : Os) (started : os.Started) (H : Type) (enc : TypeId × Value → H) (F : Stop.Interp) :
    ReturnsInHanded {} Tryd.checked os 3 .any ((OpenSpec.ofChange Rows.trieKeepsSpec).preRow enc Tryd.prog Tryd.f3 Rows.trieKeepsRow.domain false Rows.trieKeepsRow.laid) (((OpenSpec.ofChange Rows.trieKeepsSpec).at F).post enc Tryd.prog Tryd.f3 false true false false) := by
  obtain ⟨places, hx⟩ := reads os enc
  refine returnsInHanded_of_row (C := Tryd.checked) (s := OpenSpec.ofChange Rows.trieKeepsSpec) ownT started (by kernel_rfl) Tryd.func3
    (witness_row_at (enc := enc) (C := Tryd.checked) false (laidWorld os) wargs rfl (by kernel_rfl) (by kernel_rfl) (by kernel_rfl)
      (OpenSpec.preRow_of_cond 8 hx (by kernel_rfl) (fun k hk => by cases hk) (by kernel_rfl) (laid_met os))) ?_
  intro W base args ds gs before hval hW _ _ _ hL _ _
  exact contract H enc W base args ds gs before hval hW hL

end Go.Proofs.YtaknlphmplimhaaDoor.trieKeeps
