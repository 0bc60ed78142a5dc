/- What a list of variables gives, wherever a variable stands on it: the variable ten, and the tables of small numbers; and the witnesses' cells. -/
import Derived.Test.YtaknlphmplimhaaDoorOp
set_option linter.unusedVariables false
set_option linter.unusedSimpArgs false
namespace Go.Proofs.YtaknlphmplimhaaDoor
open Go.ChangeShapes Go.WideShapes Go.ChangeAt Go.RowKit Go.Joins Go.Proofs
theorem var_of_laid {P : Program} {W : World} : ∀ {l : List (String × DataW Unit)} {ps : List MemPlace}, DataW.LaidVars P W l ps → ∀ n d, (n, d) ∈ l →
    ∃ g t cs fuel p, P.globalNamed n = some g ∧ (P.globals[g]?).map (·.type) = some t ∧ W.var? P n = some cs ∧ DataW.trod (fun _ => ()) P W 0 (fun _ => true) false fuel t cs.toList = some (d, p)
  | [], _, _, _, _, hm => by simp at hm
  | (n0, d0) :: r, ps, h, n, d, hm => by
    obtain ⟨g, t, cs, fuel, p, q, h1, h2, h3, h4, h5, _⟩ := h
    rcases List.mem_cons.1 hm with e | hm
    · simp only [Prod.mk.injEq] at e
      obtain ⟨rfl, rfl⟩ := e
      exact ⟨g, t, cs, fuel, p, h1, h2, h3, h4⟩
    · exact var_of_laid h5 n d hm
/-- What the list gives, wherever ten stands: the variable ten holds 10.0.0.0/8. -/
theorem ten_of_laid {W : World} {l : List (String × DataW Unit)} (h : laidMet Tryd.prog l W) (hm : ("patchbay/patchbaykeep2.ten", Rows.laid_patchbay_patchbaykeep2_ten) ∈ l) :
    W.cell? ⟨0, 0, none⟩ = some (.int .u32 167772160) ∧ W.cell? ⟨0, 1, none⟩ = some (.int .i64 8) := by
  obtain ⟨ps, hv, _, _⟩ := h
  obtain ⟨g', t', cs, fuel, p, hg', ht', hvar, hd⟩ := var_of_laid hv _ _ hm
  obtain rfl := Option.some.inj (gTen.symm.trans hg')
  obtain rfl := Option.some.inj (gTenType.symm.trans ht')
  obtain ⟨y0, y1, n, hx, hl, h0, h1⟩ := trod_struct2 Tryd.underlying25 hd
  obtain ⟨a, e0, rfl, wa⟩ := DataW.trod_int Tryd.underlying23 h0
  obtain ⟨b, e1, rfl, wb⟩ := DataW.trod_int Tryd.underlying3 h1
  rw [cells25] at hl
  simp only [cells23, cells3] at e0 e1
  match hcs : cs.toList, hl with
  | [x, y], _ =>
    rw [hcs] at e0 e1
    simp only [List.drop_zero, List.take_succ_cons, List.take_zero, List.cons.injEq, and_true, List.drop_succ_cons] at e0 e1
    subst e0 e1
    simp only [Rows.laid_patchbay_patchbaykeep2_ten, Prod.mk.injEq, DataW.agg.injEq, List.cons.injEq, DataW.lit.injEq, Lit.int.injEq, true_and, and_true] at hx
    obtain ⟨⟨rfl, rfl⟩, _⟩ := hx
    have hc : cs = #[.int .u32 167772160, .int .i64 8] := by cases cs; simpa using hcs
    subst hc
    exact ⟨by have := World.var?_cell gTen hvar 0; simpa using this, by have := World.var?_cell gTen hvar 1; simpa using this⟩
theorem laidOut : laidOutB Tryd.prog = true := by kernel_rfl
set_option maxRecDepth 100000 in
/-- An address by value, opened. -/
theorem open_u32 {H : Type} {enc : TypeId × Value → H} {w : World} {base : Nat} {spare : Nat → Bool} {held : Bool} {r : Reach} {b0 : Nat} {v : Value} {d : DataW H} {p : List MemPlace}
    (hv : Value.okWide Tryd.prog w r b0 23 v) (h : DataW.Trod enc Tryd.prog w base spare held 23 v d p) : ∃ a : Nat, v = .int .u32 a ∧ a < 4294967296 := by
  obtain ⟨a, e, rfl, _, wa⟩ := open_int Tryd.underlying23 hv h
  obtain ⟨h0, h1⟩ := bounds_u32 wa
  obtain ⟨n, rfl⟩ := Int.eq_ofNat_of_zero_le h0
  subst e
  exact ⟨n, rfl, by omega⟩
/-- The cells of a table of small numbers, as a list of literals gives them. -/
def litCells : List (DataW Unit) → Array Value := fun l => (l.map fun d => match d with | .lit (.int k z) => Value.int k z | _ => .int .i64 0).toArray
def aggCells : DataW Unit → Array Value := fun d => match d with | .agg l => litCells l | _ => #[]
def tab32 : Array Value := aggCells Rows.laid_math_bits_deBruijn32tab
def tab64 : Array Value := aggCells Rows.laid_math_bits_deBruijn64tab
def tabPow : Array Value := aggCells Rows.laid_internal_strconv_uint64pow10
end Go.Proofs.YtaknlphmplimhaaDoor
