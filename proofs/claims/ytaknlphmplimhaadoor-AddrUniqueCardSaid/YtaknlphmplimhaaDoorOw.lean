/- What a row's list and its world give for texts: Itoa's table, the cell that Index reads; the witnesses' cells; a text that a row reads. -/
import Derived.Test.YtaknlphmplimhaaDoorOq
import Derived.Test.YtaknlphmplimhaaDoorShA
import Derived.Lib.LaidTab
set_option linter.unusedVariables false
set_option linter.unusedSimpArgs false
namespace Go.Proofs.YtaknlphmplimhaaDoor
open Go.ChangeShapes Go.WideShapes Go.ChangeAt Go.RowKit Go.Joins Go.Proofs
theorem gPow : Tryd.prog.globalNamed "internal/strconv.uint64pow10" = some 3 := by kernel_rfl
theorem gPowType : (Tryd.prog.globals[3]?).map (·.type) = some 199 := by kernel_rfl
theorem pow_of_laid {W : World} {l : List (String × DataW Unit)} (h : laidMet Tryd.prog l W) (hm : ("internal/strconv.uint64pow10", Rows.laid_internal_strconv_uint64pow10) ∈ l) :
    Lib.TabIs Tryd.prog W "internal/strconv.uint64pow10" .u64 Lib.pow10Tab := by
  obtain ⟨ps, hv, _, _⟩ := h
  obtain ⟨g', t', cs, fuel, p, hg', ht', hvar, hd⟩ := var_of_laid hv _ _ hm
  obtain rfl := Option.some.inj (gPow.symm.trans hg')
  obtain rfl := Option.some.inj (gPowType.symm.trans ht')
  rw [show (Rows.laid_internal_strconv_uint64pow10 : DataW Unit) = Lib.tabData .u64 Lib.pow10Tab from by kernel_rfl] at hd
  unfold Lib.TabIs
  rw [hvar, ← Lib.cells_of_tab Tryd.underlying199 Tryd.underlying136 (by kernel_rfl) (by kernel_rfl) hd]
theorem maxcell_of_shaped {w : World} (h : w.ShapedOpen Tryd.prog) : ∃ m, w.cell? ⟨2, 0, none⟩ = some (.int .i64 m) := Sh.laysM146.s1_3 w h
def flatCells : DataW Unit → Array Value := fun d => match d with | .agg l => (l.map fun x => (aggCells x).toList).flatten.toArray | _ => #[]
def tabFirst : Array Value := aggCells Rows.laid_unicode_utf8_first
def tabAcc : Array Value := flatCells Rows.laid_unicode_utf8_acceptRanges
end Go.Proofs.YtaknlphmplimhaaDoor
