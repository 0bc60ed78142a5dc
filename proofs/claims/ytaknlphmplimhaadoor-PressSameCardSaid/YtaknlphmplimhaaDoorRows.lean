/-
  NARROWER THAN 'FOR EVERY INPUT', by the rows' own cells (each row's printed sentence says how): TrieKeeps: laid · TrieLongest: laid · TrieUnder: laid · TrieOrder: laid · PressFew: laid · PressAsTrie: laid · PressSame: laid · AddrHalves: laid · AddrNested: laid · AddrOrder: laid · PsetOne: laid · PsetRanges: laid · PsetMorgan: laid · PsetSizes: laid · AddrBack: laid · AddrUnique: laid · PsetExact: laid.
  DERIVED. THE GIVEN ROWS OF THIS SEAT. 17 by the template 'for every input the law returns true; each argument reads behind the call as it read before'; 0 by the template 'total and deterministic' (their statements: YtaknlphmplimhaaDoorTotals.lean).
  GIVEN WITH THE SEED: the statements are not yours to turn. If you find one false, say at which input.
  Laid BY PROGRAM, IN A SANDBOX (cutbox-rows.mjs): the forced cells as the released guide's own fill.sh prints them over the translation ac7120d64450bff4… (all of the seat's roots in one cut). By AI agents, Wed Nov 11 2026. No macro, syntax, notation, axiom, sorry.
-/
import Derived.Test.YtaknlphmplimhaaDoorChecked
import GoSem.PinnedTables
import GoSem.Claim
import GoSem.ClaimJoined
import GoSem.ClaimMapViews
import Derived.JoinedTies
import Derived.KernelRfl
namespace Go.Proofs.YtaknlphmplimhaaDoor
/- THE CELL 'sum', in the pinned program and in every row, IS THE sha256 OF THE DUMP (.gsa) THAT YtaknlphmplimhaaDoorProg.lean LOADS. Nothing in Lean hashes anything: it is a label: what it is worth is what the hold of that sum in a sandbox is worth. -/
noncomputable def Tryd.pinned : Pinned := { name := "ytaknlphmplimhaadoor", sum := "ac7120d64450bff49ea14d06b050eca6fa70f9857cc44956616b083f937da13d", checked := Tryd.checked }
namespace Rows
def none {H : Type} : Left H := { results := [], args := [] }

/- WHAT THE LISTED PACKAGE-LEVEL VARIABLES READ AS WHEN THE CALL BEGINS. Each datum BY PROGRAM (the guide's laid-datum.mjs) off the statement by which the dump's own 'gosem.cut.vars' lays the variable. In a bare row this is a premise. The card (YtaknlphmplimhaaDoorCards.lean) ties it to the program's text. -/
def laid_patchbay_patchbaykeep2_ten {H : Type} : DataW H := .agg [.lit (.int .u32 167772160), .lit (.int .i64 8)]
def laid_math_bits_deBruijn32tab {H : Type} : DataW H := .agg [.lit (.int .u8 0), .lit (.int .u8 1), .lit (.int .u8 28), .lit (.int .u8 2), .lit (.int .u8 29), .lit (.int .u8 14), .lit (.int .u8 24), .lit (.int .u8 3), .lit (.int .u8 30), .lit (.int .u8 22), .lit (.int .u8 20), .lit (.int .u8 15), .lit (.int .u8 25), .lit (.int .u8 17), .lit (.int .u8 4), .lit (.int .u8 8), .lit (.int .u8 31), .lit (.int .u8 27), .lit (.int .u8 13), .lit (.int .u8 23), .lit (.int .u8 21), .lit (.int .u8 19), .lit (.int .u8 16), .lit (.int .u8 7), .lit (.int .u8 26), .lit (.int .u8 12), .lit (.int .u8 18), .lit (.int .u8 6), .lit (.int .u8 11), .lit (.int .u8 5), .lit (.int .u8 10), .lit (.int .u8 9)]
def laid_math_bits_deBruijn64tab {H : Type} : DataW H := .agg [.lit (.int .u8 0), .lit (.int .u8 1), .lit (.int .u8 56), .lit (.int .u8 2), .lit (.int .u8 57), .lit (.int .u8 49), .lit (.int .u8 28), .lit (.int .u8 3), .lit (.int .u8 61), .lit (.int .u8 58), .lit (.int .u8 42), .lit (.int .u8 50), .lit (.int .u8 38), .lit (.int .u8 29), .lit (.int .u8 17), .lit (.int .u8 4), .lit (.int .u8 62), .lit (.int .u8 47), .lit (.int .u8 59), .lit (.int .u8 36), .lit (.int .u8 45), .lit (.int .u8 43), .lit (.int .u8 51), .lit (.int .u8 22), .lit (.int .u8 53), .lit (.int .u8 39), .lit (.int .u8 33), .lit (.int .u8 30), .lit (.int .u8 24), .lit (.int .u8 18), .lit (.int .u8 12), .lit (.int .u8 5), .lit (.int .u8 63), .lit (.int .u8 55), .lit (.int .u8 48), .lit (.int .u8 27), .lit (.int .u8 60), .lit (.int .u8 41), .lit (.int .u8 37), .lit (.int .u8 16), .lit (.int .u8 46), .lit (.int .u8 35), .lit (.int .u8 44), .lit (.int .u8 21), .lit (.int .u8 52), .lit (.int .u8 32), .lit (.int .u8 23), .lit (.int .u8 11), .lit (.int .u8 54), .lit (.int .u8 26), .lit (.int .u8 40), .lit (.int .u8 15), .lit (.int .u8 34), .lit (.int .u8 20), .lit (.int .u8 31), .lit (.int .u8 10), .lit (.int .u8 25), .lit (.int .u8 14), .lit (.int .u8 19), .lit (.int .u8 9), .lit (.int .u8 13), .lit (.int .u8 8), .lit (.int .u8 7), .lit (.int .u8 6)]
def laid_internal_strconv_uint64pow10 {H : Type} : DataW H := .agg [.lit (.int .u64 1), .lit (.int .u64 10), .lit (.int .u64 100), .lit (.int .u64 1000), .lit (.int .u64 10000), .lit (.int .u64 100000), .lit (.int .u64 1000000), .lit (.int .u64 10000000), .lit (.int .u64 100000000), .lit (.int .u64 1000000000), .lit (.int .u64 10000000000), .lit (.int .u64 100000000000), .lit (.int .u64 1000000000000), .lit (.int .u64 10000000000000), .lit (.int .u64 100000000000000), .lit (.int .u64 1000000000000000), .lit (.int .u64 10000000000000000), .lit (.int .u64 100000000000000000), .lit (.int .u64 1000000000000000000), .lit (.int .u64 10000000000000000000)]
def laid_unicode_utf8_acceptRanges {H : Type} : DataW H := .agg [.agg [.lit (.int .u8 128), .lit (.int .u8 191)], .agg [.lit (.int .u8 160), .lit (.int .u8 191)], .agg [.lit (.int .u8 128), .lit (.int .u8 159)], .agg [.lit (.int .u8 144), .lit (.int .u8 191)], .agg [.lit (.int .u8 128), .lit (.int .u8 143)], .agg [.lit (.int .u8 0), .lit (.int .u8 0)], .agg [.lit (.int .u8 0), .lit (.int .u8 0)], .agg [.lit (.int .u8 0), .lit (.int .u8 0)], .agg [.lit (.int .u8 0), .lit (.int .u8 0)], .agg [.lit (.int .u8 0), .lit (.int .u8 0)], .agg [.lit (.int .u8 0), .lit (.int .u8 0)], .agg [.lit (.int .u8 0), .lit (.int .u8 0)], .agg [.lit (.int .u8 0), .lit (.int .u8 0)], .agg [.lit (.int .u8 0), .lit (.int .u8 0)], .agg [.lit (.int .u8 0), .lit (.int .u8 0)], .agg [.lit (.int .u8 0), .lit (.int .u8 0)]]
/-- One of Go's own tables, pinned by name: the form's constant. -/
def laid_unicode_utf8_first : DataW Unit := Go.Pinned.utf8First

/-- 'patchbaykeep2.TrieKeeps': WHATEVER THE INPUT: true; the input reads as it did. -/
def trieKeepsSpec : ChangeSpec := { name := "trieKeeps", fn := fun _ => fun
  | [d1, d2, d3, d4] => { results := [.lit (.bool true)], args := [d1, d2, d3, d4] }
  | _ => none }
def trieKeepsRow : OpenClaim := { program := "ytaknlphmplimhaadoor", sum := "ac7120d64450bff49ea14d06b050eca6fa70f9857cc44956616b083f937da13d", func := "patchbay/patchbaykeep2.TrieKeeps", spec := "trieKeeps", recurses := true, named := ["patchbay/patchbaykeep2.ten"], apart := false, laid := [("patchbay/patchbaykeep2.ten", laid_patchbay_patchbaykeep2_ten)] }
def TrieKeepsSaid : Prop := trieKeepsRow.holds Tryd.pinned (OpenSpec.ofChange trieKeepsSpec)

/-- ITS FALSE NEIGHBOUR: 'it returns false'. Refute it at one input. -/
def trieKeepsWrong : ChangeSpec := { name := "trieKeeps", fn := fun _ => fun
  | [d1, d2, d3, d4] => { results := [.lit (.bool false)], args := [d1, d2, d3, d4] }
  | _ => none }
def TrieKeepsWrongFalsely : Prop := trieKeepsRow.holds Tryd.pinned (OpenSpec.ofChange trieKeepsWrong)

/-- 'patchbaykeep2.TrieLongest': WHATEVER THE INPUT: true; the input reads as it did. -/
def trieLongestSpec : ChangeSpec := { name := "trieLongest", fn := fun _ => fun
  | [d1, d2] => { results := [.lit (.bool true)], args := [d1, d2] }
  | _ => none }
def trieLongestRow : OpenClaim := { program := "ytaknlphmplimhaadoor", sum := "ac7120d64450bff49ea14d06b050eca6fa70f9857cc44956616b083f937da13d", func := "patchbay/patchbaykeep2.TrieLongest", spec := "trieLongest", unfollowed := true, recurses := true, named := ["patchbay/patchbaykeep2.ten"], apart := false, laid := [("patchbay/patchbaykeep2.ten", laid_patchbay_patchbaykeep2_ten)] }
def TrieLongestSaid : Prop := trieLongestRow.holds Tryd.pinned (OpenSpec.ofChange trieLongestSpec)

/-- ITS FALSE NEIGHBOUR: 'it returns false'. Refute it at one input. -/
def trieLongestWrong : ChangeSpec := { name := "trieLongest", fn := fun _ => fun
  | [d1, d2] => { results := [.lit (.bool false)], args := [d1, d2] }
  | _ => none }
def TrieLongestWrongFalsely : Prop := trieLongestRow.holds Tryd.pinned (OpenSpec.ofChange trieLongestWrong)

/-- 'patchbaykeep2.TrieUnder': WHATEVER THE INPUT: true; the input reads as it did. -/
def trieUnderSpec : ChangeSpec := { name := "trieUnder", fn := fun _ => fun
  | [d1, d2] => { results := [.lit (.bool true)], args := [d1, d2] }
  | _ => none }
def trieUnderRow : OpenClaim := { program := "ytaknlphmplimhaadoor", sum := "ac7120d64450bff49ea14d06b050eca6fa70f9857cc44956616b083f937da13d", func := "patchbay/patchbaykeep2.TrieUnder", spec := "trieUnder", recurses := true, named := ["patchbay/patchbaykeep2.ten"], apart := false, laid := [("patchbay/patchbaykeep2.ten", laid_patchbay_patchbaykeep2_ten)] }
def TrieUnderSaid : Prop := trieUnderRow.holds Tryd.pinned (OpenSpec.ofChange trieUnderSpec)

/-- ITS FALSE NEIGHBOUR: 'it returns false'. Refute it at one input. -/
def trieUnderWrong : ChangeSpec := { name := "trieUnder", fn := fun _ => fun
  | [d1, d2] => { results := [.lit (.bool false)], args := [d1, d2] }
  | _ => none }
def TrieUnderWrongFalsely : Prop := trieUnderRow.holds Tryd.pinned (OpenSpec.ofChange trieUnderWrong)

/-- 'patchbaykeep2.TrieOrder': WHATEVER THE INPUT: true; the input reads as it did. -/
def trieOrderSpec : ChangeSpec := { name := "trieOrder", fn := fun _ => fun
  | [d1, d2] => { results := [.lit (.bool true)], args := [d1, d2] }
  | _ => none }
def trieOrderRow : OpenClaim := { program := "ytaknlphmplimhaadoor", sum := "ac7120d64450bff49ea14d06b050eca6fa70f9857cc44956616b083f937da13d", func := "patchbay/patchbaykeep2.TrieOrder", spec := "trieOrder", unfollowed := true, recurses := true, named := ["patchbay/patchbaykeep2.ten"], apart := false, laid := [("patchbay/patchbaykeep2.ten", laid_patchbay_patchbaykeep2_ten)] }
def TrieOrderSaid : Prop := trieOrderRow.holds Tryd.pinned (OpenSpec.ofChange trieOrderSpec)

/-- ITS FALSE NEIGHBOUR: 'it returns false'. Refute it at one input. -/
def trieOrderWrong : ChangeSpec := { name := "trieOrder", fn := fun _ => fun
  | [d1, d2] => { results := [.lit (.bool false)], args := [d1, d2] }
  | _ => none }
def TrieOrderWrongFalsely : Prop := trieOrderRow.holds Tryd.pinned (OpenSpec.ofChange trieOrderWrong)

/-- 'patchbaykeep2.PressFew': WHATEVER THE INPUT: true; the input reads as it did. -/
def pressFewSpec : ChangeSpec := { name := "pressFew", fn := fun _ => fun
  | [d] => { results := [.lit (.bool true)], args := [d] }
  | _ => none }
def pressFewRow : OpenClaim := { program := "ytaknlphmplimhaadoor", sum := "ac7120d64450bff49ea14d06b050eca6fa70f9857cc44956616b083f937da13d", func := "patchbay/patchbaykeep2.PressFew", spec := "pressFew", unfollowed := true, recurses := true, named := ["patchbay/patchbaykeep2.ten"], apart := false, laid := [("patchbay/patchbaykeep2.ten", laid_patchbay_patchbaykeep2_ten)] }
def PressFewSaid : Prop := pressFewRow.holds Tryd.pinned (OpenSpec.ofChange pressFewSpec)

/-- ITS FALSE NEIGHBOUR: 'it returns false'. Refute it at one input. -/
def pressFewWrong : ChangeSpec := { name := "pressFew", fn := fun _ => fun
  | [d] => { results := [.lit (.bool false)], args := [d] }
  | _ => none }
def PressFewWrongFalsely : Prop := pressFewRow.holds Tryd.pinned (OpenSpec.ofChange pressFewWrong)

/-- 'patchbaykeep2.PressAsTrie': WHATEVER THE INPUT: true; the input reads as it did. -/
def pressAsTrieSpec : ChangeSpec := { name := "pressAsTrie", fn := fun _ => fun
  | [d1, d2, d3] => { results := [.lit (.bool true)], args := [d1, d2, d3] }
  | _ => none }
def pressAsTrieRow : OpenClaim := { program := "ytaknlphmplimhaadoor", sum := "ac7120d64450bff49ea14d06b050eca6fa70f9857cc44956616b083f937da13d", func := "patchbay/patchbaykeep2.PressAsTrie", spec := "pressAsTrie", recurses := true, named := ["patchbay/patchbaykeep2.ten"], apart := false, laid := [("patchbay/patchbaykeep2.ten", laid_patchbay_patchbaykeep2_ten)] }
def PressAsTrieSaid : Prop := pressAsTrieRow.holds Tryd.pinned (OpenSpec.ofChange pressAsTrieSpec)

/-- ITS FALSE NEIGHBOUR: 'it returns false'. Refute it at one input. -/
def pressAsTrieWrong : ChangeSpec := { name := "pressAsTrie", fn := fun _ => fun
  | [d1, d2, d3] => { results := [.lit (.bool false)], args := [d1, d2, d3] }
  | _ => none }
def PressAsTrieWrongFalsely : Prop := pressAsTrieRow.holds Tryd.pinned (OpenSpec.ofChange pressAsTrieWrong)

/-- 'patchbaykeep2.PressSame': WHATEVER THE INPUT: true; the input reads as it did. -/
def pressSameSpec : ChangeSpec := { name := "pressSame", fn := fun _ => fun
  | [d1, d2] => { results := [.lit (.bool true)], args := [d1, d2] }
  | _ => none }
def pressSameRow : OpenClaim := { program := "ytaknlphmplimhaadoor", sum := "ac7120d64450bff49ea14d06b050eca6fa70f9857cc44956616b083f937da13d", func := "patchbay/patchbaykeep2.PressSame", spec := "pressSame", unfollowed := true, recurses := true, named := ["patchbay/patchbaykeep2.ten"], apart := false, laid := [("patchbay/patchbaykeep2.ten", laid_patchbay_patchbaykeep2_ten)] }
def PressSameSaid : Prop := pressSameRow.holds Tryd.pinned (OpenSpec.ofChange pressSameSpec)

/-- ITS FALSE NEIGHBOUR: 'it returns false'. Refute it at one input. -/
def pressSameWrong : ChangeSpec := { name := "pressSame", fn := fun _ => fun
  | [d1, d2] => { results := [.lit (.bool false)], args := [d1, d2] }
  | _ => none }
def PressSameWrongFalsely : Prop := pressSameRow.holds Tryd.pinned (OpenSpec.ofChange pressSameWrong)

/-- 'patchbaykeep2.AddrHalves': WHATEVER THE INPUT: true; the input reads as it did. -/
def addrHalvesSpec : ChangeSpec := { name := "addrHalves", fn := fun _ => fun
  | [d1, d2] => { results := [.lit (.bool true)], args := [d1, d2] }
  | _ => none }
def addrHalvesRow : OpenClaim := { program := "ytaknlphmplimhaadoor", sum := "ac7120d64450bff49ea14d06b050eca6fa70f9857cc44956616b083f937da13d", func := "patchbay/patchbaykeep2.AddrHalves", spec := "addrHalves", inPlace := ["internal/abi.NoEscape", "internal/bytealg.MakeNoZero"], named := ["patchbay/patchbaykeep2.ten", "internal/strconv.uint64pow10", "math/bits.deBruijn32tab", "math/bits.deBruijn64tab"], apart := false, laid := [("math/bits.deBruijn32tab", laid_math_bits_deBruijn32tab), ("math/bits.deBruijn64tab", laid_math_bits_deBruijn64tab), ("internal/strconv.uint64pow10", laid_internal_strconv_uint64pow10), ("patchbay/patchbaykeep2.ten", laid_patchbay_patchbaykeep2_ten)] }
def AddrHalvesSaid : Prop := addrHalvesRow.holds Tryd.pinned (OpenSpec.ofChange addrHalvesSpec)

/-- ITS FALSE NEIGHBOUR: 'it returns false'. Refute it at one input. -/
def addrHalvesWrong : ChangeSpec := { name := "addrHalves", fn := fun _ => fun
  | [d1, d2] => { results := [.lit (.bool false)], args := [d1, d2] }
  | _ => none }
def AddrHalvesWrongFalsely : Prop := addrHalvesRow.holds Tryd.pinned (OpenSpec.ofChange addrHalvesWrong)

/-- 'patchbaykeep2.AddrNested': WHATEVER THE INPUT: true; the input reads as it did. -/
def addrNestedSpec : ChangeSpec := { name := "addrNested", fn := fun _ => fun
  | [d1, d2, d3] => { results := [.lit (.bool true)], args := [d1, d2, d3] }
  | _ => none }
def addrNestedRow : OpenClaim := { program := "ytaknlphmplimhaadoor", sum := "ac7120d64450bff49ea14d06b050eca6fa70f9857cc44956616b083f937da13d", func := "patchbay/patchbaykeep2.AddrNested", spec := "addrNested", inPlace := ["internal/abi.NoEscape", "internal/bytealg.MakeNoZero"], named := ["patchbay/patchbaykeep2.ten", "internal/strconv.uint64pow10", "math/bits.deBruijn32tab", "math/bits.deBruijn64tab"], apart := false, laid := [("math/bits.deBruijn32tab", laid_math_bits_deBruijn32tab), ("math/bits.deBruijn64tab", laid_math_bits_deBruijn64tab), ("internal/strconv.uint64pow10", laid_internal_strconv_uint64pow10), ("patchbay/patchbaykeep2.ten", laid_patchbay_patchbaykeep2_ten)] }
def AddrNestedSaid : Prop := addrNestedRow.holds Tryd.pinned (OpenSpec.ofChange addrNestedSpec)

/-- ITS FALSE NEIGHBOUR: 'it returns false'. Refute it at one input. -/
def addrNestedWrong : ChangeSpec := { name := "addrNested", fn := fun _ => fun
  | [d1, d2, d3] => { results := [.lit (.bool false)], args := [d1, d2, d3] }
  | _ => none }
def AddrNestedWrongFalsely : Prop := addrNestedRow.holds Tryd.pinned (OpenSpec.ofChange addrNestedWrong)

/-- 'patchbaykeep2.AddrOrder': WHATEVER THE INPUT: true; the input reads as it did. -/
def addrOrderSpec : ChangeSpec := { name := "addrOrder", fn := fun _ => fun
  | [d1, d2, d3] => { results := [.lit (.bool true)], args := [d1, d2, d3] }
  | _ => none }
def addrOrderRow : OpenClaim := { program := "ytaknlphmplimhaadoor", sum := "ac7120d64450bff49ea14d06b050eca6fa70f9857cc44956616b083f937da13d", func := "patchbay/patchbaykeep2.AddrOrder", spec := "addrOrder", inPlace := ["internal/abi.NoEscape", "internal/bytealg.MakeNoZero"], named := ["patchbay/patchbaykeep2.ten", "internal/strconv.uint64pow10", "math/bits.deBruijn32tab", "math/bits.deBruijn64tab"], apart := false, laid := [("math/bits.deBruijn32tab", laid_math_bits_deBruijn32tab), ("math/bits.deBruijn64tab", laid_math_bits_deBruijn64tab), ("internal/strconv.uint64pow10", laid_internal_strconv_uint64pow10), ("patchbay/patchbaykeep2.ten", laid_patchbay_patchbaykeep2_ten)] }
def AddrOrderSaid : Prop := addrOrderRow.holds Tryd.pinned (OpenSpec.ofChange addrOrderSpec)

/-- ITS FALSE NEIGHBOUR: 'it returns false'. Refute it at one input. -/
def addrOrderWrong : ChangeSpec := { name := "addrOrder", fn := fun _ => fun
  | [d1, d2, d3] => { results := [.lit (.bool false)], args := [d1, d2, d3] }
  | _ => none }
def AddrOrderWrongFalsely : Prop := addrOrderRow.holds Tryd.pinned (OpenSpec.ofChange addrOrderWrong)

/-- 'patchbaykeep2.PsetOne': WHATEVER THE INPUT: true; the input reads as it did. -/
def psetOneSpec : ChangeSpec := { name := "psetOne", fn := fun _ => fun
  | [d1, d2] => { results := [.lit (.bool true)], args := [d1, d2] }
  | _ => none }
def psetOneRow : OpenClaim := { program := "ytaknlphmplimhaadoor", sum := "ac7120d64450bff49ea14d06b050eca6fa70f9857cc44956616b083f937da13d", func := "patchbay/patchbaykeep2.PsetOne", spec := "psetOne", unfollowed := true, recurses := true, named := ["math/bits.deBruijn64tab"], apart := false, laid := [("math/bits.deBruijn64tab", laid_math_bits_deBruijn64tab)] }
def PsetOneSaid : Prop := psetOneRow.holds Tryd.pinned (OpenSpec.ofChange psetOneSpec)

/-- ITS FALSE NEIGHBOUR: 'it returns false'. Refute it at one input. -/
def psetOneWrong : ChangeSpec := { name := "psetOne", fn := fun _ => fun
  | [d1, d2] => { results := [.lit (.bool false)], args := [d1, d2] }
  | _ => none }
def PsetOneWrongFalsely : Prop := psetOneRow.holds Tryd.pinned (OpenSpec.ofChange psetOneWrong)

/-- 'patchbaykeep2.PsetRanges': WHATEVER THE INPUT: true; the input reads as it did. -/
def psetRangesSpec : ChangeSpec := { name := "psetRanges", fn := fun _ => fun
  | [d1, d2, d3] => { results := [.lit (.bool true)], args := [d1, d2, d3] }
  | _ => none }
def psetRangesRow : OpenClaim := { program := "ytaknlphmplimhaadoor", sum := "ac7120d64450bff49ea14d06b050eca6fa70f9857cc44956616b083f937da13d", func := "patchbay/patchbaykeep2.PsetRanges", spec := "psetRanges", unfollowed := true, recurses := true, named := ["math/bits.deBruijn64tab"], apart := false, laid := [("math/bits.deBruijn64tab", laid_math_bits_deBruijn64tab)] }
def PsetRangesSaid : Prop := psetRangesRow.holds Tryd.pinned (OpenSpec.ofChange psetRangesSpec)

/-- ITS FALSE NEIGHBOUR: 'it returns false'. Refute it at one input. -/
def psetRangesWrong : ChangeSpec := { name := "psetRanges", fn := fun _ => fun
  | [d1, d2, d3] => { results := [.lit (.bool false)], args := [d1, d2, d3] }
  | _ => none }
def PsetRangesWrongFalsely : Prop := psetRangesRow.holds Tryd.pinned (OpenSpec.ofChange psetRangesWrong)

/-- 'patchbaykeep2.PsetMorgan': WHATEVER THE INPUT: true; the input reads as it did. -/
def psetMorganSpec : ChangeSpec := { name := "psetMorgan", fn := fun _ => fun
  | [d1, d2] => { results := [.lit (.bool true)], args := [d1, d2] }
  | _ => none }
def psetMorganRow : OpenClaim := { program := "ytaknlphmplimhaadoor", sum := "ac7120d64450bff49ea14d06b050eca6fa70f9857cc44956616b083f937da13d", func := "patchbay/patchbaykeep2.PsetMorgan", spec := "psetMorgan", unfollowed := true, recurses := true, named := ["math/bits.deBruijn64tab"], apart := false, laid := [("math/bits.deBruijn64tab", laid_math_bits_deBruijn64tab)] }
def PsetMorganSaid : Prop := psetMorganRow.holds Tryd.pinned (OpenSpec.ofChange psetMorganSpec)

/-- ITS FALSE NEIGHBOUR: 'it returns false'. Refute it at one input. -/
def psetMorganWrong : ChangeSpec := { name := "psetMorgan", fn := fun _ => fun
  | [d1, d2] => { results := [.lit (.bool false)], args := [d1, d2] }
  | _ => none }
def PsetMorganWrongFalsely : Prop := psetMorganRow.holds Tryd.pinned (OpenSpec.ofChange psetMorganWrong)

/-- 'patchbaykeep2.PsetSizes': WHATEVER THE INPUT: true; the input reads as it did. -/
def psetSizesSpec : ChangeSpec := { name := "psetSizes", fn := fun _ => fun
  | [d1, d2] => { results := [.lit (.bool true)], args := [d1, d2] }
  | _ => none }
def psetSizesRow : OpenClaim := { program := "ytaknlphmplimhaadoor", sum := "ac7120d64450bff49ea14d06b050eca6fa70f9857cc44956616b083f937da13d", func := "patchbay/patchbaykeep2.PsetSizes", spec := "psetSizes", unfollowed := true, recurses := true, named := ["math/bits.deBruijn64tab"], apart := false, laid := [("math/bits.deBruijn64tab", laid_math_bits_deBruijn64tab)] }
def PsetSizesSaid : Prop := psetSizesRow.holds Tryd.pinned (OpenSpec.ofChange psetSizesSpec)

/-- ITS FALSE NEIGHBOUR: 'it returns false'. Refute it at one input. -/
def psetSizesWrong : ChangeSpec := { name := "psetSizes", fn := fun _ => fun
  | [d1, d2] => { results := [.lit (.bool false)], args := [d1, d2] }
  | _ => none }
def PsetSizesWrongFalsely : Prop := psetSizesRow.holds Tryd.pinned (OpenSpec.ofChange psetSizesWrong)

/-- 'patchbaykeep2.AddrBack': WHATEVER THE INPUT: true; the input reads as it did. -/
def addrBackSpec : ChangeSpec := { name := "addrBack", fn := fun _ => fun
  | [d1, d2] => { results := [.lit (.bool true)], args := [d1, d2] }
  | _ => none }
def addrBackRow : OpenClaim := { program := "ytaknlphmplimhaadoor", sum := "ac7120d64450bff49ea14d06b050eca6fa70f9857cc44956616b083f937da13d", func := "patchbay/patchbaykeep2.AddrBack", spec := "addrBack", inPlace := ["internal/abi.NoEscape", "internal/bytealg.MakeNoZero", "internal/bytealg.CountString", "internal/bytealg.IndexByteString", "internal/bytealg.IndexString"], named := ["patchbay/patchbaykeep2.ten", "internal/strconv.uint64pow10", "math/bits.deBruijn32tab", "math/bits.deBruijn64tab", "unicode/utf8.first", "unicode/utf8.acceptRanges", "internal/bytealg.MaxLen"], apart := false, laid := [("math/bits.deBruijn32tab", laid_math_bits_deBruijn32tab), ("math/bits.deBruijn64tab", laid_math_bits_deBruijn64tab), ("internal/strconv.uint64pow10", laid_internal_strconv_uint64pow10), ("unicode/utf8.acceptRanges", laid_unicode_utf8_acceptRanges), ("patchbay/patchbaykeep2.ten", laid_patchbay_patchbaykeep2_ten), ("unicode/utf8.first", laid_unicode_utf8_first)] }
def AddrBackSaid : Prop := addrBackRow.holds Tryd.pinned (OpenSpec.ofChange addrBackSpec)

/-- ITS FALSE NEIGHBOUR: 'it returns false'. Refute it at one input. -/
def addrBackWrong : ChangeSpec := { name := "addrBack", fn := fun _ => fun
  | [d1, d2] => { results := [.lit (.bool false)], args := [d1, d2] }
  | _ => none }
def AddrBackWrongFalsely : Prop := addrBackRow.holds Tryd.pinned (OpenSpec.ofChange addrBackWrong)

/-- 'patchbaykeep2.AddrUnique': WHATEVER THE INPUT: true; the input reads as it did. -/
def addrUniqueSpec : ChangeSpec := { name := "addrUnique", fn := fun _ => fun
  | [d] => { results := [.lit (.bool true)], args := [d] }
  | _ => none }
def addrUniqueRow : OpenClaim := { program := "ytaknlphmplimhaadoor", sum := "ac7120d64450bff49ea14d06b050eca6fa70f9857cc44956616b083f937da13d", func := "patchbay/patchbaykeep2.AddrUnique", spec := "addrUnique", inPlace := ["internal/abi.NoEscape", "internal/bytealg.MakeNoZero", "internal/bytealg.CountString", "internal/bytealg.IndexByteString", "internal/bytealg.IndexString"], named := ["patchbay/patchbaykeep2.ten", "internal/strconv.uint64pow10", "math/bits.deBruijn32tab", "math/bits.deBruijn64tab", "unicode/utf8.first", "unicode/utf8.acceptRanges", "internal/bytealg.MaxLen"], apart := false, laid := [("math/bits.deBruijn32tab", laid_math_bits_deBruijn32tab), ("math/bits.deBruijn64tab", laid_math_bits_deBruijn64tab), ("internal/strconv.uint64pow10", laid_internal_strconv_uint64pow10), ("unicode/utf8.acceptRanges", laid_unicode_utf8_acceptRanges), ("patchbay/patchbaykeep2.ten", laid_patchbay_patchbaykeep2_ten), ("unicode/utf8.first", laid_unicode_utf8_first)] }
def AddrUniqueSaid : Prop := addrUniqueRow.holds Tryd.pinned (OpenSpec.ofChange addrUniqueSpec)

/-- ITS FALSE NEIGHBOUR: 'it returns false'. Refute it at one input. -/
def addrUniqueWrong : ChangeSpec := { name := "addrUnique", fn := fun _ => fun
  | [d] => { results := [.lit (.bool false)], args := [d] }
  | _ => none }
def AddrUniqueWrongFalsely : Prop := addrUniqueRow.holds Tryd.pinned (OpenSpec.ofChange addrUniqueWrong)

/-- 'patchbaykeep2.PsetExact': WHATEVER THE INPUT: true; the input reads as it did. -/
def psetExactSpec : ChangeSpec := { name := "psetExact", fn := fun _ => fun
  | [d1, d2, d3] => { results := [.lit (.bool true)], args := [d1, d2, d3] }
  | _ => none }
def psetExactRow : OpenClaim := { program := "ytaknlphmplimhaadoor", sum := "ac7120d64450bff49ea14d06b050eca6fa70f9857cc44956616b083f937da13d", func := "patchbay/patchbaykeep2.PsetExact", spec := "psetExact", unfollowed := true, recurses := true, named := ["math/bits.deBruijn64tab"], apart := false, laid := [("math/bits.deBruijn64tab", laid_math_bits_deBruijn64tab)] }
def PsetExactSaid : Prop := psetExactRow.holds Tryd.pinned (OpenSpec.ofChange psetExactSpec)

/-- ITS FALSE NEIGHBOUR: 'it returns false'. Refute it at one input. -/
def psetExactWrong : ChangeSpec := { name := "psetExact", fn := fun _ => fun
  | [d1, d2, d3] => { results := [.lit (.bool false)], args := [d1, d2, d3] }
  | _ => none }
def PsetExactWrongFalsely : Prop := psetExactRow.holds Tryd.pinned (OpenSpec.ofChange psetExactWrong)

/- THE SECOND FORM. 'bulk': how many values and letters a reading holds, each counted each time it is reached (what is shared counts as often as it is met; a slice's spare places count too). A statement '..UptoSaid' is the law's where the arguments, and the package variables that the reading takes, are together of bulk at most 1048576: NARROWER than '..Said'. Prove '..Said' where nothing that the law and all that it calls make is longer than what came in: it says more and counts as full. Else prove '..UptoSaid'. A law counts once. -/
mutual
def uptoBulk {H : Type} : DataW H → Nat
  | .lit (.string bytes) => bytes.length + 1
  | .lit _ => 1
  | .nil => 1
  | .ptr d => uptoBulk d + 1
  | .slice elems spare => uptoBulkAll elems + uptoBulkAll spare + 1
  | .agg parts => uptoBulkAll parts + 1
  | .iface _ d => uptoBulk d + 1
  | .map entries => uptoBulkEntries entries + 1
  | .held _ => 1
def uptoBulkAll {H : Type} : List (DataW H) → Nat
  | [] => 0
  | d :: r => uptoBulk d + uptoBulkAll r
def uptoBulkEntries {H : Type} : List (Lit × DataW H) → Nat
  | [] => 0
  | x :: r => uptoBulkEntry x + uptoBulkEntries r
def uptoBulkEntry {H : Type} : Lit × DataW H → Nat
  | (.string bytes, d) => bytes.length + uptoBulk d + 1
  | (_, d) => uptoBulk d + 1
 end
def uptoSmall : (H : Type) → List (DataW H) → Bool := fun _ ds => decide (uptoBulkAll ds ≤ 1048576)
def OpenSpec.upto (s : _root_.Go.ChangeSpec) : _root_.Go.OpenSpec := { _root_.Go.OpenSpec.ofChange s with cond := some uptoSmall }

/-- 'patchbaykeep2.TrieKeeps', WHERE WHAT IT READS IS OF BULK AT MOST 1048576: true; the input reads as it did. -/
def trieKeepsUptoRow : OpenClaim := { program := "ytaknlphmplimhaadoor", sum := "ac7120d64450bff49ea14d06b050eca6fa70f9857cc44956616b083f937da13d", func := "patchbay/patchbaykeep2.TrieKeeps", spec := "trieKeeps", recurses := true, named := ["patchbay/patchbaykeep2.ten"], apart := false, laid := [("patchbay/patchbaykeep2.ten", laid_patchbay_patchbaykeep2_ten)], narrowed := true }
def TrieKeepsUptoSaid : Prop := trieKeepsUptoRow.holds Tryd.pinned (OpenSpec.upto trieKeepsSpec)

/-- 'patchbaykeep2.TrieLongest', WHERE WHAT IT READS IS OF BULK AT MOST 1048576: true; the input reads as it did. -/
def trieLongestUptoRow : OpenClaim := { program := "ytaknlphmplimhaadoor", sum := "ac7120d64450bff49ea14d06b050eca6fa70f9857cc44956616b083f937da13d", func := "patchbay/patchbaykeep2.TrieLongest", spec := "trieLongest", unfollowed := true, recurses := true, named := ["patchbay/patchbaykeep2.ten"], apart := false, laid := [("patchbay/patchbaykeep2.ten", laid_patchbay_patchbaykeep2_ten)], narrowed := true }
def TrieLongestUptoSaid : Prop := trieLongestUptoRow.holds Tryd.pinned (OpenSpec.upto trieLongestSpec)

/-- 'patchbaykeep2.TrieUnder', WHERE WHAT IT READS IS OF BULK AT MOST 1048576: true; the input reads as it did. -/
def trieUnderUptoRow : OpenClaim := { program := "ytaknlphmplimhaadoor", sum := "ac7120d64450bff49ea14d06b050eca6fa70f9857cc44956616b083f937da13d", func := "patchbay/patchbaykeep2.TrieUnder", spec := "trieUnder", recurses := true, named := ["patchbay/patchbaykeep2.ten"], apart := false, laid := [("patchbay/patchbaykeep2.ten", laid_patchbay_patchbaykeep2_ten)], narrowed := true }
def TrieUnderUptoSaid : Prop := trieUnderUptoRow.holds Tryd.pinned (OpenSpec.upto trieUnderSpec)

/-- 'patchbaykeep2.TrieOrder', WHERE WHAT IT READS IS OF BULK AT MOST 1048576: true; the input reads as it did. -/
def trieOrderUptoRow : OpenClaim := { program := "ytaknlphmplimhaadoor", sum := "ac7120d64450bff49ea14d06b050eca6fa70f9857cc44956616b083f937da13d", func := "patchbay/patchbaykeep2.TrieOrder", spec := "trieOrder", unfollowed := true, recurses := true, named := ["patchbay/patchbaykeep2.ten"], apart := false, laid := [("patchbay/patchbaykeep2.ten", laid_patchbay_patchbaykeep2_ten)], narrowed := true }
def TrieOrderUptoSaid : Prop := trieOrderUptoRow.holds Tryd.pinned (OpenSpec.upto trieOrderSpec)

/-- 'patchbaykeep2.PressFew', WHERE WHAT IT READS IS OF BULK AT MOST 1048576: true; the input reads as it did. -/
def pressFewUptoRow : OpenClaim := { program := "ytaknlphmplimhaadoor", sum := "ac7120d64450bff49ea14d06b050eca6fa70f9857cc44956616b083f937da13d", func := "patchbay/patchbaykeep2.PressFew", spec := "pressFew", unfollowed := true, recurses := true, named := ["patchbay/patchbaykeep2.ten"], apart := false, laid := [("patchbay/patchbaykeep2.ten", laid_patchbay_patchbaykeep2_ten)], narrowed := true }
def PressFewUptoSaid : Prop := pressFewUptoRow.holds Tryd.pinned (OpenSpec.upto pressFewSpec)

/-- 'patchbaykeep2.PressAsTrie', WHERE WHAT IT READS IS OF BULK AT MOST 1048576: true; the input reads as it did. -/
def pressAsTrieUptoRow : OpenClaim := { program := "ytaknlphmplimhaadoor", sum := "ac7120d64450bff49ea14d06b050eca6fa70f9857cc44956616b083f937da13d", func := "patchbay/patchbaykeep2.PressAsTrie", spec := "pressAsTrie", recurses := true, named := ["patchbay/patchbaykeep2.ten"], apart := false, laid := [("patchbay/patchbaykeep2.ten", laid_patchbay_patchbaykeep2_ten)], narrowed := true }
def PressAsTrieUptoSaid : Prop := pressAsTrieUptoRow.holds Tryd.pinned (OpenSpec.upto pressAsTrieSpec)

/-- 'patchbaykeep2.PressSame', WHERE WHAT IT READS IS OF BULK AT MOST 1048576: true; the input reads as it did. -/
def pressSameUptoRow : OpenClaim := { program := "ytaknlphmplimhaadoor", sum := "ac7120d64450bff49ea14d06b050eca6fa70f9857cc44956616b083f937da13d", func := "patchbay/patchbaykeep2.PressSame", spec := "pressSame", unfollowed := true, recurses := true, named := ["patchbay/patchbaykeep2.ten"], apart := false, laid := [("patchbay/patchbaykeep2.ten", laid_patchbay_patchbaykeep2_ten)], narrowed := true }
def PressSameUptoSaid : Prop := pressSameUptoRow.holds Tryd.pinned (OpenSpec.upto pressSameSpec)

/-- 'patchbaykeep2.AddrHalves', WHERE WHAT IT READS IS OF BULK AT MOST 1048576: true; the input reads as it did. -/
def addrHalvesUptoRow : OpenClaim := { program := "ytaknlphmplimhaadoor", sum := "ac7120d64450bff49ea14d06b050eca6fa70f9857cc44956616b083f937da13d", func := "patchbay/patchbaykeep2.AddrHalves", spec := "addrHalves", inPlace := ["internal/abi.NoEscape", "internal/bytealg.MakeNoZero"], named := ["patchbay/patchbaykeep2.ten", "internal/strconv.uint64pow10", "math/bits.deBruijn32tab", "math/bits.deBruijn64tab"], apart := false, laid := [("math/bits.deBruijn32tab", laid_math_bits_deBruijn32tab), ("math/bits.deBruijn64tab", laid_math_bits_deBruijn64tab), ("internal/strconv.uint64pow10", laid_internal_strconv_uint64pow10), ("patchbay/patchbaykeep2.ten", laid_patchbay_patchbaykeep2_ten)], narrowed := true }
def AddrHalvesUptoSaid : Prop := addrHalvesUptoRow.holds Tryd.pinned (OpenSpec.upto addrHalvesSpec)

/-- 'patchbaykeep2.AddrNested', WHERE WHAT IT READS IS OF BULK AT MOST 1048576: true; the input reads as it did. -/
def addrNestedUptoRow : OpenClaim := { program := "ytaknlphmplimhaadoor", sum := "ac7120d64450bff49ea14d06b050eca6fa70f9857cc44956616b083f937da13d", func := "patchbay/patchbaykeep2.AddrNested", spec := "addrNested", inPlace := ["internal/abi.NoEscape", "internal/bytealg.MakeNoZero"], named := ["patchbay/patchbaykeep2.ten", "internal/strconv.uint64pow10", "math/bits.deBruijn32tab", "math/bits.deBruijn64tab"], apart := false, laid := [("math/bits.deBruijn32tab", laid_math_bits_deBruijn32tab), ("math/bits.deBruijn64tab", laid_math_bits_deBruijn64tab), ("internal/strconv.uint64pow10", laid_internal_strconv_uint64pow10), ("patchbay/patchbaykeep2.ten", laid_patchbay_patchbaykeep2_ten)], narrowed := true }
def AddrNestedUptoSaid : Prop := addrNestedUptoRow.holds Tryd.pinned (OpenSpec.upto addrNestedSpec)

/-- 'patchbaykeep2.AddrOrder', WHERE WHAT IT READS IS OF BULK AT MOST 1048576: true; the input reads as it did. -/
def addrOrderUptoRow : OpenClaim := { program := "ytaknlphmplimhaadoor", sum := "ac7120d64450bff49ea14d06b050eca6fa70f9857cc44956616b083f937da13d", func := "patchbay/patchbaykeep2.AddrOrder", spec := "addrOrder", inPlace := ["internal/abi.NoEscape", "internal/bytealg.MakeNoZero"], named := ["patchbay/patchbaykeep2.ten", "internal/strconv.uint64pow10", "math/bits.deBruijn32tab", "math/bits.deBruijn64tab"], apart := false, laid := [("math/bits.deBruijn32tab", laid_math_bits_deBruijn32tab), ("math/bits.deBruijn64tab", laid_math_bits_deBruijn64tab), ("internal/strconv.uint64pow10", laid_internal_strconv_uint64pow10), ("patchbay/patchbaykeep2.ten", laid_patchbay_patchbaykeep2_ten)], narrowed := true }
def AddrOrderUptoSaid : Prop := addrOrderUptoRow.holds Tryd.pinned (OpenSpec.upto addrOrderSpec)

/-- 'patchbaykeep2.PsetOne', WHERE WHAT IT READS IS OF BULK AT MOST 1048576: true; the input reads as it did. -/
def psetOneUptoRow : OpenClaim := { program := "ytaknlphmplimhaadoor", sum := "ac7120d64450bff49ea14d06b050eca6fa70f9857cc44956616b083f937da13d", func := "patchbay/patchbaykeep2.PsetOne", spec := "psetOne", unfollowed := true, recurses := true, named := ["math/bits.deBruijn64tab"], apart := false, laid := [("math/bits.deBruijn64tab", laid_math_bits_deBruijn64tab)], narrowed := true }
def PsetOneUptoSaid : Prop := psetOneUptoRow.holds Tryd.pinned (OpenSpec.upto psetOneSpec)

/-- 'patchbaykeep2.PsetRanges', WHERE WHAT IT READS IS OF BULK AT MOST 1048576: true; the input reads as it did. -/
def psetRangesUptoRow : OpenClaim := { program := "ytaknlphmplimhaadoor", sum := "ac7120d64450bff49ea14d06b050eca6fa70f9857cc44956616b083f937da13d", func := "patchbay/patchbaykeep2.PsetRanges", spec := "psetRanges", unfollowed := true, recurses := true, named := ["math/bits.deBruijn64tab"], apart := false, laid := [("math/bits.deBruijn64tab", laid_math_bits_deBruijn64tab)], narrowed := true }
def PsetRangesUptoSaid : Prop := psetRangesUptoRow.holds Tryd.pinned (OpenSpec.upto psetRangesSpec)

/-- 'patchbaykeep2.PsetMorgan', WHERE WHAT IT READS IS OF BULK AT MOST 1048576: true; the input reads as it did. -/
def psetMorganUptoRow : OpenClaim := { program := "ytaknlphmplimhaadoor", sum := "ac7120d64450bff49ea14d06b050eca6fa70f9857cc44956616b083f937da13d", func := "patchbay/patchbaykeep2.PsetMorgan", spec := "psetMorgan", unfollowed := true, recurses := true, named := ["math/bits.deBruijn64tab"], apart := false, laid := [("math/bits.deBruijn64tab", laid_math_bits_deBruijn64tab)], narrowed := true }
def PsetMorganUptoSaid : Prop := psetMorganUptoRow.holds Tryd.pinned (OpenSpec.upto psetMorganSpec)

/-- 'patchbaykeep2.PsetSizes', WHERE WHAT IT READS IS OF BULK AT MOST 1048576: true; the input reads as it did. -/
def psetSizesUptoRow : OpenClaim := { program := "ytaknlphmplimhaadoor", sum := "ac7120d64450bff49ea14d06b050eca6fa70f9857cc44956616b083f937da13d", func := "patchbay/patchbaykeep2.PsetSizes", spec := "psetSizes", unfollowed := true, recurses := true, named := ["math/bits.deBruijn64tab"], apart := false, laid := [("math/bits.deBruijn64tab", laid_math_bits_deBruijn64tab)], narrowed := true }
def PsetSizesUptoSaid : Prop := psetSizesUptoRow.holds Tryd.pinned (OpenSpec.upto psetSizesSpec)

/-- 'patchbaykeep2.AddrBack', WHERE WHAT IT READS IS OF BULK AT MOST 1048576: true; the input reads as it did. -/
def addrBackUptoRow : OpenClaim := { program := "ytaknlphmplimhaadoor", sum := "ac7120d64450bff49ea14d06b050eca6fa70f9857cc44956616b083f937da13d", func := "patchbay/patchbaykeep2.AddrBack", spec := "addrBack", inPlace := ["internal/abi.NoEscape", "internal/bytealg.MakeNoZero", "internal/bytealg.CountString", "internal/bytealg.IndexByteString", "internal/bytealg.IndexString"], named := ["patchbay/patchbaykeep2.ten", "internal/strconv.uint64pow10", "math/bits.deBruijn32tab", "math/bits.deBruijn64tab", "unicode/utf8.first", "unicode/utf8.acceptRanges", "internal/bytealg.MaxLen"], apart := false, laid := [("math/bits.deBruijn32tab", laid_math_bits_deBruijn32tab), ("math/bits.deBruijn64tab", laid_math_bits_deBruijn64tab), ("internal/strconv.uint64pow10", laid_internal_strconv_uint64pow10), ("unicode/utf8.acceptRanges", laid_unicode_utf8_acceptRanges), ("patchbay/patchbaykeep2.ten", laid_patchbay_patchbaykeep2_ten), ("unicode/utf8.first", laid_unicode_utf8_first)], narrowed := true }
def AddrBackUptoSaid : Prop := addrBackUptoRow.holds Tryd.pinned (OpenSpec.upto addrBackSpec)

/-- 'patchbaykeep2.AddrUnique', WHERE WHAT IT READS IS OF BULK AT MOST 1048576: true; the input reads as it did. -/
def addrUniqueUptoRow : OpenClaim := { program := "ytaknlphmplimhaadoor", sum := "ac7120d64450bff49ea14d06b050eca6fa70f9857cc44956616b083f937da13d", func := "patchbay/patchbaykeep2.AddrUnique", spec := "addrUnique", inPlace := ["internal/abi.NoEscape", "internal/bytealg.MakeNoZero", "internal/bytealg.CountString", "internal/bytealg.IndexByteString", "internal/bytealg.IndexString"], named := ["patchbay/patchbaykeep2.ten", "internal/strconv.uint64pow10", "math/bits.deBruijn32tab", "math/bits.deBruijn64tab", "unicode/utf8.first", "unicode/utf8.acceptRanges", "internal/bytealg.MaxLen"], apart := false, laid := [("math/bits.deBruijn32tab", laid_math_bits_deBruijn32tab), ("math/bits.deBruijn64tab", laid_math_bits_deBruijn64tab), ("internal/strconv.uint64pow10", laid_internal_strconv_uint64pow10), ("unicode/utf8.acceptRanges", laid_unicode_utf8_acceptRanges), ("patchbay/patchbaykeep2.ten", laid_patchbay_patchbaykeep2_ten), ("unicode/utf8.first", laid_unicode_utf8_first)], narrowed := true }
def AddrUniqueUptoSaid : Prop := addrUniqueUptoRow.holds Tryd.pinned (OpenSpec.upto addrUniqueSpec)

/-- 'patchbaykeep2.PsetExact', WHERE WHAT IT READS IS OF BULK AT MOST 1048576: true; the input reads as it did. -/
def psetExactUptoRow : OpenClaim := { program := "ytaknlphmplimhaadoor", sum := "ac7120d64450bff49ea14d06b050eca6fa70f9857cc44956616b083f937da13d", func := "patchbay/patchbaykeep2.PsetExact", spec := "psetExact", unfollowed := true, recurses := true, named := ["math/bits.deBruijn64tab"], apart := false, laid := [("math/bits.deBruijn64tab", laid_math_bits_deBruijn64tab)], narrowed := true }
def PsetExactUptoSaid : Prop := psetExactUptoRow.holds Tryd.pinned (OpenSpec.upto psetExactSpec)

end Rows
end Go.Proofs.YtaknlphmplimhaaDoor
