-- PRINTED BY print.sh 35421559b90ae4d0a3588c463048766b98c2df88dd9212a6774a882060cdf62d: not written by this session
import Derived.Test.YtnhanjjkmjpmlaaProg
import Derived.Below
import Derived.Deep.Draws
import Derived.Deep.AppendLies
import Derived.Maps.AppendAt
import Derived.OwnWalk
import Derived.Laws.BytesArg
import Derived.Laws.MakeOwn
import Derived.Laws.OwnMore
import Derived.Deep.OwnRows
import Derived.Tactics
import Derived.Lib.ConvBytes
import Derived.Laws.Slices
import Derived.WalkKit
import Derived.KernelRfl
import Derived.RowKit3
import Derived.Deep.LoopGhost
import Derived.Deep.QuietTactic
import Derived.BigQuiet
import Derived.WideLaws
import Derived.Deep.DeepCutAuto
import Derived.Deep.CutBlock
import Derived.Deep.RegionHeld3
import Derived.Laws.Rows
import Derived.Lib.AppendStr
import Derived.ArgAppend
import Derived.Laws.IdiomCopy
import Derived.OrdersHeld
import Derived.Laws.BitsLemmas
import Derived.RowKit
import Derived.Test.YtnhanjjkmjpmlaaWWords
import Derived.Test.YtnhanjjkmjpmlaaWLast
import Derived.Test.YtnhanjjkmjpmlaaWTab
import Derived.Test.YtnhanjjkmjpmlaaWFour
import Derived.Test.YtnhanjjkmjpmlaaWQPut
import Derived.Test.YtnhanjjkmjpmlaaWApart
import Derived.Test.YtnhanjjkmjpmlaaWArr
import Derived.Test.YtnhanjjkmjpmlaaWZeros
import Derived.Test.YtnhanjjkmjpmlaaWFoot
import Derived.Test.YtnhanjjkmjpmlaaWKept
import Derived.Test.YtnhanjjkmjpmlaaWShare
import Derived.Test.YtnhanjjkmjpmlaaWN
import Derived.Test.YtnhanjjkmjpmlaaWFootNe
import Derived.Test.YtnhanjjkmjpmlaaWAt
import Derived.Test.YtnhanjjkmjpmlaaWEqStruct
import Derived.Test.YtnhanjjkmjpmlaaWRepsOne
import Derived.Test.YtnhanjjkmjpmlaaWInv
import Derived.Test.YtnhanjjkmjpmlaaWInvWords
import Derived.Test.YtnhanjjkmjpmlaaWGuard
import Derived.Test.YtnhanjjkmjpmlaaWNEv
import Derived.Test.YtnhanjjkmjpmlaaWMore
namespace Go.Proofs.Ytnhanjjkmjpmlaa.PPktBack
open Go.RowKit Go.Proofs.YtnhanjjkmjpmlaaW.PrintWords Go.Proofs.YtnhanjjkmjpmlaaW.PrintLast Go.Proofs.YtnhanjjkmjpmlaaW.PrintMore
attribute [local go_sem] max2_int min2_int max_two min_two max_three min_three max_four min_four   -- for this text's walks alone
set_option linter.unusedVariables false
set_option linter.unusedSimpArgs false



def errW : Option Int → Value
  | none => .nilIface
  | some c => .iface 0 (.int .i64 c)
theorem errW_none : errW none = .nilIface := rfl
theorem errW_some (c : Int) : errW (some c) = .iface 0 (.int .i64 c) := rfl

theorem info5 : (Try.prog.info? 5).map (fun i => (i.zero, i.size, i.bytes)) = some (some (.int .u8 0), 1, 1) := by kernel_rfl
-- the values' own types

end Go.Proofs.Ytnhanjjkmjpmlaa.PPktBack
