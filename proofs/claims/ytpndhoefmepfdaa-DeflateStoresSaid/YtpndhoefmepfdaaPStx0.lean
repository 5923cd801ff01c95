-- WRITTEN BY myprint.py (this claim's own program, over the kit's printer): Lean checks it.
import Derived.Test.YtpndhoefmepfdaaProg
import Derived.Below
import Derived.Deep.Draws
import Derived.Deep.AppendLies
import Derived.Maps.AppendAt
import Derived.OwnWalk
import Derived.Laws.BytesArg
import Derived.Laws.MakeOwn
import Derived.Laws.OwnMore
import Derived.Deep.OwnRows
import Derived.Tactics
import Derived.Lib.ConvBytes
import Derived.Laws.Slices
import Derived.WalkKit
import Derived.KernelRfl
import Derived.RowKit3
import Derived.Deep.LoopGhost
import Derived.Deep.QuietTactic
import Derived.BigQuiet
import Derived.WideLaws
import Derived.Deep.DeepCutAuto
import Derived.Deep.CutBlock
import Derived.Deep.RegionHeld3
import Derived.Laws.Rows
import Derived.Lib.AppendStr
import Derived.ArgAppend
import Derived.Laws.IdiomCopy
import Derived.OrdersHeld
import Derived.Laws.BitsLemmas
import Derived.RowKit
import Derived.Test.YtpndhoefmepfdaaMore
import Derived.Laws.CopyOwn
import Derived.StillTailTactics
import Derived.Deep.CutRange
import Derived.Test.YtpndhoefmepfdaaWWords
import Derived.Test.YtpndhoefmepfdaaWLast
import Derived.Test.YtpndhoefmepfdaaWTab
import Derived.Test.YtpndhoefmepfdaaWFour
import Derived.Test.YtpndhoefmepfdaaWQPut
import Derived.Test.YtpndhoefmepfdaaWApart
import Derived.Test.YtpndhoefmepfdaaWArr
import Derived.Test.YtpndhoefmepfdaaWZeros
import Derived.Test.YtpndhoefmepfdaaWFoot
import Derived.Test.YtpndhoefmepfdaaWKept
import Derived.Test.YtpndhoefmepfdaaWShare
import Derived.Test.YtpndhoefmepfdaaWN
import Derived.Test.YtpndhoefmepfdaaWFootNe
import Derived.Test.YtpndhoefmepfdaaWAt
import Derived.Test.YtpndhoefmepfdaaWEqStruct
import Derived.Test.YtpndhoefmepfdaaWRepsOne
import Derived.Test.YtpndhoefmepfdaaWInv
import Derived.Test.YtpndhoefmepfdaaWInvWords
import Derived.Test.YtpndhoefmepfdaaWGuard
import Derived.Test.YtpndhoefmepfdaaWNEv
import Derived.Test.YtpndhoefmepfdaaWMore
namespace Go.Proofs.Ytpndhoefmepfdaa.PSt
open Go.RowKit Go.Proofs.YtpndhoefmepfdaaW.PrintWords Go.Proofs.YtpndhoefmepfdaaW.PrintLast Go.Proofs.YtpndhoefmepfdaaW.PrintMore
open Go.Proofs.Ytpndhoefmepfdaa.More
attribute [local go_sem] max2_int min2_int max_two min_two max_three min_three max_four min_four   -- for this text's walks alone
set_option linter.unusedVariables false
set_option linter.unusedSimpArgs false



def errW : Option Int → Value
  | none => .nilIface
  | some c => .iface 0 (.int .i64 c)
theorem errW_none : errW none = .nilIface := rfl
theorem errW_some (c : Int) : errW (some c) = .iface 0 (.int .i64 c) := rfl

theorem info5 : (Try.prog.info? 5).map (fun i => (i.zero, i.size, i.bytes)) = some (some (.int .u8 0), 1, 1) := by kernel_rfl
-- the values' own types

end Go.Proofs.Ytpndhoefmepfdaa.PSt
