-- Written by a program of this session out of the translation. Lean checks it.
import Derived.Test.YtgijeelednmmkaaProg
import Derived.Below
import Derived.Deep.Draws
import Derived.Deep.AppendLies
import Derived.Maps.AppendAt
import Derived.OwnWalk
import Derived.Laws.BytesArg
import Derived.Laws.MakeOwn
import Derived.Laws.OwnMore
import Derived.Deep.OwnRows
import Derived.Tactics
import Derived.Lib.ConvBytes
import Derived.Laws.Slices
import Derived.WalkKit
import Derived.KernelRfl
import Derived.RowKit3
import Derived.Deep.LoopGhost
import Derived.Deep.QuietTactic
import Derived.BigQuiet
import Derived.WideLaws
import Derived.Deep.DeepCutAuto
import Derived.Deep.CutBlock
import Derived.Deep.RegionHeld3
import Derived.Laws.Rows
import Derived.Lib.AppendStr
import Derived.ArgAppend
import Derived.Laws.IdiomCopy
import Derived.OrdersHeld
import Derived.Laws.BitsLemmas
import Derived.RowKit
import Derived.Test.YtgijeelednmmkaaWe
import Derived.Test.YtgijeelednmmkaaWWords
import Derived.Test.YtgijeelednmmkaaWLast
import Derived.Test.YtgijeelednmmkaaWTab
import Derived.Test.YtgijeelednmmkaaWFour
import Derived.Test.YtgijeelednmmkaaWQPut
import Derived.Test.YtgijeelednmmkaaWApart
import Derived.Test.YtgijeelednmmkaaWArr
import Derived.Test.YtgijeelednmmkaaWZeros
import Derived.Test.YtgijeelednmmkaaWFoot
import Derived.Test.YtgijeelednmmkaaWKept
import Derived.Test.YtgijeelednmmkaaWShare
import Derived.Test.YtgijeelednmmkaaWN
import Derived.Test.YtgijeelednmmkaaWFootNe
import Derived.Test.YtgijeelednmmkaaWAt
import Derived.Test.YtgijeelednmmkaaWEqStruct
import Derived.Test.YtgijeelednmmkaaWRepsOne
import Derived.Test.YtgijeelednmmkaaWInv
import Derived.Test.YtgijeelednmmkaaWInvWords
import Derived.Test.YtgijeelednmmkaaWGuard
import Derived.Test.YtgijeelednmmkaaWNEv
import Derived.Test.YtgijeelednmmkaaWMore
namespace Go.Proofs.Ytgijeelednmmkaa.PAll
open Go.RowKit Go.Proofs.YtgijeelednmmkaaW.PrintWords Go.Proofs.YtgijeelednmmkaaW.PrintLast Go.Proofs.YtgijeelednmmkaaW.PrintMore
attribute [local go_sem] max2_int min2_int max_two min_two max_three min_three max_four min_four   -- for this text's walks alone
set_option linter.unusedVariables false
set_option linter.unusedSimpArgs false



def errW : Option Int → Value
  | none => .nilIface
  | some c => .iface 0 (.int .i64 c)
theorem errW_none : errW none = .nilIface := rfl
theorem errW_some (c : Int) : errW (some c) = .iface 0 (.int .i64 c) := rfl

theorem info5 : (Try.prog.info? 5).map (fun i => (i.zero, i.size, i.bytes)) = some (some (.int .u8 0), 1, 1) := by kernel_rfl
-- the values' own types

end Go.Proofs.Ytgijeelednmmkaa.PAll
