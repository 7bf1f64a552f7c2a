-- Made by a program of this session (wip/xprint.py) out of the translation.
import Derived.Test.YthlebenfnlllhaaProg
import Derived.Below
import Derived.Deep.Draws
import Derived.Deep.AppendLies
import Derived.Maps.AppendAt
import Derived.OwnWalk
import Derived.Laws.BytesArg
import Derived.Laws.MakeOwn
import Derived.Laws.OwnMore
import Derived.Deep.OwnRows
import Derived.Tactics
import Derived.Lib.ConvBytes
import Derived.Laws.Slices
import Derived.WalkKit
import Derived.KernelRfl
import Derived.RowKit3
import Derived.Deep.LoopGhost
import Derived.Deep.QuietTactic
import Derived.BigQuiet
import Derived.WideLaws
import Derived.Deep.DeepCutAuto
import Derived.Deep.CutBlock
import Derived.Deep.RegionHeld3
import Derived.Laws.Rows
import Derived.Lib.AppendStr
import Derived.ArgAppend
import Derived.Laws.IdiomCopy
import Derived.OrdersHeld
import Derived.Laws.BitsLemmas
import Derived.RowKit
import Derived.Test.YthlebenfnlllhaaWWords
import Derived.Test.YthlebenfnlllhaaWLast
import Derived.Test.YthlebenfnlllhaaWTab
import Derived.Test.YthlebenfnlllhaaWFour
import Derived.Test.YthlebenfnlllhaaWQPut
import Derived.Test.YthlebenfnlllhaaWApart
import Derived.Test.YthlebenfnlllhaaWArr
import Derived.Test.YthlebenfnlllhaaWZeros
import Derived.Test.YthlebenfnlllhaaWFoot
import Derived.Test.YthlebenfnlllhaaWKept
import Derived.Test.YthlebenfnlllhaaWShare
import Derived.Test.YthlebenfnlllhaaWN
import Derived.Test.YthlebenfnlllhaaWFootNe
import Derived.Test.YthlebenfnlllhaaWAt
import Derived.Test.YthlebenfnlllhaaWEqStruct
import Derived.Test.YthlebenfnlllhaaWRepsOne
import Derived.Test.YthlebenfnlllhaaWInv
import Derived.Test.YthlebenfnlllhaaWInvWords
import Derived.Test.YthlebenfnlllhaaWGuard
import Derived.Test.YthlebenfnlllhaaWNEv
import Derived.Test.YthlebenfnlllhaaWMore
namespace Go.Proofs.Ythlebenfnlllhaa.PFnExactIsClue
open Go.RowKit Go.Proofs.YthlebenfnlllhaaW.PrintWords Go.Proofs.YthlebenfnlllhaaW.PrintLast Go.Proofs.YthlebenfnlllhaaW.PrintMore
attribute [local go_sem] max2_int min2_int max_two min_two max_three min_three max_four min_four   -- for this text's walks alone
set_option linter.unusedVariables false
set_option linter.unusedSimpArgs false



def errW : Option Int → Value
  | none => .nilIface
  | some c => .iface 0 (.int .i64 c)
theorem errW_none : errW none = .nilIface := rfl
theorem errW_some (c : Int) : errW (some c) = .iface 0 (.int .i64 c) := rfl

-- the values' own types

end Go.Proofs.Ythlebenfnlllhaa.PFnExactIsClue
