/- The machine side of one law: each function and the law itself walked once, written by a program of this session (wip/xprint.py) that runs the printer of the kit.
   Conditions: none. -/
import Derived.Test.YtmdeolonjmjmgaaDoorProg
import Derived.Below
import Derived.Deep.Draws
import Derived.Deep.AppendLies
import Derived.Maps.AppendAt
import Derived.OwnWalk
import Derived.Laws.BytesArg
import Derived.Laws.MakeOwn
import Derived.Laws.OwnMore
import Derived.Deep.OwnRows
import Derived.Tactics
import Derived.Lib.ConvBytes
import Derived.Laws.Slices
import Derived.WalkKit
import Derived.KernelRfl
import Derived.RowKit3
import Derived.Deep.LoopGhost
import Derived.Deep.QuietTactic
import Derived.BigQuiet
import Derived.WideLaws
import Derived.Deep.DeepCutAuto
import Derived.Deep.CutBlock
import Derived.Deep.RegionHeld3
import Derived.Laws.Rows
import Derived.Lib.AppendStr
import Derived.ArgAppend
import Derived.Laws.IdiomCopy
import Derived.OrdersHeld
import Derived.Laws.BitsLemmas
import Derived.RowKit
import Derived.Test.YtmdeolonjmjmgaaDoorMS
import Derived.Test.YtmdeolonjmjmgaaDoorSLit
import Derived.Test.YtmdeolonjmjmgaaDoorMT
import Derived.Test.YtmdeolonjmjmgaaDoorWWords
import Derived.Test.YtmdeolonjmjmgaaDoorWLast
import Derived.Test.YtmdeolonjmjmgaaDoorWApart
import Derived.Test.YtmdeolonjmjmgaaDoorWKept
import Derived.Test.YtmdeolonjmjmgaaDoorWShare
import Derived.Test.YtmdeolonjmjmgaaDoorWRepsOne
import Derived.Test.YtmdeolonjmjmgaaDoorWMore
namespace Go.Proofs.YtmdeolonjmjmgaaDoor.QFnExactLangNumOk
open Go.RowKit Go.Proofs.YtmdeolonjmjmgaaDoorW.PrintWords Go.Proofs.YtmdeolonjmjmgaaDoorW.PrintLast Go.Proofs.YtmdeolonjmjmgaaDoorW.PrintMore
attribute [local go_sem] Go.Instr.field Go.asAgg Go.Proofs.YtmdeolonjmjmgaaDoor.MS.isSome_setCell Go.Proofs.YtmdeolonjmjmgaaDoor.MT.gtr
attribute [local go_sem] max2_int min2_int max_two min_two max_three min_three max_four min_four   -- for this text's walks alone
set_option linter.unusedVariables false
set_option linter.unusedSimpArgs false



def errW : Option Int → Value
  | none => .nilIface
  | some c => .iface 0 (.int .i64 c)
theorem errW_none : errW none = .nilIface := rfl
theorem errW_some (c : Int) : errW (some c) = .iface 0 (.int .i64 c) := rfl

-- the values' own types

end Go.Proofs.YtmdeolonjmjmgaaDoor.QFnExactLangNumOk
