/- Lean functions that answer as the Go functions do, and the proof of that, function by function, for every input at which the Lean function has an answer. Written by a program of this session (the print, turned: NOTES.md). -/
import Derived.Test.YtabnpmojccepcaaProg
import Derived.Below
import Derived.Deep.Draws
import Derived.Deep.AppendLies
import Derived.Maps.AppendAt
import Derived.OwnWalk
import Derived.Laws.BytesArg
import Derived.Laws.MakeOwn
import Derived.Laws.OwnMore
import Derived.Deep.OwnRows
import Derived.Tactics
import Derived.Lib.ConvBytes
import Derived.Laws.Slices
import Derived.WalkKit
import Derived.KernelRfl
import Derived.RowKit3
import Derived.Deep.LoopGhost
import Derived.Deep.QuietTactic
import Derived.BigQuiet
import Derived.WideLaws
import Derived.Deep.DeepCutAuto
import Derived.Deep.CutBlock
import Derived.Deep.RegionHeld3
import Derived.Laws.Rows
import Derived.Lib.AppendStr
import Derived.ArgAppend
import Derived.Laws.IdiomCopy
import Derived.OrdersHeld
import Derived.Laws.BitsLemmas
import Derived.RowKit
import Derived.Test.YtabnpmojccepcaaTotal
import Derived.Test.YtabnpmojccepcaaWWords
import Derived.Test.YtabnpmojccepcaaWLast
import Derived.Test.YtabnpmojccepcaaWTab
import Derived.Test.YtabnpmojccepcaaWFour
import Derived.Test.YtabnpmojccepcaaWQPut
import Derived.Test.YtabnpmojccepcaaWApart
import Derived.Test.YtabnpmojccepcaaWArr
import Derived.Test.YtabnpmojccepcaaWZeros
import Derived.Test.YtabnpmojccepcaaWFoot
import Derived.Test.YtabnpmojccepcaaWKept
import Derived.Test.YtabnpmojccepcaaWShare
import Derived.Test.YtabnpmojccepcaaWN
import Derived.Test.YtabnpmojccepcaaWFootNe
import Derived.Test.YtabnpmojccepcaaWAt
import Derived.Test.YtabnpmojccepcaaWEqStruct
import Derived.Test.YtabnpmojccepcaaWRepsOne
import Derived.Test.YtabnpmojccepcaaWInv
import Derived.Test.YtabnpmojccepcaaWInvWords
import Derived.Test.YtabnpmojccepcaaWGuard
import Derived.Test.YtabnpmojccepcaaWNEv
import Derived.Test.YtabnpmojccepcaaWMore
namespace Go.Proofs.Ytabnpmojccepcaa.I
open Go.RowKit Go.Proofs.YtabnpmojccepcaaW.PrintWords Go.Proofs.YtabnpmojccepcaaW.PrintLast Go.Proofs.YtabnpmojccepcaaW.PrintMore
attribute [local go_sem] max2_int min2_int max_two min_two max_three min_three max_four min_four   -- for this text's walks alone
set_option linter.unusedVariables false
set_option linter.unusedSimpArgs false



def errW : Option Int → Value
  | none => .nilIface
  | some c => .iface 0 (.int .i64 c)
theorem errW_none : errW none = .nilIface := rfl
theorem errW_some (c : Int) : errW (some c) = .iface 0 (.int .i64 c) := rfl

theorem info3 : (Try.prog.info? 3).map (fun i => (i.zero, i.size, i.bytes)) = some (some (.int .i64 0), 1, 8) := by kernel_rfl
theorem info5 : (Try.prog.info? 5).map (fun i => (i.zero, i.size, i.bytes)) = some (some (.int .u8 0), 1, 1) := by kernel_rfl
-- the values' own types

end Go.Proofs.Ytabnpmojccepcaa.I
