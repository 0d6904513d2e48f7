/- Lean functions that answer as the Go functions do, and the proof of that, function by function, for every input at which the Lean function has an answer. Written by a program of this session (the print, turned: NOTES.md). -/
import Derived.Test.YtejfdiiennnjjaaProg
import Derived.Below
import Derived.Deep.Draws
import Derived.Deep.AppendLies
import Derived.Maps.AppendAt
import Derived.OwnWalk
import Derived.Laws.BytesArg
import Derived.Laws.MakeOwn
import Derived.Laws.OwnMore
import Derived.Deep.OwnRows
import Derived.Tactics
import Derived.Lib.ConvBytes
import Derived.Laws.Slices
import Derived.WalkKit
import Derived.KernelRfl
import Derived.RowKit3
import Derived.Deep.LoopGhost
import Derived.Deep.QuietTactic
import Derived.BigQuiet
import Derived.WideLaws
import Derived.Deep.DeepCutAuto
import Derived.Deep.CutBlock
import Derived.Deep.RegionHeld3
import Derived.Laws.Rows
import Derived.Lib.AppendStr
import Derived.ArgAppend
import Derived.Laws.IdiomCopy
import Derived.OrdersHeld
import Derived.Laws.BitsLemmas
import Derived.RowKit
import Derived.Test.YtejfdiiennnjjaaWWords
import Derived.Test.YtejfdiiennnjjaaWLast
import Derived.Test.YtejfdiiennnjjaaWTab
import Derived.Test.YtejfdiiennnjjaaWFour
import Derived.Test.YtejfdiiennnjjaaWQPut
import Derived.Test.YtejfdiiennnjjaaWApart
import Derived.Test.YtejfdiiennnjjaaWArr
import Derived.Test.YtejfdiiennnjjaaWZeros
import Derived.Test.YtejfdiiennnjjaaWFoot
import Derived.Test.YtejfdiiennnjjaaWKept
import Derived.Test.YtejfdiiennnjjaaWShare
import Derived.Test.YtejfdiiennnjjaaWN
import Derived.Test.YtejfdiiennnjjaaWFootNe
import Derived.Test.YtejfdiiennnjjaaWAt
import Derived.Test.YtejfdiiennnjjaaWEqStruct
import Derived.Test.YtejfdiiennnjjaaWRepsOne
import Derived.Test.YtejfdiiennnjjaaWInv
import Derived.Test.YtejfdiiennnjjaaWInvWords
import Derived.Test.YtejfdiiennnjjaaWGuard
import Derived.Test.YtejfdiiennnjjaaWNEv
import Derived.Test.YtejfdiiennnjjaaWMore
namespace Go.Proofs.Ytejfdiiennnjjaa.F
open Go.RowKit Go.Proofs.YtejfdiiennnjjaaW.PrintWords Go.Proofs.YtejfdiiennnjjaaW.PrintLast Go.Proofs.YtejfdiiennnjjaaW.PrintMore
attribute [local go_sem] max2_int min2_int max_two min_two max_three min_three max_four min_four   -- for this text's walks alone
set_option linter.unusedVariables false
set_option linter.unusedSimpArgs false



def errW : Option Int → Value
  | none => .nilIface
  | some c => .iface 0 (.int .i64 c)
theorem errW_none : errW none = .nilIface := rfl
theorem errW_some (c : Int) : errW (some c) = .iface 0 (.int .i64 c) := rfl

theorem info5 : (Try.prog.info? 5).map (fun i => (i.zero, i.size, i.bytes)) = some (some (.int .u8 0), 1, 1) := by kernel_rfl
theorem info9 : (Try.prog.info? 9).map (fun i => (i.zero, i.size, i.bytes)) = some (some (.string ⟨#[]⟩), 1, 16) := by kernel_rfl
-- the values' own types

end Go.Proofs.Ytejfdiiennnjjaa.F
