/- Lean functions that answer as the Go functions do, and the proof of that, function by function, for every input at which the Lean function has an answer. Written by a program of this session (the print, turned: NOTES.md). -/
import Derived.Test.YtabnpmojccepcaaIx0
import Derived.Test.YtabnpmojccepcaaIx1
import Derived.Test.YtabnpmojccepcaaIx2
import Derived.Test.YtabnpmojccepcaaIx3
import Derived.Test.YtabnpmojccepcaaIx4
import Derived.Test.YtabnpmojccepcaaIx5
import Derived.Test.YtabnpmojccepcaaIx6
namespace Go.Proofs.Ytabnpmojccepcaa.I
open Go.RowKit Go.Proofs.YtabnpmojccepcaaW.PrintWords Go.Proofs.YtabnpmojccepcaaW.PrintLast Go.Proofs.YtabnpmojccepcaaW.PrintMore
attribute [local go_sem] max2_int min2_int max_two min_two max_three min_three max_four min_four   -- for this text's walks alone
set_option linter.unusedVariables false
set_option linter.unusedSimpArgs false

end Go.Proofs.Ytabnpmojccepcaa.I
