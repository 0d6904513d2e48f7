/- Lean functions that answer as the Go functions do, and the proof of that, function by function, for every input at which the Lean function has an answer. Written by a program of this session (the print, turned: NOTES.md). -/
import Derived.Test.YtejfdiiennnjjaaFx0
import Derived.Test.YtejfdiiennnjjaaFx1
import Derived.Test.YtejfdiiennnjjaaFx2
import Derived.Test.YtejfdiiennnjjaaFx3
namespace Go.Proofs.Ytejfdiiennnjjaa.F
open Go.RowKit Go.Proofs.YtejfdiiennnjjaaW.PrintWords Go.Proofs.YtejfdiiennnjjaaW.PrintLast Go.Proofs.YtejfdiiennnjjaaW.PrintMore
attribute [local go_sem] max2_int min2_int max_two min_two max_three min_three max_four min_four   -- for this text's walks alone
set_option linter.unusedVariables false
set_option linter.unusedSimpArgs false

end Go.Proofs.Ytejfdiiennnjjaa.F
