/- What Make makes is a number, of which land and own signs are told again: the law's function, as printed, comes to true for all texts. -/
import Derived.Test.YtabnpmojccepcaaFactsD
namespace Go.Proofs.Ytabnpmojccepcaa.Pure
open Go.RowKit Go.Proofs.Ytabnpmojccepcaa.I Go.Proofs.YtabnpmojccepcaaW.PrintWords Go.Proofs.YtabnpmojccepcaaW.PrintLast

theorem IsinBack : lombardlaw05_IsinBack.Pure := fun a0 a1 _ _ => (Facts.IsinBack_ev a0 a1).rounds

end Go.Proofs.Ytabnpmojccepcaa.Pure
