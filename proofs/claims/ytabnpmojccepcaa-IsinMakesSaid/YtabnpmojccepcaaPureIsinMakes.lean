/- The number of every land and own signs, and the land and own signs of every number, are the document's: the law's function, as printed, comes to true for all texts. -/
import Derived.Test.YtabnpmojccepcaaFactsD
namespace Go.Proofs.Ytabnpmojccepcaa.Pure
open Go.RowKit Go.Proofs.Ytabnpmojccepcaa.I Go.Proofs.YtabnpmojccepcaaW.PrintWords Go.Proofs.YtabnpmojccepcaaW.PrintLast

theorem IsinMakes : lombardlaw05_IsinMakes.Pure := fun a0 a1 a2 _ _ _ => (Facts.IsinMakes_ev a0 a1 a2).rounds

end Go.Proofs.Ytabnpmojccepcaa.Pure
