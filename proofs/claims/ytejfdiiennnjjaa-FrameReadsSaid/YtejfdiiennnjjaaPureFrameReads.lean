/- The records that every text has, where they end, and how it goes on there, are the document's: the law's function, as printed, comes to true for all texts. -/
import Derived.Test.YtejfdiiennnjjaaFrD
namespace Go.Proofs.Ytejfdiiennnjjaa.Pure
open Go.RowKit Go.Proofs.Ytejfdiiennnjjaa.F Go.Proofs.YtejfdiiennnjjaaW.PrintWords Go.Proofs.YtejfdiiennnjjaaW.PrintLast

theorem FrameReads : lombardlaw07_FrameReads.Pure := fun a0 _ => (Facts.FrameReads_ev a0).rounds

end Go.Proofs.Ytejfdiiennnjjaa.Pure
