/- PastKeeps holds: for all steps and every file's name the statement answers true. Part 10 of 20. -/
import Derived.Test.YthimblhfjfngiaaBKeepsI
namespace Go.Proofs.Ythimblhfjfngiaa.PText
open Go.RowKit Go.Lib Go.Proofs.YthimblhfjfngiaaW.PrintWords Go.Proofs.YthimblhfjfngiaaW.PrintLast Go.Proofs.YthimblhfjfngiaaW.PrintMore
end Go.Proofs.Ythimblhfjfngiaa.PText

