/- PastSides holds: for every three texts the statement answers true. Part 11 of 20. -/
import Derived.Test.YthimblhfjfngiaaBSidesJ
namespace Go.Proofs.Ythimblhfjfngiaa.PText
open Go.RowKit Go.Lib Go.Proofs.YthimblhfjfngiaaW.PrintWords Go.Proofs.YthimblhfjfngiaaW.PrintLast Go.Proofs.YthimblhfjfngiaaW.PrintMore
end Go.Proofs.Ythimblhfjfngiaa.PText

