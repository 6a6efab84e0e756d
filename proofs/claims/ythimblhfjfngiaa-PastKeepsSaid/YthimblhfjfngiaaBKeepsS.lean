/- PastKeeps holds: for all steps and every file's name the statement answers true. Part 19 of 20. -/
import Derived.Test.YthimblhfjfngiaaBKeepsR
namespace Go.Proofs.Ythimblhfjfngiaa.PText
open Go.RowKit Go.Lib Go.Proofs.YthimblhfjfngiaaW.PrintWords Go.Proofs.YthimblhfjfngiaaW.PrintLast Go.Proofs.YthimblhfjfngiaaW.PrintMore
set_option linter.unusedVariables false
set_option linter.unusedSimpArgs false
end Go.Proofs.Ythimblhfjfngiaa.PText

