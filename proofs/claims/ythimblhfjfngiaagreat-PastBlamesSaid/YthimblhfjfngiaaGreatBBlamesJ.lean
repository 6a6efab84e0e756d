/- PastBlames holds: for all steps, every file and every line the statement answers true. Part 10 of 21. -/
import Derived.Test.YthimblhfjfngiaaGreatBBlamesI
namespace Go.Proofs.YthimblhfjfngiaaGreat.PText
open Go.RowKit Go.Lib Go.Proofs.YthimblhfjfngiaaGreatW.PrintWords Go.Proofs.YthimblhfjfngiaaGreatW.PrintLast Go.Proofs.YthimblhfjfngiaaGreatW.PrintMore
end Go.Proofs.YthimblhfjfngiaaGreat.PText

