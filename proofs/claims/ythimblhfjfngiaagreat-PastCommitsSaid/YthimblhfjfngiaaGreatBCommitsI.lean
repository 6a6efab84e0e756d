/- PastCommits holds: for all steps and every number the statement answers true. Part 9 of 20. -/
import Derived.Test.YthimblhfjfngiaaGreatBCommitsH
namespace Go.Proofs.YthimblhfjfngiaaGreat.PText
open Go.RowKit Go.Lib Go.Proofs.YthimblhfjfngiaaGreatW.PrintWords Go.Proofs.YthimblhfjfngiaaGreatW.PrintLast Go.Proofs.YthimblhfjfngiaaGreatW.PrintMore
end Go.Proofs.YthimblhfjfngiaaGreat.PText

