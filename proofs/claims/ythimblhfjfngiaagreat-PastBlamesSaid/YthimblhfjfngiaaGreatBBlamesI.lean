/- PastBlames holds: for all steps, every file and every line the statement answers true. Part 9 of 21. -/
import Derived.Test.YthimblhfjfngiaaGreatBBlamesH
namespace Go.Proofs.YthimblhfjfngiaaGreat.PText
open Go.RowKit Go.Lib Go.Proofs.YthimblhfjfngiaaGreatW.PrintWords Go.Proofs.YthimblhfjfngiaaGreatW.PrintLast Go.Proofs.YthimblhfjfngiaaGreatW.PrintMore
theorem neS34 (x y:S91):(!(x.f0 == y.f0) || (!(x.f1 == y.f1) || !(x.f2.toList == y.f2.toList)))=decide (x≠y):=by
  rw[show decide (x≠y)=!decide (x=y) by simp,← eqb34]
  simp only[Bool.not_and]
end Go.Proofs.YthimblhfjfngiaaGreat.PText

