/- PastRebases holds: for all steps, every number and all results the statement answers true. Part 14 of 24. -/
import Derived.Test.YthimblhfjfngiaaGreatBRebasesM
namespace Go.Proofs.YthimblhfjfngiaaGreat.PText
open Go.RowKit Go.Lib Go.Proofs.YthimblhfjfngiaaGreatW.PrintWords Go.Proofs.YthimblhfjfngiaaGreatW.PrintLast Go.Proofs.YthimblhfjfngiaaGreatW.PrintMore
def badE (n:Nat) (x:S91):Bool:=decide (x.f0 < 0) || decide ((n:Int) < x.f1) || decide (x.f1 < x.f0)
def fineE (n:Nat) (l:List S91):Int:=if 200000 < n∨10000 < l.length then 2 else if l.any (badE n)=true then 1 else if Tx.clash 0 (-1) ((Tx.ord eltS l).map toE)=true then 10 else 0
end Go.Proofs.YthimblhfjfngiaaGreat.PText

