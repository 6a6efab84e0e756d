/- PastCommits holds: for all steps and every number the statement answers true. Part 8 of 20. -/
import Derived.Test.YthimblhfjfngiaaGreatBCommitsG
namespace Go.Proofs.YthimblhfjfngiaaGreat.PText
open Go.RowKit Go.Lib Go.Proofs.YthimblhfjfngiaaGreatW.PrintWords Go.Proofs.YthimblhfjfngiaaGreatW.PrintLast Go.Proofs.YthimblhfjfngiaaGreatW.PrintMore
set_option linter.unusedVariables false
/-- a row of the table, done from a place on -/
structure Part (a b : List (List UInt8)) (p j : Nat) (R : List Int) : Prop where
  len : R.length = b.length + 1
  val : ∀ q, q ≤ b.length → j ≤ q → R[q]? = some (Tx.lcs (a.drop p) (b.drop q) : Int)
  zer : ∀ q, q < j → q ≤ b.length → R[q]? = some 0
structure RT (a b : List (List UInt8)) (i : Nat) (t : List (List Int)) : Prop where
  len : t.length = a.length + 1
  row : ∀ p, i ≤ p → p ≤ a.length → ∃ R, t[p]? = some R ∧ Part a b p 0 R
theorem Part.put {a b : List (List UInt8)} {p j : Nat} {R : List Int} (h : Part a b p (j + 1) R) (hj : j ≤ b.length) : Part a b p j (R.set (j : Int).toNat (Tx.lcs (a.drop p) (b.drop j) : Int)) where
  len := by rw [List.length_set]; exact h.len
  val q hq hs := by
    rw [Int.toNat_natCast]
    by_cases e : q = j
    · subst e; rw [List.getElem?_set_self (by rw [h.len]; omega)]
    · rw [List.getElem?_set_ne (fun k => e k.symm)]; exact h.val q hq (by omega)
  zer q hq hs := by
    rw [Int.toNat_natCast, List.getElem?_set_ne (by omega)]; exact h.zer q (by omega) hs
theorem Part.skip {a b : List (List UInt8)} {p j : Nat} {R : List Int} (h : Part a b p (j + 1) R) (hj : j ≤ b.length) (hz : Tx.lcs (a.drop p) (b.drop j) = 0) : Part a b p j R where
  len := h.len
  val q hq hs := by
    by_cases e : q = j
    · subst e; rw [hz]; exact h.zer q (by omega) hq
    · exact h.val q hq (by omega)
  zer q hq hs := h.zer q (by omega) hs
end Go.Proofs.YthimblhfjfngiaaGreat.PText

