/- TextRefuses holds: for every two texts the statement answers true, where the seven listed package variables hold what the program's text lays. Part 4 of 21. -/
import Derived.Test.YtidlmkdoofcgnaaGreatDoorBRefusesC
import Derived.Lib.Walk
namespace Go.Proofs.YtidlmkdoofcgnaaGreatDoor
theorem bl_lt : ∀ (x y : List UInt8), Op.bytesLess x y = decide (x < y)
  | [], [] => by simp [Op.bytesLess]
  | _ :: _, [] => by simp [Op.bytesLess]
  | [], _ :: _ => by simp [Op.bytesLess]
  | a :: x, b :: y => by
    rw [Op.bytesLess, bl_lt x y, Bool.eq_iff_iff]
    simp [List.cons_lt_cons_iff]
theorem bl_ne {x y : List UInt8} (h : Op.bytesLess y x = true) : (x == y) = false := by
  cases q : x == y with
  | false => rfl
  | true => rw [eq_of_beq q, bl_lt, decide_eq_true_eq] at h; exact absurd h (List.lt_irrefl _)
theorem bl_eq {x y : List UInt8} (h1 : Op.bytesLess x y = false) (h2 : Op.bytesLess y x = false) : (x == y) = true := by
  rw [bl_lt] at h1 h2
  exact beq_iff_eq.2 (List.le_antisymm (List.not_lt.1 (of_decide_eq_false h2)) (List.not_lt.1 (of_decide_eq_false h1)))
theorem bl_gtr (x y : List UInt8) : (!(Op.bytesLess x y || x == y)) = Op.bytesLess y x := by
  cases h1 : Op.bytesLess x y with
  | true =>
    cases h2 : Op.bytesLess y x with
    | false => rfl
    | true => rw [bl_lt, decide_eq_true_eq] at h1 h2; exact absurd (List.lt_trans h1 h2) (List.lt_irrefl _)
  | false =>
    cases h2 : Op.bytesLess y x with
    | false => rw [bl_eq h1 h2]; rfl
    | true => rw [bl_ne h2]; rfl
theorem run_gtr_str (P : Program) (T : TypeId) (x y : ByteArray) (w : World) : Sem.run P (binOp .gtr T (.string x) (.string y)) w = .ok (.bool (Op.bytesLess y.toList x.toList)) w := by
  rw [← bl_gtr]
  simp [binOp, Op.stringOp]
end Go.Proofs.YtidlmkdoofcgnaaGreatDoor

