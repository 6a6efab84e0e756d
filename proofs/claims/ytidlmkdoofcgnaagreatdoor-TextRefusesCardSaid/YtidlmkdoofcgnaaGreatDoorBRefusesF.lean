/- TextRefuses holds: for every two texts the statement answers true, where the seven listed package variables hold what the program's text lays. Part 6 of 21. -/
import Derived.Test.YtidlmkdoofcgnaaGreatDoorBRefusesE
import Derived.Lib.SplitLaws
import Derived.Lib.Split
import Derived.Lib.Strings
namespace Rf
open Go.Lib
/-- a text whose first piece at blanks is '@@', with further pieces, begins with '@@ ' -/
theorem split_head (t : ByteArray) (k : Nat) (h2 : 2 ≤ (splitB ⟨#[32]⟩ 0 k t).length) (p : ByteArray) (hp : (splitB ⟨#[32]⟩ 0 k t)[0]? = some p) (h0 : p.data.toList = [64, 64]) : ∃ r, t.data.toList = 64 :: 64 :: 32 :: r := by
  have hd := splitB_data ⟨#[32]⟩ 0 k t
  have hl : 2 ≤ (splitK [32] 0 k t.data.toList).length := by
    rw [show ([32] : List UInt8) = (⟨#[32]⟩ : ByteArray).data.toList from rfl, ← hd, List.length_map]; exact h2
  have hq : (splitK [32] 0 k t.data.toList)[0]? = some [64, 64] := by
    rw [show ([32] : List UInt8) = (⟨#[32]⟩ : ByteArray).data.toList from rfl, ← hd, List.getElem?_map, hp]
    exact congrArg some h0
  generalize t.data.toList = s at *
  clear hd hp h2
  cases k with
  | zero => simp [splitK] at hl
  | succ k =>
    unfold splitK at hl hq
    rcases index_spec s [32] with ⟨e, -⟩ | ⟨i, e, hi, ho, -⟩
    · rw [e] at hl; simp at hl
    · have hne : (index s [32] == -1) = false := by rw [e, beq_eq_false_iff_ne]; omega
      rw [hne, e] at hq
      have hq2 : s.take i = [64, 64] := by simpa using hq
      have h3 : i = 2 := by
        have := congrArg List.length hq2
        rw [List.length_take] at this
        simp at this; omega
      subst h3
      unfold occAt at ho
      have hs : s = s.take 2 ++ s.drop 2 := (List.take_append_drop 2 s).symm
      cases hdr : s.drop 2 with
      | nil => rw [hdr] at ho; cases ho
      | cons b r =>
        rw [hdr] at ho
        have hb : b = 32 := by
          have := List.isPrefixOf_iff_prefix.1 ho
          obtain ⟨u, hu⟩ := this
          injection hu with h1 _
          exact h1.symm
        exact ⟨r, by rw [hs, hq2, hdr, hb]; rfl⟩
theorem trim_pre (s p : List UInt8) : ∃ u, s = trimSuffix s p ++ u := by
  unfold trimSuffix
  split
  · exact ⟨_, (List.take_append_drop _ _).symm⟩
  · exact ⟨[], (List.append_nil _).symm⟩
/-- what does not begin with '@@ ' has no head -/
theorem head_no (d l0 : ByteArray) (rest : List UInt8) (hd : d.data.toList = l0.data.toList ++ rest) (hno : ∀ r, d.data.toList ≠ 64 :: 64 :: 32 :: r) (k : Nat) (p : ByteArray)
    (h2 : 2 ≤ (splitB ⟨#[32]⟩ 0 k ⟨(trimSuffix l0.data.toList [10]).toArray⟩).length) (hp : (splitB ⟨#[32]⟩ 0 k ⟨(trimSuffix l0.data.toList [10]).toArray⟩)[0]? = some p) : p.data.toList ≠ [64, 64] := fun h0 => by
  obtain ⟨r, hr⟩ := split_head _ k h2 p hp h0
  obtain ⟨u, hu⟩ := trim_pre l0.data.toList [10]
  have hr' : trimSuffix l0.data.toList [10] = 64 :: 64 :: 32 :: r := hr
  exact hno (r ++ u ++ rest) (by rw [hd, hu, hr']; simp)
end Rf

