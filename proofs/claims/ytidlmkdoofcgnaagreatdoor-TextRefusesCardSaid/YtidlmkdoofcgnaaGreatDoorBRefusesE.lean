/- TextRefuses holds: for every two texts the statement answers true, where the seven listed package variables hold what the program's text lays. Part 5 of 21. -/
import Derived.Test.YtidlmkdoofcgnaaGreatDoorBRefusesD
import Derived.Lib.SlicesCompact
namespace Go.Proofs.YtidlmkdoofcgnaaGreatDoor.Tx
open Go.Lib
section
variable {α : Type} [DecidableEq α] [Inhabited α] {lt : α → α → Bool}
theorem compact_mem (d : Array α) (m : Nat) (a : α) : a ∈ compactUpTo d m ↔ ∃ j, j < m ∧ keeps d j = true ∧ d[j]! = a := by
  unfold compactUpTo
  simp only [List.mem_map, List.mem_filter, List.mem_range]
  constructor
  · rintro ⟨j, ⟨h1, h2⟩, h3⟩; exact ⟨j, h1, h2, h3⟩
  · rintro ⟨j, h1, h2, h3⟩; exact ⟨j, ⟨h1, h2⟩, h3⟩
theorem compact_kept (d : Array α) : ∀ j, ∃ i, i ≤ j ∧ keeps d i = true ∧ d[i]! = d[j]! := by
  intro j
  induction j with
  | zero => exact ⟨0, Nat.le_refl _, by simp [keeps], rfl⟩
  | succ j ih =>
    by_cases h : d[j + 1]! = d[j]!
    · obtain ⟨i, h1, h2, h3⟩ := ih
      exact ⟨i, by omega, h2, by rw [h, h3]⟩
    · exact ⟨j + 1, Nat.le_refl _, keeps_pos (by simpa using h), rfl⟩
theorem compact_asc (h : Lin lt) (d : Array α) (hs : ∀ i j, i < j → j < d.size → lt d[j]! d[i]! = false) : ∀ m, m ≤ d.size → Asc lt (compactUpTo d m)
  | 0, _ => by unfold compactUpTo; exact List.Pairwise.nil
  | m + 1, hm => by
    rw [compactUpTo_succ]
    have ih := compact_asc h d hs m (by omega)
    by_cases hk : keeps d m = true
    · rw [if_pos hk]
      refine asc_append.2 ⟨ih, List.pairwise_singleton _ _, fun a ha b hb => ?_⟩
      rw [List.mem_singleton.1 hb]
      obtain ⟨j, hj, _, rfl⟩ := (compact_mem d m a).1 ha
      have hne : d[m]! ≠ d[m - 1]! := by
        intro e
        rw [keeps_neg (by omega) e] at hk; cases hk
      cases q : lt d[j]! d[m]! with
      | true => rfl
      | false =>
        have e := h.tri q (hs j m hj (by omega))
        exfalso
        rcases Nat.lt_or_ge j (m - 1) with c | c
        · have h1 := hs j (m - 1) c (by omega)
          rw [e] at h1
          exact hne (h.tri (hs (m - 1) m (by omega) (by omega)) h1)
        · have : j = m - 1 := by omega
          subst this
          exact hne e.symm
    · rw [if_neg hk, List.append_nil]; exact ih
theorem compact_ord (h : Lin lt) (d : Array α) (l : List α) (hs : ∀ i j, i < j → j < d.size → lt d[j]! d[i]! = false) (hm : ∀ a, a ∈ d.toList ↔ a ∈ l) : compactUpTo d d.size = ord lt l := by
  refine ord_of_asc h (compact_asc h d hs d.size (Nat.le_refl _)) fun a => ?_
  rw [← hm, compact_mem]
  constructor
  · rintro ⟨j, h1, _, rfl⟩
    rw [getElem!_pos d j h1]
    exact Array.mem_toList_iff.2 (Array.getElem_mem h1)
  · intro ha
    obtain ⟨j, h1, rfl⟩ := List.getElem_of_mem ha
    obtain ⟨i, h2, h3, h4⟩ := compact_kept d j
    have h1' : j < d.size := by simpa using h1
    refine ⟨i, by omega, h3, ?_⟩
    rw [h4, getElem!_pos d j h1', Array.getElem_toList]
end
end Go.Proofs.YtidlmkdoofcgnaaGreatDoor.Tx

