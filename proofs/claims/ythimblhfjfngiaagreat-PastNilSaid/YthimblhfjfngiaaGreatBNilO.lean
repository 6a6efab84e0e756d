/- PastNil holds: for every number and every text the statement answers true. Part 15 of 19. -/
import Derived.Test.YthimblhfjfngiaaGreatBNilN
namespace Go.Proofs.YthimblhfjfngiaaGreat.PText
open Go.RowKit Go.Lib Go.Proofs.YthimblhfjfngiaaGreatW.PrintWords Go.Proofs.YthimblhfjfngiaaGreatW.PrintLast Go.Proofs.YthimblhfjfngiaaGreatW.PrintMore
/-- a whole order of files that goes by names first -/
def ltFL (x y : S41) : Bool := decide (x.f0.toList < y.f0.toList) || (decide (x.f0.toList = y.f0.toList) && decide (x.f1.toList < y.f1.toList))
theorem ltFL_iff (x y : S41) : ltFL x y = true ↔ x.f0.toList < y.f0.toList ∨ (x.f0.toList = y.f0.toList ∧ x.f1.toList < y.f1.toList) := by
  unfold ltFL
  simp only [Bool.or_eq_true, Bool.and_eq_true, decide_eq_true_eq]
theorem toList_inj {a b : ByteArray} (h : a.toList = b.toList) : a = b := by
  rw [Lib.toList_data, Lib.toList_data] at h
  exact ByteArray.ext (Array.toList_inj.1 h)
theorem ltFL_lin : Tx.Lin ltFL where
  irr a := by
    cases h : ltFL a a with
    | false => rfl
    | true =>
      rcases (ltFL_iff _ _).1 h with k | ⟨_, k⟩
      · exact absurd k (List.lt_irrefl _)
      · exact absurd k (List.lt_irrefl _)
  tr := by
    intro a b c h1 h2
    rw [ltFL_iff] at h1 h2 ⊢
    rcases h1 with h1 | ⟨e1, h1⟩
    · rcases h2 with h2 | ⟨e2, h2⟩
      · exact Or.inl (List.lt_trans h1 h2)
      · exact Or.inl (by rw [← e2]; exact h1)
    · rcases h2 with h2 | ⟨e2, h2⟩
      · exact Or.inl (by rw [e1]; exact h2)
      · exact Or.inr ⟨e1.trans e2, List.lt_trans h1 h2⟩
  tri := by
    intro a b h1 h2
    have n1 : ¬ (a.f0.toList < b.f0.toList ∨ (a.f0.toList = b.f0.toList ∧ a.f1.toList < b.f1.toList)) := fun q => by rw [(ltFL_iff _ _).2 q] at h1; cases h1
    have n2 : ¬ (b.f0.toList < a.f0.toList ∨ (b.f0.toList = a.f0.toList ∧ b.f1.toList < a.f1.toList)) := fun q => by rw [(ltFL_iff _ _).2 q] at h2; cases h2
    have e0 : a.f0.toList = b.f0.toList := List.le_antisymm (List.not_lt.1 fun q => n2 (Or.inl q)) (List.not_lt.1 fun q => n1 (Or.inl q))
    have e1 : a.f1.toList = b.f1.toList := List.le_antisymm (List.not_lt.1 fun q => n2 (Or.inr ⟨e0.symm, q⟩)) (List.not_lt.1 fun q => n1 (Or.inr ⟨e0, q⟩))
    exact S41.ext' (toList_inj e0) (toList_inj e1)
/-- the names of files -/
def fnames (l : List S41) : List (List UInt8) := l.map fun x => x.f0.toList
/-- files by their names -/
def srtF (l : List S41) : List S41 := Tx.ord ltFL l
/-- a row that is sorted by names -/
def SortedF (d : List S41) : Prop := ∀ i j, i < j → ∀ hj : j < d.length, ∀ hi : i < d.length, ltF d[j] d[i] = false
theorem sorted_le {d : List S41} (h : SortedF d) {i j : Nat} (hij : i < j) (hj : j < d.length) : d[i].f0.toList ≤ d[j].f0.toList :=
  List.not_lt.1 (of_decide_eq_false (h i j hij hj (by omega)))
/-- no two neighbours have one name -/
def NoNext (d : List S41) : Prop := ∀ i, ∀ h : i + 1 < d.length, d[i + 1].f0.toList ≠ d[i].f0.toList
theorem strict_of {d : List S41} (h : SortedF d) (hn : NoNext d) : ∀ (m i : Nat), ∀ hj : i + m + 1 < d.length, d[i].f0.toList < d[i + m + 1].f0.toList := by
  intro m
  induction m with
  | zero =>
    intro i hj
    have h1 := sorted_le h (show i < i + 0 + 1 by omega) hj
    rcases List.le_iff_lt_or_eq.1 h1 with q | q
    · exact q
    · exact absurd q.symm (hn i hj)
  | succ m ih =>
    intro i hj
    have h1 := ih i (by omega)
    have h2 := sorted_le h (show i + m + 1 < i + (m + 1) + 1 by omega) hj
    rcases List.le_iff_lt_or_eq.1 h2 with q | q
    · exact List.lt_trans h1 q
    · rw [← q]; exact h1
theorem nodup_of {d : List S41} (h : SortedF d) (hn : NoNext d) : (fnames d).Nodup := by
  unfold fnames
  rw [List.nodup_iff_pairwise_ne, List.pairwise_iff_getElem]
  intro i j hi hj hij
  rw [List.getElem_map, List.getElem_map]
  rw [List.length_map] at hi hj
  obtain ⟨m, rfl⟩ : ∃ m, j = i + m + 1 := ⟨j - i - 1, by omega⟩
  intro e
  have := strict_of h hn m i hj
  rw [e] at this
  exact List.lt_irrefl _ this
theorem noNext_of {d : List S41} (h : (fnames d).Nodup) : NoNext d := by
  intro i hi e
  unfold fnames at h
  rw [List.nodup_iff_pairwise_ne, List.pairwise_iff_getElem] at h
  have := h i (i + 1) (by rw [List.length_map]; omega) (by rw [List.length_map]; omega) (by omega)
  rw [List.getElem_map, List.getElem_map] at this
  exact this e.symm
theorem perm_names {d l : List S41} (h : d.Perm l) : (fnames d).Perm (fnames l) := h.map _
theorem srt_eq {d l : List S41} (hp : d.Perm l) (h : SortedF d) (hn : (fnames l).Nodup) : d = srtF l := by
  have hd : (fnames d).Nodup := (perm_names hp).nodup_iff.2 hn
  have hs := strict_of h (noNext_of hd)
  refine Tx.ord_of_asc ltFL_lin ?_ fun a => hp.mem_iff
  unfold Tx.Asc
  rw [List.pairwise_iff_getElem]
  intro i j hi hj hij
  obtain ⟨m, rfl⟩ : ∃ m, j = i + m + 1 := ⟨j - i - 1, by omega⟩
  exact (ltFL_iff _ _).2 (Or.inl (hs m i hj))
theorem first_empty {d l : List S41} (hp : d.Perm l) (h : SortedF d) : (∃ hd : 0 < d.length, d[0].f0.toList = []) ↔ ∃ x ∈ l, x.f0.toList = [] := by
  constructor
  · rintro ⟨hd, e⟩
    exact ⟨d[0], hp.mem_iff.1 (List.getElem_mem hd), e⟩
  · rintro ⟨x, hx, e⟩
    obtain ⟨j, hj, rfl⟩ := List.mem_iff_getElem.1 (hp.mem_iff.2 hx)
    refine ⟨by omega, ?_⟩
    by_cases h0 : j = 0
    · subst h0; exact e
    · have := sorted_le h (show 0 < j by omega) hj
      rw [e] at this
      cases q : d[0].f0.toList with
      | nil => rfl
      | cons c r =>
        rw [q] at this
        exact absurd (List.nil_lt_cons c r) (List.not_lt.2 this)
end Go.Proofs.YthimblhfjfngiaaGreat.PText

