/- PastKeeps holds: for all steps and every file's name the statement answers true. Part 14 of 20. -/
import Derived.Test.YthimblhfjfngiaaBKeepsM
namespace Go.Proofs.Ythimblhfjfngiaa.PText
open Go.RowKit Go.Lib Go.Sort Go.Proofs.YthimblhfjfngiaaW.PrintWords Go.Proofs.YthimblhfjfngiaaW.PrintLast Go.Proofs.YthimblhfjfngiaaW.PrintMore
set_option linter.unusedVariables false
set_option linter.unusedSimpArgs false
/-- a file put among others: behind the last one that is not behind it -/
def bub (x : S53) : List S53 → List S53 → List S53
  | [], S => x :: S
  | p :: Pr, S => if ltF x p = true then bub x Pr (p :: S) else (p :: Pr).reverse ++ x :: S
theorem bub_perm (x : S53) : ∀ (Pr S : List S53), (bub x Pr S).Perm (x :: (Pr.reverse ++ S))
  | [], S => List.Perm.refl _
  | p :: Pr, S => by
    unfold bub
    have e : (p :: Pr).reverse ++ S = Pr.reverse ++ p :: S := by simp
    split
    · rw [e]; exact bub_perm x Pr (p :: S)
    · exact List.perm_middle
def QF (l : List S53) : Prop := l.Pairwise fun a b => ltF b a = false
theorem ltF_asym {a b : S53} (h : ltF a b = true) : ltF b a = false := by
  cases q : ltF b a with
  | false => rfl
  | true => have := ltF_swo.trans a b a h q; rw [ltF_swo.irrefl] at this; cases this
theorem bub_sorted (x : S53) : ∀ (Pr S : List S53), QF (Pr.reverse ++ S) → (∀ s ∈ S, ltF x s = true) → QF (bub x Pr S)
  | [], S, h, hs => List.pairwise_cons.2 ⟨fun s m => ltF_asym (hs s m), h⟩
  | p :: Pr, S, h, hs => by
    have e : (p :: Pr).reverse ++ S = Pr.reverse ++ p :: S := by simp
    unfold bub
    by_cases c : ltF x p = true
    · rw [if_pos c]
      rw [e] at h
      refine bub_sorted x Pr (p :: S) h fun s m => ?_
      rcases List.mem_cons.1 m with rfl | m
      · exact c
      · exact hs s m
    · rw [if_neg c]
      obtain ⟨h1, h2, h3⟩ := List.pairwise_append.1 h
      have hxp : ltF x p = false := by simpa using c
      refine List.pairwise_append.2 ⟨h1, List.pairwise_cons.2 ⟨fun s m => ltF_asym (hs s m), h2⟩, fun a ha b hb => ?_⟩
      rcases List.mem_cons.1 hb with rfl | hb
      · rw [List.reverse_cons, List.mem_append, List.mem_singleton] at ha
        rcases ha with ha | rfl
        · rw [List.reverse_cons] at h1
          have := (List.pairwise_append.1 h1).2.2 a ha p (by simp)
          exact ltF_swo.ntrans b p a hxp this
        · exact hxp
      · exact h3 a ha b hb
theorem sorted_l1 (fs : List S53) (i : Nat) (x : S53) : ∀ (Pr S : List S53) (k : Nat), Pr.length + S.length ≤ 100000 → Pr.length + 1 ≤ k → ∃ k', k ≤ k' + Pr.length + 1 ∧ smockingref25_sorted.l1 k fs (Pr.reverse ++ x :: S) (i : Int) (Pr.length : Int) = smockingref25_sorted.l0 k' fs (bub x Pr S) (wrap64 ((i : Int) + 1))
  | [], S, k, hl, hk => by
    obtain ⟨k, rfl⟩ : ∃ q, k = q + 1 := ⟨k - 1, by omega⟩
    refine ⟨k, by simp, ?_⟩
    rw [smockingref25_sorted.l1, if_neg (by simp)]
    rfl
  | p :: Pr, S, k, hl, hk => by
    obtain ⟨k, rfl⟩ : ∃ q, k = q + 1 := ⟨k - 1, by omega⟩
    have e : (p :: Pr).reverse ++ x :: S = Pr.reverse ++ p :: x :: S := by simp
    have hw : wrap64 ((((p :: Pr).length : Nat) : Int) - 1) = (Pr.length : Int) := by
      rw [List.length_cons] at hl ⊢
      rw [w64 (by omega) (by omega)]; omega
    have hr1 : rd_T53 ((p :: Pr).reverse ++ x :: S) ((p :: Pr).length : Int) = x := by
      unfold rd_T53
      rw [Int.toNat_natCast, List.getD_eq_getElem?_getD, List.getElem?_append_right (by simp)]
      simp
    have hr2 : rd_T53 ((p :: Pr).reverse ++ x :: S) (Pr.length : Int) = p := by
      rw [e]
      unfold rd_T53
      rw [Int.toNat_natCast, List.getD_eq_getElem?_getD, List.getElem?_append_right (by simp)]
      simp
    have hset : (((p :: Pr).reverse ++ x :: S).set (((p :: Pr).length : Nat) : Int).toNat (⟨p.f0, p.f1⟩ : S53)).set ((Pr.length : Nat) : Int).toNat (⟨x.f0, x.f1⟩ : S53) = Pr.reverse ++ x :: p :: S := by
      rw [e, Int.toNat_natCast, Int.toNat_natCast, List.set_append_right _ _ (by simp), List.length_cons, List.length_reverse, show Pr.length + 1 - Pr.length = 0 + 1 by omega, List.set_cons_succ, List.set_cons_zero, List.set_append_right _ _ (by simp), List.length_reverse, Nat.sub_self, List.set_cons_zero]
    have hlen : (((p :: Pr).reverse ++ x :: S).length : Int) = (Pr.length : Int) + (S.length : Int) + 2 := by simp; omega
    rw [smockingref25_sorted.l1, if_pos (by rw [List.length_cons]; omega), if_pos (by omega), if_pos (by rw [hlen, List.length_cons]; omega), hw, if_pos (by omega), if_pos (by rw [hlen]; omega), hr1, hr2, bl_lt]
    unfold bub
    by_cases c : ltF x p = true
    · rw [if_pos c, if_pos (show decide (x.f0.toList < p.f0.toList) = true from c), hset]
      rw [List.length_cons] at hl hk
      obtain ⟨k', h1, h2⟩ := sorted_l1 fs i x Pr (p :: S) k (by rw [List.length_cons]; omega) (by omega)
      exact ⟨k', by rw [List.length_cons]; omega, h2⟩
    · rw [if_neg c, if_neg (show ¬ decide (x.f0.toList < p.f0.toList) = true from c)]
      exact ⟨k, by rw [List.length_cons]; omega, rfl⟩
theorem sorted_l0 (fs : List S53) (hf : fs.length ≤ 10000) (B : Nat) (hB : fs.length + 3 ≤ B) : ∀ (m i k : Nat) (out : List S53), fs.length - i = m → i ≤ fs.length → m * B + 1 ≤ k → out.Perm (fs.take i) → QF out → ∃ d, smockingref25_sorted.l0 k fs out (i : Int) = some d ∧ d.Perm fs ∧ QF d
  | 0, i, k, out, hm, hi, hk, hp, hq => by
    obtain ⟨k, rfl⟩ : ∃ q, k = q + 1 := ⟨k - 1, by omega⟩
    rw [smockingref25_sorted.l0, if_neg (by omega)]
    rw [List.take_of_length_le (by omega)] at hp
    exact ⟨out, rfl, hp, hq⟩
  | m + 1, i, k, out, hm, hi, hk, hp, hq => by
    obtain ⟨k, rfl⟩ : ∃ q, k = q + 1 := ⟨k - 1, by omega⟩
    rw [Nat.succ_mul] at hk
    have hil : i < fs.length := by omega
    have hol : out.length = i := by rw [hp.length_eq, List.length_take]; omega
    have hw : wrap64 (((out ++ [fs[i]]).length : Int) - 1) = (out.reverse.length : Int) := by
      rw [List.length_append, List.length_singleton, List.length_reverse, w64 (by omega) (by omega)]; omega
    have he : (⟨(rd_T53 fs (i : Int)).f0, (rd_T53 fs (i : Int)).f1⟩ : S53) = fs[i] := by rw [rd53_at fs i hil]
    obtain ⟨k', h1, h2⟩ := sorted_l1 fs i fs[i] out.reverse [] k (by rw [List.length_reverse]; simp; omega) (by rw [List.length_reverse]; omega)
    rw [List.reverse_reverse] at h2
    rw [smockingref25_sorted.l0, if_pos (by omega), if_pos (by omega), if_pos (by omega), Option.bind_some, he, hw, h2, nx i (by omega)]
    rw [List.length_reverse] at h1
    refine sorted_l0 fs hf B hB m (i + 1) k' _ (by omega) (by omega) (by omega) ?_ (bub_sorted _ _ _ (by rw [List.reverse_reverse, List.append_nil]; exact hq) (fun s m => by cases m))
    refine (bub_perm _ _ _).trans ?_
    rw [List.reverse_reverse, List.append_nil, List.take_succ_eq_append_getElem hil]
    exact (hp.cons _).trans (List.perm_append_comm (l₁ := [fs[i]]) (l₂ := fs.take i))
theorem sortedF_of {d : List S53} (h : QF d) : SortedF d := fun i j hij hj hi => List.pairwise_iff_getElem.1 h i j hi hj hij
theorem rsorted_f (fs : List S53) (hf : fs.length ≤ 10000) (hn : (fnames fs).Nodup) (k : Nat) (hk : fs.length * (fs.length + 3) + 1 ≤ k) : smockingref25_sorted.f k fs = some (srtF fs) := by
  obtain ⟨d, h1, h2, h3⟩ := sorted_l0 fs hf (fs.length + 3) (Nat.le_refl _) fs.length 0 k [] (by omega) (by omega) hk (by rw [List.take_zero]) List.Pairwise.nil
  have := srt_eq h2 (sortedF_of h3) hn
  rw [← this]
  exact h1
end Go.Proofs.Ythimblhfjfngiaa.PText

