/- PastCommits holds: for all steps and every number the statement answers true. Part 7 of 20. -/
import Derived.Test.YthimblhfjfngiaaGreatBCommitsF
import Derived.Lib.Strings
namespace Go.Proofs.YthimblhfjfngiaaGreat.PText
open Go.RowKit Go.Lib Go.Proofs.YthimblhfjfngiaaGreatW.PrintWords Go.Proofs.YthimblhfjfngiaaGreatW.PrintLast Go.Proofs.YthimblhfjfngiaaGreatW.PrintMore
theorem w64 {x : Int} (h0 : -9223372036854775808 ≤ x) (h1 : x ≤ 9223372036854775807) : wrap64 x = x := by unfold wrap64; omega
theorem nx (i : Nat) (h : i ≤ 1000000) : wrap64 ((i : Int) + 1) = ((i + 1 : Nat) : Int) := by rw [w64 (by omega) (by omega)]; omega
theorem mx_max (a b : Int) : mx a b = max a b := by
  unfold mx; split <;> omega
theorem rdB (l : List ByteArray) (i : Nat) (h : i < l.length) : rdOf ByteArray.empty l (i : Int) = l[i] := by
  unfold rdOf
  rw [Int.toNat_natCast, List.getD_eq_getElem?_getD, List.getElem?_eq_getElem h]; rfl
def bL (x : ByteArray) : List UInt8 := x.data.toList
theorem bL_eta (x : ByteArray) : (⟨(bL x).toArray⟩ : ByteArray) = x := by cases x; simp [bL]
theorem bL_mk (l : List UInt8) : bL ⟨l.toArray⟩ = l := rfl
theorem bL_inj {x y : ByteArray} : x.toList = y.toList ↔ bL x = bL y := by rw [Lib.toList_data, Lib.toList_data]; exact Iff.rfl
theorem bL_size (x : ByteArray) : x.size = (bL x).length := by unfold bL; rw [Array.length_toList]; rfl
theorem bL_ext {x y : ByteArray} (h : bL x = bL y) : x = y := by rw [← bL_eta x, ← bL_eta y, h]
theorem bL_append (x y : ByteArray) : bL (x ++ y) = bL x ++ bL y := by unfold bL; rw [ByteArray.data_append, Array.toList_append]
end Go.Proofs.YthimblhfjfngiaaGreat.PText

namespace Go.Proofs.YthimblhfjfngiaaGreat.PText
open Go.RowKit Go.Lib Go.Proofs.YthimblhfjfngiaaGreatW.PrintWords Go.Proofs.YthimblhfjfngiaaGreatW.PrintLast Go.Proofs.YthimblhfjfngiaaGreatW.PrintMore
theorem rd34_at (l : List S91) (i : Nat) (h : i < l.length) : rd_T91 l (i : Int) = l[i] := by
  unfold rd_T91
  rw [Int.toNat_natCast, List.getD_eq_getElem?_getD, List.getElem?_eq_getElem h]; rfl
theorem clash_l0 (l : List S91) (hl : l.length ≤ 1000000) : ∀ (m i k : Nat) (e last : Int), l.length - i = m → i ≤ l.length → 2 * m + 1 ≤ k →
    text_clash.l0 k e last l (l.length : Int) (i : Int) = some (Tx.clash e last ((l.drop i).map toE)) := by
  intro m
  induction m with
  | zero =>
    intro i k e last hm hi hk
    obtain ⟨k, rfl⟩ : ∃ j, k = j + 1 := ⟨k - 1, by omega⟩
    rw [text_clash.l0, if_neg (by omega), List.drop_of_length_le (by omega)]
    rfl
  | succ m ih =>
    intro i k e last hm hi hk
    obtain ⟨k, rfl⟩ : ∃ j, k = j + 2 := ⟨k - 2, by omega⟩
    have hlt : i < l.length := by omega
    have hd : (l.drop i).map toE = toE l[i] :: (l.drop (i + 1)).map toE := by rw [List.drop_eq_getElem_cons hlt]; rfl
    have hn : wrap64 ((i : Int) + 1) = ((i + 1 : Nat) : Int) := by rw [w64 (by omega) (by omega)]; omega
    have ih1 := fun e last => ih (i + 1) k e last (by omega) (by omega) (by omega)
    rw [text_clash.l0, if_pos (by omega), if_pos (by omega), if_pos (by omega), rd34_at l i hlt, hd]
    generalize l[i] = x
    have step : ∀ b : Bool, text_clash.j1 (k + 1) e last l (l.length : Int) (i : Int) b x.f0 x.f1 x.f2 = some (if b = true then true else Tx.clash (max e x.f1) (if x.f0 = x.f1 then x.f0 else last) ((l.drop (i + 1)).map toE)) := by
      intro b
      rw [text_clash.j1]
      cases b with
      | true => rfl
      | false =>
        rw [if_neg (show ¬ (false = true) by decide), if_neg (show ¬ (false = true) by decide), hn]
        by_cases h : x.f0 = x.f1
        · rw [if_pos h, if_pos h, ih1, mx_max]
        · rw [if_neg h, if_neg h, ih1, mx_max]
    rw [step, step, step]
    show _ = some (if x.f0 < e ∨ (x.f0 = x.f1 ∧ x.f0 = last) then true else Tx.clash (max e x.f1) (if x.f0 = x.f1 then x.f0 else last) ((l.drop (i + 1)).map toE))
    by_cases h1 : x.f0 < e
    · rw [if_pos h1, if_pos (Or.inl h1)]; rfl
    · rw [if_neg h1]
      by_cases h2 : x.f0 = x.f1
      · rw [if_pos h2]
        by_cases h3 : x.f0 = last
        · have hb : (x.f0 == last) = true := beq_iff_eq.2 h3
          rw [hb, if_pos rfl, if_pos (Or.inr ⟨h2, h3⟩)]
        · have hb : (x.f0 == last) = false := beq_eq_false_iff_ne.2 h3
          rw [hb, if_neg (show ¬ (false = true) by decide)]
          congr 1
          rw [if_neg (show ¬ (x.f0 < e ∨ (x.f0 = x.f1 ∧ x.f0 = last)) by rintro (q | ⟨_, q⟩); exact h1 q; exact h3 q)]
      · rw [if_neg h2, if_neg (show ¬ (false = true) by decide)]
        congr 1
        rw [if_neg (show ¬ (x.f0 < e ∨ (x.f0 = x.f1 ∧ x.f0 = last)) by rintro (q | ⟨q, _⟩); exact h1 q; exact h2 q)]
theorem clash_f (l : List S91) (hl : l.length ≤ 10000) : text_clash.f 20001 l = some (Tx.clash 0 (-1) (l.map toE)) := by
  have h := clash_l0 l (by omega) l.length 0 20001 0 (-1) (by omega) (by omega) (by omega)
  rw [List.drop_zero] at h
  exact h
end Go.Proofs.YthimblhfjfngiaaGreat.PText

namespace Go.Proofs.YthimblhfjfngiaaGreat.PText
open Go.RowKit Go.Lib Go.Proofs.YthimblhfjfngiaaGreatW.PrintWords Go.Proofs.YthimblhfjfngiaaGreatW.PrintLast Go.Proofs.YthimblhfjfngiaaGreatW.PrintMore
set_option linter.unusedVariables false
def toSt (x : UInt8 × List UInt8) : S119 := ⟨(x.1.toNat : Int), ⟨x.2.toArray⟩⟩
theorem rd78_at (l : List S119) (i : Nat) (h : i < l.length) : rd_T119 l (i : Int) = l[i] := by
  unfold rd_T119
  rw [Int.toNat_natCast, List.getD_eq_getElem?_getD, List.getElem?_eq_getElem h]; rfl
theorem ix (p q m : Nat) (hp : p ≤ 10000) (hm : m ≤ 10000) (hq : q ≤ 10000) : wrap64 (wrap64 ((p : Int) * ((m + 1 : Nat) : Int)) + (q : Int)) = ((p * (m + 1) + q : Nat) : Int) := by
  have h1 : p * (m + 1) ≤ 10000 * 10001 := Nat.mul_le_mul hp (by omega)
  have h2 : (p : Int) * ((m + 1 : Nat) : Int) = ((p * (m + 1) : Nat) : Int) := by push_cast; rfl
  rw [h2, w64 (x := ((p * (m + 1) : Nat) : Int)) (by omega) (by omega), w64 (by omega) (by omega)]
  omega
theorem ix_inj {m p q i j : Nat} (hq : q ≤ m) (hj : j ≤ m) (h : p * (m + 1) + q = i * (m + 1) + j) : p = i ∧ q = j := by
  have h1 : (p * (m + 1) + q) / (m + 1) = p := by rw [Nat.mul_comm, Nat.mul_add_div (by omega), Nat.div_eq_of_lt (by omega)]; omega
  have h2 : (i * (m + 1) + j) / (m + 1) = i := by rw [Nat.mul_comm, Nat.mul_add_div (by omega), Nat.div_eq_of_lt (by omega)]; omega
  have : p = i := by rw [← h1, h, h2]
  subst this
  exact ⟨rfl, by omega⟩
theorem ix_lt {n m p q : Nat} (hp : p ≤ n) (hq : q ≤ m) : p * (m + 1) + q < (n + 1) * (m + 1) := by
  have : (p + 1) * (m + 1) ≤ (n + 1) * (m + 1) := Nat.mul_le_mul_right _ (by omega)
  rw [Nat.add_mul, Nat.one_mul] at this
  omega
/-- the table's entries behind a place -/
def Tab (a b : List (List UInt8)) (i j : Nat) (t : List Int) : Prop :=
  t.length = (a.length + 1) * (b.length + 1) ∧ ∀ p q, p ≤ a.length → q ≤ b.length → (i < p ∨ (p = i ∧ j ≤ q) ∨ q = b.length) → t[p * (b.length + 1) + q]? = some (Tx.lcs (a.drop p) (b.drop q) : Int)
theorem Tab.get {a b : List (List UInt8)} {i j : Nat} {t : List Int} (h : Tab a b i j t) {p q : Nat} (hp : p ≤ a.length) (hq : q ≤ b.length) (hs : i < p ∨ (p = i ∧ j ≤ q) ∨ q = b.length) : rd t ((p * (b.length + 1) + q : Nat) : Int) = (Tx.lcs (a.drop p) (b.drop q) : Int) := by
  have h1 := h.2 p q hp hq hs
  unfold rd
  rw [Int.toNat_natCast, List.getD_eq_getElem?_getD, h1]; rfl
theorem Tab.put {a b : List (List UInt8)} {i j : Nat} {t : List Int} (h : Tab a b i (j + 1) t) (hi : i < a.length) (hj : j < b.length) :
    Tab a b i j (t.set (((i * (b.length + 1) + j : Nat) : Int)).toNat (Tx.lcs (a.drop i) (b.drop j) : Int)) := by
  refine ⟨by rw [List.length_set]; exact h.1, fun p q hp hq hs => ?_⟩
  rw [Int.toNat_natCast]
  have hb := ix_lt (n := a.length) (m := b.length) (p := i) (q := j) (by omega) (by omega)
  by_cases e : p = i ∧ q = j
  · obtain ⟨rfl, rfl⟩ := e
    rw [List.getElem?_set_self (by rw [h.1]; exact hb)]
  · rw [List.getElem?_set_ne (fun q' => e (by obtain ⟨h1, h2⟩ := ix_inj (by omega) hq q'; exact ⟨h1.symm, h2.symm⟩))]
    refine h.2 p q hp hq ?_
    rcases hs with h1 | ⟨h1, h2⟩ | h1
    · exact Or.inl h1
    · refine Or.inr (Or.inl ⟨h1, ?_⟩)
      have : q ≠ j := fun q' => e ⟨h1, q'⟩
      omega
    · exact Or.inr (Or.inr h1)
theorem Tab.up {a b : List (List UInt8)} {i : Nat} {t : List Int} (h : Tab a b (i + 1) 0 t) : Tab a b i b.length t :=
  ⟨h.1, fun p q hp hq hs => h.2 p q hp hq (by rcases hs with h1 | ⟨_, h2⟩ | h1 <;> omega)⟩
theorem Tab.zero (a b : List (List UInt8)) : Tab a b a.length 0 (List.replicate ((a.length + 1) * (b.length + 1)) 0) := by
  refine ⟨List.length_replicate, fun p q hp hq hs => ?_⟩
  rw [List.getElem?_replicate, if_pos (ix_lt hp hq)]
  rcases hs with h1 | ⟨h1, _⟩ | h1
  · omega
  · subst h1; rw [List.drop_length, Tx.lcs_nil_l]; rfl
  · subst h1; rw [List.drop_length (l := b), Tx.lcs_nil_r]; rfl
theorem drop_map (l : List ByteArray) (i : Nat) (h : i < l.length) : (l.map bL).drop i = bL l[i] :: (l.map bL).drop (i + 1) := by
  rw [List.drop_eq_getElem_cons (by rw [List.length_map]; exact h), List.getElem_map]
theorem st_l1 (a b : List ByteArray) (ha : a.length ≤ 5000) (hb : b.length ≤ 5000) (i : Nat) (hi : i < a.length) (K : Nat) : ∀ (j : Nat) (t : List Int), j ≤ b.length → Tab (a.map bL) (b.map bL) i j t →
    ∃ t', Tab (a.map bL) (b.map bL) i 0 t' ∧ text_steps.l1 (j + 1 + K) a b ((b.length + 1 : Nat) : Int) t (i : Int) ((j : Int) - 1) = text_steps.l0 K a b ((b.length + 1 : Nat) : Int) t' ((i : Int) - 1) := by
  intro j
  induction j with
  | zero =>
    intro t hj hT
    refine ⟨t, hT, ?_⟩
    rw [show 0 + 1 + K = K + 1 by omega, text_steps.l1, if_neg (by omega), w64 (by omega) (by omega)]
  | succ j ih =>
    intro t hj hT
    have hlA : (a.map bL).length = a.length := List.length_map _
    have hlB : (b.map bL).length = b.length := List.length_map _
    have hT' := hT.put (by omega) (by omega)
    obtain ⟨t', g1, g2⟩ := ih _ (by omega) hT'
    refine ⟨t', g1, ?_⟩
    rw [← g2, show j + 1 + 1 + K = (j + 1 + K) + 1 by omega, text_steps.l1, show (((j + 1 : Nat) : Int) - 1) = (j : Int) by omega, if_pos (by omega), if_pos (by omega), if_pos (by omega), if_pos (by omega), if_pos (by omega), rdB a i hi, rdB b j (by omega)]
    have hlen := hT.1
    rw [hlA, hlB] at hlen
    have z1 := ix_lt (n := a.length) (m := b.length) (p := i) (q := j) (by omega) (by omega)
    have z2 := ix_lt (n := a.length) (m := b.length) (p := i) (q := j + 1) (by omega) (by omega)
    have z3 := ix_lt (n := a.length) (m := b.length) (p := i + 1) (q := j) (by omega) (by omega)
    have z4 := ix_lt (n := a.length) (m := b.length) (p := i + 1) (q := j + 1) (by omega) (by omega)
    have w1 : Aside0 (wrap64 ((i : Int) + 1) = ((i + 1 : Nat) : Int)) := ⟨nx i (by omega)⟩
    have w2 := Aside0.mk (ix i j b.length (by omega) (by omega) (by omega))
    have w3 := Aside0.mk (ix (i + 1) j b.length (by omega) (by omega) (by omega))
    have q1 : i * (b.length + 1) ≤ 5000 * 5001 := Nat.mul_le_mul (by omega) (by omega)
    have q2 : (i + 1) * (b.length + 1) ≤ 5001 * 5001 := Nat.mul_le_mul (by omega) (by omega)
    have w4 : Aside0 (wrap64 (((i * (b.length + 1) + j : Nat) : Int) + 1) = ((i * (b.length + 1) + (j + 1) : Nat) : Int)) := ⟨by rw [w64 (by omega) (by omega)]; omega⟩
    have w5 : Aside0 (wrap64 ((((i + 1) * (b.length + 1) + j : Nat) : Int) + 1) = (((i + 1) * (b.length + 1) + (j + 1) : Nat) : Int)) := ⟨by rw [w64 (by omega) (by omega)]; omega⟩
    have w6 : Aside0 (wrap64 ((j : Int) - 1) = (j : Int) - 1) := ⟨w64 (by omega) (by omega)⟩
    have e1 := hT.get (p := i + 1) (q := j + 1) (by omega) (by omega) (Or.inl (by omega))
    have e2 := hT.get (p := i + 1) (q := j) (by omega) (by omega) (Or.inl (by omega))
    have e3 := hT.get (p := i) (q := j + 1) (by omega) (by omega) (Or.inr (Or.inl ⟨rfl, Nat.le_refl _⟩))
    have dA := drop_map a i hi
    have dB := drop_map b j (by omega)
    rw [hlB] at e1 e2 e3
    rw [hlB]
    by_cases c : (a[i]'hi).toList = (b[j]'(by omega)).toList
    · have hl : Tx.lcs ((a.map bL).drop i) ((b.map bL).drop j) = Tx.lcs ((a.map bL).drop (i + 1)) ((b.map bL).drop (j + 1)) + 1 := by
        rw [dA, dB, Tx.lcs_cons, if_pos (bL_inj.1 c)]
      have hv := Tx.lcs_len_l ((a.map bL).drop (i + 1)) ((b.map bL).drop (j + 1))
      have hv2 : Tx.lcs ((a.map bL).drop (i + 1)) ((b.map bL).drop (j + 1)) ≤ 5000 := by rw [List.length_drop, hlA] at hv; omega
      rw [if_pos c, w1.out, w3.out, w2.out, w5.out, if_pos (by omega), if_pos (by omega), if_pos (by omega), if_pos (by omega), w6.out, e1, hl]
      rw [show wrap64 ((Tx.lcs ((a.map bL).drop (i + 1)) ((b.map bL).drop (j + 1)) : Int) + 1) = ((Tx.lcs ((a.map bL).drop (i + 1)) ((b.map bL).drop (j + 1)) + 1 : Nat) : Int) by rw [w64 (by omega) (by omega)]; omega]
    · have hl : Tx.lcs ((a.map bL).drop i) ((b.map bL).drop j) = max (Tx.lcs ((a.map bL).drop (i + 1)) ((b.map bL).drop j)) (Tx.lcs ((a.map bL).drop i) ((b.map bL).drop (j + 1))) := by
        rw [dA, dB, Tx.lcs_cons, if_neg (fun q => c (bL_inj.2 q))]
      rw [if_neg c, w1.out, w3.out, w2.out, w4.out, if_pos (by omega), if_pos (by omega), if_pos (by omega), if_pos (by omega), if_pos (by omega), if_pos (by omega), w6.out, e2, e3, hl, mx_max]
      rw [show max (Tx.lcs ((a.map bL).drop (i + 1)) ((b.map bL).drop j) : Int) (Tx.lcs ((a.map bL).drop i) ((b.map bL).drop (j + 1)) : Int) = ((max (Tx.lcs ((a.map bL).drop (i + 1)) ((b.map bL).drop j)) (Tx.lcs ((a.map bL).drop i) ((b.map bL).drop (j + 1))) : Nat) : Int) by omega]
theorem st_l0 (a b : List ByteArray) (ha : a.length ≤ 5000) (hb : b.length ≤ 5000) (K : Nat) : ∀ (i : Nat) (t : List Int), i ≤ a.length → Tab (a.map bL) (b.map bL) i 0 t →
    ∃ t', Tab (a.map bL) (b.map bL) 0 0 t' ∧ text_steps.l0 (i * (b.length + 2) + 1 + K) a b ((b.length + 1 : Nat) : Int) t ((i : Int) - 1) = text_steps.l2 K a b ((b.length + 1 : Nat) : Int) t' [] 0 0 := by
  intro i
  induction i with
  | zero =>
    intro t hi hT
    refine ⟨t, hT, ?_⟩
    rw [show 0 * (b.length + 2) + 1 + K = K + 1 by omega, text_steps.l0, if_neg (by omega)]
  | succ i ih =>
    intro t hi hT
    have hlB : (b.map bL).length = b.length := List.length_map _
    have hup := hT.up
    rw [hlB] at hup
    obtain ⟨t1, g1, g2⟩ := st_l1 a b ha hb i (by omega) (i * (b.length + 2) + 1 + K) b.length t (Nat.le_refl _) hup
    obtain ⟨t2, g3, g4⟩ := ih t1 (by omega) g1
    refine ⟨t2, g3, ?_⟩
    rw [← g4, ← g2, show (i + 1) * (b.length + 2) + 1 + K = (b.length + 1 + (i * (b.length + 2) + 1 + K)) + 1 by rw [Nat.add_mul]; omega, text_steps.l0, show (((i + 1 : Nat) : Int) - 1) = (i : Int) by omega, if_pos (by omega), w64 (x := (b.length : Int) - 1) (by omega) (by omega)]
theorem st_l2 (a b : List ByteArray) (ha : a.length ≤ 5000) (hb : b.length ≤ 5000) (t : List Int) (hT : Tab (a.map bL) (b.map bL) 0 0 t) : ∀ (n i j k : Nat) (out : List S119), i ≤ a.length → j ≤ b.length → (a.length - i) + (b.length - j) = n → 3 * n + 3 ≤ k → out.length ≤ i + j →
    text_steps.l2 k a b ((b.length + 1 : Nat) : Int) t out (i : Int) (j : Int) = some (out ++ (Tx.stp ((a.map bL).drop i) ((b.map bL).drop j)).map toSt) := by
  intro n
  have hlA : (a.map bL).length = a.length := List.length_map _
  have hlB : (b.map bL).length = b.length := List.length_map _
  induction n using Nat.strongRecOn with
  | ind n ih =>
  by_cases hn0 : n = 0
  · subst hn0
    intro i j k out hi hj hn hk ho
    obtain ⟨k, rfl⟩ : ∃ q, k = q + 3 := ⟨k - 3, by omega⟩
    rw [text_steps.l2, if_neg (by omega), decide_eq_false (by omega), text_steps.j3, if_neg (by decide), List.drop_of_length_le (by omega), List.drop_of_length_le (by omega), Tx.stp]
    simp
  · intro i j k out hi hj hn hk ho
    obtain ⟨k, rfl⟩ : ∃ q, k = q + 3 := ⟨k - 3, by omega⟩
    have hin : text_steps.l2 (k + 3) a b ((b.length + 1 : Nat) : Int) t out (i : Int) (j : Int) = text_steps.j3 (k + 2) a b ((b.length + 1 : Nat) : Int) t out (i : Int) (j : Int) true := by
      rw [text_steps.l2]
      by_cases c : i < a.length
      · rw [if_pos (by omega)]
      · rw [if_neg (by omega), decide_eq_true (by omega)]
    rw [hin, text_steps.j3, if_pos rfl]
    have step : ∀ (o : Int) (x : ByteArray) (l : List (UInt8 × List UInt8)), out ++ [(⟨o, x⟩ : S119)] ++ l.map toSt = out ++ ((⟨o, x⟩ : S119) :: l.map toSt) := fun o x l => by simp
    by_cases c1 : i < a.length
    · have dA := drop_map a i c1
      have nA : Aside0 (wrap64 ((i : Int) + 1) = ((i + 1 : Nat) : Int)) := ⟨nx i (by omega)⟩
      by_cases c2 : j < b.length
      · have dB := drop_map b j c2
        have nB : Aside0 (wrap64 ((j : Int) + 1) = ((j + 1 : Nat) : Int)) := ⟨nx j (by omega)⟩
        rw [if_pos (by omega), if_pos (by omega), if_pos (by omega), if_pos (by omega), rdB a i c1, rdB b j c2, dA, dB, Tx.stp]
        by_cases e : a[i].toList = b[j].toList
        · rw [show (a[i].toList == b[j].toList) = true from beq_iff_eq.2 e, text_steps.j4, if_pos rfl, if_pos (by omega), if_pos (by omega), if_pos (by omega), rdB a i c1, nA.out, nB.out, ih ((a.length - (i + 1)) + (b.length - (j + 1))) (by omega) (i + 1) (j + 1) k _ (by omega) (by omega) rfl (by omega) (by rw [List.length_append, List.length_singleton]; omega), if_pos (bL_inj.1 e), step, List.map_cons]
          rw [show toSt (32, bL a[i]) = ⟨32, a[i]⟩ from congrArg (S119.mk 32) (bL_eta _)]
        · have z1 := ix_lt (n := a.length) (m := b.length) (p := i) (q := j + 1) (by omega) (by omega)
          have z3 := ix_lt (n := a.length) (m := b.length) (p := i + 1) (q := j) (by omega) (by omega)
          have w2 := Aside0.mk (ix i j b.length (by omega) (by omega) (by omega))
          have w3 := Aside0.mk (ix (i + 1) j b.length (by omega) (by omega) (by omega))
          have q1 : i * (b.length + 1) ≤ 5000 * 5001 := Nat.mul_le_mul (by omega) (by omega)
          have w4 : Aside0 (wrap64 (((i * (b.length + 1) + j : Nat) : Int) + 1) = ((i * (b.length + 1) + (j + 1) : Nat) : Int)) := ⟨by rw [w64 (by omega) (by omega)]; omega⟩
          have hlen := hT.1
          rw [hlA, hlB] at hlen
          have e2 := hT.get (p := i + 1) (q := j) (by omega) (by omega) (Or.inl (by omega))
          have e3 := hT.get (p := i) (q := j + 1) (by omega) (by omega) (by omega)
          rw [hlB] at e2 e3
          rw [show (a[i].toList == b[j].toList) = false from beq_eq_false_iff_ne.2 e, text_steps.j4, if_neg (by decide), if_pos (by omega), if_neg (by omega), nA.out, w3.out, if_pos (by omega), if_pos (by omega), w2.out, w4.out, if_pos (by omega), if_pos (by omega), e2, e3, if_neg (fun q => e (bL_inj.2 q)), ← dA, ← dB]
          by_cases g : Tx.lcs ((a.map bL).drop i) ((b.map bL).drop (j + 1)) ≤ Tx.lcs ((a.map bL).drop (i + 1)) ((b.map bL).drop j)
          · rw [if_pos (by omega), if_pos (by omega), if_pos (by omega), rdB a i c1, ih ((a.length - (i + 1)) + (b.length - j)) (by omega) (i + 1) j k _ (by omega) (by omega) rfl (by omega) (by rw [List.length_append, List.length_singleton]; omega), if_pos g, step, List.map_cons]
            rw [show toSt (45, bL a[i]) = ⟨45, a[i]⟩ from congrArg (S119.mk 45) (bL_eta _)]
          · rw [if_neg (by omega), if_pos (by omega), if_pos (by omega), if_pos (by omega), rdB b j c2, nB.out, ih ((a.length - i) + (b.length - (j + 1))) (by omega) i (j + 1) k _ (by omega) (by omega) rfl (by omega) (by rw [List.length_append, List.length_singleton]; omega), if_neg g, step, List.map_cons]
            rw [show toSt (43, bL b[j]) = ⟨43, b[j]⟩ from congrArg (S119.mk 43) (bL_eta _)]
      · have hdB : (b.map bL).drop j = [] := List.drop_of_length_le (by omega)
        rw [if_pos (by omega), if_neg (by omega), text_steps.j4, if_neg (by decide), if_pos (by omega), if_pos (by omega), if_pos (by omega), if_pos (by omega), rdB a i c1, nA.out, ih ((a.length - (i + 1)) + (b.length - j)) (by omega) (i + 1) j k _ (by omega) (by omega) rfl (by omega) (by rw [List.length_append, List.length_singleton]; omega), dA, hdB, Tx.stp, step, List.map_cons]
        rw [show toSt (45, bL a[i]) = ⟨45, a[i]⟩ from congrArg (S119.mk 45) (bL_eta _)]
    · have c2 : j < b.length := by omega
      have dB := drop_map b j c2
      have nB : Aside0 (wrap64 ((j : Int) + 1) = ((j + 1 : Nat) : Int)) := ⟨nx j (by omega)⟩
      have hdA : (a.map bL).drop i = [] := List.drop_of_length_le (by omega)
      rw [if_neg (by omega), text_steps.j4, if_neg (by decide), if_neg (by omega), if_pos (by omega), if_pos (by omega), if_pos (by omega), rdB b j c2, nB.out, ih ((a.length - i) + (b.length - (j + 1))) (by omega) i (j + 1) k _ (by omega) (by omega) rfl (by omega) (by rw [List.length_append, List.length_singleton]; omega), dB, hdA, Tx.stp, step, List.map_cons]
      rw [show toSt (43, bL b[j]) = ⟨43, b[j]⟩ from congrArg (S119.mk 43) (bL_eta _)]
/-- the steps, as the program has them -/
def stS (a b : List ByteArray) : List S119 := (Tx.stp (a.map bL) (b.map bL)).map toSt
theorem steps_f (a b : List ByteArray) (ha : a.length ≤ 5000) (hb : b.length ≤ 5000) (k : Nat) (hk : a.length * (b.length + 2) + 3 * (a.length + b.length) + 4 ≤ k) : text_steps.f k a b = some (stS a b) := by
  have hlA : (a.map bL).length = a.length := List.length_map _
  have hlB : (b.map bL).length = b.length := List.length_map _
  have q : (a.length + 1) * (b.length + 1) ≤ 5001 * 5001 := Nat.mul_le_mul (by omega) (by omega)
  have w : Aside0 (wrap64 (((a.length + 1 : Nat) : Int) * ((b.length + 1 : Nat) : Int)) = (((a.length + 1) * (b.length + 1) : Nat) : Int)) := Aside0.mk <| by
    have h2 : ((a.length + 1 : Nat) : Int) * ((b.length + 1 : Nat) : Int) = (((a.length + 1) * (b.length + 1) : Nat) : Int) := by push_cast; rfl
    rw [h2, w64 (by omega) (by omega)]
  unfold text_steps.f
  rw [nx a.length (by omega), nx b.length (by omega), w.out, if_pos (by omega), Int.toNat_natCast, if_pos (by omega), w64 (x := (a.length : Int) - 1) (by omega) (by omega)]
  have hZ := Tab.zero (a.map bL) (b.map bL)
  rw [hlA, hlB] at hZ
  obtain ⟨t, g1, g2⟩ := st_l0 a b ha hb (k - (a.length * (b.length + 2) + 1)) a.length _ (Nat.le_refl _) hZ
  rw [show a.length * (b.length + 2) + 1 + (k - (a.length * (b.length + 2) + 1)) = k by omega] at g2
  rw [g2]
  have := st_l2 a b ha hb t g1 (a.length + b.length) 0 0 (k - (a.length * (b.length + 2) + 1)) [] (by omega) (by omega) (by omega) (by omega) (Nat.le_refl _)
  rw [List.nil_append, List.drop_zero, List.drop_zero] at this
  exact this
end Go.Proofs.YthimblhfjfngiaaGreat.PText

