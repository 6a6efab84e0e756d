/- PastNil holds: for every number and every text the statement answers true. Part 19 of 19. -/
import Derived.Test.YthimblhfjfngiaaGreatBNilR
import Derived.Test.YthimblhfjfngiaaGreatRows
import Derived.ProofKit
import Derived.OpenShut
import Derived.ShutString
import Derived.SizedLaws
import Derived.Deep.DeepHandedRow
import Derived.Deep.DeepWitnessRowRef
import Derived.ChangeOld
namespace Go.Proofs.YthimblhfjfngiaaGreat.PText
open Go.RowKit Go.Proofs.YthimblhfjfngiaaGreatW.PrintWords Go.Proofs.YthimblhfjfngiaaGreatW.PrintLast Go.Proofs.YthimblhfjfngiaaGreatW.PrintMore
attribute [local go_sem] max2_int min2_int max_two min_two max_three min_three max_four min_four   -- for this text's walks alone
set_option linter.unusedVariables false
set_option linter.unusedSimpArgs false

def past_both.f (k : Nat) (a0 : ByteArray) (a1 : ByteArray) (a2 : ByteArray) : Option ((List (S91)) × (List (S91)) × Int) := (text_Edits.f k a0 a1).bind fun bt333 => (if bt333.2 = 0 then ((text_Edits.f k a0 a2).bind fun bt337 => (if bt337.2 = 0 then (some (bt333.1, bt337.1, 0)) else (some (([] : List (S91)), ([] : List (S91)), bt337.2)))) else (some (([] : List (S91)), ([] : List (S91)), bt333.2)))
set_option maxHeartbeats 8000000 in
set_option maxRecDepth 100000 in
theorem past_both.calls (k : Nat) (a0 : ByteArray) (a1 : ByteArray) (a2 : ByteArray) (r1 : List (S91)) (r2 : List (S91)) (r3 : Int) (w : World) (h : past_both.f k a0 a1 a2 = some (r1, r2, r3)) :
  Calls Tryz.prog 57 #[.string a0, .string a1, .string a2] w fun e w' => ∃ v0_ v1_ : Value, e = .returned (.tuple #[v0_, v1_, .int .i64 r3]) ∧ Kd.R k91 91 w' w.heap.size (fun k_ => some k_ ≠ (v1_ : Value).ownBlock) v0_ r1 ∧ Kd.R k91 91 w' w.heap.size (fun k_ => some k_ ≠ (v0_ : Value).ownBlock) v1_ r2 ∧ Below w.heap.size w w' := by
 have HB := Aside0.mk (Below.refl w.heap.size w)
 have H : ((text_Edits.f k a0 a1).bind fun bt333 => (if bt333.2 = 0 then ((text_Edits.f k a0 a2).bind fun bt337 => (if bt337.2 = 0 then (some (bt333.1, bt337.1, 0)) else (some (([] : List (S91)), ([] : List (S91)), bt337.2)))) else (some (([] : List (S91)), ([] : List (S91)), bt333.2)))) = some (r1, r2, r3) := h
 clear h
 replace H := Option.bind_eq_some_iff.mp H
 obtain ⟨⟨t333, t334⟩, A40, H⟩ := H
 replace H : (if t334 = 0 then ((text_Edits.f k a0 a2).bind fun bt337 => (if bt337.2 = 0 then (some (t333, bt337.1, 0)) else (some (([] : List (S91)), ([] : List (S91)), bt337.2)))) else (some (([] : List (S91)), ([] : List (S91)), t334))) = some (r1, r2, r3) := H
 have A4 := Aside0.mk A40
 clear A40
 by_cases c5 : t334 = 0
 ·rw [if_pos c5] at H
  have c5b0 : (t334 == 0) = true := beq_iff_eq.mpr c5
  have c5b1 : (t334 != 0) = false := bne_eq_false_iff_eq.mpr c5
  clear c5
  replace H := Option.bind_eq_some_iff.mp H
  obtain ⟨⟨t337, t338⟩, A60, H⟩ := H
  replace H : (if t338 = 0 then (some (t333, t337, 0)) else (some (([] : List (S91)), ([] : List (S91)), t338))) = some (r1, r2, r3) := H
  have A6 := Aside0.mk A60
  clear A60
  by_cases c7 : t338 = 0
  ·rw [if_pos c7] at H
   have c7b0 : (t338 == 0) = true := beq_iff_eq.mpr c7
   have c7b1 : (t338 != 0) = false := bne_eq_false_iff_eq.mpr c7
   clear c7
   simp only [Option.some.injEq, Prod.mk.injEq] at H
   obtain ⟨rfl, rfl, rfl⟩ := H
   go_enter Tryz.func57, Tryz.ntmps57
   go_wp2_with (first | ((with_reducible refine gate_callee (f := 50) rfl ?_); refine goesL_ (some 12) rfl rfl Tryz.func50 (by kernel_rfl) rfl #[.string a0, .string a1] rfl (by (try simp only [List.map_toArray, List.map_cons, List.map_nil]); first | done | rfl | (simp only [List.length_drop, List.length_take]; rfl)) ?_; (with_reducible refine (text_Edits.calls k a0 a1 t333 t334 _ A4.out).mono ?_); rintro e w8 ⟨v335, rfl, ho0, hb⟩; refine ⟨_, rfl, ?_⟩; have n0_ := Aside0.mk (Kd.R_lower ho0 (below_size (by repeat (with_reducible first | exact HB.out | apply below_alloc | apply pw_below_drewN | apply below_drew1)))); have n1_ := Aside0.mk (below_step (by repeat (with_reducible first | exact HB.out | apply below_alloc | apply pw_below_drewN | apply below_drew1)) hb); clear HB; have HO336 := n0_; have HB := n1_; clear n0_ n1_; (try clear hb); (try clear hb2); (try clear hk); (try clear hi); (try clear ho0)) | ((with_reducible refine gate_callee (f := 50) rfl ?_); refine goesL_ (some 21) rfl rfl Tryz.func50 (by kernel_rfl) rfl #[.string a0, .string a2] rfl (by (try simp only [List.map_toArray, List.map_cons, List.map_nil]); first | done | rfl | (simp only [List.length_drop, List.length_take]; rfl)) ?_; (with_reducible refine (text_Edits.calls k a0 a2 t337 t338 _ A6.out).mono ?_); rintro e w9 ⟨v339, rfl, ho0, hb⟩; refine ⟨_, rfl, ?_⟩; have n0_ := Aside0.mk (Kd.R_elder' (by (with_reducible repeat (first | apply Kd.R_alloc | apply Kd.R_drewN | apply Kd.R_drew)); exact HO336.out) (Kd.R_base ho0) hb); have n1_ := Aside0.mk (Kd.R_lower (Kd.R_new' ho0 (Kd.R_lt (by (with_reducible repeat (first | apply Kd.R_alloc | apply Kd.R_drewN | apply Kd.R_drew)); exact HO336.out))) (below_size (by repeat (with_reducible first | exact HB.out | apply below_alloc | apply pw_below_drewN | apply below_drew1)))); have n2_ := Aside0.mk (below_step (by repeat (with_reducible first | exact HB.out | apply below_alloc | apply pw_below_drewN | apply below_drew1)) hb); clear HO336; clear HB; have HO336 := n0_; have HO340 := n1_; have HB := n2_; clear n0_ n1_ n2_; (try clear hb); (try clear hb2); (try clear hk); (try clear hi); (try clear ho0)))
   go_ret3
   exact ⟨_, _, by first | rfl | (simp [errW_none, errW_some] <;> rfl) | (simp [*, errW_none, errW_some] <;> rfl), by (with_reducible repeat (first | apply Kd.R_alloc | apply Kd.R_drewN | apply Kd.R_drew)); exact Kd.R_mono HO336.out (fun _ hk => hk.2), by (with_reducible repeat (first | apply Kd.R_alloc | apply Kd.R_drewN | apply Kd.R_drew)); exact Kd.R_mono HO340.out (fun _ hk => hk.2), by repeat (with_reducible first | exact HB.out | apply below_alloc | apply pw_below_drewN | apply below_drew1)⟩
  ·rw [if_neg c7] at H
   have c7b0 : (t338 == 0) = false := beq_eq_false_iff_ne.mpr c7
   have c7b1 : (t338 != 0) = true := bne_iff_ne.mpr c7
   simp only [Option.some.injEq, Prod.mk.injEq] at H
   obtain ⟨rfl, rfl, rfl⟩ := H
   go_enter Tryz.func57, Tryz.ntmps57
   go_wp2_with (first | ((with_reducible refine gate_callee (f := 50) rfl ?_); refine goesL_ (some 12) rfl rfl Tryz.func50 (by kernel_rfl) rfl #[.string a0, .string a1] rfl (by (try simp only [List.map_toArray, List.map_cons, List.map_nil]); first | done | rfl | (simp only [List.length_drop, List.length_take]; rfl)) ?_; (with_reducible refine (text_Edits.calls k a0 a1 t333 t334 _ A4.out).mono ?_); rintro e w10 ⟨v335, rfl, ho0, hb⟩; refine ⟨_, rfl, ?_⟩; have n0_ := Aside0.mk (Kd.R_lower ho0 (below_size (by repeat (with_reducible first | exact HB.out | apply below_alloc | apply pw_below_drewN | apply below_drew1)))); have n1_ := Aside0.mk (below_step (by repeat (with_reducible first | exact HB.out | apply below_alloc | apply pw_below_drewN | apply below_drew1)) hb); clear HB; have HO336 := n0_; have HB := n1_; clear n0_ n1_; (try clear hb); (try clear hb2); (try clear hk); (try clear hi); (try clear ho0)) | ((with_reducible refine gate_callee (f := 50) rfl ?_); refine goesL_ (some 21) rfl rfl Tryz.func50 (by kernel_rfl) rfl #[.string a0, .string a2] rfl (by (try simp only [List.map_toArray, List.map_cons, List.map_nil]); first | done | rfl | (simp only [List.length_drop, List.length_take]; rfl)) ?_; (with_reducible refine (text_Edits.calls k a0 a2 t337 t338 _ A6.out).mono ?_); rintro e w11 ⟨v339, rfl, ho0, hb⟩; refine ⟨_, rfl, ?_⟩; have n0_ := Aside0.mk (Kd.R_elder' (by (with_reducible repeat (first | apply Kd.R_alloc | apply Kd.R_drewN | apply Kd.R_drew)); exact HO336.out) (Kd.R_base ho0) hb); have n1_ := Aside0.mk (Kd.R_lower (Kd.R_new' ho0 (Kd.R_lt (by (with_reducible repeat (first | apply Kd.R_alloc | apply Kd.R_drewN | apply Kd.R_drew)); exact HO336.out))) (below_size (by repeat (with_reducible first | exact HB.out | apply below_alloc | apply pw_below_drewN | apply below_drew1)))); have n2_ := Aside0.mk (below_step (by repeat (with_reducible first | exact HB.out | apply below_alloc | apply pw_below_drewN | apply below_drew1)) hb); clear HO336; clear HB; have HO336 := n0_; have HO340 := n1_; have HB := n2_; clear n0_ n1_ n2_; (try clear hb); (try clear hb2); (try clear hk); (try clear hi); (try clear ho0)))
   go_ret3
   exact ⟨_, _, by first | rfl | (simp [errW_none, errW_some] <;> rfl) | (simp [*, errW_none, errW_some] <;> rfl), by first | exact Kd.R_nil _ _ _ _ _ | exact Kd.N_nil _ _ _ _ _ | exact Kd.V_nil _ _ _ _ _ | exact Kd.Q_nil _ _ _ _ _ | exact Kd.S_nil _ _ _ _ _, by first | exact Kd.R_nil _ _ _ _ _ | exact Kd.N_nil _ _ _ _ _ | exact Kd.V_nil _ _ _ _ _ | exact Kd.Q_nil _ _ _ _ _ | exact Kd.S_nil _ _ _ _ _, by repeat (with_reducible first | exact HB.out | apply below_alloc | apply pw_below_drewN | apply below_drew1)⟩
 ·rw [if_neg c5] at H
  have c5b0 : (t334 == 0) = false := beq_eq_false_iff_ne.mpr c5
  have c5b1 : (t334 != 0) = true := bne_iff_ne.mpr c5
  simp only [Option.some.injEq, Prod.mk.injEq] at H
  obtain ⟨rfl, rfl, rfl⟩ := H
  go_enter Tryz.func57, Tryz.ntmps57
  go_wp2_with (first | ((with_reducible refine gate_callee (f := 50) rfl ?_); refine goesL_ (some 12) rfl rfl Tryz.func50 (by kernel_rfl) rfl #[.string a0, .string a1] rfl (by (try simp only [List.map_toArray, List.map_cons, List.map_nil]); first | done | rfl | (simp only [List.length_drop, List.length_take]; rfl)) ?_; (with_reducible refine (text_Edits.calls k a0 a1 t333 t334 _ A4.out).mono ?_); rintro e w12 ⟨v335, rfl, ho0, hb⟩; refine ⟨_, rfl, ?_⟩; have n0_ := Aside0.mk (Kd.R_lower ho0 (below_size (by repeat (with_reducible first | exact HB.out | apply below_alloc | apply pw_below_drewN | apply below_drew1)))); have n1_ := Aside0.mk (below_step (by repeat (with_reducible first | exact HB.out | apply below_alloc | apply pw_below_drewN | apply below_drew1)) hb); clear HB; have HO336 := n0_; have HB := n1_; clear n0_ n1_; (try clear hb); (try clear hb2); (try clear hk); (try clear hi); (try clear ho0)))
  go_ret3
  exact ⟨_, _, by first | rfl | (simp [errW_none, errW_some] <;> rfl) | (simp [*, errW_none, errW_some] <;> rfl), by first | exact Kd.R_nil _ _ _ _ _ | exact Kd.N_nil _ _ _ _ _ | exact Kd.V_nil _ _ _ _ _ | exact Kd.Q_nil _ _ _ _ _ | exact Kd.S_nil _ _ _ _ _, by first | exact Kd.R_nil _ _ _ _ _ | exact Kd.N_nil _ _ _ _ _ | exact Kd.V_nil _ _ _ _ _ | exact Kd.Q_nil _ _ _ _ _ | exact Kd.S_nil _ _ _ _ _, by repeat (with_reducible first | exact HB.out | apply below_alloc | apply pw_below_drewN | apply below_drew1)⟩

end Go.Proofs.YthimblhfjfngiaaGreat.PText

namespace Go.Proofs.YthimblhfjfngiaaGreat.PText
open Go.RowKit Go.Lib Go.Proofs.YthimblhfjfngiaaGreatW.PrintWords Go.Proofs.YthimblhfjfngiaaGreatW.PrintLast Go.Proofs.YthimblhfjfngiaaGreatW.PrintMore
theorem stp_len {α : Type} [DecidableEq α] : ∀ (k : Nat) (l m : List α), l.length + m.length ≤ k → (Tx.stp l m).length ≤ l.length + m.length := by
  intro k
  induction k with
  | zero =>
    intro l m h
    have hl : l = [] := List.eq_nil_of_length_eq_zero (by omega)
    have hm : m = [] := List.eq_nil_of_length_eq_zero (by omega)
    subst hl hm
    rw [Tx.stp]; exact Nat.le_refl _
  | succ k ih =>
    intro l m h
    match l, m, h with
    | [], [], _ => rw [Tx.stp]; exact Nat.le_refl _
    | a :: l, [], h =>
      simp only [List.length_cons, List.length_nil] at h
      have := ih l [] (by simp; omega)
      rw [Tx.stp]
      simp only [List.length_cons, List.length_nil] at *
      omega
    | [], b :: m, h =>
      simp only [List.length_cons, List.length_nil] at h
      have := ih [] m (by simp; omega)
      rw [Tx.stp]
      simp only [List.length_cons, List.length_nil] at *
      omega
    | a :: l, b :: m, h =>
      simp only [List.length_cons] at h
      rw [Tx.stp]
      by_cases e : a = b
      · rw [if_pos e]
        have := ih l m (by omega)
        simp only [List.length_cons]; omega
      · rw [if_neg e]
        split
        · have := ih l (b :: m) (by simp only [List.length_cons]; omega)
          simp only [List.length_cons] at *; omega
        · have := ih (a :: l) m (by simp only [List.length_cons]; omega)
          simp only [List.length_cons] at *; omega
/-- the steps from one text to another one, or the error -/
def sizedR (a b : ByteArray) (ctx : Int) : List S119 × Int :=
  if 200000 < a.size ∨ 200000 < b.size ∨ 2000 < (linesB a).length ∨ 2000 < (linesB b).length then ([], 2) else if ctx < 0 ∨ 20 < ctx then ([], 1) else (stS (linesB a) (linesB b), 0)
theorem sized_zero {a b : ByteArray} {ctx : Int} (h : (sizedR a b ctx).2 = 0) : sizedR a b ctx = (stS (linesB a) (linesB b), 0) ∧ 0 ≤ ctx ∧ ctx ≤ 20 ∧ (linesB a).length ≤ 2000 ∧ (linesB b).length ≤ 2000 ∧ a.size ≤ 200000 ∧ b.size ≤ 200000 := by
  unfold sizedR at h ⊢
  by_cases c1 : 200000 < a.size ∨ 200000 < b.size ∨ 2000 < (linesB a).length ∨ 2000 < (linesB b).length
  · rw [if_pos c1] at h; cases h
  · rw [if_neg c1] at h ⊢
    by_cases c2 : ctx < 0 ∨ 20 < ctx
    · rw [if_pos c2] at h; cases h
    · rw [if_neg c2]
      exact ⟨rfl, by omega, by omega, by omega, by omega, by omega, by omega⟩
theorem sized_f (a b : ByteArray) (ctx : Int) (ha : a.size ≤ 1000000000) (hb : b.size ≤ 1000000000) (k : Nat) (hk : 5000000 ≤ k) : text_sized.f k a b ctx = some (sizedR a b ctx) := by
  obtain ⟨k, rfl⟩ : ∃ q, k = q + 1 := ⟨k - 1, by omega⟩
  have ea : text_Lines.f a = some (linesB a) := by unfold text_Lines.f; rw [if_pos ha]
  have eb : text_Lines.f b = some (linesB b) := by unfold text_Lines.f; rw [if_pos hb]
  unfold text_sized.f sizedR
  rw [ea, eb, Option.bind_some, Option.bind_some]
  have hT : text_sized.j0 (k + 1) ctx (linesB a) (linesB b) true = some ([], 2) := by rw [text_sized.j0, if_pos rfl]
  by_cases c1 : 200000 < a.size
  · rw [if_pos (show (a.size : Int) > 200000 by omega), if_pos (Or.inl c1), hT]
  rw [if_neg (show ¬ (a.size : Int) > 200000 by omega)]
  by_cases c2 : 200000 < b.size
  · rw [if_pos (show (b.size : Int) > 200000 by omega), if_pos (Or.inr (Or.inl c2)), hT]
  rw [if_neg (show ¬ (b.size : Int) > 200000 by omega)]
  by_cases c3 : 2000 < (linesB a).length
  · rw [if_pos (show ((linesB a).length : Int) > 2000 by omega), if_pos (Or.inr (Or.inr (Or.inl c3))), hT]
  rw [if_neg (show ¬ ((linesB a).length : Int) > 2000 by omega)]
  by_cases c4 : 2000 < (linesB b).length
  · rw [decide_eq_true (show ((linesB b).length : Int) > 2000 by omega), if_pos (Or.inr (Or.inr (Or.inr c4))), hT]
  rw [decide_eq_false (show ¬ ((linesB b).length : Int) > 2000 by omega), if_neg (by omega), text_sized.j0, if_neg (by decide)]
  by_cases c5 : ctx < 0
  · rw [if_pos c5, if_pos (Or.inl c5)]
  rw [if_neg c5]
  by_cases c6 : 20 < ctx
  · rw [if_pos c6, if_pos (Or.inr c6)]
  have hm : (linesB a).length * ((linesB b).length + 2) ≤ 2000 * 2002 := Nat.mul_le_mul (by omega) (by omega)
  rw [if_neg c6, if_neg (by omega), steps_f _ _ (by omega) (by omega) k (by omega), Option.bind_some]
end Go.Proofs.YthimblhfjfngiaaGreat.PText

namespace Go.Proofs.YthimblhfjfngiaaGreat.PText
open Go.RowKit Go.Lib Go.Proofs.YthimblhfjfngiaaGreatW.PrintWords Go.Proofs.YthimblhfjfngiaaGreatW.PrintLast Go.Proofs.YthimblhfjfngiaaGreatW.PrintMore
def ofE (e : Tx.Ed) : S91 := ⟨e.f, e.t, ⟨e.x.toArray⟩⟩
theorem rdSt (st : List (UInt8 × List UInt8)) (i : Nat) (h : i < st.length) : rd_T119 (st.map toSt) (i : Int) = toSt st[i] := by
  rw [rd78_at _ i (by rw [List.length_map]; exact h), List.getElem_map]
theorem u8_is (x : UInt8) (n : Nat) (hn : n < 256) : ((x.toNat : Nat) : Int) = (n : Int) ↔ x = UInt8.ofNat n := by
  constructor
  · intro h
    apply UInt8.toNat_inj.1
    rw [UInt8.toNat_ofNat', Nat.mod_eq_of_lt (by omega)]
    omega
  · intro h
    rw [h, UInt8.toNat_ofNat', Nat.mod_eq_of_lt (by omega)]
theorem u8_32 (x : UInt8) : ((x.toNat : Nat) : Int) = 32 ↔ x = 32 := u8_is x 32 (by omega)
theorem u8_45 (x : UInt8) : ((x.toNat : Nat) : Int) = 45 ↔ x = 45 := u8_is x 45 (by omega)
theorem toSt0 (x : UInt8 × List UInt8) : (toSt x).f0 = ((x.1.toNat : Nat) : Int) := rfl
theorem mk_size (l : List UInt8) : (⟨l.toArray⟩ : ByteArray).size = l.length := by show l.toArray.size = _; simp
theorem toSt1 (x : UInt8 × List UInt8) : ((toSt x).f1).size = x.2.length := mk_size _
theorem mk_append (a b : List UInt8) : (⟨a.toArray⟩ : ByteArray) ++ ⟨b.toArray⟩ = ⟨(a ++ b).toArray⟩ := by
  apply bL_ext; rw [bL_append]; rfl
/-- a list that ends with an element -/
theorem last34 (D : List S91) (e : S91) (h : D.length ≤ 1000000) : wrap64 (((D ++ [e]).length : Int) - 1) = (D.length : Int) := by
  rw [List.length_append, List.length_singleton, w64 (by omega) (by omega)]; omega
theorem get34 (D : List S91) (e : S91) : rd_T91 (D ++ [e]) (D.length : Int) = e := by
  unfold rd_T91
  rw [Int.toNat_natCast, List.getD_eq_getElem?_getD, List.getElem?_append_right (Nat.le_refl _), Nat.sub_self]; rfl
theorem set34 (D : List S91) (e v : S91) : (D ++ [e]).set (D.length : Int).toNat v = D ++ [v] := by
  rw [Int.toNat_natCast, List.set_append_right _ _ (Nat.le_refl _), Nat.sub_self]; rfl
/-- an edit that is open takes a step -/
theorem tEdit_step (k : Nat) (D : List S91) (e : Tx.Ed) (at_ : Int) (st : List (UInt8 × List UInt8)) (i : Nat) (o : UInt8) (x : List UInt8) (hD : D.length ≤ 1000000) (hb : e.x.length + x.length ≤ 1000000000000) (W : Int) (hW : wrap64 (at_ + (x.length : Int)) = W) :
    (if 0 ≤ wrap64 (((D ++ [ofE e]).length : Int) - 1) then if wrap64 (((D ++ [ofE e]).length : Int) - 1) < ((D ++ [ofE e]).length : Int) then
      if ((o.toNat : Nat) : Int) = 45 then text_Edits.l0 k ((D ++ [ofE e]).set (wrap64 (((D ++ [ofE e]).length : Int) - 1)).toNat ⟨(rd_T91 (D ++ [ofE e]) (wrap64 (((D ++ [ofE e]).length : Int) - 1))).f0, wrap64 (at_ + (x.length : Int)), (rd_T91 (D ++ [ofE e]) (wrap64 (((D ++ [ofE e]).length : Int) - 1))).f2⟩) (wrap64 (at_ + (x.length : Int))) true (st.map toSt) (st.length : Int) (wrap64 ((i : Int) + 1))
      else if (rd_T91 (D ++ [ofE e]) (wrap64 (((D ++ [ofE e]).length : Int) - 1))).f2.size + x.length ≤ 9223372036854775807 then text_Edits.l0 k ((D ++ [ofE e]).set (wrap64 (((D ++ [ofE e]).length : Int) - 1)).toNat ⟨(rd_T91 (D ++ [ofE e]) (wrap64 (((D ++ [ofE e]).length : Int) - 1))).f0, (rd_T91 (D ++ [ofE e]) (wrap64 (((D ++ [ofE e]).length : Int) - 1))).f1, (rd_T91 (D ++ [ofE e]) (wrap64 (((D ++ [ofE e]).length : Int) - 1))).f2 ++ ⟨x.toArray⟩⟩) at_ true (st.map toSt) (st.length : Int) (wrap64 ((i : Int) + 1)) else none
    else none else none) = if o = 45 then text_Edits.l0 k (D ++ [ofE ⟨e.f, W, e.x⟩]) W true (st.map toSt) (st.length : Int) (wrap64 ((i : Int) + 1)) else text_Edits.l0 k (D ++ [ofE ⟨e.f, e.t, e.x ++ x⟩]) at_ true (st.map toSt) (st.length : Int) (wrap64 ((i : Int) + 1)) := by
  have hs : (ofE e).f2.size = e.x.length := mk_size _
  rw [last34 D _ hD, get34, set34, set34, hW, if_pos (by omega), if_pos (by rw [List.length_append, List.length_singleton]; omega)]
  by_cases c : o = 45
  · rw [if_pos ((u8_45 o).2 c), if_pos c]; rfl
  · rw [if_neg (fun q => c ((u8_45 o).1 q)), if_neg c, if_pos (by rw [hs]; omega)]
    have e3 : (ofE e).f2 ++ ⟨x.toArray⟩ = ⟨(e.x ++ x).toArray⟩ := mk_append _ _
    rw [e3]; rfl
theorem tEdits_l0 (st : List (UInt8 × List UInt8)) (hst : st.length ≤ 100000) (hx : ∀ x ∈ st, x.2.length ≤ 1000000) : ∀ (n i k : Nat) (D : List S91) (c : Option Tx.Ed) (at_ : Int), st.length - i = n → i ≤ st.length → n + 1 ≤ k → D.length + c.toList.length ≤ i → 0 ≤ at_ → at_ ≤ (i : Int) * 1000000 → (∀ e ∈ c.toList, e.x.length ≤ i * 1000000) →
    text_Edits.l0 k (D ++ c.toList.map ofE) at_ c.isSome (st.map toSt) (st.length : Int) (i : Int) = some (D ++ (Tx.eg at_ c (st.drop i)).map ofE, 0) := by
  intro n
  induction n with
  | zero =>
    intro i k D c at_ hn hi hk hD h0 h1 h2
    obtain ⟨k, rfl⟩ : ∃ q, k = q + 1 := ⟨k - 1, by omega⟩
    rw [text_Edits.l0, if_neg (by omega), List.drop_of_length_le (by omega)]
    rfl
  | succ n ih =>
    intro i k D c at_ hn hi hk hD h0 h1 h2
    obtain ⟨k, rfl⟩ : ∃ q, k = q + 1 := ⟨k - 1, by omega⟩
    have hlt : i < st.length := by omega
    have hd : st.drop i = st[i] :: st.drop (i + 1) := List.drop_eq_getElem_cons hlt
    have hxs := hx st[i] (List.getElem_mem hlt)
    rw [hd, text_Edits.l0, if_pos (by omega), if_pos (by omega), if_pos (by rw [List.length_map]; omega), rdSt st i hlt, toSt0, toSt1]
    rw [show (toSt st[i]).f1 = ⟨st[i].2.toArray⟩ from rfl]
    generalize st[i] = y at *
    obtain ⟨o, x⟩ := y
    dsimp only
    have W : Aside0 (wrap64 (at_ + (x.length : Int)) = at_ + (x.length : Int)) := ⟨w64 (by omega) (by have : x.length ≤ 1000000 := hxs; omega)⟩
    have hxl : x.length ≤ 1000000 := hxs
    have N : Aside0 (wrap64 ((i : Int) + 1) = ((i + 1 : Nat) : Int)) := ⟨nx i (by omega)⟩
    by_cases c1 : o = 32
    · subst c1
      rw [if_pos (show (((32 : UInt8).toNat : Nat) : Int) = 32 from rfl), Tx.eg_keep]
      rw [W.out, N.out]
      have := ih (i + 1) k (D ++ c.toList.map ofE) none (at_ + (x.length : Int)) (by omega) (by omega) (by omega) (by rw [List.length_append, List.length_map]; simp; omega) (by omega) (by omega) (fun e h => by cases h)
      simp only [Option.toList_none, List.map_nil, List.append_nil, Option.isSome_none] at this
      rw [this, List.map_append, ← List.append_assoc]
    · rw [if_neg (fun q => c1 ((u8_32 o).1 q))]
      -- the edit that is open, or a new one
      have main : ∀ (e : Tx.Ed) (D' : List S91), D'.length + 1 ≤ i + 1 → e.x.length ≤ i * 1000000 →
          (if o = 45 then text_Edits.l0 k (D' ++ [ofE ⟨e.f, at_ + (x.length : Int), e.x⟩]) (at_ + (x.length : Int)) true (st.map toSt) (st.length : Int) (wrap64 ((i : Int) + 1)) else text_Edits.l0 k (D' ++ [ofE ⟨e.f, e.t, e.x ++ x⟩]) at_ true (st.map toSt) (st.length : Int) (wrap64 ((i : Int) + 1))) =
          some (D' ++ (if o = 45 then Tx.eg (at_ + (x.length : Int)) (some ⟨e.f, at_ + (x.length : Int), e.x⟩) (st.drop (i + 1)) else Tx.eg at_ (some ⟨e.f, e.t, e.x ++ x⟩) (st.drop (i + 1))).map ofE, 0) := by
        intro e D' hD' he
        rw [N.out]
        by_cases c2 : o = 45
        · rw [if_pos c2, if_pos c2]
          exact ih (i + 1) k D' (some ⟨e.f, at_ + (x.length : Int), e.x⟩) (at_ + (x.length : Int)) (by omega) (by omega) (by omega) (by simp; omega) (by omega) (by omega) (fun e' h => by have h3 := List.mem_singleton.1 h; subst h3; exact Nat.le_trans he (Nat.mul_le_mul_right _ (by omega)))
        · rw [if_neg c2, if_neg c2]
          exact ih (i + 1) k D' (some ⟨e.f, e.t, e.x ++ x⟩) at_ (by omega) (by omega) (by omega) (by simp; omega) (by omega) (by omega) (fun e' h => by have h3 := List.mem_singleton.1 h; subst h3; have h4 : (e.x ++ x).length = e.x.length + x.length := List.length_append; exact Nat.le_trans (Nat.le_of_eq h4) (by rw [Nat.add_mul]; omega))
      have hE : ∀ e : Tx.Ed, Tx.eg at_ c ((o, x) :: st.drop (i + 1)) = (if o = 45 then Tx.eg (at_ + (x.length : Int)) (some ⟨(c.getD ⟨at_, at_, []⟩).f, at_ + (x.length : Int), (c.getD ⟨at_, at_, []⟩).x⟩) (st.drop (i + 1)) else Tx.eg at_ (some ⟨(c.getD ⟨at_, at_, []⟩).f, (c.getD ⟨at_, at_, []⟩).t, (c.getD ⟨at_, at_, []⟩).x ++ x⟩) (st.drop (i + 1))) := fun _ => by
        by_cases c2 : o = 45
        · subst c2; rw [if_pos rfl, Tx.eg_gone]
        · rw [if_neg c2, Tx.eg_come at_ c o x _ c1 c2]
      rw [hE ⟨0, 0, []⟩]
      cases c with
      | some e =>
        have he : e.x.length ≤ i * 1000000 := h2 e (by simp)
        have hD' : D.length + 1 ≤ i := hD
        rw [if_pos (show (Option.isSome (some e)) = true from rfl)]
        exact (tEdit_step k D e at_ st i o x (by omega) (by omega) _ W.out).trans (main e D (by omega) he)
      | none =>
        have hD' : D.length ≤ i := by simpa using hD
        rw [if_neg (show ¬ (Option.isSome (none : Option Tx.Ed)) = true by decide), if_pos (by simp; omega), Option.bind_some]
        have e0 : D ++ (none : Option Tx.Ed).toList.map ofE ++ [(⟨at_, at_, (⟨#[]⟩ : ByteArray)⟩ : S91)] = D ++ [ofE ⟨at_, at_, []⟩] := by simp [ofE]
        rw [e0]
        exact (tEdit_step k D ⟨at_, at_, []⟩ at_ st i o x (by omega) (by simp; omega) _ W.out).trans (main ⟨at_, at_, []⟩ D (by omega) (by simp))
end Go.Proofs.YthimblhfjfngiaaGreat.PText

namespace Go.Proofs.YthimblhfjfngiaaGreat.PText
open Go.RowKit Go.Lib Go.Proofs.YthimblhfjfngiaaGreatW.PrintWords Go.Proofs.YthimblhfjfngiaaGreatW.PrintLast Go.Proofs.YthimblhfjfngiaaGreatW.PrintMore
theorem linesB_bL (s : ByteArray) : (linesB s).map bL = Tx.lines (bL s) := by
  unfold linesB
  rw [List.map_map]
  exact (List.map_congr_left (fun x _ => bL_mk x)).trans (List.map_id _)
theorem flat_mem {α : Type} : ∀ {l : List (List α)} {x : List α}, x ∈ l → x.length ≤ l.flatten.length
  | y :: l, x, h => by
    rw [List.flatten_cons, List.length_append]
    rcases List.mem_cons.1 h with h | h
    · subst h; omega
    · have := flat_mem h; omega
/-- the steps of two texts -/
def stT (a b : ByteArray) : List (UInt8 × List UInt8) := Tx.stp (Tx.lines (bL a)) (Tx.lines (bL b))
theorem stT_S (a b : ByteArray) : stS (linesB a) (linesB b) = (stT a b).map toSt := by unfold stS stT; rw [linesB_bL, linesB_bL]
theorem stT_len (a b : ByteArray) : (stT a b).length ≤ (linesB a).length + (linesB b).length := by
  have := stp_len _ (Tx.lines (bL a)) (Tx.lines (bL b)) (Nat.le_refl _)
  rw [← linesB_bL, ← linesB_bL, List.length_map, List.length_map, linesB_bL, linesB_bL] at this
  exact this
theorem stT_ok (a b : ByteArray) : ∀ x ∈ stT a b, (x.1 = 32 ∨ x.1 = 45 ∨ x.1 = 43) ∧ x.2 ≠ [] ∧ x.2.length ≤ max a.size b.size := by
  intro x hx
  obtain ⟨h1, h2⟩ := Tx.stp_op _ _ _ (Nat.le_refl _) x hx
  have ha := bL_size a
  have hb := bL_size b
  rcases h2 with h2 | h2
  · have := flat_mem h2
    rw [Tx.lines_flat] at this
    exact ⟨h1, Tx.lines_ne _ x.2 h2, by omega⟩
  · have := flat_mem h2
    rw [Tx.lines_flat] at this
    exact ⟨h1, Tx.lines_ne _ x.2 h2, by omega⟩
/-- the edits from one text to another one -/
def editsS (a b : ByteArray) : List S91 := (Tx.eg 0 none (stT a b)).map ofE
def editsR (a b : ByteArray) : List S91 × Int := if (sizedR a b 0).2 = 0 then (editsS a b, 0) else ([], (sizedR a b 0).2)
theorem edits_f (a b : ByteArray) (ha : a.size ≤ 1000000000) (hb : b.size ≤ 1000000000) (k : Nat) (hk : 5000000 ≤ k) : text_Edits.f k a b = some (editsR a b) := by
  unfold text_Edits.f editsR
  rw [sized_f a b 0 ha hb k hk, Option.bind_some]
  by_cases h : (sizedR a b 0).2 = 0
  · rw [if_pos h, if_pos h]
    obtain ⟨e1, -, -, n1, n2, z1, z2⟩ := sized_zero h
    have hl := stT_len a b
    rw [e1]
    show text_Edits.l0 k [] 0 false (stS (linesB a) (linesB b)) ((stS (linesB a) (linesB b)).length : Int) 0 = _
    rw [stT_S, List.length_map]
    have := tEdits_l0 (stT a b) (by omega) (fun x hx => by have := (stT_ok a b x hx).2.2; omega) (stT a b).length 0 k [] none 0 (by omega) (by omega) (by omega) (by simp) (by omega) (by omega) (fun e h => by cases h)
    rw [List.drop_zero] at this
    exact this
  · rw [if_neg h, if_neg h]
theorem eg_len : ∀ (l : List Tx.St) (a : Int) (c : Option Tx.Ed), (Tx.eg a c l).length ≤ c.toList.length + l.length
  | [], a, c => by show c.toList.length ≤ _; omega
  | (o, x) :: l, a, c => by
    by_cases c1 : o = 32
    · subst c1
      rw [Tx.eg_keep, List.length_append, List.length_cons]
      have := eg_len l (a + x.length) none
      simp only [Option.toList_none, List.length_nil] at this
      omega
    · have one : ∀ d : Tx.Ed, (some d).toList.length = 1 := fun _ => rfl
      by_cases c2 : o = 45
      · subst c2
        rw [Tx.eg_gone, List.length_cons]
        have := eg_len l (a + x.length) (some ⟨(c.getD ⟨a, a, []⟩).f, a + x.length, (c.getD ⟨a, a, []⟩).x⟩)
        rw [one] at this; omega
      · rw [Tx.eg_come a c o x l c1 c2, List.length_cons]
        have := eg_len l a (some ⟨(c.getD ⟨a, a, []⟩).f, (c.getD ⟨a, a, []⟩).t, (c.getD ⟨a, a, []⟩).x ++ x⟩)
        rw [one] at this; omega
theorem editsR_len (a b : ByteArray) : (editsR a b).1.length ≤ 4000 := by
  unfold editsR
  by_cases h : (sizedR a b 0).2 = 0
  · obtain ⟨-, -, -, n1, n2, -, -⟩ := sized_zero h
    have hl := stT_len a b
    have := eg_len (stT a b) 0 none
    rw [if_pos h]
    show (List.map ofE _).length ≤ _
    rw [List.length_map]
    simp only [Option.toList_none, List.length_nil] at this
    omega
  · rw [if_neg h]; exact Nat.zero_le _
end Go.Proofs.YthimblhfjfngiaaGreat.PText

namespace Go.Proofs.YthimblhfjfngiaaGreat.PText
open Go.RowKit Go.Lib Go.Sort Go.Proofs.YthimblhfjfngiaaGreatW.PrintWords Go.Proofs.YthimblhfjfngiaaGreatW.PrintLast Go.Proofs.YthimblhfjfngiaaGreatW.PrintMore
set_option linter.unusedVariables false
set_option linter.unusedSimpArgs false
theorem heap_same {w : World} {b t : Nat} {v : Value} {fz : Nat × Nat} (h : w.heap[b]? = some (.cells #[v] t fz)) (k : Nat) : (w.setCell ⟨b, 0, none⟩ v).heap[k]? = w.heap[k]? := by
  by_cases hk : k = b
  · subst hk
    unfold World.setCell
    simp only
    rw [Array.getElem?_modify, if_pos rfl, h]
    rfl
  · exact Below.heap_setCell _ _ _ _ (fun e => hk e)
theorem below_same {B : Nat} {a w : World} {b t : Nat} {v : Value} {fz : Nat × Nat} (h : Below B a w) (hb : w.heap[b]? = some (.cells #[v] t fz)) : Below B a (w.setCell ⟨b, 0, none⟩ v) :=
  ⟨h.os, h.tape, h.output, by
    have : (w.setCell ⟨b, 0, none⟩ v).heap.size = w.heap.size := by unfold World.setCell; simp
    rw [this]; exact h.size, fun k hk => (heap_same hb k).trans (h.block k hk)⟩
/-- to append no values to a row -/
theorem append_idle {P : Program} {ops : Array Oper} {o : Oper} {a : Act} {Q : Exit → Act → World → Prop} {Kc : Act → World → Prop} {W : World} {α : Type} (d : Kd α) (hw : Region.wanted o (yielded ops a.tmps) = true) (s x : Operand) (t e : TypeId) (z : Value) (bytes base : Nat)
    (ho : o.op = .call { callee := .builtin .append, args := #[s, x], argTypes := #[t, t] })
    (ht : P.underlying t = some (.slice e)) (hinfo : (P.info? e).map (fun i => (i.zero, i.size, i.bytes)) = some (some z, d.sz, bytes)) (v : Value) (xs : List α) (ok : Nat → Prop) (hs : a.eval s = v) (hx : a.eval x = .slice none 0 0)
    {W0 : World} (HO : d.R e W0 base ok v xs) (h : Kc (a.put o.dst v) W) :
    if Region.wanted o (yielded ops a.tmps) = true then Oper.wp P o a W Kc Q else Kc (a.put o.dst undef) W := by
  obtain ⟨i0, hi, hzz⟩ := Option.map_eq_some_iff.1 hinfo
  obtain ⟨hok, inner, hown, hr⟩ := HO
  have hrun : (Builtin.append_ #[t, t] o.type #[v, .slice none 0 0]).run P W = .ok v W := by
    rcases hown.2 with ⟨rfl, hn⟩ | ⟨g, cap, cur, rfl, _, _, hnc, _⟩
    · simp [Builtin.append_, run_underlying ht, sizeOf, typeInfo, hi, Builtin.lenOf, Builtin.firstCells]
    · simp [Builtin.append_, run_underlying ht, sizeOf, typeInfo, hi, Builtin.lenOf, Builtin.firstCells, hnc, storeCells]
  rw [if_pos hw]
  unfold Oper.wp execOp
  simp only [ho, resolve, invoke, builtin, Sem.run_bind, Sem.run_pure, Result.andThen_ok, List.map_toArray, List.map_cons, List.map_nil, hs, hx, hrun]
  exact h
/-- the same heap -/
structure Same (w w' : World) : Prop where
  below : Below w.heap.size w w'
  heap : ∀ k : Nat, w'.heap[k]? = w.heap[k]?
theorem Same.refl (w : World) : Same w w := ⟨Below.refl _ _, fun _ => rfl⟩
theorem Same.drew {w w' : World} (h : Same w w') : Same w w'.drew := ⟨h.below.drew, h.heap⟩
theorem Same.set {w w' : World} {b t : Nat} {v : Value} {fz : Nat × Nat} (h : Same w w') (hb : w.heap[b]? = some (.cells #[v] t fz)) : Same w (w'.setCell ⟨b, 0, none⟩ v) :=
  ⟨below_same h.below ((h.heap b).trans hb), fun k => (heap_same ((h.heap b).trans hb) k).trans (h.heap k)⟩
theorem Same.cell {w w' : World} (h : Same w w') (p : Addr) : w'.cell? p = w.cell? p := by
  unfold World.cell?
  simp only [h.heap]
theorem Same.frozen {w w' : World} (h : Same w w') (p : Addr) : w'.frozen? p = w.frozen? p := by
  simp only [World.frozen?, h.heap]
theorem Same.all {w w' : World} {bn bo bl : Nat} {v : Value} (h : Same w w') (hn : w.cell? ⟨bn, 0, none⟩ = some (.int .i64 0)) (ho : w.cell? ⟨bo, 0, none⟩ = some v) (hl : w.cell? ⟨bl, 0, none⟩ = some (.slice none 0 0)) (hf : w.frozen? ⟨bo, 0, none⟩ = false) :
    w'.cell? ⟨bn, 0, none⟩ = some (.int .i64 0) ∧ w'.cell? ⟨bo, 0, none⟩ = some v ∧ w'.cell? ⟨bl, 0, none⟩ = some (.slice none 0 0) ∧ w'.frozen? ⟨bo, 0, none⟩ = false ∧ Same w w' :=
  ⟨(h.cell _).trans hn, (h.cell _).trans ho, (h.cell _).trans hl, (h.frozen _).trans hf, h⟩
set_option maxRecDepth 100000 in
set_option maxHeartbeats 2000000 in
/-- nothing to pass -/
theorem pass_idle (keep : Bool) (bn ba bs bo bl base : Nat) (v : Value) (D : List Int) (w : World) (hn : w.cell? ⟨bn, 0, none⟩ = some (.int .i64 0)) (ha : w.cell? ⟨ba, 0, none⟩ = some (.int .i64 0))
    (ho : w.heap[bo]? = some (.cells #[v] 28 (0, 0))) (hl : w.cell? ⟨bl, 0, none⟩ = some (.slice none 0 0)) (hR : Kd.R (Kd.int .i64) 3 w base (fun _ => True) v D) :
    Calls Tryz.prog 51 #[.int .i64 0, .bool keep, .pointer (some ⟨bn, 0, none⟩), .pointer (some ⟨ba, 0, none⟩), .pointer (some ⟨bs, 0, none⟩), .pointer (some ⟨bo, 0, none⟩), .pointer (some ⟨bl, 0, none⟩)] w fun e w' => e = .returned (.tuple #[]) ∧ Below w.heap.size w w' := by
  obtain ⟨A, c, rfl⟩ := Kd.R_slice hR
  have hoc : w.cell? ⟨bo, 0, none⟩ = some (.slice A D.length c) := by unfold World.cell?; rw [ho]; rfl
  have hof : w.frozen? ⟨bo, 0, none⟩ = false := by simp [World.frozen?, ho]
  have HO := Aside0.mk ho
  have HR := Aside0.mk hR
  clear ho hR
  go_enter Tryz.func51, Tryz.ntmps51
  go_wp2_with fail
  go_loopg [11] 0 (fun _ v11 wr => wr = w)
  case atStart => exact rfl
  case round =>
    obtain rfl := hrel
    cases keep
    · go_wp2_with fail
      first
        | (go_end0; exact ⟨rfl, Below.refl _ _⟩)
        | exact ⟨rfl, Below.refl _ _⟩
    · go_wp2_with fail
      go_region_held3 (fun w' => w'.cell? ⟨bn, 0, none⟩ = some (.int .i64 0) ∧ w'.cell? ⟨bo, 0, none⟩ = some (.slice A D.length c) ∧ w'.cell? ⟨bl, 0, none⟩ = some (.slice none 0 0) ∧ w'.frozen? ⟨bo, 0, none⟩ = false ∧ Same wr w')
        (first | exact Same.all (Same.refl _) hn hoc hl hof | exact Same.all (Same.refl _).drew hn hoc hl hof | exact Same.all ((Same.refl _).set HO.out).drew hn hoc hl hof | exact Same.all ((Same.refl _).drew.set HO.out).drew hn hoc hl hof)
        (first
          | (refine append_idle (Kd.int .i64) ?hw1 (.tmp 24) (.tmp 29) 28 3 (.int .i64 0) 8 base ?hg1 Tryz.underlying28 info3 _ D (fun _ => True) ?hs1 ?hx1 HR.out ?_; (case hw1 => rfl); (case hg1 => rfl); (case hs1 => rfl); (case hx1 => rfl)))
      go_split_ands
      first
        | (go_end0; exact ⟨rfl, Same.below (by assumption)⟩)
        | exact ⟨rfl, Same.below (by assumption)⟩
        | exact bodyPost_end0 ⟨rfl, Same.below (by assumption)⟩
/-- as many times one number as there are lines -/
def putL (es : List S91) (k : Int) : List Int := (es.map (fun x => List.replicate (linesB x.f2).length k)).flatten
theorem putL_snoc (es : List S91) (k : Int) (i : Nat) (h : i < es.length) : putL (es.take (i + 1)) k = putL (es.take i) k ++ List.replicate (linesB es[i].f2).length k := by
  unfold putL
  rw [List.take_add_one, List.getElem?_eq_getElem h, Option.toList_some, List.map_append, List.flatten_append]
  simp
theorem putL_take (es : List S91) (k : Int) (i : Nat) : (putL (es.take i) k).length ≤ (putL es k).length := by
  have h : putL es k = putL (es.take i) k ++ putL (es.drop i) k := by
    unfold putL
    rw [← List.flatten_append, ← List.map_append, List.take_append_drop]
  rw [h, List.length_append]; omega
theorem lines_nil : text_Lines.f ⟨#[]⟩ = some [] := by kernel_rfl
theorem heap3 (w : World) (a b c : Obj) : (((w.alloc a).alloc b).alloc c).heap[w.heap.size]? = some a ∧ (((w.alloc a).alloc b).alloc c).heap[w.heap.size + 1]? = some b ∧ (((w.alloc a).alloc b).alloc c).heap[w.heap.size + 1 + 1]? = some c ∧ (((w.alloc a).alloc b).alloc c).heap.size = w.heap.size + 3 ∧ Below w.heap.size w (((w.alloc a).alloc b).alloc c) := by
  refine ⟨?_, ?_, ?_, ?_, ?_⟩
  · show (((w.heap.push a).push b).push c)[w.heap.size]? = _
    rw [Array.getElem?_push, if_neg (by simp; omega), Array.getElem?_push, if_neg (by simp), Array.getElem?_push_size]
  · show (((w.heap.push a).push b).push c)[w.heap.size + 1]? = _
    rw [Array.getElem?_push, if_neg (by simp), Array.getElem?_push, if_pos (by simp)]
  · show (((w.heap.push a).push b).push c)[w.heap.size + 1 + 1]? = _
    rw [Array.getElem?_push, if_pos (by simp)]
  · show (((w.heap.push a).push b).push c).size = _
    simp
  · exact (((Below.refl _ w).alloc (Nat.le_refl _) a).alloc (by simp) b).alloc (by simp; omega) c
/-- the variables of past.blamed, laid -/
theorem boxes {w w1 w2 : World} {v2 : Value} {A1 : Option Addr} {c1 : Nat} {es : List S91} (h1 : Below (w.alloc (.cells #[.slice none 0 0] 28)).heap.size (w.alloc (.cells #[.slice none 0 0] 28)) w1)
    (h2 : Below (((w1.alloc (.cells #[.slice none 0 0] 28)).alloc (.cells #[.int .i64 0] 3)).alloc (.cells #[.int .i64 0] 3)).heap.size (((w1.alloc (.cells #[.slice none 0 0] 28)).alloc (.cells #[.int .i64 0] 3)).alloc (.cells #[.int .i64 0] 3)) w2)
    (ho : Kd.R k91 91 w1 (w.alloc (.cells #[.slice none 0 0] 28)).heap.size (fun _ => True) (.slice A1 es.length c1) es) :
    (w2.alloc (.cells #[v2] 47)).heap[w1.heap.size]? = some (.cells #[.slice none 0 0] 28 (0, 0)) ∧ (w2.alloc (.cells #[v2] 47)).cell? ⟨w1.heap.size + 1, 0, none⟩ = some (.int .i64 0) ∧ (w2.alloc (.cells #[v2] 47)).cell? ⟨w1.heap.size + 1 + 1, 0, none⟩ = some (.int .i64 0) ∧
    (w2.alloc (.cells #[v2] 47)).cell? ⟨w.heap.size, 0, none⟩ = some (.slice none 0 0) ∧ Below w.heap.size w (w2.alloc (.cells #[v2] 47)) ∧ (w2.alloc (.cells #[v2] 47)).heap.size = w2.heap.size + 1 ∧ w.heap.size < w1.heap.size ∧ w1.heap.size + 3 ≤ w2.heap.size ∧
    Kd.R k91 91 (w2.alloc (.cells #[v2] 47)) (w.alloc (.cells #[.slice none 0 0] 28)).heap.size (fun _ => True) (.slice A1 es.length c1) es := by
  obtain ⟨q1, q2, q3, q4, q5⟩ := heap3 w1 (.cells #[.slice none 0 0] 28) (.cells #[.int .i64 0] 3) (.cells #[.int .i64 0] 3)
  have s0 : (w.alloc (.cells #[.slice none 0 0] 28)).heap.size = w.heap.size + 1 := by simp
  have s1 := h1.size
  have s2 := h2.size
  have b2 : Below w2.heap.size w2 (w2.alloc (.cells #[v2] 47)) := (Below.refl _ w2).alloc (Nat.le_refl _) _
  have B12 : Below w1.heap.size w1 (w2.alloc (.cells #[v2] 47)) := (q5.trans (h2.mono (by omega))).trans (b2.mono (by omega))
  have hh : ∀ k, k < w1.heap.size + 3 → (w2.alloc (.cells #[v2] 47)).heap[k]? = (((w1.alloc (.cells #[.slice none 0 0] 28)).alloc (.cells #[.int .i64 0] 3)).alloc (.cells #[.int .i64 0] 3)).heap[k]? := fun k hk => (b2.block k (by omega)).trans (h2.block k (by omega))
  refine ⟨(hh _ (by omega)).trans q1, ?_, ?_, ?_, ?_, by simp, by omega, by omega, Kd.R_below ho B12⟩
  · have e := (hh (w1.heap.size + 1) (by omega)).trans q2
    unfold World.cell?; simp only [e]; rfl
  · have e := (hh (w1.heap.size + 1 + 1) (by omega)).trans q3
    unfold World.cell?; simp only [e]; rfl
  · have : (w2.alloc (.cells #[v2] 47)).heap[w.heap.size]? = some (.cells #[.slice none 0 0] 28 (0, 0)) := (B12.block _ (by omega)).trans ((h1.block _ (by omega)).trans (heap_nw w _))
    unfold World.cell?; rw [this]; rfl
  · exact (((Below.refl _ w).alloc (Nat.le_refl _) _).trans (h1.mono (by omega))).trans (B12.mono (by omega))
theorem box_self {W0 wr : World} {bo base : Nat} {v0 v : Value} (h : Below base (W0.setCell ⟨bo, 0, none⟩ v) wr) (h0 : W0.heap[bo]? = some (.cells #[v0] 28 (0, 0))) (hb : bo < base) : wr.heap[bo]? = some (.cells #[v] 28 (0, 0)) := by
  rw [h.block bo hb]
  unfold World.setCell
  simp only
  rw [Array.getElem?_modify, if_pos rfl, h0]
  rfl
theorem box_other {W0 wr : World} {bo base : Nat} {v u : Value} {b i : Nat} (h : Below base (W0.setCell ⟨bo, 0, none⟩ v) wr) (hb : b < base) (hne : b ≠ bo) (hc : W0.cell? ⟨b, i, none⟩ = some u) : wr.cell? ⟨b, i, none⟩ = some u := by
  rw [← hc]
  unfold World.cell?
  simp only
  rw [h.block b hb, Below.heap_setCell _ _ _ _ hne]
theorem box_step2 {W0 wr w5 : World} {bo base : Nat} {v0 v v5 : Value} (h : Below base (W0.setCell ⟨bo, 0, none⟩ v) wr) (h5 : Below base wr w5) (h0 : W0.heap[bo]? = some (.cells #[v0] 28 (0, 0))) (hb : bo < base) :
    Below base (W0.setCell ⟨bo, 0, none⟩ v5) (w5.setCell ⟨bo, 0, none⟩ v5) := by
  have ss : ∀ (W : World) (u : Value), (W.setCell ⟨bo, 0, none⟩ u).heap.size = W.heap.size := fun W u => by unfold World.setCell; simp
  refine ⟨h5.os.trans h.os, h5.tape.trans h.tape, h5.output.trans h.output, ?_, fun k hk => ?_⟩
  · have := h.size; have := h5.size
    rw [ss] at *; rw [ss]; omega
  · by_cases e : k = bo
    · subst e
      have h3 := (h5.block k hk).trans (box_self h h0 hk)
      unfold World.setCell
      simp only
      rw [Array.getElem?_modify, if_pos rfl, Array.getElem?_modify, if_pos rfl, h0, h3]
      rfl
    · rw [Below.heap_setCell _ _ _ _ e, Below.heap_setCell _ _ _ _ e, h5.block k hk, h.block k hk, Below.heap_setCell _ _ _ _ e]
set_option maxRecDepth 100000 in
set_option maxHeartbeats 4000000 in
theorem blamed_new (es : List S91) (k : Int) (now : ByteArray) (w : World) (he : text_Edits.f 5000000 ⟨#[]⟩ now = some (es, 0)) (h0 : ∀ x ∈ es, x.f0 = 0 ∧ x.f1 = 0 ∧ x.f2.size ≤ 1000000000) (hlen : es.length ≤ 4000) (hD : (putL es k).length ≤ 1000000) :
    Calls Tryz.prog 29 #[.string ⟨#[]⟩, .string now, .slice none 0 0, .int .i64 k] w fun e w' => ∃ v, e = .returned (.tuple #[v, .int .i64 0]) ∧ Kd.R (Kd.int .i64) 3 w' w.heap.size (fun _ => True) v (putL es k) ∧ Below w.heap.size w w' := by
  have HE := Aside0.mk he
  have H0 := Aside0.mk h0
  have HLN := Aside0.mk hlen
  have HD := Aside0.mk hD
  clear he h0 hlen hD
  go_enter Tryz.func29, Tryz.ntmps29
  go_wp2_with (first
    | (go_at_call 50; refine (text_Edits.calls 5000000 _ now es 0 _ HE.out).mono ?_; rintro e w1 ⟨v1, rfl, ho, hb⟩; obtain ⟨A1, c1, rfl⟩ := Kd.R_slice ho; have HO1 := Aside0.mk ho; have HB1 := Aside0.mk hb; clear ho hb HE)
    | (go_at_call 36; refine (text_Lines.calls _ [] _ lines_nil).mono ?_; rintro e w2 ⟨v2, rfl, ho, hb⟩; obtain ⟨A2, c2, rfl⟩ := Kd.R_slice ho; have HX := Aside0.mk (boxes (v2 := .slice A2 0 c2) HB1.out hb HO1.out); clear ho hb HB1 HO1))
  obtain ⟨hbo, hba, hbn, hbl, hB, hz, hlt1, hlt2, hER⟩ := HX.out
  clear HX
  generalize w2.alloc (.cells #[.slice A2 0 c2] 47) = W0 at *
  have l1 : w1.heap.size + 1 + 1 < W0.heap.size := by omega
  have l2 : w1.heap.size + 1 < W0.heap.size := by omega
  have l3 : w1.heap.size < W0.heap.size := by omega
  have l4 : w.heap.size < W0.heap.size := by omega
  have l5 : w.heap.size ≤ w1.heap.size := by omega
  have n1 : w1.heap.size + 1 + 1 ≠ w1.heap.size := by omega
  have n2 : w1.heap.size + 1 ≠ w1.heap.size := by omega
  have n4 : w.heap.size ≠ w1.heap.size := by omega
  clear hlt1 hlt2 hz
  generalize w2.heap.size = bs at *
  generalize w1.heap.size + 1 + 1 = bn at *
  generalize w1.heap.size + 1 = ba at *
  generalize w1.heap.size = bo at *
  have ss : ∀ (W : World) (u : Value), (W.setCell ⟨bo, 0, none⟩ u).heap.size = W.heap.size := fun W u => by unfold World.setCell; simp
  have HCE : Aside0 (∀ v wr, Below W0.heap.size (W0.setCell ⟨bo, 0, none⟩ v) wr → Kd.C k91 wr A1 es.length es) := ⟨fun v wr h =>
    (Kd.R_reads' (Kd.R_below (Kd.R_set hER hbo (fun q hq => by rcases List.mem_cons.1 hq with h | h; subst h; decide; cases h) 0 v) (by rw [ss]; exact h))).2.2⟩
  have HPA : Aside0 (∀ (keep : Bool) (v : Value) (D : List Int) (wr : World), Below W0.heap.size (W0.setCell ⟨bo, 0, none⟩ v) wr → Kd.R (Kd.int .i64) 3 wr W0.heap.size (fun _ => True) v D →
      Calls Tryz.prog 51 #[.int .i64 0, .bool keep, .pointer (some ⟨bn, 0, none⟩), .pointer (some ⟨ba, 0, none⟩), .pointer (some ⟨bs, 0, none⟩), .pointer (some ⟨bo, 0, none⟩), .pointer (some ⟨w.heap.size, 0, none⟩)] wr fun e w' => e = .returned (.tuple #[]) ∧ Below wr.heap.size wr w') :=
    ⟨fun keep v D wr h1 h2 => pass_idle keep bn ba bs bo w.heap.size W0.heap.size v D wr (box_other h1 l1 n1 hbn) (box_other h1 l2 n2 hba) (box_self h1 hbo l3) (box_other h1 l4 n4 hbl) h2⟩
  have HBF : Aside0 (∀ v wr, Below W0.heap.size (W0.setCell ⟨bo, 0, none⟩ v) wr → Below w.heap.size w wr) := ⟨fun v wr h => (hB.setCell (p := ⟨bo, 0, none⟩) l5 v).trans (h.mono (by omega))⟩
  have HBO := Aside0.mk hbo
  have HL3 := Aside0.mk l3
  have HS0 : Aside0 (Below W0.heap.size (W0.setCell ⟨bo, 0, none⟩ (.slice none 0 0)) W0) := ⟨by
    have q := Same.set (Same.refl W0) hbo
    exact ⟨rfl, rfl, rfl, by rw [ss]; exact Nat.le_refl _, fun k _ => (q.heap k).symm⟩⟩
  clear hbo hba hbn hbl hB hER l1 l2 l3 l4 l5 n1 n2 n4 ss
  go_loopg [33] (es.length + 1) (fun kq v33 w' => ∃ (i : Nat) (v : Value), v33 = .int .i64 (i : Int) ∧ Aside0 (es.length - i < kq ∧ i ≤ es.length) ∧ Aside0 (Below W0.heap.size (W0.setCell ⟨bo, 0, none⟩ v) w') ∧ Aside0 (Kd.R (Kd.int .i64) 3 w' W0.heap.size (fun _ => True) v (putL (es.take i) k)))
  case atStart => exact ⟨0, .slice none 0 0, rfl, ⟨by omega, by omega⟩, HS0, ⟨Kd.R_nil _ _ _ _ _⟩⟩
  case round =>
    obtain ⟨i, v, rfl, HI, HBe, HR⟩ := hrel
    obtain ⟨k1, rfl⟩ : ∃ k1, gk = k1 + 1 := ⟨gk - 1, by have := HI.out.1; omega⟩
    have hwr : W0.heap.size ≤ wr.heap.size := by have := HBe.out.size; unfold World.setCell at this; simpa using this
    by_cases hlt : i < es.length
    · have hb : decide ((i : Int) < (es.length : Int)) = true := by simp; omega
      have hb2 : decide ((0 : Int) ≤ (i : Int)) = true := by simp
      obtain ⟨ad, e0, hx0, hx1, hx2⟩ := at_T91 (HCE.out v wr HBe.out) (i : Int) (by omega) (by omega)
      cases e0
      rw [Int.toNat_natCast] at hx0 hx1 hx2
      rw [rd34_at es i hlt] at hx0 hx1 hx2
      have HSN := Aside0.mk (putL_snoc es k i hlt)
      have HTK := Aside0.mk (putL_take es k (i + 1))
      have hx := H0.out es[i] (List.getElem_mem hlt)
      generalize es[i] = x at *
      obtain ⟨g0, g1, t⟩ := x
      obtain ⟨y0, y1, y2⟩ := hx
      cases y0
      cases y1
      have HT := Aside0.mk (show text_Lines.f t = some (linesB t) by unfold text_Lines.f; rw [if_pos y2])
      have HBA : Aside0 (Below W0.heap.size (W0.setCell ⟨bo, 0, none⟩ v) (wr.alloc (.cells #[.int .i64 0, .int .i64 0, .string t] 91))) := ⟨HBe.out.alloc hwr _⟩
      have HP1 := Aside0.mk (HPA.out true v _ _ HBA.out (Kd.R_alloc HR.out _))
      have hy0 : (wr.alloc (.cells #[.int .i64 0, .int .i64 0, .string t] 91)).cell? ⟨wr.heap.size, 0, none⟩ = some (.int .i64 0) := by unfold World.cell?; simp only [heap_nw]; rfl
      have hy1 : (wr.alloc (.cells #[.int .i64 0, .int .i64 0, .string t] 91)).cell? ⟨wr.heap.size, 1, none⟩ = some (.int .i64 0) := by unfold World.cell?; simp only [heap_nw]; rfl
      have hy2 : (wr.alloc (.cells #[.int .i64 0, .int .i64 0, .string t] 91)).cell? ⟨wr.heap.size, 2, none⟩ = some (.string t) := by unfold World.cell?; simp only [heap_nw]; rfl
      have hsa : wr.heap.size < (wr.alloc (.cells #[.int .i64 0, .int .i64 0, .string t] 91)).heap.size := by simp
      have HY1 := Aside0.mk hy1
      have HY2 := Aside0.mk hy2
      have HSA := Aside0.mk hsa
      clear hy1 hy2 hsa y2
      go_wp2_with (first
        | (go_at_call 51; refine HP1.out.mono ?_; rintro e w3 ⟨rfl, hb3⟩; have HB3 := Aside0.mk hb3; have hz1 := (hb3.cell (p := ⟨wr.heap.size, 1, none⟩) HSA.out).trans HY1.out; clear hb3 HP1)
        | (go_at_call 51; refine (HPA.out false v (putL (es.take i) k) w3 (HBA.out.trans (HB3.out.mono (Nat.le_trans hwr (Nat.le_of_lt HSA.out)))) (Kd.R_below (Kd.R_alloc HR.out _) HB3.out)).mono ?_; rintro e w4 ⟨rfl, hb4⟩; have HB4 := Aside0.mk (HB3.out.trans (hb4.mono HB3.out.size)); have hz2 := (HB4.out.cell (p := ⟨wr.heap.size, 2, none⟩) HSA.out).trans HY2.out; clear hb4)
        | (go_at_call 36; refine (text_Lines.calls _ _ _ HT.out).mono ?_; rintro e w5 ⟨v5, rfl, ho, hb⟩; obtain ⟨A5, c5, rfl⟩ := Kd.R_slice ho; have HB5 := Aside0.mk (HB4.out.trans (hb.mono HB4.out.size)); clear ho hb))
      have hW : wr.heap.size ≤ w5.heap.size := Nat.le_trans (Nat.le_of_lt HSA.out) HB5.out.size
      have HB6 : Aside0 (Below W0.heap.size (W0.setCell ⟨bo, 0, none⟩ v) w5) := ⟨HBA.out.trans (HB5.out.mono (Nat.le_trans hwr (Nat.le_of_lt HSA.out)))⟩
      have HR6 : Aside0 (Kd.R (Kd.int .i64) 3 w5 W0.heap.size (fun _ => True) v (putL (es.take i) k ++ List.replicate 0 k)) := ⟨by rw [List.replicate_zero, List.append_nil]; exact Kd.R_below (Kd.R_alloc HR.out _) HB5.out⟩
      have HL5 := Aside0.mk (Nat.le_trans hwr hW)
      have HI2 : Aside0 (es.length - i < k1 + 1 ∧ i < es.length) := ⟨HI.out.1, hlt⟩
      clear hW hwr hx0 hx1 hx2 HB5 HB4 HB3 HBA HSA HY1 HY2 hz1 hz2 HBe HR hy0 hlt
      generalize hn : (linesB t).length = n at *
      clear hn
      go_loopg [49] (n + 1) (fun kq v49 w' => ∃ (j : Nat) (v : Value), v49 = .int .i64 (j : Int) ∧ Aside0 (n - j < kq ∧ j ≤ n) ∧ Aside0 (Below W0.heap.size (W0.setCell ⟨bo, 0, none⟩ v) w') ∧ Aside0 (Kd.R (Kd.int .i64) 3 w' W0.heap.size (fun _ => True) v (putL (es.take i) k ++ List.replicate j k)))
      case atStart => exact ⟨0, v, rfl, ⟨by omega, by omega⟩, HB6, HR6⟩
      case round =>
        obtain ⟨j, v, rfl, HJ, HBj, HRj⟩ := hrel
        obtain ⟨k2, rfl⟩ : ∃ k2, gk = k2 + 1 := ⟨gk - 1, by have := HJ.out.1; omega⟩
        have hwr : W0.heap.size ≤ wr.heap.size := by have := HBj.out.size; unfold World.setCell at this; simpa using this
        have hLen : (putL (es.take i) k ++ List.replicate j k).length ≤ 1000000 := by
          have h1 := HTK.out
          rw [HSN.out, List.length_append, List.length_replicate] at h1
          have h2 := HD.out
          have h3 := HJ.out.2
          rw [List.length_append, List.length_replicate]
          omega
        have HLE := Aside0.mk hLen
        have HWR := Aside0.mk hwr
        clear hLen
        by_cases hlt : j < n
        · have hb : decide ((j : Int) < (n : Int)) = true := by simp; omega
          obtain ⟨A7, c7, rfl⟩ := Kd.R_slice HRj.out
          have hoh := box_self HBj.out HBO.out HL3.out
          have hoc : wr.cell? ⟨bo, 0, none⟩ = some (.slice A7 (putL (es.take i) k ++ List.replicate j k).length c7) := by unfold World.cell?; rw [hoh]; rfl
          have HOH := Aside0.mk hoh
          have HLT := Aside0.mk hlt
          clear hoh
          have HEQ : Aside0 (putL (es.take i) k ++ List.replicate j k ++ [k] = putL (es.take i) k ++ List.replicate (j + 1) k) := ⟨by rw [List.append_assoc, List.replicate_succ']⟩
          have HNB : Aside0 (n ≤ 1000000) := ⟨by
            have h1 := HTK.out
            rw [HSN.out, List.length_append, List.length_replicate] at h1
            have h2 := HD.out
            omega⟩
          generalize putL (es.take i) k ++ List.replicate j k = L at *
          go_wp2_with (at_builtin; go_loud (refine Kd.R_append (Kd.int .i64) (w0 := wr) W0.heap.size rfl (.tmp 51) (.tmp 53) 28 3 (.int .i64 0) 8 rfl Tryz.underlying28 info3 rfl (by decide) (by omega) _ L k [.int .i64 k] (fun _ => True) (fun _ => False) rfl (by first | rfl | (simp; done) | (go_simp; done)) rfl (fun _ hk => hk.elim) (fun _ _ => trivial) HRj.out (Below.refl W0.heap.size wr) HWR.out (by have := HLE.out; omega) ?_); intro v1 w7 ho hb hg hat; go_loud (obtain ⟨A8, c8, rfl⟩ := Kd.R_slice ho; have hp7 : w7.heap[bo]? = some (.cells #[.slice A7 L.length c7] 28 (0, 0)) := (hb.block bo HL3.out).trans HOH.out; have hc7 : w7.cell? ⟨bo, 0, none⟩ = some (.slice A7 L.length c7) := (by unfold World.cell?; rw [hp7]; rfl); have hf7 : w7.frozen? ⟨bo, 0, none⟩ = false := (by simp [World.frozen?, hp7])); rw [show (L ++ [k]).length = L.length + 1 by rw [List.length_append]; rfl] at ho; have HO7 := Aside0.mk ho; have HB7 := Aside0.mk hb; have HP7 := Aside0.mk hp7; clear ho hb hg hat hp7)
          go_roundg k2
          case measure => have := HJ.out.1; have := HLT.out; omega
          case rel => exact ⟨j + 1, _, congrArg (Value.int .i64) (by first | exact nx j (by have := HNB.out; have := HJ.out; omega) | (have := HNB.out; have := HJ.out; omega)), ⟨by have := HJ.out.1; omega, by have := HLT.out; omega⟩, ⟨box_step2 HBj.out HB7.out HBO.out HL3.out⟩, ⟨by rw [← HEQ.out]; exact Kd.R_set HO7.out HP7.out (fun q hq => by rcases List.mem_cons.1 hq with h | h; subst h; decide; cases h) 0 _⟩⟩
        · have hb : decide ((j : Int) < (n : Int)) = false := by simp; omega
          have hjn : j = n := by have := HJ.out.2; omega
          subst hjn
          rw [← HSN.out] at HRj
          go_wp2_with fail
          go_roundg k1
          case measure => have := HI2.out; omega
          case rel => exact ⟨i + 1, _, congrArg (Value.int .i64) (by first | exact nx i (by have := HLN.out; have := HI2.out; omega) | (have := HLN.out; have := HI2.out; omega)), ⟨by have := HI2.out; omega, by have := HI2.out; omega⟩, HBj, HRj⟩
    · have hb : decide ((i : Int) < (es.length : Int)) = false := by simp; omega
      have hin : es.take i = es := List.take_of_length_le (by omega)
      rw [hin] at HR
      clear hin
      obtain ⟨A7, c7, rfl⟩ := Kd.R_slice HR.out
      have hoh := box_self HBe.out HBO.out HL3.out
      have hoc : wr.cell? ⟨bo, 0, none⟩ = some (.slice A7 (putL es k).length c7) := by unfold World.cell?; rw [hoh]; rfl
      have hbw : bo < wr.heap.size := Nat.lt_of_lt_of_le HL3.out hwr
      have HPZ := Aside0.mk (HPA.out true _ _ wr HBe.out HR.out)
      go_wp2_with (go_at_call 51; refine HPZ.out.mono ?_; rintro e w3 ⟨rfl, hb3⟩; have HB3 := Aside0.mk hb3; have hz1 := (hb3.cell (p := ⟨bo, 0, none⟩) hbw).trans hoc; clear hb3 HPZ)
      go_ret2
      have hbs : w.heap.size ≤ W0.heap.size := by have := (HBF.out _ _ HS0.out).size; exact this
      exact ⟨_, rfl, Kd.R_below (Kd.R_lower HR.out hbs) HB3.out, (HBF.out _ _ HBe.out).trans (HB3.out.mono (Nat.le_trans hbs hwr))⟩
end Go.Proofs.YthimblhfjfngiaaGreat.PText

namespace Go.Proofs.YthimblhfjfngiaaGreat.PText
open Go.RowKit Go.Lib Go.Sort Go.Proofs.YthimblhfjfngiaaGreatW.PrintWords Go.Proofs.YthimblhfjfngiaaGreatW.PrintLast Go.Proofs.YthimblhfjfngiaaGreatW.PrintMore
set_option linter.unusedVariables false
set_option linter.unusedSimpArgs false
theorem keep2 {w w' : World} {p g : Nat} {u v : Value} (hb : Below w.heap.size w w') (h1 : w.cell? ⟨p, 0, none⟩ = some u) (h2 : w.cell? ⟨g, 0, none⟩ = some v) (l1 : p < w.heap.size) (l2 : g < w.heap.size) :
    w'.cell? ⟨p, 0, none⟩ = some u ∧ w'.cell? ⟨g, 0, none⟩ = some v ∧ Below w.heap.size w w' := ⟨(hb.cell (p := ⟨p, 0, none⟩) l1).trans h1, (hb.cell (p := ⟨g, 0, none⟩) l2).trans h2, hb⟩
/-- the row of a past of one commit -/
theorem past_one {w : World} {base p : Nat} {x : Com} (h : PastIs w base p [x]) : ∃ g cap c, p < w.heap.size ∧ g < w.heap.size ∧ w.cell? ⟨p, 0, none⟩ = some (.slice (some ⟨g, 0, none⟩) 1 cap) ∧ w.cell? ⟨g, 0, none⟩ = some (.pointer (some ⟨c, 0, none⟩)) ∧ ComAt w c x := by
  obtain ⟨A, cap, ps, h1, h2, h3, h4, h5⟩ := h
  obtain ⟨c, rfl⟩ : ∃ c, ps = [c] := List.length_eq_one_iff.1 h1
  obtain ⟨g, cap', hv, hb, -, cs, hc⟩ := Kd.R_form h4 (by simp)
  cases hv
  obtain ⟨q1, -⟩ := Kd.R_cell (enc := fun c : Nat => Value.pointer (some ⟨c, 0, none⟩)) (h1 := fun _ => rfl) 0 h4 0 (Int.le_refl _) (by simp)
  exact ⟨g, cap, c, (Array.getElem?_eq_some_iff.1 h3).1, (Array.getElem?_eq_some_iff.1 hc).1, by unfold World.cell?; rw [h3]; rfl, q1, h5 0 (by simp) (by simp)⟩
set_option maxRecDepth 100000 in
set_option maxHeartbeats 4000000 in
theorem blame_one (base p : Nat) (x : Com) (file t : ByteArray) (es : List S91) (w : World) (hP : PastIs w base p [x]) (hx : x.files.length ≤ 10000) (hf : findR x.files file = (t, true))
    (he : text_Edits.f 5000000 ⟨#[]⟩ t = some (es, 0)) (h0 : ∀ x ∈ es, x.f0 = 0 ∧ x.f1 = 0 ∧ x.f2.size ≤ 1000000000) (hlen : es.length ≤ 4000) (hD : (putL es 0).length ≤ 1000000) :
    Calls Tryz.prog 9 #[.pointer (some ⟨p, 0, none⟩), .string file] w fun e w' => ∃ v, e = .returned (.tuple #[v, .int .i64 0]) ∧ Kd.R (Kd.int .i64) 3 w' w.heap.size (fun _ => True) v (putL es 0) ∧ Below w.heap.size w w' := by
  obtain ⟨g, cap, c, l1, l2, hc1, hc2, hcom⟩ := past_one hP
  have HF : Aside0 (∀ wr, Below w.heap.size w wr → Calls Tryz.prog 28 #[.pointer (some ⟨c, 0, none⟩), .string file] wr fun e w' => e = .returned (.tuple #[.string t, .bool true]) ∧ Below wr.heap.size wr w') :=
    ⟨fun wr hb => by
      have q := find_calls c x file wr (hcom.keep (PKept.of_below hb)) hx
      rw [hf] at q
      exact q⟩
  have HBL := Aside0.mk (fun wr => blamed_new es 0 t wr he h0 hlen hD)
  clear hP hx hf he h0 hlen hD hcom
  have hw0 : wrap64 ((1 : Int) - 1) = 0 := by rw [w64 (by omega) (by omega)]; rfl
  have hw1 : wrap64 0 = 0 := by rw [w64 (by omega) (by omega)]
  have hw2 : IntKind.i64.wrap ((1 : Int) - 1) = 0 := (i64_w _).trans hw0
  have hw3 : IntKind.i64.wrap 0 = 0 := (i64_w _).trans hw1
  have HB0 := Aside0.mk (Below.refl w.heap.size w)
  go_enter Tryz.func9, Tryz.ntmps9
  go_wp2_with fail
  go_region_held3 (fun w' => w'.cell? ⟨p, 0, none⟩ = some (.slice (some ⟨g, 0, none⟩) 1 cap) ∧ w'.cell? ⟨g, 0, none⟩ = some (.pointer (some ⟨c, 0, none⟩)) ∧ Below w.heap.size w w')
    (first
      | exact keep2 (Below.refl _ _) hc1 hc2 l1 l2
      | exact keep2 (Below.refl _ _).drew hc1 hc2 l1 l2
      | (go_split_ands; exact keep2 (Below.drew (by assumption)) hc1 hc2 l1 l2)
      | (go_split_ands; exact keep2 (below_step (by assumption) hb) hc1 hc2 l1 l2)
      | (go_split_ands; exact keep2 (below_step (by assumption) hb).drew hc1 hc2 l1 l2))
    (first
      | (go_at_call 28; with_reducible refine (HF.out _ ?zb).mono ?_; (case zb => (go_split_ands; assumption)); rintro e w5 ⟨rfl, hb⟩))
  go_split_ands
  have HB5 : Aside0 (Below w.heap.size w w5) := ⟨by assumption⟩
  clear hb
  go_wp2_with fail
  go_loopg [48, 8, 9] 2 (fun kq v48 v8 v9 w' => Aside0 (Below w.heap.size w w') ∧ ((1 < kq ∧ v48 = .int .i64 0 ∧ v8 = .slice none 0 0 ∧ v9 = .string ⟨#[]⟩) ∨ (∃ A cc, 0 < kq ∧ v48 = .int .i64 1 ∧ v8 = .slice A (putL es 0).length cc ∧ v9 = .string t ∧ Aside0 (Kd.R (Kd.int .i64) 3 w' w.heap.size (fun _ => True) (.slice A (putL es 0).length cc) (putL es 0)))))
  case atStart => exact ⟨HB5, .inl ⟨by omega, rfl, rfl, rfl⟩⟩
  case round =>
    obtain ⟨HBe, hrel⟩ := hrel
    have hcr := (HBe.out.cell (p := ⟨g, 0, none⟩) l2).trans hc2
    rcases hrel with ⟨hk, rfl, rfl, rfl⟩ | ⟨A, cc, hk, rfl, rfl, rfl, HR⟩
    · obtain ⟨k1, rfl⟩ : ∃ k1, gk = k1 + 1 := ⟨gk - 1, by omega⟩
      go_wp2_with (first
        | (go_at_call 28; refine (HF.out _ HBe.out).mono ?_; rintro e w6 ⟨rfl, hb⟩; have HB6 := Aside0.mk (below_step HBe.out hb); clear hb)
        | (go_at_call 29; refine (HBL.out _).mono ?_; rintro e w7 ⟨v7, rfl, ho, hb⟩; obtain ⟨A7, c7, rfl⟩ := Kd.R_slice ho; have HO7 := Aside0.mk (Kd.R_lower ho HB6.out.size); have HB7 := Aside0.mk (below_step HB6.out hb); clear ho hb))
      go_roundg k1
      case measure => omega
      case rel => exact ⟨HB7, .inr ⟨A7, c7, by omega, by first | rfl | exact congrArg (Value.int .i64) (nx 0 (by omega)), rfl, rfl, HO7⟩⟩
    · go_wp2_with fail
      go_ret2
      exact ⟨_, rfl, HR.out, HBe.out⟩
end Go.Proofs.YthimblhfjfngiaaGreat.PText

namespace Go.Proofs.YthimblhfjfngiaaGreat.PText
open Go.RowKit Go.Lib Go.Proofs.YthimblhfjfngiaaGreatW.PrintWords Go.Proofs.YthimblhfjfngiaaGreatW.PrintLast Go.Proofs.YthimblhfjfngiaaGreatW.PrintMore
set_option linter.unusedVariables false
set_option linter.unusedSimpArgs false
/-- two edits that do not go together -/
def meetE (x y : S91) : Bool := decide (x ≠ y) && (decide (x.f0 ≤ y.f1) && decide (y.f0 ≤ x.f1))
theorem meet_f (x y : S91) : past_meet.f x.f0 x.f1 x.f2 y.f0 y.f1 y.f2 = some (meetE x y) := by
  unfold past_meet.f meetE
  rw [neS34]
  by_cases c : x = y
  · rw [decide_eq_false (show ¬ x ≠ y from fun q => q c), if_neg (by decide)]; rfl
  · rw [decide_eq_true (show x ≠ y from c), if_pos rfl]
    by_cases c2 : x.f0 ≤ y.f1
    · rw [if_pos c2, decide_eq_true c2]; rfl
    · rw [if_neg c2, decide_eq_false c2]; rfl
theorem meet_pred (x : S91) (B : Nat) (w : World) (hB : B < w.heap.size) (h0 : w.cell? ⟨B, 0, none⟩ = some (.int .i64 x.f0)) (h1 : w.cell? ⟨B, 1, none⟩ = some (.int .i64 x.f1)) (h2 : w.cell? ⟨B, 2, none⟩ = some (.string x.f2)) :
    PredBelow Tryz.prog 59 #[.pointer (some ⟨B, 0, none⟩)] (fun y => .agg (enc34 y).toArray) (meetE x) w := fun W y hb => by
  have c0 : W.cell? ⟨B, 0, none⟩ = some (.int .i64 x.f0) := (hb.cell (p := ⟨B, 0, none⟩) hB).trans h0
  have c1 : W.cell? ⟨B, 1, none⟩ = some (.int .i64 x.f1) := (hb.cell (p := ⟨B, 1, none⟩) hB).trans h1
  have c2 : W.cell? ⟨B, 2, none⟩ = some (.string x.f2) := (hb.cell (p := ⟨B, 2, none⟩) hB).trans h2
  have hm := Aside0.mk (fun W' => past_meet.calls x.f0 x.f1 x.f2 y.f0 y.f1 y.f2 (meetE x y) W' (meet_f x y))
  have hu34 := Tryz.underlying91
  have HB := Aside0.mk hb
  have hBW : B < W.heap.size := Nat.lt_of_lt_of_le hB hb.size
  clear hb h0 h1 h2
  show Calls Tryz.prog 59 #[.agg #[.int .i64 y.f0, .int .i64 y.f1, .string y.f2], .pointer (some ⟨B, 0, none⟩)] W _
  go_enter Tryz.func59, Tryz.ntmps59
  go_wp2_with (go_at_call 60; refine (hm.out _).mono ?_; rintro e w2 ⟨rfl, hb2⟩)
  go_ret
  exact ⟨rfl, (HB.out.alloc HB.out.size _).trans (hb2.mono (by have := HB.out.size; simp; omega))⟩
theorem contains_meet (x : S91) (A1 : Option Addr) (c1 B : Nat) (l1 : List S91) (w : World) (hC : Kd.C k91 w A1 l1.length l1) (hB : B < w.heap.size) (h0 : w.cell? ⟨B, 0, none⟩ = some (.int .i64 x.f0)) (h1 : w.cell? ⟨B, 1, none⟩ = some (.int .i64 x.f1)) (h2 : w.cell? ⟨B, 2, none⟩ = some (.string x.f2)) (hl : l1.length ≤ 10000) :
    Calls Tryz.prog 58 #[.slice A1 l1.length c1, .func (.func 59) #[] #[.pointer (some ⟨B, 0, none⟩)]] w fun e w' => e = .returned (.bool (l1.any (meetE x))) ∧ Below w.heap.size w w' := by
  by_cases hp : l1.length = 0
  · obtain rfl := List.eq_nil_of_length_eq_zero hp
    exact contains_empty A1 c1 59 _ w
  · obtain ⟨b, o, rfl, hb, hc⟩ := C_addr34 hC (by omega)
    have eg : ∀ args w, (callFunc 59 args).run Tryz.prog w = .ok (.enter 59 args) w := enters_of Tryz.func59 (by kernel_rfl) rfl
    have h := AnyQ.slices_ContainsFunc Tryz.containsEd 3 isAgg34 sizeOf34 enc34 enc34_len (meetE x) 59 #[.pointer (some ⟨B, 0, none⟩)] eg b o l1.length c1 l1 w (meet_pred x B w hB h0 h1 h2) (Nat.le_refl _) (by omega) hb hc
    rw [List.take_length] at h
    exact h
/-- three texts merged: what it answers, but for the making of the edits -/
def past_Three.f (b a c : ByteArray) : Option (ByteArray × Int) :=
  if b.size ≤ 1000000000 ∧ a.size ≤ 1000000000 ∧ c.size ≤ 1000000000 then
    (if (editsR b a).2 ≠ 0 then some (⟨#[]⟩, (editsR b a).2) else if (editsR b c).2 ≠ 0 then some (⟨#[]⟩, (editsR b c).2)
     else if (editsR b a).1.any (fun i => (editsR b c).1.any (meetE i)) = true then some (⟨#[]⟩, 250)
     else if (mergeR b.size (editsR b a).1 (editsR b c).1).2 ≠ 0 then some (⟨#[]⟩, 250)
     else (text_Apply.f b (mergeR b.size (editsR b a).1 (editsR b c).1).1).bind fun q => some (if q.2 = 0 then (q.1, 0) else (⟨#[]⟩, q.2)))
  else none
theorem both_f (b a c : ByteArray) (hb : b.size ≤ 1000000000) (ha : a.size ≤ 1000000000) (hc : c.size ≤ 1000000000) (k : Nat) (hk : 5000000 ≤ k) :
    past_both.f k b a c = some (if (editsR b a).2 ≠ 0 then ([], [], (editsR b a).2) else if (editsR b c).2 ≠ 0 then ([], [], (editsR b c).2) else ((editsR b a).1, (editsR b c).1, 0)) := by
  unfold past_both.f
  rw [edits_f b a hb ha k hk, Option.bind_some]
  by_cases h1 : (editsR b a).2 = 0
  · rw [if_pos h1, if_neg (fun q => q h1), edits_f b c hb hc k hk, Option.bind_some]
    by_cases h2 : (editsR b c).2 = 0
    · rw [if_pos h2, if_neg (fun q => q h2)]
    · rw [if_neg h2, if_pos h2]
  · rw [if_neg h1, if_pos h1]
set_option maxHeartbeats 8000000 in
set_option maxRecDepth 100000 in
theorem past_Three.calls (b a c : ByteArray) (r1 : ByteArray) (r2 : Int) (w : World) (h : past_Three.f b a c = some (r1, r2)) :
    Calls Tryz.prog 38 #[.string b, .string a, .string c] w fun e w' => e = .returned (.tuple #[.string r1, .int .i64 r2]) ∧ Below w.heap.size w w' := by
  unfold past_Three.f at h
  by_cases hs : b.size ≤ 1000000000 ∧ a.size ≤ 1000000000 ∧ c.size ≤ 1000000000
  · rw [if_pos hs] at h
    have hb := both_f b a c hs.1 hs.2.1 hs.2.2 5000000 (Nat.le_refl _)
    have L1 := Aside0.mk (editsR_len b a)
    have L2 := Aside0.mk (editsR_len b c)
    by_cases h1 : (editsR b a).2 ≠ 0
    · rw [if_pos h1] at h hb
      have HB := Aside0.mk (past_both.calls 5000000 b a c _ _ _ w hb)
      have h' := Option.some.inj h
      have hr : r1 = ⟨#[]⟩ ∧ r2 = (editsR b a).2 := ⟨(congrArg Prod.fst h').symm, (congrArg Prod.snd h').symm⟩
      obtain ⟨rfl, rfl⟩ := hr
      clear h h' hb hs
      have b1 : ((editsR b a).2 != 0) = true := by simpa using h1
      have b2 : ((editsR b a).2 == 0) = false := by simpa using h1
      generalize (editsR b a).2 = fe at *
      clear h1
      go_enter Tryz.func38, Tryz.ntmps38
      go_wp2_with (go_at_call 57; refine HB.out.mono ?_; rintro e w2 ⟨v1, v2, rfl, -, -, hb⟩; have HB2 := Aside0.mk hb; clear hb HB)
      go_ret2
      exact ⟨rfl, HB2.out⟩
    · rw [if_neg h1] at h hb
      by_cases h2 : (editsR b c).2 ≠ 0
      · rw [if_pos h2] at h hb
        have HB := Aside0.mk (past_both.calls 5000000 b a c _ _ _ w hb)
        have h' := Option.some.inj h
        have hr : r1 = ⟨#[]⟩ ∧ r2 = (editsR b c).2 := ⟨(congrArg Prod.fst h').symm, (congrArg Prod.snd h').symm⟩
        obtain ⟨rfl, rfl⟩ := hr
        clear h h' hb hs h1
        have b1 : ((editsR b c).2 != 0) = true := by simpa using h2
        have b2 : ((editsR b c).2 == 0) = false := by simpa using h2
        generalize (editsR b c).2 = fe at *
        clear h2
        go_enter Tryz.func38, Tryz.ntmps38
        go_wp2_with (go_at_call 57; refine HB.out.mono ?_; rintro e w2 ⟨v1, v2, rfl, -, -, hb⟩; have HB2 := Aside0.mk hb; clear hb HB)
        go_ret2
        exact ⟨rfl, HB2.out⟩
      · rw [if_neg h2] at h hb
        have HB := Aside0.mk (past_both.calls 5000000 b a c _ _ _ w hb)
        have HBS := Aside0.mk hs
        clear hb h1 h2 hs
        generalize (editsR b a).1 = x at *
        generalize (editsR b c).1 = y at *
        have HH := Aside0.mk h
        clear h
        go_enter Tryz.func38, Tryz.ntmps38
        go_wp2_with (go_at_call 57; refine HB.out.mono ?_; rintro e w1 ⟨v1, v2, rfl, ho1, ho2, hb⟩; obtain ⟨A1, c1, rfl⟩ := Kd.R_slice ho1; obtain ⟨A2, c2, rfl⟩ := Kd.R_slice ho2; have HC1 := Aside0.mk (Kd.R_reads' ho1).2.2; have HL1 := Aside0.mk (Kd.R_reads' ho1).2.1; have HC2 := Aside0.mk (Kd.R_reads' ho2).2.2; have HL2 := Aside0.mk (Kd.R_reads' ho2).2.1; have HB2 := Aside0.mk hb; clear hb ho1 ho2 HB)
        go_loopg [28] (x.length + 1) (fun kq v28 w' => ∃ i : Nat, v28 = .int .i64 (i : Int) ∧ Aside0 (x.length - i < kq ∧ i ≤ x.length) ∧ Aside0 (Below w1.heap.size w1 w') ∧ Aside0 (∀ j, ∀ hj : j < x.length, j < i → y.any (meetE x[j]) = false))
        case atStart => exact ⟨0, rfl, ⟨by omega, by omega⟩, ⟨Below.refl _ _⟩, ⟨fun j hj h0 => by omega⟩⟩
        case round =>
          obtain ⟨i, rfl, HI, HBe, HN⟩ := hrel
          obtain ⟨k1, rfl⟩ : ∃ k1, gk = k1 + 1 := ⟨gk - 1, by have := HI.out.1; omega⟩
          by_cases hlt : i < x.length
          · have hb : decide ((i : Int) < (x.length : Int)) = true := by simp; omega
            have hb2 : decide ((0 : Int) ≤ (i : Int)) = true := by simp
            have p0 : (0 : Int) ≤ (i : Int) := by omega
            have q0 : (i : Int) < (x.length : Int) := by omega
            obtain ⟨ad, e0, hx0, hx1, hx2⟩ := at_T91 (Kd.C_below HC1.out HBe.out) (i : Int) p0 q0
            cases e0
            rw [Int.toNat_natCast] at hx0 hx1 hx2
            rw [rd34_at x i hlt] at hx0 hx1 hx2
            have HM : Aside0 (x.any (fun i => y.any (meetE i)) = true ∨ y.any (meetE x[i]) = false) := ⟨by
              cases hq : y.any (meetE x[i]) with
              | true => exact Or.inl (List.any_eq_true.2 ⟨x[i], List.getElem_mem hlt, hq⟩)
              | false => exact Or.inr rfl⟩
            have HN2 : Aside0 (y.any (meetE x[i]) = false → ∀ j, ∀ hj : j < x.length, j < i + 1 → y.any (meetE x[j]) = false) := ⟨fun hq j hj h0 => by
              by_cases e : j = i
              · subst e; exact hq
              · exact HN.out j hj (by omega)⟩
            have H24 := Aside0.mk (fun (w' : World) (h1 : Below w1.heap.size w1 w') (B : Nat) (h2 : B < w'.heap.size) (h3 : w'.cell? ⟨B, 0, none⟩ = some (.int .i64 x[i].f0)) (h4 : w'.cell? ⟨B, 1, none⟩ = some (.int .i64 x[i].f1)) (h5 : w'.cell? ⟨B, 2, none⟩ = some (.string x[i].f2)) =>
              contains_meet x[i] A2 c2 B y w' (Kd.C_below HC2.out h1) h2 h3 h4 h5 (by have := L2.out; omega))
            generalize x[i] = xi at *
            cases hq : y.any (meetE xi) with
            | true =>
              rw [hq] at H24
              have HR := HH.out
              rw [if_pos (by rcases HM.out with q | q; exact q; rw [hq] at q; cases q)] at HR
              have h' := Option.some.inj HR
              have hr : r1 = ⟨#[]⟩ ∧ r2 = 250 := ⟨(congrArg Prod.fst h').symm, (congrArg Prod.snd h').symm⟩
              obtain ⟨rfl, rfl⟩ := hr
              clear HR h' HH HM HN2 hq
              go_wp2_with (go_at_call 58; refine (H24.out _ ?za _ ?zb ?zc ?zd ?ze).mono ?_; (case za => exact HBe.out.alloc HBe.out.size _); (case zb => simp); (case zc => simp); (case zd => simp); (case ze => simp); rintro e w5 ⟨rfl, hb⟩; have HB5 := Aside0.mk ((HBe.out.alloc HBe.out.size (.cells #[.int .i64 xi.f0, .int .i64 xi.f1, .string xi.f2] 91)).trans (hb.mono (by have := HBe.out.size; simp; omega))); clear hb)
              go_ret2
              exact ⟨rfl, HB2.out.trans (HB5.out.mono HB2.out.size)⟩
            | false =>
              rw [hq] at H24
              have HN3 := Aside0.mk (HN2.out hq)
              clear HM HN2 hq
              go_wp2_with (go_at_call 58; refine (H24.out _ ?za _ ?zb ?zc ?zd ?ze).mono ?_; (case za => exact HBe.out.alloc HBe.out.size _); (case zb => simp); (case zc => simp); (case zd => simp); (case ze => simp); rintro e w5 ⟨rfl, hb⟩; have HB5 := Aside0.mk ((HBe.out.alloc HBe.out.size (.cells #[.int .i64 xi.f0, .int .i64 xi.f1, .string xi.f2] 91)).trans (hb.mono (by have := HBe.out.size; simp; omega))); clear hb)
              go_roundg k1
              case measure => have := HI.out.1; omega
              case rel => exact ⟨i + 1, congrArg (Value.int .i64) (nx i (by have := L1.out; omega)), ⟨by have := HI.out.1; omega, by omega⟩, HB5, HN3⟩
          · have hb : decide ((i : Int) < (x.length : Int)) = false := by simp; omega
            have hany : x.any (fun i => y.any (meetE i)) = false := by
              rw [List.any_eq_false]
              intro z hz
              obtain ⟨j, hj, rfl⟩ := List.mem_iff_getElem.1 hz
              rw [HN.out j hj (by omega)]; decide
            have HR := HH.out
            rw [if_neg (by rw [hany]; decide)] at HR
            have HWB := Aside0.mk (HB2.out.trans (HBe.out.mono HB2.out.size))
            have H27 := Aside0.mk (text_Merge.calls b A1 c1 x A2 c2 y (mergeR b.size x y).1 (mergeR b.size x y).2 wr (Kd.C_below HC1.out HBe.out) HL1.out (Kd.C_below HC2.out HBe.out) HL2.out (by unfold text_Merge.f; rw [if_pos (by have := L1.out; have := L2.out; omega)]))
            clear HH HN hany
            by_cases hm : (mergeR b.size x y).2 ≠ 0
            · rw [if_pos hm] at HR
              have h' := Option.some.inj HR
              have hr : r1 = ⟨#[]⟩ ∧ r2 = 250 := ⟨(congrArg Prod.fst h').symm, (congrArg Prod.snd h').symm⟩
              obtain ⟨rfl, rfl⟩ := hr
              clear HR h'
              have b1 : ((mergeR b.size x y).2 != 0) = true := by simpa using hm
              have b2 : ((mergeR b.size x y).2 == 0) = false := by simpa using hm
              generalize (mergeR b.size x y).2 = fe at *
              generalize (mergeR b.size x y).1 = ml at *
              clear hm
              go_wp2_with (go_at_call 61; refine H27.out.mono ?_; rintro e w5 ⟨v5, rfl, -, hb⟩; have HB5 := Aside0.mk (HWB.out.trans (hb.mono HWB.out.size)); clear hb H27)
              go_ret2
              exact ⟨rfl, HB5.out⟩
            · rw [if_neg hm] at HR
              have hm0 : (mergeR b.size x y).2 = 0 := Classical.not_not.1 hm
              rw [hm0] at H27
              generalize (mergeR b.size x y).1 = ml at *
              clear hm hm0
              obtain ⟨q, hq1, hq2⟩ := Option.bind_eq_some_iff.1 HR
              obtain ⟨s, e⟩ := q
              have H28 := Aside0.mk (fun A c w5 (h3 : Kd.C k91 w5 A ml.length ml) (h4 : ml.length ≤ c) => text_Apply.calls b A c ml s e w5 h3 h4 hq1)
              have h' := Option.some.inj hq2
              clear HR hq1 hq2
              by_cases he : e = 0
              · subst he
                rw [if_pos rfl] at h'
                have hr : r1 = s ∧ r2 = 0 := ⟨(congrArg Prod.fst h').symm, (congrArg Prod.snd h').symm⟩
                obtain ⟨rfl, rfl⟩ := hr
                clear h'
                go_wp2_with (first
                  | (go_at_call 61; refine H27.out.mono ?_; rintro e w5 ⟨v5, rfl, ho, hb⟩; obtain ⟨A5, c5, rfl⟩ := Kd.R_slice ho; have HC5 := Aside0.mk (Kd.R_reads' ho).2.2; have HL5 := Aside0.mk (Kd.R_reads' ho).2.1; have HB5 := Aside0.mk (HWB.out.trans (hb.mono HWB.out.size)); clear hb H27 ho)
                  | (go_at_call 62; refine (H28.out _ _ _ HC5.out HL5.out).mono ?_; rintro e w6 ⟨rfl, hb⟩; have HB6 := Aside0.mk (HB5.out.trans (hb.mono HB5.out.size)); clear hb H28))
                go_ret2
                exact ⟨rfl, HB6.out⟩
              · have he' : ¬ ((s, e) : ByteArray × Int).2 = 0 := he
                rw [if_neg he'] at h'
                have hr : r1 = ⟨#[]⟩ ∧ r2 = e := ⟨(congrArg Prod.fst h').symm, (congrArg Prod.snd h').symm⟩
                obtain ⟨rfl, rfl⟩ := hr
                clear h'
                have b1 : (r2 != 0) = true := by simpa using he
                have b2 : (r2 == 0) = false := by simpa using he
                clear he he'
                go_wp2_with (first
                  | (go_at_call 61; refine H27.out.mono ?_; rintro e w5 ⟨v5, rfl, ho, hb⟩; obtain ⟨A5, c5, rfl⟩ := Kd.R_slice ho; have HC5 := Aside0.mk (Kd.R_reads' ho).2.2; have HL5 := Aside0.mk (Kd.R_reads' ho).2.1; have HB5 := Aside0.mk (HWB.out.trans (hb.mono HWB.out.size)); clear hb H27 ho)
                  | (go_at_call 62; refine (H28.out _ _ _ HC5.out HL5.out).mono ?_; rintro e w6 ⟨rfl, hb⟩; have HB6 := Aside0.mk (HB5.out.trans (hb.mono HB5.out.size)); clear hb H28))
                go_ret2
                exact ⟨rfl, HB6.out⟩
  · rw [if_neg hs] at h; cases h
end Go.Proofs.YthimblhfjfngiaaGreat.PText

namespace Go.Proofs.YthimblhfjfngiaaGreat.PText
open Go.RowKit Go.Lib Go.Sort Go.Proofs.YthimblhfjfngiaaGreatW.PrintWords Go.Proofs.YthimblhfjfngiaaGreatW.PrintLast Go.Proofs.YthimblhfjfngiaaGreatW.PrintMore
set_option linter.unusedVariables false
set_option linter.unusedSimpArgs false
theorem edits_k (a b : ByteArray) (r : List S91 × Int) (k : Nat) (hk : k ≤ 5000000) (h : text_Edits.f k a b = some r) : text_Edits.f 5000000 a b = some r := at_rounds (text_Edits.mono a b) hk h
theorem editsR_k (a b : ByteArray) (r : List S91 × Int) (k : Nat) (hk : k ≤ 5000000) (ha : a.size ≤ 1000000000) (hb : b.size ≤ 1000000000) (h : text_Edits.f k a b = some r) : editsR a b = r :=
  Option.some.inj ((edits_f a b ha hb 5000000 (Nat.le_refl _)).symm.trans (edits_k a b r k hk h))
def awA : ByteArray := ⟨#[97, 10, 98, 10, 99, 10]⟩
def awB : ByteArray := ⟨#[120, 10, 98, 10, 99, 10]⟩
def awC : ByteArray := ⟨#[97, 10, 98, 10, 121, 10]⟩
def awR : ByteArray := ⟨#[120, 10, 98, 10, 121, 10]⟩
theorem aw_e1 : text_Edits.f 60 awA awB = some ([⟨0, 2, ⟨#[120, 10]⟩⟩], 0) := by kernel_rfl
theorem aw_e2 : text_Edits.f 60 awA awC = some ([⟨4, 6, ⟨#[121, 10]⟩⟩], 0) := by kernel_rfl
theorem aw_e0 : text_Edits.f 60 ⟨#[]⟩ ⟨#[97, 10]⟩ = some ([⟨0, 0, ⟨#[97, 10]⟩⟩], 0) := by kernel_rfl
theorem aw_mg : mergeR 6 [⟨0, 2, ⟨#[120, 10]⟩⟩] [⟨4, 6, ⟨#[121, 10]⟩⟩] = ([⟨0, 2, ⟨#[120, 10]⟩⟩, ⟨4, 6, ⟨#[121, 10]⟩⟩], 0) := by kernel_rfl
theorem aw_ap : text_Apply.f awA [⟨0, 2, ⟨#[120, 10]⟩⟩, ⟨4, 6, ⟨#[121, 10]⟩⟩] = some (awR, 0) := by kernel_rfl
theorem aw_three : past_Three.f awA awB awC = some (awR, 0) := by
  have s1 : awA.size = 6 := rfl
  have s2 : awB.size = 6 := rfl
  have s3 : awC.size = 6 := rfl
  have h1 := editsR_k awA awB _ 60 (by omega) (by omega) (by omega) aw_e1
  have h2 := editsR_k awA awC _ 60 (by omega) (by omega) (by omega) aw_e2
  unfold past_Three.f
  rw [if_pos ⟨by omega, by omega, by omega⟩, h1, h2, s1, aw_mg]
  rw [if_neg (by decide), if_neg (by decide), if_neg (by decide), if_neg (by decide), aw_ap, Option.bind_some]
  rfl
theorem aw_put : putL [⟨0, 0, ⟨#[97, 10]⟩⟩] 0 = [0] := by kernel_rfl
def awF : S41 := ⟨⟨#[102]⟩, ⟨#[97, 10]⟩⟩
theorem aw_commit : commitR [] ⟨#[111, 110, 101]⟩ [awF] = (0, 0, [⟨⟨#[111, 110, 101]⟩, [awF]⟩]) := by
  have h : srtF [awF] = [awF] := by kernel_rfl
  unfold commitR
  rw [if_neg (by decide), if_neg (fun q => q (show ([_] : List _).Nodup by simp)), if_neg (by rintro ⟨x, hx, e⟩; rcases List.mem_cons.1 hx with rfl | h; exact absurd e (by rw [show awF.f0.toList = [102] by kernel_rfl]; decide); cases h), h]
  rfl
theorem aw_find : findR [awF] ⟨#[102]⟩ = (⟨#[97, 10]⟩, true) := by kernel_rfl
def smockinglaw25_awake.f : Option Bool := some true
theorem file_row (w : World) : Kd.C k41 (w.alloc (.cells #[.string ⟨#[102]⟩, .string ⟨#[97, 10]⟩] 41)) (some ⟨w.heap.size, 0, none⟩) 1 [awF] := by
  refine ⟨rfl, by simp, fun _ => ⟨⟨w.heap.size, 0, none⟩, rfl, fun j t hj => ?_⟩⟩
  have hj0 : j = 0 := by
    rcases Nat.eq_zero_or_pos j with h | h
    · exact h
    · rw [List.getElem?_eq_none (by simp; omega)] at hj; cases hj
  subst hj0
  cases Option.some.inj hj
  refine ⟨[.string ⟨#[102]⟩, .string ⟨#[97, 10]⟩], rfl, k41_mk _ _, fun i u hu => ?_⟩
  have hi : (w.alloc (.cells #[.string ⟨#[102]⟩, .string ⟨#[97, 10]⟩] 41)).cell? ⟨w.heap.size, i, none⟩ = some u := by
    unfold World.cell?
    simp only [heap_nw]
    match i, hu with
    | 0, hu => exact hu
    | 1, hu => exact hu
    | i + 2, hu => simp at hu
  have e : (Addr.add ⟨w.heap.size, 0, none⟩ (0 * k41.sz + i)) = (⟨w.heap.size, i, none⟩ : Addr) := by unfold Addr.add; simp; exact fun q => q.symm
  rw [e]
  exact hi
theorem int_row (w : World) (k : Int) : Kd.C (Kd.int .i64) (w.alloc (.cells #[.int .i64 k] 3)) (some ⟨w.heap.size, 0, none⟩) 1 [k] := by
  refine ⟨rfl, by simp, fun _ => ⟨⟨w.heap.size, 0, none⟩, rfl, fun j t hj => ?_⟩⟩
  have hj0 : j = 0 := by
    rcases Nat.eq_zero_or_pos j with h | h
    · exact h
    · rw [List.getElem?_eq_none (by simp; omega)] at hj; cases hj
  subst hj0
  cases Option.some.inj hj
  refine ⟨[.int .i64 k], rfl, rfl, fun i u hu => ?_⟩
  have hi : (w.alloc (.cells #[.int .i64 k] 3)).cell? ⟨w.heap.size, i, none⟩ = some u := by
    unfold World.cell?
    simp only [heap_nw]
    match i, hu with
    | 0, hu => exact hu
    | i + 1, hu => simp at hu
  have e : (Addr.add ⟨w.heap.size, 0, none⟩ (0 * (Kd.int .i64).sz + i)) = (⟨w.heap.size, i, none⟩ : Addr) := by unfold Addr.add; simp; exact fun q => q.symm
  rw [e]
  exact hi
theorem aw_ints : rf0_EqInts.f 10 [0] [0] = some true := by kernel_rfl
set_option maxRecDepth 100000 in
set_option maxHeartbeats 4000000 in
theorem smockinglaw25_awake.calls (r : Bool) (w : World) (h : smockinglaw25_awake.f = some r) : Calls Tryz.prog 14 #[] w fun e w' => e = .returned (.bool r) ∧ Below w.heap.size w w' := by
  cases Option.some.inj h
  have H3 := Aside0.mk (fun w => past_Three.calls awA awB awC _ _ w aw_three)
  have HBL := Aside0.mk (fun base p w hP => blame_one base p ⟨⟨#[111, 110, 101]⟩, [awF]⟩ ⟨#[102]⟩ _ _ w hP (by simp) aw_find (edits_k _ _ _ 60 (by omega) aw_e0) (by
    intro x hx
    rcases List.mem_cons.1 hx with rfl | h
    · exact ⟨rfl, rfl, by show 2 ≤ 1000000000; omega⟩
    · cases h) (by simp) (by rw [aw_put]; simp))
  unfold awA awB awC awR at H3
  go_enter Tryz.func14, Tryz.ntmps14
  go_wp2_with (first
    | (go_at_call 38; refine (H3.out _).mono ?_; rintro e w1 ⟨rfl, hb⟩; have HB1 := Aside0.mk hb; clear hb H3)
    | (go_at_call 26; refine (new_calls _).mono ?_; rintro e w2 ⟨rfl, hp, hb, hk⟩; have HP2 := Aside0.mk hp; have HB2 := Aside0.mk (below_step HB1.out hb); have HBB := Aside0.mk hb.size; clear hp hb hk)
    | (go_at_call 25; refine (commit_calls w1.heap.size w1.heap.size [] ⟨#[111, 110, 101]⟩ (some ⟨w2.heap.size, 0, none⟩) 1 [awF] _ (HP2.out.below (Below.alloc (Below.refl _ w2) (Nat.le_refl _) _)) (file_row w2) (by simp) (by simp) (by have := HBB.out; simp; omega)).mono ?_; rintro e w3 ⟨rfl, hp, hb, hk⟩; rw [aw_commit] at hp; have HP3 := Aside0.mk hp; have HB3 := Aside0.mk ((HB2.out.alloc HB2.out.size _).trans (hb.mono HB1.out.size)); clear hp hb hk; rw [aw_commit])
    | (go_at_call 9; refine (HBL.out w1.heap.size w1.heap.size w3 HP3.out).mono ?_; rintro e w4 ⟨v4, rfl, ho, hb⟩; rw [aw_put] at ho; obtain ⟨A4, c4, rfl⟩ := Kd.R_slice ho; have HO4 := Aside0.mk (Kd.R_reads' ho); have HB4 := Aside0.mk (below_step HB3.out hb); clear ho hb)
    | (go_at_call 13; refine (rf0_EqInts.calls 10 A4 c4 [0] (some ⟨w4.heap.size, 0, none⟩) 1 [0] true _ (Kd.C_alloc HO4.out.2.2 _) HO4.out.2.1 (int_row w4 0) (by simp) aw_ints).mono ?_; rintro e w5 ⟨rfl, hd⟩; have HD5 := Aside0.mk hd; clear hd))
  go_ret
  exact ⟨rfl, (HB4.out.alloc HB4.out.size _).trans (HD5.out.below.mono (by have := HB4.out.size; simp; omega))⟩
end Go.Proofs.YthimblhfjfngiaaGreat.PText

namespace Go.Proofs.YthimblhfjfngiaaGreat.PText
open Go.RowKit Go.Lib Go.Sort Go.Proofs.YthimblhfjfngiaaGreatW.PrintWords Go.Proofs.YthimblhfjfngiaaGreatW.PrintLast Go.Proofs.YthimblhfjfngiaaGreatW.PrintMore
set_option linter.unusedVariables false
set_option linter.unusedSimpArgs false
set_option maxRecDepth 100000
theorem nil_commit (name : ByteArray) (w : World) : Calls Tryz.prog 25 #[.pointer none, .string name, .slice none 0 0] w fun e w' => e = .returned (.tuple #[.int .i64 0, .int .i64 3]) ∧ w = w' := by
  go_enter Tryz.func25, Tryz.ntmps25
  go_wp2
  go_ret2
  exact ⟨rfl, rfl⟩
theorem nil_at (k : Int) (w : World) : Calls Tryz.prog 21 #[.pointer none, .int .i64 k] w fun e w' => e = .returned (.tuple #[.slice none 0 0, .int .i64 3]) ∧ w = w' := by
  go_enter Tryz.func21, Tryz.ntmps21
  go_wp2
  go_ret2
  exact ⟨rfl, rfl⟩
theorem nil_blame (file : ByteArray) (w : World) : Calls Tryz.prog 9 #[.pointer none, .string file] w fun e w' => e = .returned (.tuple #[.slice none 0 0, .int .i64 3]) ∧ w = w' := by
  go_enter Tryz.func9, Tryz.ntmps9
  go_wp2
  go_ret2
  exact ⟨rfl, rfl⟩
theorem nil_changed (k : Int) (w : World) : Calls Tryz.prog 23 #[.pointer none, .int .i64 k] w fun e w' => e = .returned (.tuple #[.slice none 0 0, .int .i64 3]) ∧ w = w' := by
  go_enter Tryz.func23, Tryz.ntmps23
  go_wp2
  go_ret2
  exact ⟨rfl, rfl⟩
theorem nil_rebase (k : Int) (w : World) : Calls Tryz.prog 15 #[.pointer none, .int .i64 k, .slice none 0 0] w fun e w' => e = .returned (.tuple #[.slice none 0 0, .int .i64 3]) ∧ w = w' := by
  go_enter Tryz.func15, Tryz.ntmps15
  go_wp2
  go_ret2
  exact ⟨rfl, rfl⟩
theorem nil_find (file line : ByteArray) (w : World) : Calls Tryz.prog 11 #[.pointer none, .string file, .string line] w fun e w' => e = .returned (.tuple #[.int .i64 0, .int .i64 3]) ∧ w = w' := by
  go_enter Tryz.func11, Tryz.ntmps11
  go_wp2
  go_ret2
  exact ⟨rfl, rfl⟩
theorem nil_names (w : World) : Calls Tryz.prog 19 #[.pointer none] w fun e w' => e = .returned (.slice none 0 0) ∧ w = w' := by
  go_enter Tryz.func19, Tryz.ntmps19
  go_wp2
  go_ret
  exact ⟨rfl, rfl⟩
set_option maxHeartbeats 4000000 in
theorem pnil_calls (k : Int) (file : ByteArray) (w : World) : Calls Tryz.prog 6 #[.int .i64 k, .string file] w fun e w' => e = .returned (.bool true) ∧ Below w.heap.size w w' := by
  have HAW : Aside0 (∀ w, Calls Tryz.prog 14 #[] w fun e w' => e = .returned (.bool true) ∧ Below w.heap.size w w') := ⟨fun w => smockinglaw25_awake.calls true w rfl⟩
  go_enter Tryz.func6, Tryz.ntmps6
  go_wp2_with (first
    | (go_at_call 25; refine (nil_commit _ _).mono ?_; rintro e w' ⟨rfl, rfl⟩)
    | (go_at_call 21; refine (nil_at _ _).mono ?_; rintro e w' ⟨rfl, rfl⟩)
    | (go_at_call 9; refine (nil_blame _ _).mono ?_; rintro e w' ⟨rfl, rfl⟩)
    | (go_at_call 23; refine (nil_changed _ _).mono ?_; rintro e w' ⟨rfl, rfl⟩)
    | (go_at_call 15; refine (nil_rebase _ _).mono ?_; rintro e w' ⟨rfl, rfl⟩)
    | (go_at_call 11; refine (nil_find _ _ _).mono ?_; rintro e w' ⟨rfl, rfl⟩)
    | (go_at_call 19; refine (nil_names _).mono ?_; rintro e w' ⟨rfl, rfl⟩)
    | (go_at_call 14; refine (HAW.out _).mono ?_; rintro e w' ⟨rfl, hb⟩; have HB := Aside0.mk hb; clear hb)
    | fail)
  go_ret
  exact ⟨rfl, HB.out⟩
end Go.Proofs.YthimblhfjfngiaaGreat.PText

namespace Go.Proofs.YthimblhfjfngiaaGreat.pastNil
open Go.ChangeShapes Go.WideShapes Go.ChangeAt Go.RowKit
open Go.ChangeMaps (open_string shut_string)
theorem own : ownKnob Tryz.prog.godebug = none := by kernel_rfl
theorem no_laid (P : Program) (w : World) : laidMet P [] w := ⟨[], rfl, List.nodup_nil, fun _ _ h => by cases h⟩
set_option maxRecDepth 100000 in
theorem contract (H : Type) (enc : TypeId × Value → H) (W : World) (base : Nat) (args : Array Value) (ds gs : List (DataW H)) (before : List MemPlace)
    (hval : ∀ (j : Nat) t v, Tryz.f6.params[j]? = some t → args[j]? = some v → Value.okWide Tryz.prog W .any base t v)
    (hW : DataW.Whole enc Tryz.prog Tryz.f6.params.toList Rows.pastNilSpec.vars false W args.toList ds gs before) :
    Calls Tryz.prog 6 args W fun e W' => ∃ v, e = .returned v ∧ Rows.pastNilSpec.post enc Tryz.prog Tryz.f6 false true false false W args v W' := by
  have hW' := hW
  obtain ⟨p, q, hA0, hV, rfl, hfz, hnd⟩ := hW
  have hA : DataW.TrodAll enc Tryz.prog W 0 (fun _ => true) true Tryz.f6.params.toList args.toList ds p := hA0
  rw [Tryz.params6] at hA hval
  obtain ⟨v0, vs0, d0, ds0, p0, q0, hargs, rfl, rfl, h0, r0⟩ := trodAll_cons hA
  obtain ⟨v1, vs1, d1, ds1, p1, q1, rfl, rfl, rfl, h1, r1⟩ := trodAll_cons r0
  obtain ⟨rfl, rfl, rfl⟩ := trodAll_nil r1
  obtain rfl : args = #[v0, v1] := by cases args; simp_all
  obtain ⟨rfl, rfl⟩ := trodVars_none hV
  obtain ⟨a0, rfl, rfl, rfl, y0⟩ := open_int Tryz.underlying3 (hval 0 3 v0 rfl rfl) h0
  obtain ⟨a1, rfl, rfl, rfl, y1⟩ := open_string Tryz.underlying9 (hval 1 9 v1 rfl rfl) h1
  clear hA0
  refine (PText.pnil_calls a0 a1 W).mono fun e W' ⟨he, bel⟩ => ?_
  subst he
  exact ⟨_, rfl, _, _, _, [], _, [], hW', trodAll_mk1 (shut_bool Tryz.underlying4 _), (trodAll_cons_mk (shut_int Tryz.underlying3 y0) (trodAll_cons_mk (shut_string Tryz.underlying9 y1) trodAll_mk0)), rfl, bel.frame _, fun h => by cases h⟩
theorem reads (os : Os) {H : Type} (enc : TypeId × Value → H) : ∃ places, DataW.whole enc Tryz.prog ((World.holding Tryz.prog os ⟨#[], #[], []⟩).forCall (fun _ _ => 0) ⟨#[], #[.int .i64 0, .string ⟨#[]⟩], []⟩).memory Tryz.f6.params.toList Rows.pastNilSpec.vars false #[Value.int .i64 0, Value.string ⟨#[]⟩].toList 8 = some ([.lit (.int .i64 0), .lit (.string [])], [], places) :=
  ⟨[], by kernel_rfl⟩
set_option maxRecDepth 100000 in
theorem lifted (os : Os) (started : os.Started) (H : Type) (enc : TypeId × Value → H) (F : Stop.Interp) :
    ReturnsInHanded {} Tryz.checked os 6 .any ((OpenSpec.ofChange Rows.pastNilSpec).preRow enc Tryz.prog Tryz.f6 Rows.pastNilRow.domain false Rows.pastNilRow.laid) (((OpenSpec.ofChange Rows.pastNilSpec).at F).post enc Tryz.prog Tryz.f6 false true false false) := by
  obtain ⟨places, hx⟩ := reads os enc
  refine returnsInHanded_of_row (C := Tryz.checked) (s := OpenSpec.ofChange Rows.pastNilSpec) own started (by kernel_rfl) Tryz.func6
    (witness_row_atRef (enc := enc) (C := Tryz.checked) false (World.holding Tryz.prog os ⟨#[], #[], []⟩) #[.int .i64 0, .string ⟨#[]⟩] rfl (by kernel_rfl) (by kernel_rfl) (by kernel_rfl)
      (OpenSpec.preRow_of_cond 8 hx (by kernel_rfl) (fun k hk => by cases hk) (by kernel_rfl) (no_laid _ _))) ?_
  intro W base args ds gs before hval hW _ _ _ _ _ _
  exact contract H enc W base args ds gs before hval hW
theorem said : Rows.PastNilSaid :=
  OpenClaim.holds_of_cond 6 Tryz.f6 rfl rfl rfl rfl rfl rfl rfl ⟨rfl, rfl, rfl, rfl, rfl⟩ rfl rfl rfl rfl rfl (by kernel_rfl) Tryz.func6 (by kernel_rfl)
    (of_decide_eq_true (by kernel_rfl)) (by unfold Func.isWrapper; first | (rw [if_pos (by decide +kernel)]; kernel_rfl) | (rw [if_neg (by decide +kernel)]; exact ⟨rfl, rfl⟩))
    (fun os started H enc _ F => by rw [OpenClaim.pre_eq_preRow]; exact lifted os started H enc F)
end Go.Proofs.YthimblhfjfngiaaGreat.pastNil
namespace Go.Proofs.YthimblhfjfngiaaGreat
theorem pastNil_said : Rows.PastNilSaid := pastNil.said
end Go.Proofs.YthimblhfjfngiaaGreat

namespace Go.Proofs.YthimblhfjfngiaaGreat
#print axioms pastNil_said
end Go.Proofs.YthimblhfjfngiaaGreat
