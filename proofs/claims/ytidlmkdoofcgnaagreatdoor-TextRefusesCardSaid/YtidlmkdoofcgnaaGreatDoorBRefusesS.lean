/- TextRefuses holds: for every two texts the statement answers true, where the seven listed package variables hold what the program's text lays. Part 19 of 21. -/
import Derived.Test.YtidlmkdoofcgnaaGreatDoorBRefusesR
import Derived.Laws.ResultCell
namespace Go.Proofs.YtidlmkdoofcgnaaGreatDoor.PText
open Go.RowKit Go.Proofs.YtidlmkdoofcgnaaGreatDoorW.PrintWords Go.Proofs.YtidlmkdoofcgnaaGreatDoorW.PrintLast Go.Proofs.YtidlmkdoofcgnaaGreatDoorW.PrintMore
attribute [local go_sem] max2_int min2_int max_two min_two max_three min_three max_four min_four   -- for this text's walks alone
set_option linter.unusedVariables false
set_option linter.unusedSimpArgs false

def text_sized.j0 : Nat → Int → List ByteArray → List ByteArray → Bool → Option ((List (S66)) × Int)
 | 0, _, _, _, _ => none
 | k + 1, x2, x8, x9, x14 => if x14 = true then (some (([] : List (S66)), 2)) else (if x2 < 0 then (some (([] : List (S66)), 1)) else (if x2 > 20 then (some (([] : List (S66)), 1)) else ((text_steps.f k x8 x9).bind fun t167 => (some (t167, 0)))))
def text_sized.f (k : Nat) (a0 : ByteArray) (a1 : ByteArray) (a2 : Int) : Option ((List (S66)) × Int) := (text_Lines.f a0).bind fun t161 => ((text_Lines.f a1).bind fun t164 => (if (a0.size : Int) > 200000 then (text_sized.j0 k a2 t161 t164 true) else (if (a1.size : Int) > 200000 then (text_sized.j0 k a2 t161 t164 true) else (if (t161.length : Int) > 2000 then (text_sized.j0 k a2 t161 t164 true) else (text_sized.j0 k a2 t161 t164 (decide ((t164.length : Int) > 2000)))))))
set_option maxHeartbeats 8000000 in
set_option maxRecDepth 100000 in
theorem text_sized.calls (k : Nat) (a0 : ByteArray) (a1 : ByteArray) (a2 : Int) (r1 : List (S66)) (r2 : Int) (w : World) (h : text_sized.f k a0 a1 a2 = some (r1, r2)) :
  Calls Tryz.prog 39 #[.string a0, .string a1, .int .i64 a2] w fun e w' => ∃ v0_ : Value, e = .returned (.tuple #[v0_, .int .i64 r2]) ∧ Kd.R k66 66 w' w.heap.size (fun _ => True) v0_ r1 ∧ Below w.heap.size w w' := by
 have HB := Aside0.mk (Below.refl w.heap.size w)
 have H : ((text_Lines.f a0).bind fun t161 => ((text_Lines.f a1).bind fun t164 => (if (a0.size : Int) > 200000 then (text_sized.j0 k a2 t161 t164 true) else (if (a1.size : Int) > 200000 then (text_sized.j0 k a2 t161 t164 true) else (if (t161.length : Int) > 2000 then (text_sized.j0 k a2 t161 t164 true) else (text_sized.j0 k a2 t161 t164 (decide ((t164.length : Int) > 2000)))))))) = some (r1, r2) := h
 clear h
 replace H := Option.bind_eq_some_iff.mp H
 obtain ⟨t161, A40, H⟩ := H
 replace H : ((text_Lines.f a1).bind fun t164 => (if (a0.size : Int) > 200000 then (text_sized.j0 k a2 t161 t164 true) else (if (a1.size : Int) > 200000 then (text_sized.j0 k a2 t161 t164 true) else (if (t161.length : Int) > 2000 then (text_sized.j0 k a2 t161 t164 true) else (text_sized.j0 k a2 t161 t164 (decide ((t164.length : Int) > 2000))))))) = some (r1, r2) := H
 have A4 := Aside0.mk A40
 clear A40
 replace H := Option.bind_eq_some_iff.mp H
 obtain ⟨t164, A50, H⟩ := H
 replace H : (if (a0.size : Int) > 200000 then (text_sized.j0 k a2 t161 t164 true) else (if (a1.size : Int) > 200000 then (text_sized.j0 k a2 t161 t164 true) else (if (t161.length : Int) > 2000 then (text_sized.j0 k a2 t161 t164 true) else (text_sized.j0 k a2 t161 t164 (decide ((t164.length : Int) > 2000)))))) = some (r1, r2) := H
 have A5 := Aside0.mk A50
 clear A50
 have HC6 := Aside0.mk H
 clear H
 go_enter Tryz.func39, Tryz.ntmps39
 go_upto_region 2 with (first | ((with_reducible refine gate_callee (f := 32) rfl ?_); refine goesL_ (some 11) rfl rfl Tryz.func32 (by kernel_rfl) rfl #[.string a0] rfl (by (try simp only [List.map_toArray, List.map_cons, List.map_nil]); first | done | rfl | (simp only [List.length_drop, List.length_take]; rfl)) ?_; (with_reducible refine (text_Lines.calls a0 t161 _ A4.out).mono ?_); rintro e w7 ⟨v162, rfl, ho0, hb⟩; refine ⟨_, rfl, ?_⟩; have n0_ := Aside0.mk (Kd.R_lower ho0 (below_size (by repeat (with_reducible first | exact HB.out | apply below_alloc | apply pw_below_drewN | apply below_drew1)))); have n1_ := Aside0.mk (below_step (by repeat (with_reducible first | exact HB.out | apply below_alloc | apply pw_below_drewN | apply below_drew1)) hb); clear HB; have HO163 := n0_; have HB := n1_; clear n0_ n1_; (try clear hb); (try clear hb2); (try clear hk); (try clear hi); (try clear ho0)) | ((with_reducible refine gate_callee (f := 32) rfl ?_); refine goesL_ (some 13) rfl rfl Tryz.func32 (by kernel_rfl) rfl #[.string a1] rfl (by (try simp only [List.map_toArray, List.map_cons, List.map_nil]); first | done | rfl | (simp only [List.length_drop, List.length_take]; rfl)) ?_; (with_reducible refine (text_Lines.calls a1 t164 _ A5.out).mono ?_); rintro e w8 ⟨v165, rfl, ho0, hb⟩; refine ⟨_, rfl, ?_⟩; have n0_ := Aside0.mk (Kd.R_elder' (by (with_reducible repeat (first | apply Kd.R_alloc | apply Kd.R_drewN | apply Kd.R_drew)); exact HO163.out) (Kd.R_base ho0) hb); have n1_ := Aside0.mk (Kd.R_lower (Kd.R_new' ho0 (Kd.R_lt (by (with_reducible repeat (first | apply Kd.R_alloc | apply Kd.R_drewN | apply Kd.R_drew)); exact HO163.out))) (below_size (by repeat (with_reducible first | exact HB.out | apply below_alloc | apply pw_below_drewN | apply below_drew1)))); have n2_ := Aside0.mk (below_step (by repeat (with_reducible first | exact HB.out | apply below_alloc | apply pw_below_drewN | apply below_drew1)) hb); clear HO163; clear HB; have HO163 := n0_; have HO166 := n1_; have HB := n2_; clear n0_ n1_ n2_; (try clear hb); (try clear hb2); (try clear hk); (try clear hi); (try clear ho0)))
 (try simp only [Act.put, q1_, q2_, q3_])
 go_cut [14] (fun v14 wc => ∃ (kq : Nat) (x14_5 : Bool), v14 = .bool x14_5 ∧ Aside0 (text_sized.j0 kq a2 t161 t164 x14_5 = some (r1, r2)) ∧ Aside0 (kq ≤ k) ∧ Aside0 (Kd.R Kd.string 9 wc w.heap.size (fun k_ => some k_ ≠ (v165 : Value).ownBlock) v162 t161) ∧ Aside0 (Kd.R Kd.string 9 wc w.heap.size (fun k_ => some k_ ≠ (v162 : Value).ownBlock) v165 t164) ∧ Aside0 (Below w.heap.size w wc))
 case first =>
  have H := HC6.out
  clear HC6
  by_cases c9 : (a0.size : Int) > 200000
  ·rw [if_pos c9] at H
   have c9b0 : decide (200000 < (a0.size : Int)) = true := decide_eq_true c9
   have c9b1 : decide (200000 < a0.size) = true := decide_eq_true (by omega)
   clear c9
   (first | rw [c9b0] | (simp only [i64_w, i32_w]; rw [c9b0]) | skip)
   have H' := Aside0.mk H
   clear H
   go_wp2
   go_meet
   case rel => exact ⟨_, (true), (by first | rfl | (simp; done) | (simp [*]; done)), H', ⟨by first | omega | exact Nat.le_refl _⟩, ⟨by (with_reducible repeat (first | apply Kd.R_alloc | apply Kd.R_drewN | apply Kd.R_drew)); exact Kd.R_mono HO163.out (fun _ hk => hk.2)⟩, ⟨by (with_reducible repeat (first | apply Kd.R_alloc | apply Kd.R_drewN | apply Kd.R_drew)); exact Kd.R_mono HO166.out (fun _ hk => hk.2)⟩, ⟨by repeat (with_reducible first | exact HB.out | apply below_alloc | apply pw_below_drewN | apply below_drew1)⟩⟩
  ·rw [if_neg c9] at H
   have c9b0 : decide (200000 < (a0.size : Int)) = false := decide_eq_false c9
   have c9b1 : decide (200000 < a0.size) = false := decide_eq_false (by omega)
   clear c9
   (first | rw [c9b0] | (simp only [i64_w, i32_w]; rw [c9b0]) | skip)
   by_cases c10 : (a1.size : Int) > 200000
   ·rw [if_pos c10] at H
    have c10b0 : decide (200000 < (a1.size : Int)) = true := decide_eq_true c10
    have c10b1 : decide (200000 < a1.size) = true := decide_eq_true (by omega)
    clear c10
    have H' := Aside0.mk H
    clear H
    go_wp2
    go_meet
    case rel => exact ⟨_, (true), (by first | rfl | (simp; done) | (simp [*]; done)), H', ⟨by first | omega | exact Nat.le_refl _⟩, ⟨by (with_reducible repeat (first | apply Kd.R_alloc | apply Kd.R_drewN | apply Kd.R_drew)); exact Kd.R_mono HO163.out (fun _ hk => hk.2)⟩, ⟨by (with_reducible repeat (first | apply Kd.R_alloc | apply Kd.R_drewN | apply Kd.R_drew)); exact Kd.R_mono HO166.out (fun _ hk => hk.2)⟩, ⟨by repeat (with_reducible first | exact HB.out | apply below_alloc | apply pw_below_drewN | apply below_drew1)⟩⟩
   ·rw [if_neg c10] at H
    have c10b0 : decide (200000 < (a1.size : Int)) = false := decide_eq_false c10
    have c10b1 : decide (200000 < a1.size) = false := decide_eq_false (by omega)
    clear c10
    by_cases c11 : (t161.length : Int) > 2000
    ·rw [if_pos c11] at H
     have c11b0 : decide (2000 < (t161.length : Int)) = true := decide_eq_true c11
     have c11b1 : decide (2000 < t161.length) = true := decide_eq_true (by omega)
     clear c11
     have H' := Aside0.mk H
     clear H
     obtain ⟨Ao12, co12, eo12⟩ := Kd.R_slice HO163.out
     subst eo12
     go_wp2
     go_meet
     case rel => exact ⟨_, (true), (by first | rfl | (simp; done) | (simp [*]; done)), H', ⟨by first | omega | exact Nat.le_refl _⟩, ⟨by (with_reducible repeat (first | apply Kd.R_alloc | apply Kd.R_drewN | apply Kd.R_drew)); exact Kd.R_mono HO163.out (fun _ hk => hk.2)⟩, ⟨by (with_reducible repeat (first | apply Kd.R_alloc | apply Kd.R_drewN | apply Kd.R_drew)); exact Kd.R_mono HO166.out (fun _ hk => hk.2)⟩, ⟨by repeat (with_reducible first | exact HB.out | apply below_alloc | apply pw_below_drewN | apply below_drew1)⟩⟩
    ·rw [if_neg c11] at H
     have c11b0 : decide (2000 < (t161.length : Int)) = false := decide_eq_false c11
     have c11b1 : decide (2000 < t161.length) = false := decide_eq_false (by omega)
     clear c11
     have H' := Aside0.mk H
     clear H
     obtain ⟨Ao13, co13, eo13⟩ := Kd.R_slice HO163.out
     subst eo13
     obtain ⟨Ao14, co14, eo14⟩ := Kd.R_slice HO166.out
     subst eo14
     go_wp2
     go_meet
     case rel => exact ⟨_, (decide ((t164.length : Int) > 2000)), (by first | rfl | (simp; done) | (simp [*]; done)), H', ⟨by first | omega | exact Nat.le_refl _⟩, ⟨by (with_reducible repeat (first | apply Kd.R_alloc | apply Kd.R_drewN | apply Kd.R_drew)); exact Kd.R_mono HO163.out (fun _ hk => hk.2)⟩, ⟨by (with_reducible repeat (first | apply Kd.R_alloc | apply Kd.R_drewN | apply Kd.R_drew)); exact Kd.R_mono HO166.out (fun _ hk => hk.2)⟩, ⟨by repeat (with_reducible first | exact HB.out | apply below_alloc | apply pw_below_drewN | apply below_drew1)⟩⟩
 case rest =>
  clear HC6
  try clear c1
  try clear p2
  try clear c3
  try clear c9
  try clear c9b0
  try clear c9b1
  try clear c10
  try clear c10b0
  try clear c10b1
  try clear c11
  try clear c11b0
  try clear c11b1
  obtain ⟨kq, x14_5, rfl, HA, HJ5, HO_8, HO_9, HB⟩ := hcut
  cases kq with
  | zero => exact absurd HA.out (by simp [text_sized.j0])
  | succ kj5 =>
   have H := HA.out
   clear HA
   simp only [text_sized.j0] at H
   by_cases c15 : x14_5 = true
   ·subst c15
    have H1 : (some (([] : List (S66)), 2)) = some (r1, r2) := by rw [if_pos rfl] at H; exact H
    clear H
    have H := H1
    clear H1
    simp only [Option.some.injEq, Prod.mk.injEq] at H
    obtain ⟨rfl, rfl⟩ := H
    go_wp2
    go_ret2
    exact ⟨_, by first | rfl | (simp [errW_none, errW_some] <;> rfl) | (simp [*, errW_none, errW_some] <;> rfl), by first | exact Kd.R_nil _ _ _ _ _ | exact Kd.N_nil _ _ _ _ _ | exact Kd.V_nil _ _ _ _ _ | exact Kd.Q_nil _ _ _ _ _ | exact Kd.S_nil _ _ _ _ _, by repeat (with_reducible first | exact HB.out | apply below_alloc | apply pw_below_drewN | apply below_drew1)⟩
   ·replace c15 := Bool.eq_false_iff.mpr c15
    subst c15
    have H1 : (if a2 < 0 then (some (([] : List (S66)), 1)) else (if a2 > 20 then (some (([] : List (S66)), 1)) else ((text_steps.f kj5 t161 t164).bind fun t167 => (some (t167, 0))))) = some (r1, r2) := by rw [if_neg (show ¬ (false = true) by decide)] at H; exact H
    clear H
    have H := H1
    clear H1
    by_cases c16 : a2 < 0
    ·rw [if_pos c16] at H
     have c16b0 : decide (a2 < 0) = true := decide_eq_true c16
     clear c16
     simp only [Option.some.injEq, Prod.mk.injEq] at H
     obtain ⟨rfl, rfl⟩ := H
     go_wp2
     go_ret2
     exact ⟨_, by first | rfl | (simp [errW_none, errW_some] <;> rfl) | (simp [*, errW_none, errW_some] <;> rfl), by first | exact Kd.R_nil _ _ _ _ _ | exact Kd.N_nil _ _ _ _ _ | exact Kd.V_nil _ _ _ _ _ | exact Kd.Q_nil _ _ _ _ _ | exact Kd.S_nil _ _ _ _ _, by repeat (with_reducible first | exact HB.out | apply below_alloc | apply pw_below_drewN | apply below_drew1)⟩
    ·rw [if_neg c16] at H
     have c16b0 : decide (a2 < 0) = false := decide_eq_false c16
     clear c16
     by_cases c17 : a2 > 20
     ·rw [if_pos c17] at H
      have c17b0 : decide (20 < a2) = true := decide_eq_true c17
      clear c17
      simp only [Option.some.injEq, Prod.mk.injEq] at H
      obtain ⟨rfl, rfl⟩ := H
      go_wp2
      go_ret2
      exact ⟨_, by first | rfl | (simp [errW_none, errW_some] <;> rfl) | (simp [*, errW_none, errW_some] <;> rfl), by first | exact Kd.R_nil _ _ _ _ _ | exact Kd.N_nil _ _ _ _ _ | exact Kd.V_nil _ _ _ _ _ | exact Kd.Q_nil _ _ _ _ _ | exact Kd.S_nil _ _ _ _ _, by repeat (with_reducible first | exact HB.out | apply below_alloc | apply pw_below_drewN | apply below_drew1)⟩
     ·rw [if_neg c17] at H
      have c17b0 : decide (20 < a2) = false := decide_eq_false c17
      clear c17
      replace H := Option.bind_eq_some_iff.mp H
      obtain ⟨t167, A180, H⟩ := H
      replace H : (some (t167, 0)) = some (r1, r2) := H
      have A18 := Aside0.mk A180
      clear A180
      simp only [Option.some.injEq, Prod.mk.injEq] at H
      obtain ⟨rfl, rfl⟩ := H
      obtain ⟨Ao19, co19, eo19⟩ := Kd.R_slice HO_8.out
      subst eo19
      obtain ⟨Ao20, co20, eo20⟩ := Kd.R_slice HO_9.out
      subst eo20
      go_wp2_with (first | ((with_reducible refine gate_callee (f := 60) rfl ?_); refine goesL_ (some 42) rfl rfl Tryz.func60 (by kernel_rfl) rfl #[.slice Ao19 t161.length co19, .slice Ao20 t164.length co20] rfl (by (try simp only [List.map_toArray, List.map_cons, List.map_nil]); first | done | rfl | (simp only [List.length_drop, List.length_take]; rfl)) ?_; (with_reducible refine (text_steps.calls kj5 _ _ t161 _ _ t164 t167 _ ?side1 ?side2 ?side3 ?side4 A18.out).mono ?_); (case side1 => repeat (first | exact (Kd.R_reads' HO_8.out).2.2 | (with_reducible refine Kd.C_alloc ?_ _) | (with_reducible refine Kd.C_drewN ?_ _) | (with_reducible refine Kd.C_drew ?_))); (case side2 => exact (Kd.R_reads' HO_8.out).2.1); (case side3 => repeat (first | exact (Kd.R_reads' HO_9.out).2.2 | (with_reducible refine Kd.C_alloc ?_ _) | (with_reducible refine Kd.C_drewN ?_ _) | (with_reducible refine Kd.C_drew ?_))); (case side4 => exact (Kd.R_reads' HO_9.out).2.1); rintro e w21 ⟨v168, rfl, ho0, hb⟩; refine ⟨_, rfl, ?_⟩; have n0_ := Aside0.mk (Kd.R_below (by (with_reducible repeat (first | apply Kd.R_alloc | apply Kd.R_drewN | apply Kd.R_drew)); exact HO_8.out) hb); have n1_ := Aside0.mk (Kd.R_below (by (with_reducible repeat (first | apply Kd.R_alloc | apply Kd.R_drewN | apply Kd.R_drew)); exact HO_9.out) hb); have n2_ := Aside0.mk (Kd.R_lower ho0 (below_size (by repeat (with_reducible first | exact HB.out | apply below_alloc | apply pw_below_drewN | apply below_drew1)))); have n3_ := Aside0.mk (below_step (by repeat (with_reducible first | exact HB.out | apply below_alloc | apply pw_below_drewN | apply below_drew1)) hb); clear HO_8; clear HO_9; clear HB; have HO_8 := n0_; have HO_9 := n1_; have HO169 := n2_; have HB := n3_; clear n0_ n1_ n2_ n3_; (try clear hb); (try clear hb2); (try clear hk); (try clear hi); (try clear ho0)))
      go_ret2
      exact ⟨_, by first | rfl | (simp [errW_none, errW_some] <;> rfl) | (simp [*, errW_none, errW_some] <;> rfl), by (with_reducible repeat (first | apply Kd.R_alloc | apply Kd.R_drewN | apply Kd.R_drew)); exact HO169.out, by repeat (with_reducible first | exact HB.out | apply below_alloc | apply pw_below_drewN | apply below_drew1)⟩

end Go.Proofs.YtidlmkdoofcgnaaGreatDoor.PText

namespace Go.Proofs.YtidlmkdoofcgnaaGreatDoor.PText
open Go.RowKit Go.Lib Go.Proofs.YtidlmkdoofcgnaaGreatDoorW.PrintWords Go.Proofs.YtidlmkdoofcgnaaGreatDoorW.PrintLast Go.Proofs.YtidlmkdoofcgnaaGreatDoorW.PrintMore
theorem stp_len {α : Type} [DecidableEq α] : ∀ (k : Nat) (l m : List α), l.length + m.length ≤ k → (Tx.stp l m).length ≤ l.length + m.length := by
  intro k
  induction k with
  | zero =>
    intro l m h
    have hl : l = [] := List.eq_nil_of_length_eq_zero (by omega)
    have hm : m = [] := List.eq_nil_of_length_eq_zero (by omega)
    subst hl hm
    rw [Tx.stp]; exact Nat.le_refl _
  | succ k ih =>
    intro l m h
    match l, m, h with
    | [], [], _ => rw [Tx.stp]; exact Nat.le_refl _
    | a :: l, [], h =>
      simp only [List.length_cons, List.length_nil] at h
      have := ih l [] (by simp; omega)
      rw [Tx.stp]
      simp only [List.length_cons, List.length_nil] at *
      omega
    | [], b :: m, h =>
      simp only [List.length_cons, List.length_nil] at h
      have := ih [] m (by simp; omega)
      rw [Tx.stp]
      simp only [List.length_cons, List.length_nil] at *
      omega
    | a :: l, b :: m, h =>
      simp only [List.length_cons] at h
      rw [Tx.stp]
      by_cases e : a = b
      · rw [if_pos e]
        have := ih l m (by omega)
        simp only [List.length_cons]; omega
      · rw [if_neg e]
        split
        · have := ih l (b :: m) (by simp only [List.length_cons]; omega)
          simp only [List.length_cons] at *; omega
        · have := ih (a :: l) m (by simp only [List.length_cons]; omega)
          simp only [List.length_cons] at *; omega
theorem stS_len (a b : List ByteArray) : (stS a b).length ≤ a.length + b.length := by
  unfold stS
  rw [List.length_map]
  have := stp_len _ (a.map bL) (b.map bL) (Nat.le_refl _)
  rw [List.length_map, List.length_map] at this
  exact this
/-- the steps from one text to another one, or the error -/
def sizedR (a b : ByteArray) (ctx : Int) : List S66 × Int :=
  if 200000 < a.size ∨ 200000 < b.size ∨ 2000 < (linesB a).length ∨ 2000 < (linesB b).length then ([], 2) else if ctx < 0 ∨ 20 < ctx then ([], 1) else (stS (linesB a) (linesB b), 0)
theorem sized_zero {a b : ByteArray} {ctx : Int} (h : (sizedR a b ctx).2 = 0) : sizedR a b ctx = (stS (linesB a) (linesB b), 0) ∧ 0 ≤ ctx ∧ ctx ≤ 20 ∧ (linesB a).length ≤ 2000 ∧ (linesB b).length ≤ 2000 ∧ a.size ≤ 200000 ∧ b.size ≤ 200000 := by
  unfold sizedR at h ⊢
  by_cases c1 : 200000 < a.size ∨ 200000 < b.size ∨ 2000 < (linesB a).length ∨ 2000 < (linesB b).length
  · rw [if_pos c1] at h; cases h
  · rw [if_neg c1] at h ⊢
    by_cases c2 : ctx < 0 ∨ 20 < ctx
    · rw [if_pos c2] at h; cases h
    · rw [if_neg c2]
      exact ⟨rfl, by omega, by omega, by omega, by omega, by omega, by omega⟩
theorem sized_nil {a b : ByteArray} {ctx : Int} (h : (sizedR a b ctx).2 ≠ 0) : (sizedR a b ctx).1 = [] ∧ ((sizedR a b ctx).2 = 1 ∨ (sizedR a b ctx).2 = 2) := by
  unfold sizedR at h ⊢
  by_cases c1 : 200000 < a.size ∨ 200000 < b.size ∨ 2000 < (linesB a).length ∨ 2000 < (linesB b).length
  · rw [if_pos c1]; exact ⟨rfl, .inr rfl⟩
  · rw [if_neg c1] at h ⊢
    by_cases c2 : ctx < 0 ∨ 20 < ctx
    · rw [if_pos c2]; exact ⟨rfl, .inl rfl⟩
    · rw [if_neg c2] at h; exact absurd rfl h
theorem sized_f (a b : ByteArray) (ctx : Int) (ha : a.size ≤ 1000000000) (hb : b.size ≤ 1000000000) (k : Nat) (hk : 5000000 ≤ k) : text_sized.f k a b ctx = some (sizedR a b ctx) := by
  obtain ⟨k, rfl⟩ : ∃ q, k = q + 1 := ⟨k - 1, by omega⟩
  have ea : text_Lines.f a = some (linesB a) := by unfold text_Lines.f; rw [if_pos ha]
  have eb : text_Lines.f b = some (linesB b) := by unfold text_Lines.f; rw [if_pos hb]
  unfold text_sized.f sizedR
  rw [ea, eb, Option.bind_some, Option.bind_some]
  have hT : text_sized.j0 (k + 1) ctx (linesB a) (linesB b) true = some ([], 2) := by rw [text_sized.j0, if_pos rfl]
  by_cases c1 : 200000 < a.size
  · rw [if_pos (show (a.size : Int) > 200000 by omega), if_pos (Or.inl c1), hT]
  rw [if_neg (show ¬ (a.size : Int) > 200000 by omega)]
  by_cases c2 : 200000 < b.size
  · rw [if_pos (show (b.size : Int) > 200000 by omega), if_pos (Or.inr (Or.inl c2)), hT]
  rw [if_neg (show ¬ (b.size : Int) > 200000 by omega)]
  by_cases c3 : 2000 < (linesB a).length
  · rw [if_pos (show ((linesB a).length : Int) > 2000 by omega), if_pos (Or.inr (Or.inr (Or.inl c3))), hT]
  rw [if_neg (show ¬ ((linesB a).length : Int) > 2000 by omega)]
  by_cases c4 : 2000 < (linesB b).length
  · rw [decide_eq_true (show ((linesB b).length : Int) > 2000 by omega), if_pos (Or.inr (Or.inr (Or.inr c4))), hT]
  rw [decide_eq_false (show ¬ ((linesB b).length : Int) > 2000 by omega), if_neg (by omega), text_sized.j0, if_neg (by decide)]
  by_cases c5 : ctx < 0
  · rw [if_pos c5, if_pos (Or.inl c5)]
  rw [if_neg c5]
  by_cases c6 : 20 < ctx
  · rw [if_pos c6, if_pos (Or.inr c6)]
  have hm : (linesB a).length * ((linesB b).length + 2) ≤ 2000 * 2002 := Nat.mul_le_mul (by omega) (by omega)
  rw [if_neg c6, if_neg (by omega), steps_f _ _ (by omega) (by omega) k (by omega), Option.bind_some]
end Go.Proofs.YtidlmkdoofcgnaaGreatDoor.PText

namespace Go.Proofs.YtidlmkdoofcgnaaGreatDoor.PText
open Go.RowKit Go.Proofs.YtidlmkdoofcgnaaGreatDoorW.PrintWords Go.Proofs.YtidlmkdoofcgnaaGreatDoorW.PrintLast Go.Proofs.YtidlmkdoofcgnaaGreatDoorW.PrintMore
set_option linter.unusedVariables false
set_option linter.unusedSimpArgs false
/-- a hunk, told by its place -/
def hunkP (l : List S66) (p : Nat × Nat) : List UInt8 := hunkL (cA (l.take p.1)) (cB (l.take p.1)) ((l.take p.2).drop p.1)
/-- the difference that steps make -/
def diffL (l : List S66) (ctx : Nat) : List UInt8 := ((hkL l ctx l.length 0).map (hunkP l)).flatten
/-- the difference of two texts -/
def diffT (a b : ByteArray) (ctx : Int) : List UInt8 := diffL (sizedR a b ctx).1 ctx.toNat
def text_Diff.f (a0 a1 : ByteArray) (a2 : Int) : Option (ByteArray × Int) :=
  if a0.size ≤ 1000000000 ∧ a1.size ≤ 1000000000 then (if (sizedR a0 a1 a2).2 = 0 then (if (diffT a0 a1 a2).length ≤ 140737488351232 then some (⟨(diffT a0 a1 a2).toArray⟩, 0) else none) else some (⟨#[]⟩, (sizedR a0 a1 a2).2)) else none
theorem stS_op (a b : List ByteArray) : ∀ x ∈ stS a b, 0 ≤ x.f0 ∧ x.f0 ≤ 255 := by
  intro x hx
  unfold stS at hx
  obtain ⟨y, _, rfl⟩ := List.mem_map.1 hx
  have := y.1.toNat_lt
  exact ⟨Int.natCast_nonneg _, by show ((y.1.toNat : Nat) : Int) ≤ 255; omega⟩
theorem C_hunk {w : World} {ad : Addr} {l : List S66} {p : Nat × Nat} (h : Kd.C k66 w (some ad) l.length l) (h1 : p.1 < p.2) (h2 : p.2 ≤ l.length) :
    ((l.take p.2).drop p.1).length = p.2 - p.1 ∧ Kd.C k66 w (some (ad.add (p.1 * 2))) (p.2 - p.1) ((l.take p.2).drop p.1) := by
  have hlen : ((l.take p.2).drop p.1).length = p.2 - p.1 := by rw [List.length_drop, List.length_take]; omega
  refine ⟨hlen, ?_⟩
  have := Kd.C_mid (c := l.length) h (Nat.le_of_lt h1) h2 (Nat.le_refl _)
  rw [hlen, if_neg (by omega)] at this
  exact this
/-- where a row of hunks lies -/
theorem row_block70 {w : World} {B : Nat} {A : Option Addr} {c : Nat} {l : List S64} (h : Kd.R k64 64 w B (fun _ => True) (.slice A l.length c) l) :
    ∃ (g : Nat) (cs : Array Value), (l ≠ [] → A = some ⟨g, 0, none⟩) ∧ (l = [] ∨ (B ≤ g ∧ w.heap[g]? = some (.cells cs 64 (0, 0)))) := by
  by_cases hl : l = []
  · exact ⟨0, #[], fun q => absurd hl q, .inl hl⟩
  · obtain ⟨g, cap, hv, hb, _, cs, hc⟩ := Kd.R_form h (List.length_pos_iff.2 hl)
    cases hv
    exact ⟨g, cs, fun _ => rfl, .inr ⟨hb, hc⟩⟩
set_option maxHeartbeats 8000000 in
set_option maxRecDepth 100000 in
theorem text_Diff.calls (a0 : ByteArray) (a1 : ByteArray) (a2 : Int) (r1 : ByteArray) (r2 : Int) (w : World) (hG : Glob w) (h : text_Diff.f a0 a1 a2 = some (r1, r2)) :
    Calls Tryz.prog 20 #[.string a0, .string a1, .int .i64 a2] w fun e w' => e = .returned (.tuple #[.string r1, .int .i64 r2]) ∧ Below w.heap.size w w' := by
  unfold text_Diff.f at h
  by_cases hs : a0.size ≤ 1000000000 ∧ a1.size ≤ 1000000000
  · rw [if_pos hs] at h
    have HZ := Aside0.mk (text_sized.calls 5000000 a0 a1 a2 (sizedR a0 a1 a2).1 (sizedR a0 a1 a2).2 w (sized_f a0 a1 a2 hs.1 hs.2 _ (Nat.le_refl _)))
    by_cases he : (sizedR a0 a1 a2).2 = 0
    · rw [if_pos he] at h
      obtain ⟨e1, c0, c1, n1, n2, -, -⟩ := sized_zero he
      have hln := stS_len (linesB a0) (linesB a1)
      have HOP := Aside0.mk (stS_op (linesB a0) (linesB a1))
      unfold diffT at h
      rw [e1] at h HZ
      obtain ⟨n, rfl⟩ : ∃ n : Nat, a2 = (n : Int) := ⟨a2.toNat, by omega⟩
      have hn : n ≤ 20 := by omega
      have hN : (stS (linesB a0) (linesB a1)).length ≤ 4000 := by omega
      rw [Int.toNat_natCast] at h
      clear e1 he c0 c1 n1 n2 hln
      generalize stS (linesB a0) (linesB a1) = l at *
      have hT : (diffL l n).length ≤ 140737488351232 ∧ r1 = ⟨(diffL l n).toArray⟩ ∧ r2 = 0 := by
        have h2 : (if (diffL l n).length ≤ 140737488351232 then some ((⟨(diffL l n).toArray⟩ : ByteArray), (0 : Int)) else none) = some (r1, r2) := h
        by_cases q : (diffL l n).length ≤ 140737488351232
        · rw [if_pos q] at h2
          have h3 := Option.some.inj h2
          exact ⟨q, (congrArg Prod.fst h3).symm, (congrArg Prod.snd h3).symm⟩
        · rw [if_neg q] at h2; cases h2
      obtain ⟨hTl, rfl, rfl⟩ := hT
      have HT := Aside0.mk (show ((hkL l n l.length 0).map (hunkP l)).flatten = diffL l n from rfl)
      have HTL := Aside0.mk hTl
      have HN := Aside0.mk hN
      have HX := Aside0.mk hn
      have HIN := Aside0.mk (hkL_in l n l.length 0)
      have HKL := Aside0.mk (hkL_len l n l.length 0)
      have HGl := Aside0.mk hG
      clear h hTl hN hn hG
      have H44 := Aside0.mk (fun (A : Option Addr) (c : Nat) (w' : World) (h1 : Kd.C k66 w' A l.length l) (h2 : l.length ≤ c) => hunks_row A c l n w' h1 h2 (by have := HN.out; omega) HX.out)
      generalize diffL l n = T at *
      generalize hkL l n l.length 0 = ps at *
      replace HZ : Aside0 (Calls Tryz.prog 39 #[.string a0, .string a1, .int .i64 (n : Int)] w fun e w' => ∃ v0_ : Value, e = .returned (.tuple #[v0_, .int .i64 0]) ∧ Kd.R k66 66 w' w.heap.size (fun _ => True) v0_ l ∧ Below w.heap.size w w') := HZ
      go_enter Tryz.func20, Tryz.ntmps20
      go_wp2_with (first
        | (go_at_call 39; refine HZ.out.mono ?_; rintro e w1 ⟨v0, rfl, ho, hb⟩; obtain ⟨A1, c1, rfl⟩ := Kd.R_slice ho; have HC := Aside0.mk (Kd.R_reads' ho).2.2; have HL := Aside0.mk (Kd.R_reads' ho).2.1; have HB := Aside0.mk hb; clear hb ho HZ)
        | (go_at_call 40; refine (H44.out _ _ _ (Kd.C_alloc HC.out _) HL.out).mono ?_; rintro e w3 ⟨v3, rfl, ho, hb⟩; obtain ⟨A3, c3, rfl⟩ := Kd.R_slice ho; have HO := Aside0.mk ho; have HB3 := Aside0.mk hb; clear hb ho H44))
      have HR := Aside0.mk (Kd.R_reads' HO.out)
      have hrb := HO.out
      have hlen : (ps.map (hunkS (A1.getD ⟨0, 0, none⟩) l)).length = ps.length := List.length_map _
      obtain ⟨g, cs, hA, hg⟩ := row_block70 hrb
      have hC70 := Aside0.mk HR.out.2.2
      have HBU := Aside0.mk (builder_kept (Lib.IsBuilderF.of (Lib.fresh_isBuilder 72 5 w1)) HB3.out)
      have HS3 : Aside0 (w1.heap.size < w3.heap.size) := ⟨by have := HB3.out.size; simp at this; omega⟩
      have HW1 : Aside0 (Below w1.heap.size w1 w3) := ⟨((Below.refl _ w1).alloc (Nat.le_refl _) _).trans (HB3.out.mono (by simp))⟩
      have HSW := Aside0.mk HB.out.size
      have HBW : Aside0 (Below w.heap.size w w3) := ⟨HB.out.trans (HW1.out.mono HSW.out)⟩
      have HGr : Aside0 (ps.map (hunkS (A1.getD ⟨0, 0, none⟩) l) = [] ∨ (w1.heap.size < g ∧ w3.heap[g]? = some (.cells cs 64 (0, 0)))) := ⟨hg.imp id (fun q => ⟨by have := q.1; simp at this; omega, q.2⟩)⟩
      have HA := Aside0.mk hA
      clear HB HB3 hrb hg hA HO HR
      go_loopg [27] (ps.length + 1) (fun kq v27 w' => ∃ (i : Nat) (D : List UInt8), v27 = .int .i64 (i : Int) ∧ Aside0 (ps.length - i < kq ∧ i ≤ ps.length) ∧ Aside0 (D ++ ((ps.drop i).map (hunkP l)).flatten = T) ∧ Aside0 (Lib.IsBuilderF 72 5 w1.heap.size w1.heap.size (Lib.byteCells D) w') ∧ Aside0 (Below w.heap.size w w') ∧ Aside0 (Below w1.heap.size w1 w') ∧ Aside0 (w1.heap.size < w'.heap.size) ∧ Aside0 (ps.map (hunkS (A1.getD ⟨0, 0, none⟩) l) = [] ∨ (w1.heap.size < g ∧ w'.heap[g]? = some (.cells cs 64 (0, 0)))))
      case atStart => exact ⟨0, [], rfl, ⟨by omega, by omega⟩, ⟨by rw [List.drop_zero]; exact HT.out⟩, HBU, HBW, HW1, HS3, HGr⟩
      case round =>
        obtain ⟨i, D, rfl, HI, HD, HBi, HBe, HBb, HS, HGe⟩ := hrel
        obtain ⟨k1, rfl⟩ : ∃ k1, gk = k1 + 1 := ⟨gk - 1, by have := HI.out.1; omega⟩
        by_cases hlt : i < ps.length
        · have hb : decide ((i : Int) < ((ps.map (hunkS (A1.getD ⟨0, 0, none⟩) l)).length : Int)) = true := by rw [hlen]; simp; omega
          have hb2 : decide ((0 : Int) ≤ (i : Int)) = true := by simp
          have p0 : (0 : Int) ≤ (i : Int) := by omega
          have q0 : (i : Int) < ((ps.map (hunkS (A1.getD ⟨0, 0, none⟩) l)).length : Int) := by rw [hlen]; omega
          have hne : ps.map (hunkS (A1.getD ⟨0, 0, none⟩) l) ≠ [] := fun e => by rw [e] at hlen; simp at hlen; omega
          obtain ⟨ad, e0, hx0, hx1, hx2⟩ := at_T64 hC70.out (i : Int) p0 q0
          have hblk : ad.block = g := by
            have := HA.out hne
            rw [e0] at this; cases this; rfl
          have hgw : wr.heap[g]? = w3.heap[g]? := by
            rcases HGr.out with q | q
            · exact absurd q hne
            · rcases HGe.out with q2 | q2
              · exact absurd q2 hne
              · rw [q.2, q2.2]
          cases e0
          replace hx0 := (cell_same (w' := wr) (p := ad.add ((i : Int).toNat * 3)) (by simp only [add_block]; rw [hblk, hgw])).trans hx0
          replace hx1 := (cell_same (w' := wr) (p := ⟨(ad.add ((i : Int).toNat * 3)).block, (ad.add ((i : Int).toNat * 3)).off + 1, none⟩) (by simp only [add_block]; rw [hblk, hgw])).trans hx1
          replace hx2 := (cell_same (w' := wr) (p := ⟨(ad.add ((i : Int).toNat * 3)).block, (ad.add ((i : Int).toNat * 3)).off + 2, none⟩) (by simp only [add_block]; rw [hblk, hgw])).trans hx2
          rw [Int.toNat_natCast] at hx0 hx1 hx2
          rw [rd70_at _ i (by rw [hlen]; exact hlt), List.getElem_map] at hx0 hx1 hx2
          have hin := HIN.out ps[i] (List.getElem_mem hlt)
          have hd : ps.drop i = ps[i] :: ps.drop (i + 1) := List.drop_eq_getElem_cons hlt
          have HE : Aside0 (D ++ hunkP l ps[i] ++ ((ps.drop (i + 1)).map (hunkP l)).flatten = T) := ⟨by
            have := HD.out
            rw [hd, List.map_cons, List.flatten_cons, ← List.append_assoc] at this
            exact this⟩
          clear hd HD hgw hblk
          generalize ps[i] = p at *
          have hl0 : l.length ≠ 0 := by omega
          obtain ⟨ad1, hA1⟩ : ∃ ad1, A1 = some ad1 := by
            obtain ⟨_, _, h3⟩ := HC.out
            obtain ⟨ad1, h4, _⟩ := h3 (by omega)
            exact ⟨ad1, h4⟩
          subst hA1
          have H2 := Aside0.mk (fun (w' : World) (h1 : Below w1.heap.size w1 w') => C_hunk (Kd.C_below HC.out h1) hin.1 hin.2)
          have hlp := (C_hunk HC.out hin.1 hin.2).1
          have HTX : Aside0 (D ++ hunkP l p ++ ((ps.drop (i + 1)).map (hunkP l)).flatten = T) := HE
          have hsl := congrArg List.length HE.out
          rw [List.length_append] at hsl
          have HDL : Aside0 ((D ++ hunkP l p).length ≤ 140737488351232) := ⟨by have := HTL.out; omega⟩
          have HCA := Aside0.mk (cA_take l p.1)
          have HCB := Aside0.mk (cB_take l p.1)
          have HLP := Aside0.mk hlp
          have HP2 := Aside0.mk hin
          clear hsl hlp HE hin
          have hx0' : wr.cell? (ad.add (i * 3)) = some (.int .i64 (cA (l.take p.1) : Int)) := hx0
          have hx1' : wr.cell? ⟨(ad.add (i * 3)).block, (ad.add (i * 3)).off + 1, none⟩ = some (.int .i64 (cB (l.take p.1) : Int)) := hx1
          have hx2' : wr.cell? ⟨(ad.add (i * 3)).block, (ad.add (i * 3)).off + 2, none⟩ = some (.slice (some (ad1.add (p.1 * 2))) (p.2 - p.1) (p.2 - p.1)) := hx2
          clear hx0 hx1 hx2
          have H45 := Aside0.mk (fun (w' : World) (h1 : Below w.heap.size w w') (h2 : Below w1.heap.size w1 w') (h3 : w1.heap.size < w'.heap.size) (h4 : Lib.IsBuilderF 72 5 w1.heap.size w1.heap.size (Lib.byteCells D) w') =>
            htext_row (cA (l.take p.1)) (cB (l.take p.1)) (some (ad1.add (p.1 * 2))) (p.2 - p.1) w1.heap.size D (D ++ hunkP l p) ((l.take p.2).drop p.1) w' (fun w'' hw => by rw [HLP.out]; exact (H2.out w'' (h2.trans hw)).2) (by rw [HLP.out]; exact Nat.le_refl _) (by rw [HLP.out]; have := HN.out; have := HP2.out.2; omega) (by have := HCA.out; have := HN.out; omega) (by have := HCB.out; have := HN.out; omega) (HGl.out.below h1)
              (fun x hx => HOP.out x (List.mem_of_mem_take (List.mem_of_mem_drop hx))) rfl HDL.out h3 h4)
          rw [HLP.out] at H45
          go_wp2_with (go_at_call 37; refine (H45.out _ ?zb ?zc ?zd ?ze).mono ?_; (case zb => exact HBe.out.alloc HBe.out.size _); (case zc => exact HBb.out.alloc (Nat.le_of_lt HS.out) _); (case zd => (have := HS.out; simp; omega)); (case ze => exact HBi.out.alloc _); rintro e w5 ⟨⟨v, rfl⟩, hf, hb, hok⟩; have HF := Aside0.mk hf; have HB5 : Aside0 (Below w.heap.size w w5) := ⟨(HBe.out.alloc HBe.out.size _).trans (hb.mono HSW.out)⟩; have HB6 : Aside0 (Below w1.heap.size w1 w5) := ⟨(HBb.out.alloc (Nat.le_of_lt HS.out) _).trans hb⟩; have HS5 : Aside0 (w1.heap.size < w5.heap.size) := ⟨by have := hb.size; have := HS.out; simp at *; omega⟩; have HG5 : Aside0 (ps.map (hunkS ((some ad1).getD ⟨0, 0, none⟩) l) = [] ∨ (w1.heap.size < g ∧ w5.heap[g]? = some (.cells cs 64 (0, 0)))) := ⟨HGe.out.imp id (fun q => ⟨q.1, hok g _ (heap_old q.2 _) (by intro e; have := Option.some.inj e; have := q.1; omega) (by intro c fz e; cases e)⟩)⟩; clear hf hb hok)
          go_roundg k1
          case measure => have := HI.out.1; omega
          case rel => exact ⟨i + 1, _, congrArg (Value.int .i64) (nx i (by have := HKL.out; have := HN.out; omega)), ⟨by have := HI.out.1; omega, by omega⟩, HTX, HF, HB5, HB6, HS5, HG5⟩
        · have hb : decide ((i : Int) < ((ps.map (hunkS (A1.getD ⟨0, 0, none⟩) l)).length : Int)) = false := by rw [hlen]; simp; omega
          have hd : D = T := by
            have := HD.out
            rw [List.drop_of_length_le (by omega)] at this
            simpa using this
          subst hd
          go_wp2_with (go_at_call 38; refine (Tryz.Builder_String_any_k w1.heap.size w1.heap.size D _ HBi.out (Nat.le_of_lt HS.out)).mono ?_; rintro e w5 ⟨rfl, -, hbel, -⟩; have HB6 := Aside0.mk (HBe.out.trans (hbel.mono HSW.out)); clear hbel)
          go_ret2
          exact ⟨rfl, HB6.out⟩
    · rw [if_neg he] at h
      obtain ⟨e1, e2⟩ := sized_nil he
      have h' := Option.some.inj h
      have hr : r1 = ⟨#[]⟩ ∧ r2 = (sizedR a0 a1 a2).2 := ⟨(congrArg Prod.fst h').symm, (congrArg Prod.snd h').symm⟩
      clear h h'
      obtain ⟨rfl, rfl⟩ := hr
      have b1 : ((sizedR a0 a1 a2).2 != 0) = true := by simpa using he
      have b2 : ((sizedR a0 a1 a2).2 == 0) = false := by simpa using he
      rw [e1] at HZ
      generalize (sizedR a0 a1 a2).2 = fe at *
      clear he e1 e2 hG
      go_enter Tryz.func20, Tryz.ntmps20
      go_wp2_with (go_at_call 39; refine HZ.out.mono ?_; rintro e w2 ⟨v2, rfl, -, hb⟩; have HB := Aside0.mk hb; clear hb HZ)
      go_ret2
      exact ⟨rfl, HB.out⟩
  · rw [if_neg hs] at h; cases h
end Go.Proofs.YtidlmkdoofcgnaaGreatDoor.PText

namespace Go.Proofs.YtidlmkdoofcgnaaGreatDoor.PText
open Go.RowKit Go.Proofs.YtidlmkdoofcgnaaGreatDoorW.PrintWords Go.Proofs.YtidlmkdoofcgnaaGreatDoorW.PrintLast Go.Proofs.YtidlmkdoofcgnaaGreatDoorW.PrintMore
attribute [local go_sem] max2_int min2_int max_two min_two max_three min_three max_four min_four   -- for this text's walks alone
set_option linter.unusedVariables false
set_option linter.unusedSimpArgs false

def smockinglaw01_awake.f  : Option (Bool) := (text_Apply.f (⟨#[97, 98, 99]⟩ : ByteArray) (([(⟨1, 2, (⟨#[120]⟩ : ByteArray)⟩ : S24)] : List (S24)))).bind fun bt205 => ((text_Diff.f (⟨#[97, 10, 98, 10]⟩ : ByteArray) (⟨#[97, 10, 99, 10]⟩ : ByteArray) 1).bind fun bt207 => (if bt205.2 = 0 then (if bt205.1.toList = ([97, 120, 99] : List UInt8) then (if bt207.2 = 0 then (some (bt207.1.toList == ([64, 64, 32, 49, 44, 50, 32, 49, 44, 50, 32, 64, 64, 10, 32, 97, 10, 45, 98, 10, 43, 99, 10] : List UInt8))) else (some false)) else (some false)) else (some false)))
set_option maxHeartbeats 8000000 in
set_option maxRecDepth 100000 in
theorem smockinglaw01_awake.calls  (r : Bool) (w : World) (hGl : Glob w) (h : smockinglaw01_awake.f  = some r) :
  Calls Tryz.prog 18 #[] w fun e w' => e = .returned (.bool r) ∧ Below w.heap.size w w' := by
 have hu24 := Tryz.underlying24
 have HB := Aside0.mk (Below.refl w.heap.size w)
 have HGl := Aside0.mk hGl
 clear hGl
 have H : ((text_Apply.f (⟨#[97, 98, 99]⟩ : ByteArray) (([(⟨1, 2, (⟨#[120]⟩ : ByteArray)⟩ : S24)] : List (S24)))).bind fun bt205 => ((text_Diff.f (⟨#[97, 10, 98, 10]⟩ : ByteArray) (⟨#[97, 10, 99, 10]⟩ : ByteArray) 1).bind fun bt207 => (if bt205.2 = 0 then (if bt205.1.toList = ([97, 120, 99] : List UInt8) then (if bt207.2 = 0 then (some (bt207.1.toList == ([64, 64, 32, 49, 44, 50, 32, 49, 44, 50, 32, 64, 64, 10, 32, 97, 10, 45, 98, 10, 43, 99, 10] : List UInt8))) else (some false)) else (some false)) else (some false)))) = some r := h
 clear h
 obtain ⟨y202, hy202⟩ : ∃ y_ : List (S24), y_ = (([(⟨1, 2, (⟨#[120]⟩ : ByteArray)⟩ : S24)] : List (S24))) := ⟨_, rfl⟩
 replace H : ((text_Apply.f (⟨#[97, 98, 99]⟩ : ByteArray) y202).bind fun bt205 => ((text_Diff.f (⟨#[97, 10, 98, 10]⟩ : ByteArray) (⟨#[97, 10, 99, 10]⟩ : ByteArray) 1).bind fun bt207 => (if bt205.2 = 0 then (if bt205.1.toList = ([97, 120, 99] : List UInt8) then (if bt207.2 = 0 then (some (bt207.1.toList == ([64, 64, 32, 49, 44, 50, 32, 49, 44, 50, 32, 64, 64, 10, 32, 97, 10, 45, 98, 10, 43, 99, 10] : List UInt8))) else (some false)) else (some false)) else (some false)))) = some r := by first | (rw [hy202]; with_reducible exact H) | (have H2_ := (Option.bind_some _ _).symm.trans H; rw [hy202]; with_reducible exact H2_) | (have H2_ := (Option.bind_some _ _).symm.trans H; with_reducible exact H2_) | with_reducible exact H | (rw [hy202]; exact H) | exact H
 have Ny202 := Aside0.mk hy202
 clear hy202
 replace H := Option.bind_eq_some_iff.mp H
 obtain ⟨⟨t205, t206⟩, A10, H⟩ := H
 replace H : ((text_Diff.f (⟨#[97, 10, 98, 10]⟩ : ByteArray) (⟨#[97, 10, 99, 10]⟩ : ByteArray) 1).bind fun bt207 => (if t206 = 0 then (if t205.toList = ([97, 120, 99] : List UInt8) then (if bt207.2 = 0 then (some (bt207.1.toList == ([64, 64, 32, 49, 44, 50, 32, 49, 44, 50, 32, 64, 64, 10, 32, 97, 10, 45, 98, 10, 43, 99, 10] : List UInt8))) else (some false)) else (some false)) else (some false))) = some r := H
 have A1 := Aside0.mk A10
 clear A10
 replace H := Option.bind_eq_some_iff.mp H
 obtain ⟨⟨t207, t208⟩, A20, H⟩ := H
 replace H : (if t206 = 0 then (if t205.toList = ([97, 120, 99] : List UInt8) then (if t208 = 0 then (some (t207.toList == ([64, 64, 32, 49, 44, 50, 32, 49, 44, 50, 32, 64, 64, 10, 32, 97, 10, 45, 98, 10, 43, 99, 10] : List UInt8))) else (some false)) else (some false)) else (some false)) = some r := H
 have A2 := Aside0.mk A20
 clear A20
 by_cases c3 : t206 = 0
 ·rw [if_pos c3] at H
  have c3b0 : (t206 == 0) = true := beq_iff_eq.mpr c3
  have c3b1 : (t206 != 0) = false := bne_eq_false_iff_eq.mpr c3
  clear c3
  by_cases c4 : t205.toList = ([97, 120, 99] : List UInt8)
  ·rw [if_pos c4] at H
   have c4b0 : (t205.toList == ([97, 120, 99] : List UInt8)) = true := beq_iff_eq.mpr c4
   have c4b1 : (t205.toList != ([97, 120, 99] : List UInt8)) = false := bne_eq_false_iff_eq.mpr c4
   clear c4
   by_cases c5 : t208 = 0
   ·rw [if_pos c5] at H
    have c5b0 : (t208 == 0) = true := beq_iff_eq.mpr c5
    have c5b1 : (t208 != 0) = false := bne_eq_false_iff_eq.mpr c5
    clear c5
    obtain rfl := Option.some.inj H
    go_enter Tryz.func18, Tryz.ntmps18
    go_wp2_with (first | ((with_reducible refine gate_dst (N := 7) rfl ?_); refine Kd.R_lit k24 _ 24 ?hg (N := 7) ?hd (xs := ([(⟨1, 2, (⟨#[120]⟩ : ByteArray)⟩ : S24)] : List (S24))) (inner := [.int .i64 1, .int .i64 2, .string (⟨#[120]⟩ : ByteArray)]) (ok := fun _ => True) (okp := fun _ => True) ?hr ?hp (fun _ hk => hk) trivial (Below.refl _ _) (Nat.le_refl _) (by simp) ?_; (case hd => rfl); (case hg => rfl); (case hr => first | (go_simp; done) | (go_simp; rfl)); (case hp => exact (Reps.c3 (show Kd.M k24 _ _ _ (⟨1, 2, (⟨#[120]⟩ : ByteArray)⟩ : S24) [.int .i64 1, .int .i64 2, .string (⟨#[120]⟩ : ByteArray)] from (k24_mkM _ _ _ (⟨1, 2, (⟨#[120]⟩ : ByteArray)⟩ : S24) )) (Reps.none _ _))); intro v203 w6 ho7 hb hg_ hnew_; clear hg_ hnew_; (first | rw [← Ny202.out] at ho7 | (simp only [Int.reduceToNat] at ho7; rw [← Ny202.out] at ho7)); have n0_ := Aside0.mk (Kd.R_lower ho7 (below_size (by repeat (with_reducible first | exact HB.out | apply below_alloc | apply pw_below_drewN | apply below_drew1)))); have n1_ := Aside0.mk (below_step (by repeat (with_reducible first | exact HB.out | apply below_alloc | apply pw_below_drewN | apply below_drew1)) hb); clear HB; have HO204 := n0_; have HB := n1_; clear n0_ n1_; clear hb ho7; obtain ⟨Ao8, co8, eo8⟩ := Kd.R_slice HO204.out; subst eo8) | ((with_reducible refine gate_callee (f := 22) rfl ?_); refine goesL_ (some 8) rfl rfl Tryz.func22 (by kernel_rfl) rfl #[.string (⟨#[97, 98, 99]⟩ : ByteArray), .slice Ao8 y202.length co8] rfl (by (try simp only [List.map_toArray, List.map_cons, List.map_nil]); first | done | rfl | (simp only [List.length_drop, List.length_take]; rfl)) ?_; (with_reducible refine (text_Apply.calls (⟨#[97, 98, 99]⟩ : ByteArray) _ _ y202 t205 t206 _ ?side1 ?side2 A1.out).mono ?_); (case side1 => repeat (first | exact (Kd.R_reads' HO204.out).2.2 | (with_reducible refine Kd.C_alloc ?_ _) | (with_reducible refine Kd.C_drewN ?_ _) | (with_reducible refine Kd.C_drew ?_))); (case side2 => exact (Kd.R_reads' HO204.out).2.1); rintro e w9 ⟨rfl, hb⟩; refine ⟨_, rfl, ?_⟩; have n0_ := Aside0.mk (Kd.R_below (by (with_reducible repeat (first | apply Kd.R_alloc | apply Kd.R_drewN | apply Kd.R_drew)); exact HO204.out) hb); have n1_ := Aside0.mk (below_step (by repeat (with_reducible first | exact HB.out | apply below_alloc | apply pw_below_drewN | apply below_drew1)) hb); clear HO204; clear HB; have HO204 := n0_; have HB := n1_; clear n0_ n1_; (try clear hb); (try clear hb2); (try clear hk); (try clear hi)) | ((with_reducible refine gate_callee (f := 20) rfl ?_); refine goesL_ (some 12) rfl rfl Tryz.func20 (by kernel_rfl) rfl #[.string (⟨#[97, 10, 98, 10]⟩ : ByteArray), .string (⟨#[97, 10, 99, 10]⟩ : ByteArray), .int .i64 1] rfl (by (try simp only [List.map_toArray, List.map_cons, List.map_nil]); first | done | rfl | (simp only [List.length_drop, List.length_take]; rfl)) ?_; (with_reducible refine (text_Diff.calls (⟨#[97, 10, 98, 10]⟩ : ByteArray) (⟨#[97, 10, 99, 10]⟩ : ByteArray) 1 t207 t208 _ ?side1 A2.out).mono ?_); (case side1 => exact Glob.below HGl.out (by repeat (with_reducible first | exact HB.out | apply below_alloc | apply pw_below_drewN | apply below_drew1))); rintro e w10 ⟨rfl, hb⟩; refine ⟨_, rfl, ?_⟩; have n0_ := Aside0.mk (Kd.R_below (by (with_reducible repeat (first | apply Kd.R_alloc | apply Kd.R_drewN | apply Kd.R_drew)); exact HO204.out) hb); have n1_ := Aside0.mk (below_step (by repeat (with_reducible first | exact HB.out | apply below_alloc | apply pw_below_drewN | apply below_drew1)) hb); clear HO204; clear HB; have HO204 := n0_; have HB := n1_; clear n0_ n1_; (try clear hb); (try clear hb2); (try clear hk); (try clear hi)))
    go_ret
    exact ⟨by first | rfl | (simp [errW_none, errW_some] <;> rfl) | (simp [*, errW_none, errW_some] <;> rfl), by repeat (with_reducible first | exact HB.out | apply below_alloc | apply pw_below_drewN | apply below_drew1)⟩
   ·rw [if_neg c5] at H
    have c5b0 : (t208 == 0) = false := beq_eq_false_iff_ne.mpr c5
    have c5b1 : (t208 != 0) = true := bne_iff_ne.mpr c5
    obtain rfl := Option.some.inj H
    go_enter Tryz.func18, Tryz.ntmps18
    go_wp2_with (first | ((with_reducible refine gate_dst (N := 7) rfl ?_); refine Kd.R_lit k24 _ 24 ?hg (N := 7) ?hd (xs := ([(⟨1, 2, (⟨#[120]⟩ : ByteArray)⟩ : S24)] : List (S24))) (inner := [.int .i64 1, .int .i64 2, .string (⟨#[120]⟩ : ByteArray)]) (ok := fun _ => True) (okp := fun _ => True) ?hr ?hp (fun _ hk => hk) trivial (Below.refl _ _) (Nat.le_refl _) (by simp) ?_; (case hd => rfl); (case hg => rfl); (case hr => first | (go_simp; done) | (go_simp; rfl)); (case hp => exact (Reps.c3 (show Kd.M k24 _ _ _ (⟨1, 2, (⟨#[120]⟩ : ByteArray)⟩ : S24) [.int .i64 1, .int .i64 2, .string (⟨#[120]⟩ : ByteArray)] from (k24_mkM _ _ _ (⟨1, 2, (⟨#[120]⟩ : ByteArray)⟩ : S24) )) (Reps.none _ _))); intro v203 w11 ho12 hb hg_ hnew_; clear hg_ hnew_; (first | rw [← Ny202.out] at ho12 | (simp only [Int.reduceToNat] at ho12; rw [← Ny202.out] at ho12)); have n0_ := Aside0.mk (Kd.R_lower ho12 (below_size (by repeat (with_reducible first | exact HB.out | apply below_alloc | apply pw_below_drewN | apply below_drew1)))); have n1_ := Aside0.mk (below_step (by repeat (with_reducible first | exact HB.out | apply below_alloc | apply pw_below_drewN | apply below_drew1)) hb); clear HB; have HO204 := n0_; have HB := n1_; clear n0_ n1_; clear hb ho12; obtain ⟨Ao13, co13, eo13⟩ := Kd.R_slice HO204.out; subst eo13) | ((with_reducible refine gate_callee (f := 22) rfl ?_); refine goesL_ (some 8) rfl rfl Tryz.func22 (by kernel_rfl) rfl #[.string (⟨#[97, 98, 99]⟩ : ByteArray), .slice Ao13 y202.length co13] rfl (by (try simp only [List.map_toArray, List.map_cons, List.map_nil]); first | done | rfl | (simp only [List.length_drop, List.length_take]; rfl)) ?_; (with_reducible refine (text_Apply.calls (⟨#[97, 98, 99]⟩ : ByteArray) _ _ y202 t205 t206 _ ?side1 ?side2 A1.out).mono ?_); (case side1 => repeat (first | exact (Kd.R_reads' HO204.out).2.2 | (with_reducible refine Kd.C_alloc ?_ _) | (with_reducible refine Kd.C_drewN ?_ _) | (with_reducible refine Kd.C_drew ?_))); (case side2 => exact (Kd.R_reads' HO204.out).2.1); rintro e w14 ⟨rfl, hb⟩; refine ⟨_, rfl, ?_⟩; have n0_ := Aside0.mk (Kd.R_below (by (with_reducible repeat (first | apply Kd.R_alloc | apply Kd.R_drewN | apply Kd.R_drew)); exact HO204.out) hb); have n1_ := Aside0.mk (below_step (by repeat (with_reducible first | exact HB.out | apply below_alloc | apply pw_below_drewN | apply below_drew1)) hb); clear HO204; clear HB; have HO204 := n0_; have HB := n1_; clear n0_ n1_; (try clear hb); (try clear hb2); (try clear hk); (try clear hi)) | ((with_reducible refine gate_callee (f := 20) rfl ?_); refine goesL_ (some 12) rfl rfl Tryz.func20 (by kernel_rfl) rfl #[.string (⟨#[97, 10, 98, 10]⟩ : ByteArray), .string (⟨#[97, 10, 99, 10]⟩ : ByteArray), .int .i64 1] rfl (by (try simp only [List.map_toArray, List.map_cons, List.map_nil]); first | done | rfl | (simp only [List.length_drop, List.length_take]; rfl)) ?_; (with_reducible refine (text_Diff.calls (⟨#[97, 10, 98, 10]⟩ : ByteArray) (⟨#[97, 10, 99, 10]⟩ : ByteArray) 1 t207 t208 _ ?side1 A2.out).mono ?_); (case side1 => exact Glob.below HGl.out (by repeat (with_reducible first | exact HB.out | apply below_alloc | apply pw_below_drewN | apply below_drew1))); rintro e w15 ⟨rfl, hb⟩; refine ⟨_, rfl, ?_⟩; have n0_ := Aside0.mk (Kd.R_below (by (with_reducible repeat (first | apply Kd.R_alloc | apply Kd.R_drewN | apply Kd.R_drew)); exact HO204.out) hb); have n1_ := Aside0.mk (below_step (by repeat (with_reducible first | exact HB.out | apply below_alloc | apply pw_below_drewN | apply below_drew1)) hb); clear HO204; clear HB; have HO204 := n0_; have HB := n1_; clear n0_ n1_; (try clear hb); (try clear hb2); (try clear hk); (try clear hi)))
    go_ret
    exact ⟨by first | rfl | (simp [errW_none, errW_some] <;> rfl) | (simp [*, errW_none, errW_some] <;> rfl), by repeat (with_reducible first | exact HB.out | apply below_alloc | apply pw_below_drewN | apply below_drew1)⟩
  ·rw [if_neg c4] at H
   have c4b0 : (t205.toList == ([97, 120, 99] : List UInt8)) = false := beq_eq_false_iff_ne.mpr c4
   have c4b1 : (t205.toList != ([97, 120, 99] : List UInt8)) = true := bne_iff_ne.mpr c4
   obtain rfl := Option.some.inj H
   go_enter Tryz.func18, Tryz.ntmps18
   go_wp2_with (first | ((with_reducible refine gate_dst (N := 7) rfl ?_); refine Kd.R_lit k24 _ 24 ?hg (N := 7) ?hd (xs := ([(⟨1, 2, (⟨#[120]⟩ : ByteArray)⟩ : S24)] : List (S24))) (inner := [.int .i64 1, .int .i64 2, .string (⟨#[120]⟩ : ByteArray)]) (ok := fun _ => True) (okp := fun _ => True) ?hr ?hp (fun _ hk => hk) trivial (Below.refl _ _) (Nat.le_refl _) (by simp) ?_; (case hd => rfl); (case hg => rfl); (case hr => first | (go_simp; done) | (go_simp; rfl)); (case hp => exact (Reps.c3 (show Kd.M k24 _ _ _ (⟨1, 2, (⟨#[120]⟩ : ByteArray)⟩ : S24) [.int .i64 1, .int .i64 2, .string (⟨#[120]⟩ : ByteArray)] from (k24_mkM _ _ _ (⟨1, 2, (⟨#[120]⟩ : ByteArray)⟩ : S24) )) (Reps.none _ _))); intro v203 w16 ho17 hb hg_ hnew_; clear hg_ hnew_; (first | rw [← Ny202.out] at ho17 | (simp only [Int.reduceToNat] at ho17; rw [← Ny202.out] at ho17)); have n0_ := Aside0.mk (Kd.R_lower ho17 (below_size (by repeat (with_reducible first | exact HB.out | apply below_alloc | apply pw_below_drewN | apply below_drew1)))); have n1_ := Aside0.mk (below_step (by repeat (with_reducible first | exact HB.out | apply below_alloc | apply pw_below_drewN | apply below_drew1)) hb); clear HB; have HO204 := n0_; have HB := n1_; clear n0_ n1_; clear hb ho17; obtain ⟨Ao18, co18, eo18⟩ := Kd.R_slice HO204.out; subst eo18) | ((with_reducible refine gate_callee (f := 22) rfl ?_); refine goesL_ (some 8) rfl rfl Tryz.func22 (by kernel_rfl) rfl #[.string (⟨#[97, 98, 99]⟩ : ByteArray), .slice Ao18 y202.length co18] rfl (by (try simp only [List.map_toArray, List.map_cons, List.map_nil]); first | done | rfl | (simp only [List.length_drop, List.length_take]; rfl)) ?_; (with_reducible refine (text_Apply.calls (⟨#[97, 98, 99]⟩ : ByteArray) _ _ y202 t205 t206 _ ?side1 ?side2 A1.out).mono ?_); (case side1 => repeat (first | exact (Kd.R_reads' HO204.out).2.2 | (with_reducible refine Kd.C_alloc ?_ _) | (with_reducible refine Kd.C_drewN ?_ _) | (with_reducible refine Kd.C_drew ?_))); (case side2 => exact (Kd.R_reads' HO204.out).2.1); rintro e w19 ⟨rfl, hb⟩; refine ⟨_, rfl, ?_⟩; have n0_ := Aside0.mk (Kd.R_below (by (with_reducible repeat (first | apply Kd.R_alloc | apply Kd.R_drewN | apply Kd.R_drew)); exact HO204.out) hb); have n1_ := Aside0.mk (below_step (by repeat (with_reducible first | exact HB.out | apply below_alloc | apply pw_below_drewN | apply below_drew1)) hb); clear HO204; clear HB; have HO204 := n0_; have HB := n1_; clear n0_ n1_; (try clear hb); (try clear hb2); (try clear hk); (try clear hi)) | ((with_reducible refine gate_callee (f := 20) rfl ?_); refine goesL_ (some 12) rfl rfl Tryz.func20 (by kernel_rfl) rfl #[.string (⟨#[97, 10, 98, 10]⟩ : ByteArray), .string (⟨#[97, 10, 99, 10]⟩ : ByteArray), .int .i64 1] rfl (by (try simp only [List.map_toArray, List.map_cons, List.map_nil]); first | done | rfl | (simp only [List.length_drop, List.length_take]; rfl)) ?_; (with_reducible refine (text_Diff.calls (⟨#[97, 10, 98, 10]⟩ : ByteArray) (⟨#[97, 10, 99, 10]⟩ : ByteArray) 1 t207 t208 _ ?side1 A2.out).mono ?_); (case side1 => exact Glob.below HGl.out (by repeat (with_reducible first | exact HB.out | apply below_alloc | apply pw_below_drewN | apply below_drew1))); rintro e w20 ⟨rfl, hb⟩; refine ⟨_, rfl, ?_⟩; have n0_ := Aside0.mk (Kd.R_below (by (with_reducible repeat (first | apply Kd.R_alloc | apply Kd.R_drewN | apply Kd.R_drew)); exact HO204.out) hb); have n1_ := Aside0.mk (below_step (by repeat (with_reducible first | exact HB.out | apply below_alloc | apply pw_below_drewN | apply below_drew1)) hb); clear HO204; clear HB; have HO204 := n0_; have HB := n1_; clear n0_ n1_; (try clear hb); (try clear hb2); (try clear hk); (try clear hi)))
   go_ret
   exact ⟨by first | rfl | (simp [errW_none, errW_some] <;> rfl) | (simp [*, errW_none, errW_some] <;> rfl), by repeat (with_reducible first | exact HB.out | apply below_alloc | apply pw_below_drewN | apply below_drew1)⟩
 ·rw [if_neg c3] at H
  have c3b0 : (t206 == 0) = false := beq_eq_false_iff_ne.mpr c3
  have c3b1 : (t206 != 0) = true := bne_iff_ne.mpr c3
  obtain rfl := Option.some.inj H
  go_enter Tryz.func18, Tryz.ntmps18
  go_wp2_with (first | ((with_reducible refine gate_dst (N := 7) rfl ?_); refine Kd.R_lit k24 _ 24 ?hg (N := 7) ?hd (xs := ([(⟨1, 2, (⟨#[120]⟩ : ByteArray)⟩ : S24)] : List (S24))) (inner := [.int .i64 1, .int .i64 2, .string (⟨#[120]⟩ : ByteArray)]) (ok := fun _ => True) (okp := fun _ => True) ?hr ?hp (fun _ hk => hk) trivial (Below.refl _ _) (Nat.le_refl _) (by simp) ?_; (case hd => rfl); (case hg => rfl); (case hr => first | (go_simp; done) | (go_simp; rfl)); (case hp => exact (Reps.c3 (show Kd.M k24 _ _ _ (⟨1, 2, (⟨#[120]⟩ : ByteArray)⟩ : S24) [.int .i64 1, .int .i64 2, .string (⟨#[120]⟩ : ByteArray)] from (k24_mkM _ _ _ (⟨1, 2, (⟨#[120]⟩ : ByteArray)⟩ : S24) )) (Reps.none _ _))); intro v203 w21 ho22 hb hg_ hnew_; clear hg_ hnew_; (first | rw [← Ny202.out] at ho22 | (simp only [Int.reduceToNat] at ho22; rw [← Ny202.out] at ho22)); have n0_ := Aside0.mk (Kd.R_lower ho22 (below_size (by repeat (with_reducible first | exact HB.out | apply below_alloc | apply pw_below_drewN | apply below_drew1)))); have n1_ := Aside0.mk (below_step (by repeat (with_reducible first | exact HB.out | apply below_alloc | apply pw_below_drewN | apply below_drew1)) hb); clear HB; have HO204 := n0_; have HB := n1_; clear n0_ n1_; clear hb ho22; obtain ⟨Ao23, co23, eo23⟩ := Kd.R_slice HO204.out; subst eo23) | ((with_reducible refine gate_callee (f := 22) rfl ?_); refine goesL_ (some 8) rfl rfl Tryz.func22 (by kernel_rfl) rfl #[.string (⟨#[97, 98, 99]⟩ : ByteArray), .slice Ao23 y202.length co23] rfl (by (try simp only [List.map_toArray, List.map_cons, List.map_nil]); first | done | rfl | (simp only [List.length_drop, List.length_take]; rfl)) ?_; (with_reducible refine (text_Apply.calls (⟨#[97, 98, 99]⟩ : ByteArray) _ _ y202 t205 t206 _ ?side1 ?side2 A1.out).mono ?_); (case side1 => repeat (first | exact (Kd.R_reads' HO204.out).2.2 | (with_reducible refine Kd.C_alloc ?_ _) | (with_reducible refine Kd.C_drewN ?_ _) | (with_reducible refine Kd.C_drew ?_))); (case side2 => exact (Kd.R_reads' HO204.out).2.1); rintro e w24 ⟨rfl, hb⟩; refine ⟨_, rfl, ?_⟩; have n0_ := Aside0.mk (Kd.R_below (by (with_reducible repeat (first | apply Kd.R_alloc | apply Kd.R_drewN | apply Kd.R_drew)); exact HO204.out) hb); have n1_ := Aside0.mk (below_step (by repeat (with_reducible first | exact HB.out | apply below_alloc | apply pw_below_drewN | apply below_drew1)) hb); clear HO204; clear HB; have HO204 := n0_; have HB := n1_; clear n0_ n1_; (try clear hb); (try clear hb2); (try clear hk); (try clear hi)) | ((with_reducible refine gate_callee (f := 20) rfl ?_); refine goesL_ (some 12) rfl rfl Tryz.func20 (by kernel_rfl) rfl #[.string (⟨#[97, 10, 98, 10]⟩ : ByteArray), .string (⟨#[97, 10, 99, 10]⟩ : ByteArray), .int .i64 1] rfl (by (try simp only [List.map_toArray, List.map_cons, List.map_nil]); first | done | rfl | (simp only [List.length_drop, List.length_take]; rfl)) ?_; (with_reducible refine (text_Diff.calls (⟨#[97, 10, 98, 10]⟩ : ByteArray) (⟨#[97, 10, 99, 10]⟩ : ByteArray) 1 t207 t208 _ ?side1 A2.out).mono ?_); (case side1 => exact Glob.below HGl.out (by repeat (with_reducible first | exact HB.out | apply below_alloc | apply pw_below_drewN | apply below_drew1))); rintro e w25 ⟨rfl, hb⟩; refine ⟨_, rfl, ?_⟩; have n0_ := Aside0.mk (Kd.R_below (by (with_reducible repeat (first | apply Kd.R_alloc | apply Kd.R_drewN | apply Kd.R_drew)); exact HO204.out) hb); have n1_ := Aside0.mk (below_step (by repeat (with_reducible first | exact HB.out | apply below_alloc | apply pw_below_drewN | apply below_drew1)) hb); clear HO204; clear HB; have HO204 := n0_; have HB := n1_; clear n0_ n1_; (try clear hb); (try clear hb2); (try clear hk); (try clear hi)))
  go_ret
  exact ⟨by first | rfl | (simp [errW_none, errW_some] <;> rfl) | (simp [*, errW_none, errW_some] <;> rfl), by repeat (with_reducible first | exact HB.out | apply below_alloc | apply pw_below_drewN | apply below_drew1)⟩

end Go.Proofs.YtidlmkdoofcgnaaGreatDoor.PText

namespace Go.Proofs.YtidlmkdoofcgnaaGreatDoor.PText
open Go.RowKit Go.Lib Go.Proofs.YtidlmkdoofcgnaaGreatDoorW.PrintWords Go.Proofs.YtidlmkdoofcgnaaGreatDoorW.PrintLast Go.Proofs.YtidlmkdoofcgnaaGreatDoorW.PrintMore
def awA : ByteArray := ⟨#[97, 10, 98, 10]⟩
def awB : ByteArray := ⟨#[97, 10, 99, 10]⟩
def awR : ByteArray := ⟨#[64, 64, 32, 49, 44, 50, 32, 49, 44, 50, 32, 64, 64, 10, 32, 97, 10, 45, 98, 10, 43, 99, 10]⟩
def L3 : List S66 := [⟨32, ⟨#[97, 10]⟩⟩, ⟨45, ⟨#[98, 10]⟩⟩, ⟨43, ⟨#[99, 10]⟩⟩]
theorem aw_steps : stS (linesB awA) (linesB awB) = L3 := by
  have h1 : text_steps.f 41 (linesB awA) (linesB awB) = some L3 := by kernel_rfl
  have la : (linesB awA).length = 2 := by kernel_rfl
  have lb : (linesB awB).length = 2 := by kernel_rfl
  have h2 := steps_f (linesB awA) (linesB awB) (by omega) (by omega) 41 (by rw [la, lb]; decide)
  exact Option.some.inj (h2.symm.trans h1)
theorem itS_one {n : Nat} (h : n < 10) : itS n = ⟨#[UInt8.ofNat (48 + n)]⟩ := by
  unfold itS
  rw [show Lib.itoa (n : Int) = Lib.decDigits n by unfold Lib.itoa; rw [if_neg (by omega)]; simp, Lib.decDigits_one h]
theorem aw_diff : text_Diff.f awA awB 1 = some (awR, 0) := by
  have la : (linesB awA).length = 2 := by kernel_rfl
  have lb : (linesB awB).length = 2 := by kernel_rfl
  have sa : awA.size = 4 := rfl
  have sb : awB.size = 4 := rfl
  have hz : sizedR awA awB 1 = (L3, 0) := by
    unfold sizedR
    rw [if_neg (by omega), if_neg (by omega), aw_steps]
  have hk : hkL L3 1 L3.length 0 = [(0, 3)] := by kernel_rfl
  have hd : diffT awA awB 1 = awR.data.toList := by
    unfold diffT diffL
    rw [hz]
    show ((hkL L3 1 L3.length 0).map (hunkP L3)).flatten = _
    rw [hk]
    show (hunkL (cA (L3.take 0)) (cB (L3.take 0)) ((L3.take 3).drop 0)) ++ [] = _
    rw [List.append_nil]
    unfold hunkL headT
    rw [show cA ((L3.take 3).drop 0) = 2 from rfl, show cB ((L3.take 3).drop 0) = 2 from rfl, show firstN (cA (L3.take 0)) 2 = 1 from rfl, show firstN (cB (L3.take 0)) 2 = 1 from rfl, itS_one (n := 1) (by omega), itS_one (n := 2) (by omega)]
    kernel_rfl
  unfold text_Diff.f
  rw [if_pos (by omega), hz, if_pos rfl, hd, if_pos (by decide)]
theorem awake_f : smockinglaw01_awake.f = some true := by
  unfold smockinglaw01_awake.f
  have e := aw_diff
  unfold awA awB at e
  have h1 : text_Apply.f (⟨#[97, 98, 99]⟩ : ByteArray) (([(⟨1, 2, (⟨#[120]⟩ : ByteArray)⟩ : S24)] : List (S24))) = some (⟨#[97, 120, 99]⟩, 0) := by kernel_rfl
  rw [h1, Option.bind_some, e, Option.bind_some]
  rw [if_pos rfl, if_pos (by kernel_rfl), if_pos rfl]
  exact congrArg some (by kernel_rfl)
end Go.Proofs.YtidlmkdoofcgnaaGreatDoor.PText

namespace Go.Proofs.YtidlmkdoofcgnaaGreatDoor.PText
open Go.RowKit Go.Lib Go.Sort Go.Proofs.YtidlmkdoofcgnaaGreatDoorW.PrintWords Go.Proofs.YtidlmkdoofcgnaaGreatDoorW.PrintLast Go.Proofs.YtidlmkdoofcgnaaGreatDoorW.PrintMore
set_option linter.unusedVariables false
set_option linter.unusedSimpArgs false
theorem results_cell3 {fn : Func} {p u v x : Tmp} {ty : TypeId} (h : fn.results = #[.cell p ty, .tmp u, .tmp v, .tmp x]) (tmps : Array Value) (P : Program) (w : World) :
    (results fn tmps).run P w = ((asAddr (tmps.getD p undef)).run P w).andThen fun a w₁ => ((loadVar ty a).run P w₁).andThen fun z w₂ => .ok (.tuple #[z, tmps.getD u undef, tmps.getD v undef, tmps.getD x undef]) w₂ := by
  simp only [results, h]
  simp [Sem.run_bind, Result.andThen]
/-- a reader with a difference's lines ahead of it -/
def RdIs (w : World) (rb : Nat) (d : ByteArray) : Prop := ∃ A c, w.heap[rb]? = some (.cells #[.slice A (linesB d).length c, .bool false, .bool false] 102 (0, 0)) ∧ Kd.C Kd.string w A (linesB d).length (linesB d)
theorem RdIs.below {w w' : World} {rb : Nat} {d : ByteArray} (h : RdIs w rb d) (hb : Below w.heap.size w w') : RdIs w' rb d := by
  obtain ⟨A, c, h1, h2⟩ := h
  exact ⟨A, c, (hb.block rb (Array.getElem?_eq_some_iff.1 h1).1).trans h1, Kd.C_below h2 hb⟩
theorem first_line {d : ByteArray} (hne : d ≠ ⟨#[]⟩) : ∃ l0 rest, (linesB d)[0]? = some l0 ∧ d.data.toList = l0.data.toList ++ rest ∧ l0.size ≤ d.size := by
  obtain ⟨h1, h2, h3⟩ := linesB_step d hne
  refine ⟨d.extract 0 (lineEnd d), d.data.toList.drop (lineEnd d), by rw [h3]; rfl, ?_, ?_⟩
  · rw [Lib.extract_from_zero]
    exact (List.take_append_drop _ _).symm
  · rw [ByteArray.size_extract]; omega
set_option maxRecDepth 100000 in
set_option maxHeartbeats 4000000 in
theorem head_refuses (rb : Nat) (d : ByteArray) (w : World) (hG : Glob w) (hR : RdIs w rb d) (hd : d.size ≤ 1000000) (hne : d ≠ ⟨#[]⟩) (hno : ∀ r, d.data.toList ≠ 64 :: 64 :: 32 :: r) :
    Calls Tryz.prog 81 #[.pointer (some ⟨rb, 0, none⟩)] w fun e w' => e = .returned (.tuple #[.agg #[.int .i64 0, .int .i64 0, .slice none 0 0], .int .i64 0, .int .i64 0, .bool false]) ∧ Below w.heap.size w w' := by
  obtain ⟨l0, rest, f1, f2, f3⟩ := first_line hne
  obtain ⟨A, c, r1, r2⟩ := hR
  obtain ⟨hl0, hl1⟩ := List.getElem?_eq_some_iff.1 f1
  have hc1 : w.cell? ⟨rb, 0, none⟩ = some (.slice A (linesB d).length c) := by unfold World.cell?; rw [r1]; rfl
  obtain ⟨ad, e0, hx⟩ := Kd.at_string r2 0 (Int.le_refl _) (by omega)
  cases e0
  have hx1 : w.cell? ad = some (.string l0) := by
    have : (ad.add (0 : Int).toNat) = ad := by cases ad; rfl
    rw [this] at hx
    rw [hx]
    unfold rdOf
    rw [show (0 : Int).toNat = 0 from rfl, List.getD_eq_getElem?_getD, f1]; rfl
  obtain ⟨m, hm⟩ := hG.max
  have hp0 : (0 : Int) < ((linesB d).length : Int) := by omega
  have hp1 : decide ((0 : Int) < ((linesB d).length : Int)) = true := decide_eq_true hp0
  have hpn : 0 < (linesB d).length := hl0
  have HT : Aside0 (∀ W, Calls Tryz.prog 100 #[.string l0, .string ⟨#[10]⟩] W fun e w' => e = .returned (.string ⟨(Lib.trimSuffix l0.data.toList [10]).toArray⟩) ∧ w' = W) := ⟨fun W => Tryz.strings_TrimSuffix l0 ⟨#[10]⟩ W (by omega)⟩
  have hts : (⟨(Lib.trimSuffix l0.data.toList [10]).toArray⟩ : ByteArray).size ≤ 1000000 := by
    obtain ⟨u, hu⟩ := Rf.trim_pre l0.data.toList [10]
    have h1 := congrArg List.length hu
    rw [List.length_append] at h1
    have h2 := Lib.size_eq l0
    show (Lib.trimSuffix l0.data.toList [10]).toArray.size ≤ _
    rw [List.size_toArray]
    omega
  have HN : Aside0 (∀ k p, 2 ≤ (Lib.splitB ⟨#[32]⟩ 0 k ⟨(Lib.trimSuffix l0.data.toList [10]).toArray⟩).length → (Lib.splitB ⟨#[32]⟩ 0 k ⟨(Lib.trimSuffix l0.data.toList [10]).toArray⟩)[0]? = some p → p.data.toList ≠ [64, 64]) := ⟨fun k p => Rf.head_no d l0 rest f2 hno k p⟩
  generalize (⟨(Lib.trimSuffix l0.data.toList [10]).toArray⟩ : ByteArray) = t at *
  have hlen := Lib.splitB_all ⟨#[32]⟩ (by decide) 0 _ t rfl
  have HS : Aside0 (∀ W, Below w.heap.size w W → Calls Tryz.prog 115 #[.string t, .string ⟨#[32]⟩] W fun e w' => e = .returned (.slice (some ⟨W.heap.size, 0, none⟩) (Lib.splitB ⟨#[32]⟩ 0 (Lib.countB t ⟨#[32]⟩) t).length (Lib.splitB ⟨#[32]⟩ 0 (Lib.countB t ⟨#[32]⟩) t).length) ∧ w' = W.alloc (.cells ((Lib.splitB ⟨#[32]⟩ 0 (Lib.countB t ⟨#[32]⟩) t).map Value.string).toArray 9)) := ⟨fun W hb => by
    have := Tryz.strings_Split t ⟨#[32]⟩ m W (by omega) ((hb.cell (p := ⟨2, 0, none⟩) (Nat.lt_trans (by decide) hG.size)).trans hm) (by decide)
    rw [← hlen] at this
    exact this⟩
  have HN2 := Aside0.mk (HN.out (Lib.countB t ⟨#[32]⟩))
  clear HN hlen hts hx f1 f2 f3 hno hne hd hG r1 r2 hm hl0 hl1
  generalize Lib.splitB ⟨#[32]⟩ 0 (Lib.countB t ⟨#[32]⟩) t = P at *
  have HB0 := Aside0.mk ((Below.refl w.heap.size w).alloc (Nat.le_refl _) (.cells #[.int .i64 0, .int .i64 0, .slice none 0 0] 64))
  have hc2 := (HB0.out.cell (World.block_lt_of_cell? _ _ hc1)).trans hc1
  have hx2 := (HB0.out.cell (World.block_lt_of_cell? _ _ hx1)).trans hx1
  have hz2 : (w.alloc (.cells #[.int .i64 0, .int .i64 0, .slice none 0 0] 64)).heap[w.heap.size]? = some (.cells #[.int .i64 0, .int .i64 0, .slice none 0 0] 64 (0, 0)) := by
    show (w.heap.push _)[w.heap.size]? = _
    exact Array.getElem?_push_size
  have HZ2 := Aside0.mk hz2
  clear hc1 hx1 hz2
  have HP := Aside0.mk hpn
  by_cases h4 : P.length = 4
  · obtain ⟨p0, p1, p2, p3, rfl⟩ : ∃ p0 p1 p2 p3, P = [p0, p1, p2, p3] := by
      match P, h4 with
      | [a, b, c, d], _ => exact ⟨a, b, c, d, rfl⟩
    have hq : (p0.toList == [64, 64]) = false := beq_eq_false_iff_ne.2 (by rw [Lib.toList_data]; exact HN2.out p0 (by simp) rfl)
    clear HN2 h4
    go_enter Tryz.func81, Tryz.ntmps81
    go_wp2_with (first
      | (go_at_call 100; with_reducible refine (HT.out _).mono ?_; rintro e w1 ⟨rfl, rfl⟩; clear HT)
      | (go_at_call 115; with_reducible refine (HS.out _ ((Below.refl _ _).alloc (Nat.le_refl _) _)).mono ?_; rintro e w2 ⟨rfl, rfl⟩; clear HS)
      | fail)
    (try simp only [Exit.inBlock, Exit.then])
    refine bodyPost_ret (v := .tuple #[.agg #[.int .i64 0, .int .i64 0, .slice none 0 0], .int .i64 0, .int .i64 0, .bool false]) ?_ rfl ⟨rfl, HB0.out.alloc HB0.out.size _⟩
    rw [results_cell3 rfl]
    go_simp
  · have hq4 : ((P.length : Int) == 4) = false := beq_eq_false_iff_ne.2 (by omega)
    have hq5 : (P.length == 4) = false := beq_eq_false_iff_ne.2 h4
    clear HN2
    go_enter Tryz.func81, Tryz.ntmps81
    go_wp2_with (first
      | (go_at_call 100; with_reducible refine (HT.out _).mono ?_; rintro e w1 ⟨rfl, rfl⟩; clear HT)
      | (go_at_call 115; with_reducible refine (HS.out _ ((Below.refl _ _).alloc (Nat.le_refl _) _)).mono ?_; rintro e w2 ⟨rfl, rfl⟩; clear HS)
      | fail)
    (try simp only [Exit.inBlock, Exit.then])
    refine bodyPost_ret (v := .tuple #[.agg #[.int .i64 0, .int .i64 0, .slice none 0 0], .int .i64 0, .int .i64 0, .bool false]) ?_ rfl ⟨rfl, HB0.out.alloc HB0.out.size _⟩
    rw [results_cell3 rfl]
    go_simp
end Go.Proofs.YtidlmkdoofcgnaaGreatDoor.PText

