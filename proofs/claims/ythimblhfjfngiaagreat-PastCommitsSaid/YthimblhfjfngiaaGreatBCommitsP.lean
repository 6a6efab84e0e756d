/- PastCommits holds: for all steps and every number the statement answers true. Part 16 of 20. -/
import Derived.Test.YthimblhfjfngiaaGreatBCommitsO
namespace Go.Proofs.YthimblhfjfngiaaGreat.PText
open Go.RowKit Go.Proofs.YthimblhfjfngiaaGreatW.PrintWords Go.Proofs.YthimblhfjfngiaaGreatW.PrintLast Go.Proofs.YthimblhfjfngiaaGreatW.PrintMore
attribute [local go_sem] max2_int min2_int max_two min_two max_three min_three max_four min_four   -- for this text's walks alone
set_option linter.unusedVariables false
set_option linter.unusedSimpArgs false

def text_sized.j0 : Nat → Int → List ByteArray → List ByteArray → Bool → Option ((List (S119)) × Int)
 | 0, _, _, _, _ => none
 | k + 1, x2, x8, x9, x14 => if x14 = true then (some (([] : List (S119)), 2)) else (if x2 < 0 then (some (([] : List (S119)), 1)) else (if x2 > 20 then (some (([] : List (S119)), 1)) else ((text_steps.f k x8 x9).bind fun t160 => (some (t160, 0)))))
def text_sized.f (k : Nat) (a0 : ByteArray) (a1 : ByteArray) (a2 : Int) : Option ((List (S119)) × Int) := (text_Lines.f a0).bind fun t154 => ((text_Lines.f a1).bind fun t157 => (if (a0.size : Int) > 200000 then (text_sized.j0 k a2 t154 t157 true) else (if (a1.size : Int) > 200000 then (text_sized.j0 k a2 t154 t157 true) else (if (t154.length : Int) > 2000 then (text_sized.j0 k a2 t154 t157 true) else (text_sized.j0 k a2 t154 t157 (decide ((t157.length : Int) > 2000)))))))
theorem text_sized.mono_l : ∀ k, (∀ y0 y1 y2 y3, LeO (text_sized.j0 k y0 y1 y2 y3) (text_sized.j0 (k + 1) y0 y1 y2 y3))
 | 0 => fun _ _ _ _ r h => by simp [text_sized.j0] at h
 | k + 1 => by
  have ih0 := text_sized.mono_l k
  ·intro y0 y1 y2 y3
   unfold text_sized.j0
   repeat' first
   | (with_reducible exact ih0 _ _ _ _)
   | (with_reducible exact text_steps.mono _ _ _)
   | (with_reducible exact LeO.refl _)
   | (with_reducible exact LeO.none _)
   | (with_reducible refine LeO.ite ?_ ?_)
   | (with_reducible refine LeO.bind ?_ (fun _ => ?_))
   | exact ih0 _ _ _ _
   | exact text_steps.mono _ _ _
   | exact LeO.none _
   | refine LeO.ite ?_ ?_
   | refine LeO.bind ?_ (fun _ => ?_)
theorem text_sized.mono : ∀ a0 a1 a2 k, LeO (text_sized.f k a0 a1 a2) (text_sized.f (k + 1) a0 a1 a2) := by
 intro a0 a1 a2 k
 have ih0 := text_sized.mono_l k
 unfold text_sized.f
 repeat' first
   | (with_reducible exact ih0 _ _ _ _)
   | (with_reducible exact text_steps.mono _ _ _)
   | (with_reducible exact LeO.refl _)
   | (with_reducible exact LeO.none _)
   | (with_reducible refine LeO.ite ?_ ?_)
   | (with_reducible refine LeO.bind ?_ (fun _ => ?_))
   | exact ih0 _ _ _ _
   | exact text_steps.mono _ _ _
   | exact LeO.none _
   | refine LeO.ite ?_ ?_
   | refine LeO.bind ?_ (fun _ => ?_)
set_option maxHeartbeats 8000000 in
set_option maxRecDepth 100000 in
theorem text_sized.calls (k : Nat) (a0 : ByteArray) (a1 : ByteArray) (a2 : Int) (r1 : List (S119)) (r2 : Int) (w : World) (h : text_sized.f k a0 a1 a2 = some (r1, r2)) :
  Calls Tryz.prog 69 #[.string a0, .string a1, .int .i64 a2] w fun e w' => ∃ v0_ : Value, e = .returned (.tuple #[v0_, .int .i64 r2]) ∧ Kd.R k119 119 w' w.heap.size (fun _ => True) v0_ r1 ∧ Below w.heap.size w w' := by
 have HB := Aside0.mk (Below.refl w.heap.size w)
 have H : ((text_Lines.f a0).bind fun t154 => ((text_Lines.f a1).bind fun t157 => (if (a0.size : Int) > 200000 then (text_sized.j0 k a2 t154 t157 true) else (if (a1.size : Int) > 200000 then (text_sized.j0 k a2 t154 t157 true) else (if (t154.length : Int) > 2000 then (text_sized.j0 k a2 t154 t157 true) else (text_sized.j0 k a2 t154 t157 (decide ((t157.length : Int) > 2000)))))))) = some (r1, r2) := h
 clear h
 replace H := Option.bind_eq_some_iff.mp H
 obtain ⟨t154, A40, H⟩ := H
 replace H : ((text_Lines.f a1).bind fun t157 => (if (a0.size : Int) > 200000 then (text_sized.j0 k a2 t154 t157 true) else (if (a1.size : Int) > 200000 then (text_sized.j0 k a2 t154 t157 true) else (if (t154.length : Int) > 2000 then (text_sized.j0 k a2 t154 t157 true) else (text_sized.j0 k a2 t154 t157 (decide ((t157.length : Int) > 2000))))))) = some (r1, r2) := H
 have A4 := Aside0.mk A40
 clear A40
 replace H := Option.bind_eq_some_iff.mp H
 obtain ⟨t157, A50, H⟩ := H
 replace H : (if (a0.size : Int) > 200000 then (text_sized.j0 k a2 t154 t157 true) else (if (a1.size : Int) > 200000 then (text_sized.j0 k a2 t154 t157 true) else (if (t154.length : Int) > 2000 then (text_sized.j0 k a2 t154 t157 true) else (text_sized.j0 k a2 t154 t157 (decide ((t157.length : Int) > 2000)))))) = some (r1, r2) := H
 have A5 := Aside0.mk A50
 clear A50
 have HC6 := Aside0.mk H
 clear H
 go_enter Tryz.func69, Tryz.ntmps69
 go_upto_region 2 with (first | ((with_reducible refine gate_callee (f := 36) rfl ?_); refine goesL_ (some 11) rfl rfl Tryz.func36 (by kernel_rfl) rfl #[.string a0] rfl (by (try simp only [List.map_toArray, List.map_cons, List.map_nil]); first | done | rfl | (simp only [List.length_drop, List.length_take]; rfl)) ?_; (with_reducible refine (text_Lines.calls a0 t154 _ A4.out).mono ?_); rintro e w7 ⟨v155, rfl, ho0, hb⟩; refine ⟨_, rfl, ?_⟩; have n0_ := Aside0.mk (Kd.R_lower ho0 (below_size (by repeat (with_reducible first | exact HB.out | apply below_alloc | apply pw_below_drewN | apply below_drew1)))); have n1_ := Aside0.mk (below_step (by repeat (with_reducible first | exact HB.out | apply below_alloc | apply pw_below_drewN | apply below_drew1)) hb); clear HB; have HO156 := n0_; have HB := n1_; clear n0_ n1_; (try clear hb); (try clear hb2); (try clear hk); (try clear hi); (try clear ho0)) | ((with_reducible refine gate_callee (f := 36) rfl ?_); refine goesL_ (some 13) rfl rfl Tryz.func36 (by kernel_rfl) rfl #[.string a1] rfl (by (try simp only [List.map_toArray, List.map_cons, List.map_nil]); first | done | rfl | (simp only [List.length_drop, List.length_take]; rfl)) ?_; (with_reducible refine (text_Lines.calls a1 t157 _ A5.out).mono ?_); rintro e w8 ⟨v158, rfl, ho0, hb⟩; refine ⟨_, rfl, ?_⟩; have n0_ := Aside0.mk (Kd.R_elder' (by (with_reducible repeat (first | apply Kd.R_alloc | apply Kd.R_drewN | apply Kd.R_drew)); exact HO156.out) (Kd.R_base ho0) hb); have n1_ := Aside0.mk (Kd.R_lower (Kd.R_new' ho0 (Kd.R_lt (by (with_reducible repeat (first | apply Kd.R_alloc | apply Kd.R_drewN | apply Kd.R_drew)); exact HO156.out))) (below_size (by repeat (with_reducible first | exact HB.out | apply below_alloc | apply pw_below_drewN | apply below_drew1)))); have n2_ := Aside0.mk (below_step (by repeat (with_reducible first | exact HB.out | apply below_alloc | apply pw_below_drewN | apply below_drew1)) hb); clear HO156; clear HB; have HO156 := n0_; have HO159 := n1_; have HB := n2_; clear n0_ n1_ n2_; (try clear hb); (try clear hb2); (try clear hk); (try clear hi); (try clear ho0)))
 (try simp only [Act.put, q1_, q2_, q3_])
 go_cut [14] (fun v14 wc => ∃ (kq : Nat) (x14_5 : Bool), v14 = .bool x14_5 ∧ Aside0 (text_sized.j0 kq a2 t154 t157 x14_5 = some (r1, r2)) ∧ Aside0 (kq ≤ k) ∧ Aside0 (Kd.R Kd.string 9 wc w.heap.size (fun k_ => some k_ ≠ (v158 : Value).ownBlock) v155 t154) ∧ Aside0 (Kd.R Kd.string 9 wc w.heap.size (fun k_ => some k_ ≠ (v155 : Value).ownBlock) v158 t157) ∧ Aside0 (Below w.heap.size w wc))
 case first =>
  have H := HC6.out
  clear HC6
  by_cases c9 : (a0.size : Int) > 200000
  ·rw [if_pos c9] at H
   have c9b0 : decide (200000 < (a0.size : Int)) = true := decide_eq_true c9
   have c9b1 : decide (200000 < a0.size) = true := decide_eq_true (by omega)
   clear c9
   (first | rw [c9b0] | (simp only [i64_w, i32_w]; rw [c9b0]) | skip)
   have H' := Aside0.mk H
   clear H
   go_wp2
   go_meet
   case rel => exact ⟨_, (true), (by first | rfl | (simp; done) | (simp [*]; done)), H', ⟨by first | omega | exact Nat.le_refl _⟩, ⟨by (with_reducible repeat (first | apply Kd.R_alloc | apply Kd.R_drewN | apply Kd.R_drew)); exact Kd.R_mono HO156.out (fun _ hk => hk.2)⟩, ⟨by (with_reducible repeat (first | apply Kd.R_alloc | apply Kd.R_drewN | apply Kd.R_drew)); exact Kd.R_mono HO159.out (fun _ hk => hk.2)⟩, ⟨by repeat (with_reducible first | exact HB.out | apply below_alloc | apply pw_below_drewN | apply below_drew1)⟩⟩
  ·rw [if_neg c9] at H
   have c9b0 : decide (200000 < (a0.size : Int)) = false := decide_eq_false c9
   have c9b1 : decide (200000 < a0.size) = false := decide_eq_false (by omega)
   clear c9
   (first | rw [c9b0] | (simp only [i64_w, i32_w]; rw [c9b0]) | skip)
   by_cases c10 : (a1.size : Int) > 200000
   ·rw [if_pos c10] at H
    have c10b0 : decide (200000 < (a1.size : Int)) = true := decide_eq_true c10
    have c10b1 : decide (200000 < a1.size) = true := decide_eq_true (by omega)
    clear c10
    have H' := Aside0.mk H
    clear H
    go_wp2
    go_meet
    case rel => exact ⟨_, (true), (by first | rfl | (simp; done) | (simp [*]; done)), H', ⟨by first | omega | exact Nat.le_refl _⟩, ⟨by (with_reducible repeat (first | apply Kd.R_alloc | apply Kd.R_drewN | apply Kd.R_drew)); exact Kd.R_mono HO156.out (fun _ hk => hk.2)⟩, ⟨by (with_reducible repeat (first | apply Kd.R_alloc | apply Kd.R_drewN | apply Kd.R_drew)); exact Kd.R_mono HO159.out (fun _ hk => hk.2)⟩, ⟨by repeat (with_reducible first | exact HB.out | apply below_alloc | apply pw_below_drewN | apply below_drew1)⟩⟩
   ·rw [if_neg c10] at H
    have c10b0 : decide (200000 < (a1.size : Int)) = false := decide_eq_false c10
    have c10b1 : decide (200000 < a1.size) = false := decide_eq_false (by omega)
    clear c10
    by_cases c11 : (t154.length : Int) > 2000
    ·rw [if_pos c11] at H
     have c11b0 : decide (2000 < (t154.length : Int)) = true := decide_eq_true c11
     have c11b1 : decide (2000 < t154.length) = true := decide_eq_true (by omega)
     clear c11
     have H' := Aside0.mk H
     clear H
     obtain ⟨Ao12, co12, eo12⟩ := Kd.R_slice HO156.out
     subst eo12
     go_wp2
     go_meet
     case rel => exact ⟨_, (true), (by first | rfl | (simp; done) | (simp [*]; done)), H', ⟨by first | omega | exact Nat.le_refl _⟩, ⟨by (with_reducible repeat (first | apply Kd.R_alloc | apply Kd.R_drewN | apply Kd.R_drew)); exact Kd.R_mono HO156.out (fun _ hk => hk.2)⟩, ⟨by (with_reducible repeat (first | apply Kd.R_alloc | apply Kd.R_drewN | apply Kd.R_drew)); exact Kd.R_mono HO159.out (fun _ hk => hk.2)⟩, ⟨by repeat (with_reducible first | exact HB.out | apply below_alloc | apply pw_below_drewN | apply below_drew1)⟩⟩
    ·rw [if_neg c11] at H
     have c11b0 : decide (2000 < (t154.length : Int)) = false := decide_eq_false c11
     have c11b1 : decide (2000 < t154.length) = false := decide_eq_false (by omega)
     clear c11
     have H' := Aside0.mk H
     clear H
     obtain ⟨Ao13, co13, eo13⟩ := Kd.R_slice HO156.out
     subst eo13
     obtain ⟨Ao14, co14, eo14⟩ := Kd.R_slice HO159.out
     subst eo14
     go_wp2
     go_meet
     case rel => exact ⟨_, (decide ((t157.length : Int) > 2000)), (by first | rfl | (simp; done) | (simp [*]; done)), H', ⟨by first | omega | exact Nat.le_refl _⟩, ⟨by (with_reducible repeat (first | apply Kd.R_alloc | apply Kd.R_drewN | apply Kd.R_drew)); exact Kd.R_mono HO156.out (fun _ hk => hk.2)⟩, ⟨by (with_reducible repeat (first | apply Kd.R_alloc | apply Kd.R_drewN | apply Kd.R_drew)); exact Kd.R_mono HO159.out (fun _ hk => hk.2)⟩, ⟨by repeat (with_reducible first | exact HB.out | apply below_alloc | apply pw_below_drewN | apply below_drew1)⟩⟩
 case rest =>
  clear HC6
  try clear c1
  try clear p2
  try clear c3
  try clear c6
  try clear c9
  try clear c9b0
  try clear c9b1
  try clear c10
  try clear c10b0
  try clear c10b1
  try clear c11
  try clear c11b0
  try clear c11b1
  obtain ⟨kq, x14_5, rfl, HA, HJ5, HO_8, HO_9, HB⟩ := hcut
  cases kq with
  | zero => exact absurd HA.out (by simp [text_sized.j0])
  | succ kj5 =>
   have H := HA.out
   clear HA
   simp only [text_sized.j0] at H
   by_cases c15 : x14_5 = true
   ·subst c15
    have H1 : (some (([] : List (S119)), 2)) = some (r1, r2) := by rw [if_pos rfl] at H; exact H
    clear H
    have H := H1
    clear H1
    simp only [Option.some.injEq, Prod.mk.injEq] at H
    obtain ⟨rfl, rfl⟩ := H
    go_wp2
    go_ret2
    exact ⟨_, by first | rfl | (simp [errW_none, errW_some] <;> rfl) | (simp [*, errW_none, errW_some] <;> rfl), by first | exact Kd.R_nil _ _ _ _ _ | exact Kd.N_nil _ _ _ _ _ | exact Kd.V_nil _ _ _ _ _ | exact Kd.Q_nil _ _ _ _ _ | exact Kd.S_nil _ _ _ _ _, by repeat (with_reducible first | exact HB.out | apply below_alloc | apply pw_below_drewN | apply below_drew1)⟩
   ·replace c15 := Bool.eq_false_iff.mpr c15
    subst c15
    have H1 : (if a2 < 0 then (some (([] : List (S119)), 1)) else (if a2 > 20 then (some (([] : List (S119)), 1)) else ((text_steps.f kj5 t154 t157).bind fun t160 => (some (t160, 0))))) = some (r1, r2) := by rw [if_neg (show ¬ (false = true) by decide)] at H; exact H
    clear H
    have H := H1
    clear H1
    by_cases c16 : a2 < 0
    ·rw [if_pos c16] at H
     have c16b0 : decide (a2 < 0) = true := decide_eq_true c16
     clear c16
     simp only [Option.some.injEq, Prod.mk.injEq] at H
     obtain ⟨rfl, rfl⟩ := H
     go_wp2
     go_ret2
     exact ⟨_, by first | rfl | (simp [errW_none, errW_some] <;> rfl) | (simp [*, errW_none, errW_some] <;> rfl), by first | exact Kd.R_nil _ _ _ _ _ | exact Kd.N_nil _ _ _ _ _ | exact Kd.V_nil _ _ _ _ _ | exact Kd.Q_nil _ _ _ _ _ | exact Kd.S_nil _ _ _ _ _, by repeat (with_reducible first | exact HB.out | apply below_alloc | apply pw_below_drewN | apply below_drew1)⟩
    ·rw [if_neg c16] at H
     have c16b0 : decide (a2 < 0) = false := decide_eq_false c16
     clear c16
     by_cases c17 : a2 > 20
     ·rw [if_pos c17] at H
      have c17b0 : decide (20 < a2) = true := decide_eq_true c17
      clear c17
      simp only [Option.some.injEq, Prod.mk.injEq] at H
      obtain ⟨rfl, rfl⟩ := H
      go_wp2
      go_ret2
      exact ⟨_, by first | rfl | (simp [errW_none, errW_some] <;> rfl) | (simp [*, errW_none, errW_some] <;> rfl), by first | exact Kd.R_nil _ _ _ _ _ | exact Kd.N_nil _ _ _ _ _ | exact Kd.V_nil _ _ _ _ _ | exact Kd.Q_nil _ _ _ _ _ | exact Kd.S_nil _ _ _ _ _, by repeat (with_reducible first | exact HB.out | apply below_alloc | apply pw_below_drewN | apply below_drew1)⟩
     ·rw [if_neg c17] at H
      have c17b0 : decide (20 < a2) = false := decide_eq_false c17
      clear c17
      replace H := Option.bind_eq_some_iff.mp H
      obtain ⟨t160, A180, H⟩ := H
      replace H : (some (t160, 0)) = some (r1, r2) := H
      have A18 := Aside0.mk A180
      clear A180
      simp only [Option.some.injEq, Prod.mk.injEq] at H
      obtain ⟨rfl, rfl⟩ := H
      obtain ⟨Ao19, co19, eo19⟩ := Kd.R_slice HO_8.out
      subst eo19
      obtain ⟨Ao20, co20, eo20⟩ := Kd.R_slice HO_9.out
      subst eo20
      go_wp2_with (first | ((with_reducible refine gate_callee (f := 101) rfl ?_); refine goesL_ (some 42) rfl rfl Tryz.func101 (by kernel_rfl) rfl #[.slice Ao19 t154.length co19, .slice Ao20 t157.length co20] rfl (by (try simp only [List.map_toArray, List.map_cons, List.map_nil]); first | done | rfl | (simp only [List.length_drop, List.length_take]; rfl)) ?_; (with_reducible refine (text_steps.calls kj5 _ _ t154 _ _ t157 t160 _ ?side1 ?side2 ?side3 ?side4 A18.out).mono ?_); (case side1 => repeat (first | exact (Kd.R_reads' HO_8.out).2.2 | (with_reducible refine Kd.C_alloc ?_ _) | (with_reducible refine Kd.C_drewN ?_ _) | (with_reducible refine Kd.C_drew ?_))); (case side2 => exact (Kd.R_reads' HO_8.out).2.1); (case side3 => repeat (first | exact (Kd.R_reads' HO_9.out).2.2 | (with_reducible refine Kd.C_alloc ?_ _) | (with_reducible refine Kd.C_drewN ?_ _) | (with_reducible refine Kd.C_drew ?_))); (case side4 => exact (Kd.R_reads' HO_9.out).2.1); rintro e w21 ⟨v161, rfl, ho0, hb⟩; refine ⟨_, rfl, ?_⟩; have n0_ := Aside0.mk (Kd.R_below (by (with_reducible repeat (first | apply Kd.R_alloc | apply Kd.R_drewN | apply Kd.R_drew)); exact HO_8.out) hb); have n1_ := Aside0.mk (Kd.R_below (by (with_reducible repeat (first | apply Kd.R_alloc | apply Kd.R_drewN | apply Kd.R_drew)); exact HO_9.out) hb); have n2_ := Aside0.mk (Kd.R_lower ho0 (below_size (by repeat (with_reducible first | exact HB.out | apply below_alloc | apply pw_below_drewN | apply below_drew1)))); have n3_ := Aside0.mk (below_step (by repeat (with_reducible first | exact HB.out | apply below_alloc | apply pw_below_drewN | apply below_drew1)) hb); clear HO_8; clear HO_9; clear HB; have HO_8 := n0_; have HO_9 := n1_; have HO162 := n2_; have HB := n3_; clear n0_ n1_ n2_ n3_; (try clear hb); (try clear hb2); (try clear hk); (try clear hi); (try clear ho0)))
      go_ret2
      exact ⟨_, by first | rfl | (simp [errW_none, errW_some] <;> rfl) | (simp [*, errW_none, errW_some] <;> rfl), by (with_reducible repeat (first | apply Kd.R_alloc | apply Kd.R_drewN | apply Kd.R_drew)); exact HO162.out, by repeat (with_reducible first | exact HB.out | apply below_alloc | apply pw_below_drewN | apply below_drew1)⟩

end Go.Proofs.YthimblhfjfngiaaGreat.PText

namespace Go.Proofs.YthimblhfjfngiaaGreat.PText
open Go.RowKit Go.Proofs.YthimblhfjfngiaaGreatW.PrintWords Go.Proofs.YthimblhfjfngiaaGreatW.PrintLast Go.Proofs.YthimblhfjfngiaaGreatW.PrintMore
attribute [local go_sem] max2_int min2_int max_two min_two max_three min_three max_four min_four   -- for this text's walks alone
set_option linter.unusedVariables false
set_option linter.unusedSimpArgs false

def text_Edits.l0 : Nat → List (S91) → Int → Bool → List (S119) → Int → Int → Option ((List (S91)) × Int)
 | 0, _, _, _, _, _, _ => none
 | k + 1, x8, x9, x10, x23, x24, x25 => if x25 < x24 then (if 0 ≤ x25 then (if x25 < (x23.length : Int) then (if ((rd_T119 x23 x25).f0) = 32 then (text_Edits.l0 k x8 (wrap64 (x9 + (((rd_T119 x23 x25).f1).size : Int))) false x23 x24 (wrap64 (x25 + 1))) else (if x10 = true then (if 0 ≤ (wrap64 ((x8.length : Int) - 1)) then (if (wrap64 ((x8.length : Int) - 1)) < (x8.length : Int) then (if ((rd_T119 x23 x25).f0) = 45 then (text_Edits.l0 k (x8.set ((wrap64 ((x8.length : Int) - 1)) : Int).toNat (⟨(rd_T91 x8 (wrap64 ((x8.length : Int) - 1))).f0, wrap64 (x9 + (((rd_T119 x23 x25).f1).size : Int)), (rd_T91 x8 (wrap64 ((x8.length : Int) - 1))).f2⟩ : S91)) (wrap64 (x9 + (((rd_T119 x23 x25).f1).size : Int))) true x23 x24 (wrap64 (x25 + 1))) else (if ((rd_T91 x8 (wrap64 ((x8.length : Int) - 1))).f2).size + ((rd_T119 x23 x25).f1).size ≤ 9223372036854775807 then (text_Edits.l0 k (x8.set ((wrap64 ((x8.length : Int) - 1)) : Int).toNat (⟨(rd_T91 x8 (wrap64 ((x8.length : Int) - 1))).f0, (rd_T91 x8 (wrap64 ((x8.length : Int) - 1))).f1, ((rd_T91 x8 (wrap64 ((x8.length : Int) - 1))).f2) ++ ((rd_T119 x23 x25).f1)⟩ : S91)) x9 true x23 x24 (wrap64 (x25 + 1))) else (none))) else (none)) else (none)) else (if x8.length < 4398046511104 then ((some (x8 ++ [(⟨x9, x9, (⟨#[]⟩ : ByteArray)⟩ : S91)] : List (S91))).bind fun y171 => (if 0 ≤ (wrap64 ((y171.length : Int) - 1)) then (if (wrap64 ((y171.length : Int) - 1)) < (y171.length : Int) then (if ((rd_T119 x23 x25).f0) = 45 then (text_Edits.l0 k (y171.set ((wrap64 ((y171.length : Int) - 1)) : Int).toNat (⟨(rd_T91 y171 (wrap64 ((y171.length : Int) - 1))).f0, wrap64 (x9 + (((rd_T119 x23 x25).f1).size : Int)), (rd_T91 y171 (wrap64 ((y171.length : Int) - 1))).f2⟩ : S91)) (wrap64 (x9 + (((rd_T119 x23 x25).f1).size : Int))) true x23 x24 (wrap64 (x25 + 1))) else (if ((rd_T91 y171 (wrap64 ((y171.length : Int) - 1))).f2).size + ((rd_T119 x23 x25).f1).size ≤ 9223372036854775807 then (text_Edits.l0 k (y171.set ((wrap64 ((y171.length : Int) - 1)) : Int).toNat (⟨(rd_T91 y171 (wrap64 ((y171.length : Int) - 1))).f0, (rd_T91 y171 (wrap64 ((y171.length : Int) - 1))).f1, ((rd_T91 y171 (wrap64 ((y171.length : Int) - 1))).f2) ++ ((rd_T119 x23 x25).f1)⟩ : S91)) x9 true x23 x24 (wrap64 (x25 + 1))) else (none))) else (none)) else (none))) else (none)))) else (none)) else (none)) else (some (x8, 0))
def text_Edits.f (k : Nat) (a0 : ByteArray) (a1 : ByteArray) : Option ((List (S91)) × Int) := (text_sized.f k a0 a1 0).bind fun bt163 => (if bt163.2 = 0 then (text_Edits.l0 k ([] : List (S91)) 0 false bt163.1 (bt163.1.length : Int) 0) else (some (([] : List (S91)), bt163.2)))
theorem text_Edits.mono_l : ∀ k, (∀ y0 y1 y2 y3 y4 y5, LeO (text_Edits.l0 k y0 y1 y2 y3 y4 y5) (text_Edits.l0 (k + 1) y0 y1 y2 y3 y4 y5))
 | 0 => fun _ _ _ _ _ _ r h => by simp [text_Edits.l0] at h
 | k + 1 => by
  have ih0 := text_Edits.mono_l k
  ·intro y0 y1 y2 y3 y4 y5
   unfold text_Edits.l0
   repeat' first
   | (with_reducible exact ih0 _ _ _ _ _ _)
   | (with_reducible exact text_sized.mono _ _ _ _)
   | (with_reducible exact LeO.refl _)
   | (with_reducible exact LeO.none _)
   | (with_reducible refine LeO.ite ?_ ?_)
   | (with_reducible refine LeO.bind ?_ (fun _ => ?_))
   | exact ih0 _ _ _ _ _ _
   | exact text_sized.mono _ _ _ _
   | exact LeO.none _
   | refine LeO.ite ?_ ?_
   | refine LeO.bind ?_ (fun _ => ?_)
theorem text_Edits.mono : ∀ a0 a1 k, LeO (text_Edits.f k a0 a1) (text_Edits.f (k + 1) a0 a1) := by
 intro a0 a1 k
 have ih0 := text_Edits.mono_l k
 unfold text_Edits.f
 repeat' first
   | (with_reducible exact ih0 _ _ _ _ _ _)
   | (with_reducible exact text_sized.mono _ _ _ _)
   | (with_reducible exact LeO.refl _)
   | (with_reducible exact LeO.none _)
   | (with_reducible refine LeO.ite ?_ ?_)
   | (with_reducible refine LeO.bind ?_ (fun _ => ?_))
   | exact ih0 _ _ _ _ _ _
   | exact text_sized.mono _ _ _ _
   | exact LeO.none _
   | refine LeO.ite ?_ ?_
   | refine LeO.bind ?_ (fun _ => ?_)
def text_Edits.T19 : Bool × List (List Nat × List Nat) := (true, [([], []), ([0], [0]), ([1], [1]), ([2], [2]), ([], []), ([4], [4]), ([3, 5], [3, 5]), ([0, 0, 1, 2, 3, 4, 5, 6], [0]), ([7, 0, 1, 2, 3, 4, 5, 6], [7]), ([8, 6, 0, 1, 2, 3, 4, 5, 6], [6, 8])])
def text_Edits.B19 : List Nat := [0, 1, 3, 7, 0, 16, 63, 127, 255, 511]
theorem text_Edits.tab19 : rtab .any (opsOf Tryz.f50 19) = text_Edits.T19 := by kernel_rfl
theorem text_Edits.bits19 : waitsOk text_Edits.T19.2 text_Edits.B19 = true := by kernel_rfl
set_option maxHeartbeats 8000000 in
set_option maxRecDepth 100000 in
theorem text_Edits.calls (k : Nat) (a0 : ByteArray) (a1 : ByteArray) (r1 : List (S91)) (r2 : Int) (w : World) (h : text_Edits.f k a0 a1 = some (r1, r2)) :
  Calls Tryz.prog 50 #[.string a0, .string a1] w fun e w' => ∃ v0_ : Value, e = .returned (.tuple #[v0_, .int .i64 r2]) ∧ Kd.R k91 91 w' w.heap.size (fun _ => True) v0_ r1 ∧ Below w.heap.size w w' := by
 have hu119 := Tryz.underlying119
 have hu91 := Tryz.underlying91
 have HB := Aside0.mk (Below.refl w.heap.size w)
 have H : ((text_sized.f k a0 a1 0).bind fun bt163 => (if bt163.2 = 0 then (text_Edits.l0 k ([] : List (S91)) 0 false bt163.1 (bt163.1.length : Int) 0) else (some (([] : List (S91)), bt163.2)))) = some (r1, r2) := h
 clear h
 replace H := Option.bind_eq_some_iff.mp H
 obtain ⟨⟨t163, t164⟩, A30, H⟩ := H
 replace H : (if t164 = 0 then (text_Edits.l0 k ([] : List (S91)) 0 false t163 (t163.length : Int) 0) else (some (([] : List (S91)), t164))) = some (r1, r2) := H
 have A3 := Aside0.mk A30
 clear A30
 by_cases c4 : t164 = 0
 ·rw [if_pos c4] at H
  have c4b0 : (t164 == 0) = true := beq_iff_eq.mpr c4
  have c4b1 : (t164 != 0) = false := bne_eq_false_iff_eq.mpr c4
  clear c4
  have H' := Aside0.mk H
  clear H
  go_enter Tryz.func50, Tryz.ntmps50
  go_wp2_with (first | ((with_reducible refine gate_callee (f := 69) rfl ?_); refine goesL_ (some 17) rfl rfl Tryz.func69 (by kernel_rfl) rfl #[.string a0, .string a1, .int .i64 0] rfl (by (try simp only [List.map_toArray, List.map_cons, List.map_nil]); first | done | rfl | (simp only [List.length_drop, List.length_take]; rfl)) ?_; (with_reducible refine (text_sized.calls k a0 a1 0 t163 t164 _ A3.out).mono ?_); rintro e w5 ⟨v165, rfl, ho0, hb⟩; refine ⟨_, rfl, ?_⟩; have n0_ := Aside0.mk (Kd.R_lower ho0 (below_size (by repeat (with_reducible first | exact HB.out | apply below_alloc | apply pw_below_drewN | apply below_drew1)))); have n1_ := Aside0.mk (below_step (by repeat (with_reducible first | exact HB.out | apply below_alloc | apply pw_below_drewN | apply below_drew1)) hb); clear HB; have HO166 := n0_; have HB := n1_; clear n0_ n1_; (try clear hb); (try clear hb2); (try clear hk); (try clear hi); (try clear ho0); obtain ⟨Ao6, co6, eo6⟩ := Kd.R_slice HO166.out; subst eo6))
  try simp only [Act.put, List.setIfInBounds_toArray, List.set_cons_succ, List.set_cons_zero]
  go_loopg [8, 9, 10, 25] k (fun kq v8 v9 v10 v25 w' => ∃ (x8_1 : List (S91)) (x9_1 : Int) (x10_1 : Bool) (x25_1 : Int), v9 = .int .i64 x9_1 ∧ v10 = .bool x10_1 ∧ v25 = .int .i64 x25_1 ∧ Aside0 (text_Edits.l0 kq x8_1 x9_1 x10_1 t163 (t163.length : Int) x25_1 = some (r1, r2)) ∧ Aside0 (kq ≤ k) ∧ Aside0 (Kd.R k91 91 w' w.heap.size (fun _ => True) v8 x8_1) ∧ Aside0 (Kd.R k119 119 w' w.heap.size (fun _ => True) (.slice Ao6 t163.length co6) t163) ∧ Aside0 (Below w.heap.size w w'))
  case atStart => exact ⟨(([] : List (S91))), (0), (false), (0), (by first | rfl | (simp; done) | (simp [*]; done)), (by first | rfl | (simp; done) | (simp [*]; done)), (by first | rfl | (simp; done) | (simp [*]; done)), H', ⟨Nat.le_refl _⟩, ⟨by first | exact Kd.R_nil _ _ _ _ _ | exact Kd.N_nil _ _ _ _ _ | exact Kd.V_nil _ _ _ _ _ | exact Kd.Q_nil _ _ _ _ _ | exact Kd.S_nil _ _ _ _ _⟩, ⟨by (with_reducible repeat (first | apply Kd.R_alloc | apply Kd.R_drewN | apply Kd.R_drew)); exact HO166.out⟩, ⟨by repeat (with_reducible first | exact HB.out | apply below_alloc | apply pw_below_drewN | apply below_drew1)⟩⟩
  case round =>
   clear H'
   try clear p2
   try clear c4
   try clear c4b0
   try clear c4b1
   try clear c5
   try clear c6
   obtain ⟨x8_1, x9_1, x10_1, x25_1, rfl, rfl, rfl, HA, HK1, HO_8, HO_23, HB⟩ := hrel
   cases gk with
   | zero => exact absurd HA.out (by simp [text_Edits.l0])
   | succ k1 =>
    have H := HA.out
    clear HA
    simp only [text_Edits.l0] at H
    by_cases c7 : x25_1 < (t163.length : Int)
    ·rw [if_pos c7] at H
     have c7b0 : decide (x25_1 < (t163.length : Int)) = true := decide_eq_true c7
     clear c7
     by_cases c8 : 0 ≤ x25_1
     ·rw [if_pos c8] at H
      have c8b0 : decide (0 ≤ x25_1) = true := decide_eq_true c8
      clear c8
      by_cases c9 : x25_1 < (t163.length : Int)
      ·rw [if_pos c9] at H
       have c9b0 : decide (x25_1 < (t163.length : Int)) = true := decide_eq_true c9
       clear c9
       by_cases c10 : ((rd_T119 t163 x25_1).f0) = 32
       ·rw [if_pos c10] at H
        have c10b0 : (((rd_T119 t163 x25_1).f0) == 32) = true := beq_iff_eq.mpr c10
        have c10b1 : (((rd_T119 t163 x25_1).f0) != 32) = false := bne_eq_false_iff_eq.mpr c10
        clear c10
        have H' := Aside0.mk H
        clear H
        have p167 : 0 ≤ (x25_1 : Int) := of_decide_eq_true (by assumption)
        have q167 : x25_1 < (t163.length : Int) := of_decide_eq_true (by assumption)
        obtain ⟨ad167, e167, hx167_0, hx167_1⟩ := at_T119 (Kd.R_reads' HO_23.out).2.2 x25_1 p167 q167
        cases e167
        replace p167 := eq_true p167
        replace q167 := eq_true q167
        go_wp2_with (first | ((with_reducible refine gate_dst (N := 12) rfl ?_); refine box_event ?hg (N := 12) ?hd (cs := #[.int .u8 0, .string (⟨#[]⟩ : ByteArray)]) (t := 119) ?hr ?_; (case hd => rfl); (case hg => rfl); (case hr => first | (go_simp; done) | (go_simp; rfl)); intro gb168 hg w11 hbox hb; have n0_ := Aside0.mk (Kd.R_below (by (with_reducible repeat (first | apply Kd.R_alloc | apply Kd.R_drewN | apply Kd.R_drew)); exact HO_8.out) hb); have n1_ := Aside0.mk (Kd.R_below (Kd.R_elderB (by (with_reducible repeat (first | apply Kd.R_alloc | apply Kd.R_drewN | apply Kd.R_drew)); exact HO_23.out) gb168 (Nat.le_of_eq hg.symm)) hb); have n2_ := Aside0.mk (below_step (by repeat (with_reducible first | exact HB.out | apply below_alloc | apply pw_below_drewN | apply below_drew1)) hb); have n3_ := Aside0.mk (hbox); have n4_ := Aside0.mk ((by rw [hg]; exact (below_size (by repeat (with_reducible first | exact HB.out | apply below_alloc | apply pw_below_drewN | apply below_drew1))) : w.heap.size ≤ gb168)); have n5_ := Aside0.mk ((by rw [hg]; exact (below_size (by repeat (with_reducible first | exact HB.out | apply below_alloc | apply pw_below_drewN | apply below_drew1))) : w.heap.size ≤ gb168)); clear HO_8; clear HO_23; clear HB; have HO_8 := n0_; have HO_23 := n1_; have HB := n2_; have BK168 := n3_; have GW168 := n4_; have GE168 := n5_; clear n0_ n1_ n2_ n3_ n4_ n5_; clear hb hbox hg; have hcz12_0 : w11.cell? ⟨gb168, 0, none⟩ = some (.int .u8 0) := (blk_cell BK168.out 0).trans rfl; have hcz12_1 : w11.cell? ⟨gb168, 1, none⟩ = some (.string (⟨#[]⟩ : ByteArray)) := (blk_cell BK168.out 1).trans rfl; have hfz12_0 := blk_frozen BK168.out 0; have hfz12_1 := blk_frozen BK168.out 1))
        go_roundg k1
        case measure => have := HK1.out; omega
        case rel => exact ⟨(x8_1), (wrap64 (x9_1 + (((rd_T119 t163 x25_1).f1).size : Int))), (false), (wrap64 (x25_1 + 1)), (by first | rfl | (simp; done) | (simp [*]; done)), (by first | rfl | (simp; done) | (simp [*]; done)), (by first | rfl | (simp; done) | (simp [*]; done)), H', ⟨by have := HK1.out; omega⟩, ⟨by (with_reducible repeat (first | apply Kd.R_alloc | apply Kd.R_drewN | apply Kd.R_drew)); exact Kd.R_mono (Kd.R_far (p := ⟨gb168, 1, none⟩) (Kd.R_far (p := ⟨gb168, 0, none⟩) (Kd.R_types HO_8.out BK168.out (by decide)) (fun _ hk => hk.2) (.int .u8 ((rd_T119 t163 x25_1).f0))) (fun _ hk => hk.2) (.string ((rd_T119 t163 x25_1).f1))) (fun _ hk => trivial)⟩, ⟨by (with_reducible repeat (first | apply Kd.R_alloc | apply Kd.R_drewN | apply Kd.R_drew)); exact Kd.R_mono (Kd.R_far (p := ⟨gb168, 1, none⟩) (Kd.R_far (p := ⟨gb168, 0, none⟩) (Kd.R_mono HO_23.out (fun k_ hk => (⟨hk, hk.2⟩ : _ ∧ k_ ≠ gb168))) (fun _ hk => hk.2) (.int .u8 ((rd_T119 t163 x25_1).f0))) (fun _ hk => hk.2) (.string ((rd_T119 t163 x25_1).f1))) (fun _ hk => trivial)⟩, ⟨by repeat (with_reducible first | exact HB.out | apply below_alloc | apply pw_below_drewN | apply below_drew1 | refine below_set ?_ GE168.out)⟩⟩
       ·rw [if_neg c10] at H
        have c10b0 : (((rd_T119 t163 x25_1).f0) == 32) = false := beq_eq_false_iff_ne.mpr c10
        have c10b1 : (((rd_T119 t163 x25_1).f0) != 32) = true := bne_iff_ne.mpr c10
        by_cases c13 : x10_1 = true
        ·subst c13
         have H1 : (if 0 ≤ (wrap64 ((x8_1.length : Int) - 1)) then (if (wrap64 ((x8_1.length : Int) - 1)) < (x8_1.length : Int) then (if ((rd_T119 t163 x25_1).f0) = 45 then (text_Edits.l0 k1 (x8_1.set ((wrap64 ((x8_1.length : Int) - 1)) : Int).toNat (⟨(rd_T91 x8_1 (wrap64 ((x8_1.length : Int) - 1))).f0, wrap64 (x9_1 + (((rd_T119 t163 x25_1).f1).size : Int)), (rd_T91 x8_1 (wrap64 ((x8_1.length : Int) - 1))).f2⟩ : S91)) (wrap64 (x9_1 + (((rd_T119 t163 x25_1).f1).size : Int))) true t163 (t163.length : Int) (wrap64 (x25_1 + 1))) else (if ((rd_T91 x8_1 (wrap64 ((x8_1.length : Int) - 1))).f2).size + ((rd_T119 t163 x25_1).f1).size ≤ 9223372036854775807 then (text_Edits.l0 k1 (x8_1.set ((wrap64 ((x8_1.length : Int) - 1)) : Int).toNat (⟨(rd_T91 x8_1 (wrap64 ((x8_1.length : Int) - 1))).f0, (rd_T91 x8_1 (wrap64 ((x8_1.length : Int) - 1))).f1, ((rd_T91 x8_1 (wrap64 ((x8_1.length : Int) - 1))).f2) ++ ((rd_T119 t163 x25_1).f1)⟩ : S91)) x9_1 true t163 (t163.length : Int) (wrap64 (x25_1 + 1))) else (none))) else (none)) else (none)) = some (r1, r2) := by rw [if_pos rfl] at H; exact H
         clear H
         have H := H1
         clear H1
         obtain ⟨ji14, hji14⟩ : ∃ j_ : Int, (wrap64 ((x8_1.length : Int) - 1)) = j_ := ⟨_, rfl⟩
         replace H : (if 0 ≤ (ji14) then (if (ji14) < (x8_1.length : Int) then (if ((rd_T119 t163 x25_1).f0) = 45 then (text_Edits.l0 k1 (x8_1.set ((ji14) : Int).toNat (⟨(rd_T91 x8_1 (ji14)).f0, wrap64 (x9_1 + (((rd_T119 t163 x25_1).f1).size : Int)), (rd_T91 x8_1 (ji14)).f2⟩ : S91)) (wrap64 (x9_1 + (((rd_T119 t163 x25_1).f1).size : Int))) true t163 (t163.length : Int) (wrap64 (x25_1 + 1))) else (if ((rd_T91 x8_1 (ji14)).f2).size + ((rd_T119 t163 x25_1).f1).size ≤ 9223372036854775807 then (text_Edits.l0 k1 (x8_1.set ((ji14) : Int).toNat (⟨(rd_T91 x8_1 (ji14)).f0, (rd_T91 x8_1 (ji14)).f1, ((rd_T91 x8_1 (ji14)).f2) ++ ((rd_T119 t163 x25_1).f1)⟩ : S91)) x9_1 true t163 (t163.length : Int) (wrap64 (x25_1 + 1))) else (none))) else (none)) else (none)) = some (r1, r2) := by first | (rw [hji14] at H; exact H) | (simp only [hji14] at H ⊢; exact H)
         have hji14w : (IntKind.i64.wrap ((x8_1.length : Int) - 1)) = ji14 := (i64_w _).trans hji14
         by_cases c15 : 0 ≤ (ji14)
         ·rw [if_pos c15] at H
          have c15b0 : decide (0 ≤ (ji14)) = true := decide_eq_true c15
          clear c15
          by_cases c16 : (ji14) < (x8_1.length : Int)
          ·rw [if_pos c16] at H
           have c16b0 : decide ((ji14) < (x8_1.length : Int)) = true := decide_eq_true c16
           clear c16
           by_cases c18 : ((rd_T119 t163 x25_1).f0) = 45
           ·rw [if_pos c18] at H
            have c18b0 : (((rd_T119 t163 x25_1).f0) == 45) = true := beq_iff_eq.mpr c18
            have c18b1 : (((rd_T119 t163 x25_1).f0) != 45) = false := bne_eq_false_iff_eq.mpr c18
            clear c18
            obtain ⟨y169, hy169⟩ : ∃ y_ : List (S91), y_ = (x8_1.set ((ji14) : Int).toNat (⟨(rd_T91 x8_1 (ji14)).f0, wrap64 (x9_1 + (((rd_T119 t163 x25_1).f1).size : Int)), (rd_T91 x8_1 (ji14)).f2⟩ : S91)) := ⟨_, rfl⟩
            replace H : (text_Edits.l0 k1 y169 (wrap64 (x9_1 + (((rd_T119 t163 x25_1).f1).size : Int))) true t163 (t163.length : Int) (wrap64 (x25_1 + 1))) = some (r1, r2) := by first | (rw [hy169]; with_reducible exact H) | (have H2_ := (Option.bind_some _ _).symm.trans H; rw [hy169]; with_reducible exact H2_) | (have H2_ := (Option.bind_some _ _).symm.trans H; with_reducible exact H2_) | with_reducible exact H | (rw [hy169]; exact H) | exact H
            have Ny169 := Aside0.mk hy169
            clear hy169
            have H' := Aside0.mk H
            clear H
            have p167 : 0 ≤ (x25_1 : Int) := of_decide_eq_true (by assumption)
            have q167 : x25_1 < (t163.length : Int) := of_decide_eq_true (by assumption)
            obtain ⟨ad167, e167, hx167_0, hx167_1⟩ := at_T119 (Kd.R_reads' HO_23.out).2.2 x25_1 p167 q167
            cases e167
            replace p167 := eq_true p167
            replace q167 := eq_true q167
            go_wp2_with (first | ((with_reducible refine gate_dst (N := 12) rfl ?_); refine box_event ?hg (N := 12) ?hd (cs := #[.int .u8 0, .string (⟨#[]⟩ : ByteArray)]) (t := 119) ?hr ?_; (case hd => rfl); (case hg => rfl); (case hr => first | (go_simp; done) | (go_simp; rfl)); intro gb168 hg w19 hbox hb; have n0_ := Aside0.mk (Kd.R_below (by (with_reducible repeat (first | apply Kd.R_alloc | apply Kd.R_drewN | apply Kd.R_drew)); exact HO_8.out) hb); have n1_ := Aside0.mk (Kd.R_below (Kd.R_elderB (by (with_reducible repeat (first | apply Kd.R_alloc | apply Kd.R_drewN | apply Kd.R_drew)); exact HO_23.out) gb168 (Nat.le_of_eq hg.symm)) hb); have n2_ := Aside0.mk (below_step (by repeat (with_reducible first | exact HB.out | apply below_alloc | apply pw_below_drewN | apply below_drew1)) hb); have n3_ := Aside0.mk (hbox); have n4_ := Aside0.mk ((by rw [hg]; exact (below_size (by repeat (with_reducible first | exact HB.out | apply below_alloc | apply pw_below_drewN | apply below_drew1))) : w.heap.size ≤ gb168)); have n5_ := Aside0.mk ((by rw [hg]; exact (below_size (by repeat (with_reducible first | exact HB.out | apply below_alloc | apply pw_below_drewN | apply below_drew1))) : w.heap.size ≤ gb168)); clear HO_8; clear HO_23; clear HB; have HO_8 := n0_; have HO_23 := n1_; have HB := n2_; have BK168 := n3_; have GW168 := n4_; have GE168 := n5_; clear n0_ n1_ n2_ n3_ n4_ n5_; clear hb hbox hg; have hcz20_0 : w19.cell? ⟨gb168, 0, none⟩ = some (.int .u8 0) := (blk_cell BK168.out 0).trans rfl; have hcz20_1 : w19.cell? ⟨gb168, 1, none⟩ = some (.string (⟨#[]⟩ : ByteArray)) := (blk_cell BK168.out 1).trans rfl; have hfz20_0 := blk_frozen BK168.out 0; have hfz20_1 := blk_frozen BK168.out 1) | ((with_reducible refine gate_store (t := 119) (p := 12) rfl ?_); refine store_event (t := 119) (p := 12) (v := ?vo_w21) (w1 := ((w19.setCell ⟨gb168, 0, none⟩ (.int .u8 ((rd_T119 t163 x25_1).f0))).setCell ⟨gb168, 1, none⟩ (.string ((rd_T119 t163 x25_1).f1)))) ?hg ?ho ?hn ?hr ?_; (case ho => rfl); (case hg => rfl); (case hn => rfl); (case hr => first | (go_simp; done) | (go_simp; rfl)); intro w21 hw; have n0_ : Aside0 (Kd.R k91 91 w21 w.heap.size (fun _ => True) u8 x8_1) := ⟨(by rw [hw]; exact (by (with_reducible repeat (first | apply Kd.R_alloc | apply Kd.R_drewN | apply Kd.R_drew)); exact Kd.R_mono (Kd.R_far (p := ⟨gb168, 1, none⟩) (Kd.R_far (p := ⟨gb168, 0, none⟩) (Kd.R_types HO_8.out BK168.out (by decide)) (fun _ hk => hk.2) (.int .u8 ((rd_T119 t163 x25_1).f0))) (fun _ hk => hk.2) (.string ((rd_T119 t163 x25_1).f1))) (fun _ hk => trivial)))⟩; have n1_ : Aside0 (Kd.R k119 119 w21 w.heap.size (fun k_ => k_ ≠ gb168) (.slice (some ad167) t163.length co6) t163) := ⟨(by rw [hw]; exact (by (with_reducible repeat (first | apply Kd.R_alloc | apply Kd.R_drewN | apply Kd.R_drew)); exact Kd.R_mono (Kd.R_far (p := ⟨gb168, 1, none⟩) (Kd.R_far (p := ⟨gb168, 0, none⟩) (Kd.R_mono HO_23.out (fun k_ hk => (⟨hk, hk.2⟩ : _ ∧ k_ ≠ gb168))) (fun _ hk => hk.2) (.int .u8 ((rd_T119 t163 x25_1).f0))) (fun _ hk => hk.2) (.string ((rd_T119 t163 x25_1).f1))) (fun _ hk => hk.1.2)))⟩; have n2_ : Aside0 (w21.heap[gb168]? = some (.cells #[.int .u8 ((rd_T119 t163 x25_1).f0), .string ((rd_T119 t163 x25_1).f1)] 119 (0, 0))) := ⟨(by rw [hw]; exact (by (with_reducible repeat (first | refine blk_drewN ?_ _ | refine blk_drew ?_ | refine blk_alloc ?_ _)); refine blk_put (cs := #[.int .u8 ((rd_T119 t163 x25_1).f0), .string (⟨#[]⟩ : ByteArray)]) ?_ 1 _ rfl; (with_reducible repeat (first | refine blk_drewN ?_ _ | refine blk_drew ?_ | refine blk_alloc ?_ _)); refine blk_put (cs := #[.int .u8 0, .string (⟨#[]⟩ : ByteArray)]) ?_ 0 _ rfl; (with_reducible repeat (first | refine blk_drewN ?_ _ | refine blk_drew ?_ | refine blk_alloc ?_ _)); exact BK168.out))⟩; have n3_ : Aside0 (Below w.heap.size w w21) := ⟨(by rw [hw]; exact (by repeat (with_reducible first | exact HB.out | apply below_alloc | apply pw_below_drewN | apply below_drew1 | refine below_set ?_ GE168.out)))⟩; clear hw; clear HO_8; clear HO_23; clear BK168; clear HB; have HO_8 := n0_; have HO_23 := n1_; have BK168 := n2_; have HB := n3_; clear n0_ n1_ n2_ n3_; have hcz22_0 : w21.cell? ⟨gb168, 0, none⟩ = some (.int .u8 ((rd_T119 t163 x25_1).f0)) := (blk_cell BK168.out 0).trans rfl; have hcz22_1 : w21.cell? ⟨gb168, 1, none⟩ = some (.string ((rd_T119 t163 x25_1).f1)) := (blk_cell BK168.out 1).trans rfl; have hfz22_0 := blk_frozen BK168.out 0; have hfz22_1 := blk_frozen BK168.out 1; obtain ⟨Ao23, co23, eo23⟩ := Kd.R_slice HO_8.out; subst eo23; have p17 : 0 ≤ ((ji14) : Int) := of_decide_eq_true (by assumption); have q17 : ((ji14) : Int) < ((x8_1.length : Int) : Int) := of_decide_eq_true (by assumption); obtain ⟨go17, co17, eo17, gb17, gl17, cl17, HG17⟩ := Kd.R_form HO_8.out (by omega); (first | cases eo17 | (injection eo17 with ea_ en_ ec_; (first | subst ea_ | (injection ea_ with ea_; subst ea_)); subst ec_; clear en_)); have GB17 := Aside0.mk gb17; have GG17 := Aside0.mk HG17; clear gb17 gl17 HG17; obtain ⟨ce17, hcl17, hM17, hcc17, hfr17⟩ := Kd.R_elem HO_8.out z91 ((ji14) : Int) p17 q17; obtain rfl := k91_openM hM17; have hx17_0 : w21.cell? ⟨go17, ((ji14) : Int).toNat * 3, none⟩ = some (.int .i64 ((rd_T91 x8_1 (ji14)).f0)) := hcc17 0 _ rfl; have hx17_1 : w21.cell? ⟨go17, ((ji14) : Int).toNat * 3 + 1, none⟩ = some (.int .i64 ((rd_T91 x8_1 (ji14)).f1)) := hcc17 1 _ rfl; have hx17_2 : w21.cell? ⟨go17, ((ji14) : Int).toNat * 3 + 2, none⟩ = some (.string ((rd_T91 x8_1 (ji14)).f2)) := hcc17 2 _ rfl; have hf17_0 : w21.frozen? ⟨go17, ((ji14) : Int).toNat * 3, none⟩ = false := hfr17 0; have hf17_1 : w21.frozen? ⟨go17, ((ji14) : Int).toNat * 3 + 1, none⟩ = false := hfr17 1; have hf17_2 : w21.frozen? ⟨go17, ((ji14) : Int).toNat * 3 + 2, none⟩ = false := hfr17 2; clear hcl17 hcc17 hfr17 hM17; replace p17 := eq_true p17; replace q17 := eq_true q17; have HX24 := Aside0.mk (show Kd.R k91 91 w21 w.heap.size (fun _ => True) (.slice (some ⟨go17, 0, none⟩) x8_1.length co23) x8_1 from (by (with_reducible repeat (first | apply Kd.R_alloc | apply Kd.R_drewN | apply Kd.R_drew)); exact HO_8.out)); obtain ⟨ce24, hcl24, hM24, hcc24, hfr24⟩ := Kd.R_elem HX24.out z91 ((ji14) : Int) (of_decide_eq_true (by assumption)) (by have h_ : ((ji14) : Int) < ((x8_1.length : Int) : Int) := of_decide_eq_true (by assumption); first | exact h_ | (have e_ := (Kd.R_reads' HO_8.out).1; omega) | simpa using h_); obtain rfl := k91_openM hM24; have HP24 := Kd.R_seg HX24.out ((ji14) : Int) (of_decide_eq_true (by assumption)) (by have h_ : ((ji14) : Int) < ((x8_1.length : Int) : Int) := of_decide_eq_true (by assumption); first | exact h_ | (have e_ := (Kd.R_reads' HO_8.out).1; omega) | simpa using h_) (seg := [.int .i64 (wrap64 (x9_1 + (((rd_T119 t163 x25_1).f1).size : Int)))]) (j := 1) hcl24 hcc24 (show 2 ≤ 3 from by decide) (x' := (⟨(rd_T91 x8_1 (ji14)).f0, wrap64 (x9_1 + (((rd_T119 t163 x25_1).f1).size : Int)), (rd_T91 x8_1 (ji14)).f2⟩ : S91)) (k91_mkM _ _ _ (⟨(rd_T91 x8_1 (ji14)).f0, wrap64 (x9_1 + (((rd_T119 t163 x25_1).f1).size : Int)), (rd_T91 x8_1 (ji14)).f2⟩ : S91) ) (fun _ hk => hk); have hx24_1 := hcc24 1 _ rfl; (try simp only [show (k91).sz = 3 from rfl, Nat.mul_one, Nat.add_zero] at hx24_1); have hf24_1 := hfr24 1; (try simp only [show (k91).sz = 3 from rfl, Nat.mul_one, Nat.add_zero] at hf24_1); clear hcl24 hcc24 hfr24 hM24) | ((with_reducible refine gate_store (t := 3) (p := 61) rfl ?_); refine store_event (t := 3) (p := 61) (v := ?vo_w25) (w1 := (w21.setCell ⟨go17, ((ji14) : Int).toNat * 3 + 1, none⟩ (.int .i64 (wrap64 (x9_1 + (((rd_T119 t163 x25_1).f1).size : Int)))))) ?hg ?ho ?hn ?hr ?_; (case ho => rfl); (case hg => rfl); (case hn => rfl); (case hr => first | (go_simp; done) | (go_simp; rfl)); intro w25 hw; have hg : w21.grownBy w25 (some go17) := (by rw [hw]; exact HP24.2); have hp_ : Kd.R k91 91 w25 w.heap.size (fun _ => True) (.slice (some ⟨go17, 0, none⟩) x8_1.length co23) y169 := (by rw [hw, Ny169.out]; exact HP24.1); clear HP24; have n0_ := Aside0.mk (hp_); have n1_ := Aside0.mk (Kd.R_over' (v := (.slice (some ⟨go17, 0, none⟩) x8_1.length co23)) (by (with_reducible repeat (first | apply Kd.R_alloc | apply Kd.R_drewN | apply Kd.R_drew)); exact HO_23.out) (Kd.R_typed HO_8.out) (by decide) hg); have n2_ := Aside0.mk (blk_grown (g := gb168) (o := .cells #[.int .u8 ((rd_T119 t163 x25_1).f0), .string ((rd_T119 t163 x25_1).f1)] 119 (0, 0)) (by (with_reducible repeat (first | refine blk_drewN ?_ _ | refine blk_drew ?_ | refine blk_alloc ?_ _)); exact BK168.out) hg (Kd.R_ne HO_8.out BK168.out (by decide))); have n3_ := Aside0.mk ((by rw [hw]; exact below_set (HB.out) GB17.out : Below w.heap.size w w25)); clear HO_8; clear HO_23; clear BK168; clear HB; have HO_8 := n0_; have HO_23 := n1_; have BK168 := n2_; have HB := n3_; clear n0_ n1_ n2_ n3_; clear hg hw hp_))
            go_roundg k1
            case measure => have := HK1.out; omega
            case rel => exact ⟨(y169), (wrap64 (x9_1 + (((rd_T119 t163 x25_1).f1).size : Int))), (true), (wrap64 (x25_1 + 1)), (by first | rfl | (simp; done) | (simp [*]; done)), (by first | rfl | (simp; done) | (simp [*]; done)), (by first | rfl | (simp; done) | (simp [*]; done)), H', ⟨by have := HK1.out; omega⟩, ⟨by (with_reducible repeat (first | apply Kd.R_alloc | apply Kd.R_drewN | apply Kd.R_drew)); exact HO_8.out⟩, ⟨by (with_reducible repeat (first | apply Kd.R_alloc | apply Kd.R_drewN | apply Kd.R_drew)); exact Kd.R_mono HO_23.out (fun _ hk => trivial)⟩, ⟨by repeat (with_reducible first | exact HB.out | apply below_alloc | apply pw_below_drewN | apply below_drew1 | refine below_set ?_ GE168.out)⟩⟩
           ·rw [if_neg c18] at H
            have c18b0 : (((rd_T119 t163 x25_1).f0) == 45) = false := beq_eq_false_iff_ne.mpr c18
            have c18b1 : (((rd_T119 t163 x25_1).f0) != 45) = true := bne_iff_ne.mpr c18
            by_cases c26 : ((rd_T91 x8_1 (ji14)).f2).size + ((rd_T119 t163 x25_1).f1).size ≤ 9223372036854775807
            ·rw [if_pos c26] at H
             have c26b0 := eq_true c26
             have c26b1 : decide (((rd_T91 x8_1 (ji14)).f2).size + ((rd_T119 t163 x25_1).f1).size ≤ 9223372036854775807) = true := decide_eq_true c26
             try have c26b2 : (9223372036854775807 < ((rd_T91 x8_1 (ji14)).f2).size + ((rd_T119 t163 x25_1).f1).size) = False := eq_false (Nat.not_lt.2 c26)
             obtain ⟨y170, hy170⟩ : ∃ y_ : List (S91), y_ = (x8_1.set ((ji14) : Int).toNat (⟨(rd_T91 x8_1 (ji14)).f0, (rd_T91 x8_1 (ji14)).f1, ((rd_T91 x8_1 (ji14)).f2) ++ ((rd_T119 t163 x25_1).f1)⟩ : S91)) := ⟨_, rfl⟩
             replace H : (text_Edits.l0 k1 y170 x9_1 true t163 (t163.length : Int) (wrap64 (x25_1 + 1))) = some (r1, r2) := by first | (rw [hy170]; with_reducible exact H) | (have H2_ := (Option.bind_some _ _).symm.trans H; rw [hy170]; with_reducible exact H2_) | (have H2_ := (Option.bind_some _ _).symm.trans H; with_reducible exact H2_) | with_reducible exact H | (rw [hy170]; exact H) | exact H
             have Ny170 := Aside0.mk hy170
             clear hy170
             have H' := Aside0.mk H
             clear H
             have p167 : 0 ≤ (x25_1 : Int) := of_decide_eq_true (by assumption)
             have q167 : x25_1 < (t163.length : Int) := of_decide_eq_true (by assumption)
             obtain ⟨ad167, e167, hx167_0, hx167_1⟩ := at_T119 (Kd.R_reads' HO_23.out).2.2 x25_1 p167 q167
             cases e167
             replace p167 := eq_true p167
             replace q167 := eq_true q167
             try go_wp2_with (first | ((with_reducible refine gate_dst (N := 12) rfl ?_); refine box_event ?hg (N := 12) ?hd (cs := #[.int .u8 0, .string (⟨#[]⟩ : ByteArray)]) (t := 119) ?hr ?_; (case hd => rfl); (case hg => rfl); (case hr => first | (go_simp; done) | (go_simp; rfl)); intro gb168 hg w27 hbox hb; have n0_ := Aside0.mk (Kd.R_below (by (with_reducible repeat (first | apply Kd.R_alloc | apply Kd.R_drewN | apply Kd.R_drew)); exact HO_8.out) hb); have n1_ := Aside0.mk (Kd.R_below (Kd.R_elderB (by (with_reducible repeat (first | apply Kd.R_alloc | apply Kd.R_drewN | apply Kd.R_drew)); exact HO_23.out) gb168 (Nat.le_of_eq hg.symm)) hb); have n2_ := Aside0.mk (below_step (by repeat (with_reducible first | exact HB.out | apply below_alloc | apply pw_below_drewN | apply below_drew1)) hb); have n3_ := Aside0.mk (hbox); have n4_ := Aside0.mk ((by rw [hg]; exact (below_size (by repeat (with_reducible first | exact HB.out | apply below_alloc | apply pw_below_drewN | apply below_drew1))) : w.heap.size ≤ gb168)); have n5_ := Aside0.mk ((by rw [hg]; exact (below_size (by repeat (with_reducible first | exact HB.out | apply below_alloc | apply pw_below_drewN | apply below_drew1))) : w.heap.size ≤ gb168)); clear HO_8; clear HO_23; clear HB; have HO_8 := n0_; have HO_23 := n1_; have HB := n2_; have BK168 := n3_; have GW168 := n4_; have GE168 := n5_; clear n0_ n1_ n2_ n3_ n4_ n5_; clear hb hbox hg; have hcz28_0 : w27.cell? ⟨gb168, 0, none⟩ = some (.int .u8 0) := (blk_cell BK168.out 0).trans rfl; have hcz28_1 : w27.cell? ⟨gb168, 1, none⟩ = some (.string (⟨#[]⟩ : ByteArray)) := (blk_cell BK168.out 1).trans rfl; have hfz28_0 := blk_frozen BK168.out 0; have hfz28_1 := blk_frozen BK168.out 1) | ((with_reducible refine gate_store (t := 119) (p := 12) rfl ?_); refine store_event (t := 119) (p := 12) (v := ?vo_w29) (w1 := ((w27.setCell ⟨gb168, 0, none⟩ (.int .u8 ((rd_T119 t163 x25_1).f0))).setCell ⟨gb168, 1, none⟩ (.string ((rd_T119 t163 x25_1).f1)))) ?hg ?ho ?hn ?hr ?_; (case ho => rfl); (case hg => rfl); (case hn => rfl); (case hr => first | (go_simp; done) | (go_simp; rfl)); intro w29 hw; have n0_ : Aside0 (Kd.R k91 91 w29 w.heap.size (fun _ => True) u8 x8_1) := ⟨(by rw [hw]; exact (by (with_reducible repeat (first | apply Kd.R_alloc | apply Kd.R_drewN | apply Kd.R_drew)); exact Kd.R_mono (Kd.R_far (p := ⟨gb168, 1, none⟩) (Kd.R_far (p := ⟨gb168, 0, none⟩) (Kd.R_types HO_8.out BK168.out (by decide)) (fun _ hk => hk.2) (.int .u8 ((rd_T119 t163 x25_1).f0))) (fun _ hk => hk.2) (.string ((rd_T119 t163 x25_1).f1))) (fun _ hk => trivial)))⟩; have n1_ : Aside0 (Kd.R k119 119 w29 w.heap.size (fun k_ => k_ ≠ gb168) (.slice (some ad167) t163.length co6) t163) := ⟨(by rw [hw]; exact (by (with_reducible repeat (first | apply Kd.R_alloc | apply Kd.R_drewN | apply Kd.R_drew)); exact Kd.R_mono (Kd.R_far (p := ⟨gb168, 1, none⟩) (Kd.R_far (p := ⟨gb168, 0, none⟩) (Kd.R_mono HO_23.out (fun k_ hk => (⟨hk, hk.2⟩ : _ ∧ k_ ≠ gb168))) (fun _ hk => hk.2) (.int .u8 ((rd_T119 t163 x25_1).f0))) (fun _ hk => hk.2) (.string ((rd_T119 t163 x25_1).f1))) (fun _ hk => hk.1.2)))⟩; have n2_ : Aside0 (w29.heap[gb168]? = some (.cells #[.int .u8 ((rd_T119 t163 x25_1).f0), .string ((rd_T119 t163 x25_1).f1)] 119 (0, 0))) := ⟨(by rw [hw]; exact (by (with_reducible repeat (first | refine blk_drewN ?_ _ | refine blk_drew ?_ | refine blk_alloc ?_ _)); refine blk_put (cs := #[.int .u8 ((rd_T119 t163 x25_1).f0), .string (⟨#[]⟩ : ByteArray)]) ?_ 1 _ rfl; (with_reducible repeat (first | refine blk_drewN ?_ _ | refine blk_drew ?_ | refine blk_alloc ?_ _)); refine blk_put (cs := #[.int .u8 0, .string (⟨#[]⟩ : ByteArray)]) ?_ 0 _ rfl; (with_reducible repeat (first | refine blk_drewN ?_ _ | refine blk_drew ?_ | refine blk_alloc ?_ _)); exact BK168.out))⟩; have n3_ : Aside0 (Below w.heap.size w w29) := ⟨(by rw [hw]; exact (by repeat (with_reducible first | exact HB.out | apply below_alloc | apply pw_below_drewN | apply below_drew1 | refine below_set ?_ GE168.out)))⟩; clear hw; clear HO_8; clear HO_23; clear BK168; clear HB; have HO_8 := n0_; have HO_23 := n1_; have BK168 := n2_; have HB := n3_; clear n0_ n1_ n2_ n3_; have hcz30_0 : w29.cell? ⟨gb168, 0, none⟩ = some (.int .u8 ((rd_T119 t163 x25_1).f0)) := (blk_cell BK168.out 0).trans rfl; have hcz30_1 : w29.cell? ⟨gb168, 1, none⟩ = some (.string ((rd_T119 t163 x25_1).f1)) := (blk_cell BK168.out 1).trans rfl; have hfz30_0 := blk_frozen BK168.out 0; have hfz30_1 := blk_frozen BK168.out 1; obtain ⟨Ao31, co31, eo31⟩ := Kd.R_slice HO_8.out; subst eo31; have p17 : 0 ≤ ((ji14) : Int) := of_decide_eq_true (by assumption); have q17 : ((ji14) : Int) < ((x8_1.length : Int) : Int) := of_decide_eq_true (by assumption); obtain ⟨go17, co17, eo17, gb17, gl17, cl17, HG17⟩ := Kd.R_form HO_8.out (by omega); (first | cases eo17 | (injection eo17 with ea_ en_ ec_; (first | subst ea_ | (injection ea_ with ea_; subst ea_)); subst ec_; clear en_)); have GB17 := Aside0.mk gb17; have GG17 := Aside0.mk HG17; clear gb17 gl17 HG17; obtain ⟨ce17, hcl17, hM17, hcc17, hfr17⟩ := Kd.R_elem HO_8.out z91 ((ji14) : Int) p17 q17; obtain rfl := k91_openM hM17; have hx17_0 : w29.cell? ⟨go17, ((ji14) : Int).toNat * 3, none⟩ = some (.int .i64 ((rd_T91 x8_1 (ji14)).f0)) := hcc17 0 _ rfl; have hx17_1 : w29.cell? ⟨go17, ((ji14) : Int).toNat * 3 + 1, none⟩ = some (.int .i64 ((rd_T91 x8_1 (ji14)).f1)) := hcc17 1 _ rfl; have hx17_2 : w29.cell? ⟨go17, ((ji14) : Int).toNat * 3 + 2, none⟩ = some (.string ((rd_T91 x8_1 (ji14)).f2)) := hcc17 2 _ rfl; have hf17_0 : w29.frozen? ⟨go17, ((ji14) : Int).toNat * 3, none⟩ = false := hfr17 0; have hf17_1 : w29.frozen? ⟨go17, ((ji14) : Int).toNat * 3 + 1, none⟩ = false := hfr17 1; have hf17_2 : w29.frozen? ⟨go17, ((ji14) : Int).toNat * 3 + 2, none⟩ = false := hfr17 2; clear hcl17 hcc17 hfr17 hM17; replace p17 := eq_true p17; replace q17 := eq_true q17))
             have n0_ := Aside0.mk (Kd.R_drew HO_8.out)
             have n1_ := Aside0.mk (Kd.R_drew HO_23.out)
             have n2_ := Aside0.mk (blk_drew BK168.out)
             have n3_ := Aside0.mk (below_drew1 HB.out)
             clear HO_8
             clear HO_23
             clear BK168
             clear HB
             have HO_8 := n0_
             have HO_23 := n1_
             have BK168 := n2_
             have HB := n3_
             clear n0_ n1_ n2_ n3_
             obtain ⟨ce33, hcl33, hM33, hcc33, hfr33⟩ := Kd.R_elem HO_8.out z91 ((ji14) : Int) (of_decide_eq_true (by assumption)) (by have h_ : ((ji14) : Int) < ((x8_1.length : Int) : Int) := of_decide_eq_true (by assumption); first | exact h_ | (have e_ := (Kd.R_reads' HO_8.out).1; omega) | simpa using h_)
             obtain rfl := k91_openM hM33
             have HP33 := (Kd.R_seg HO_8.out ((ji14) : Int) (of_decide_eq_true (by assumption)) (by have h_ : ((ji14) : Int) < ((x8_1.length : Int) : Int) := of_decide_eq_true (by assumption); first | exact h_ | (have e_ := (Kd.R_reads' HO_8.out).1; omega) | simpa using h_) (seg := [.string (((rd_T91 x8_1 (ji14)).f2) ++ ((rd_T119 t163 x25_1).f1))]) (j := 2) hcl33 hcc33 (show 3 ≤ 3 from by decide) (x' := (⟨(rd_T91 x8_1 (ji14)).f0, (rd_T91 x8_1 (ji14)).f1, ((rd_T91 x8_1 (ji14)).f2) ++ ((rd_T119 t163 x25_1).f1)⟩ : S91)) (k91_mkM _ _ _ (⟨(rd_T91 x8_1 (ji14)).f0, (rd_T91 x8_1 (ji14)).f1, ((rd_T91 x8_1 (ji14)).f2) ++ ((rd_T119 t163 x25_1).f1)⟩ : S91) ) (fun _ hk => hk)).1
             rw [← Ny170.out] at HP33
             have HQ33 := Aside0.mk HP33
             have hxq33 := hcc33 2 _ rfl
             have hfq33 : World.frozen? _ ⟨go17, ((ji14) : Int).toNat * 3 + 2, none⟩ = false := hfr33 2
             clear hcl33 hcc33 hfr33 hM33 HP33
             refine start_ (n := 10) (S := fun w' => w'.cell? ⟨gb168, 0, none⟩ = some (.int .u8 ((rd_T119 t163 x25_1).f0)) ∧ w'.cell? ⟨gb168, 1, none⟩ = some (.string ((rd_T119 t163 x25_1).f1)) ∧ w'.cell? ⟨go17, (ji14).toNat * 3 + 2, none⟩ = some (.string ((rd_T91 x8_1 (ji14)).f2))) (ds := [9]) (bA 10 0) (by kernel_rfl) rfl rfl ⟨(blk_cell BK168.out 0).trans rfl, (blk_cell BK168.out 1).trans rfl, hxq33⟩ (fun hHeld => ?_); refine with_tabW text_Edits.tab19 text_Edits.bits19 (fun HT_ HW_ => ?_)
             have GG17 := (show Aside0 (w29.drew.heap[go17]? = some (.cells cl17 91)) from GG17)
             generalize w29.drew = w32 at HO_8 HO_23 BK168 HB HQ33 GG17 hxq33 hfq33 hHeld ⊢
             refine pu_ 0 62 (bA 10 1) HT_ ?_
             refine pu_ 1 63 (bA 10 3) HT_ ?_
             refine pu_ 2 64 (bA 10 7) HT_ ?_
             refine pu_ 4 66 (bA 10 23) HT_ ?_
             refine tk_ 3 65 (bA 10 31) rfl HT_ HW_ hHeld (by rintro w' ⟨s0, s1, s2⟩; go_simp; with_reducible rfl) ?_
             refine tk_ 5 67 (bA 10 63) rfl HT_ HW_ hHeld (by rintro w' ⟨s0, s1, s2⟩; go_simp; with_reducible rfl) ?_
             refine pu_ 6 68 (bA 10 127) HT_ ?_
             refine pu_ 7 69 (bA 10 255) HT_ ?_
             refine pu_ 8 70 (bA 10 511) HT_ ?_
             refine last_ (i := 9) (N := none) (bA 10 1023) rfl rfl (one_of HT_.out (by kernel_rfl)) (by decide) (fun K hK => ?_)
             refine skip_ (w1 := ?_) (by rfl) rfl ?_ ?_
             rotate_left
             ·go_simp
              rfl
             refine hK.out _ _ ?_
             clear hK K
             refine done_ (done_of HT_.out (by kernel_rfl)) ?_
             try go_wp2
             go_roundg k1
             case measure => have := HK1.out; omega
             case rel => exact ⟨(y170), (x9_1), (true), (wrap64 (x25_1 + 1)), (by first | rfl | (simp; done) | (simp [*]; done)), (by first | rfl | (simp; done) | (simp [*]; done)), (by first | rfl | (simp; done) | (simp [*]; done)), H', ⟨by have := HK1.out; omega⟩, ⟨by (with_reducible repeat (first | apply Kd.R_alloc | apply Kd.R_drewN | apply Kd.R_drew)); exact HQ33.out⟩, ⟨by (with_reducible repeat (first | apply Kd.R_alloc | apply Kd.R_drewN | apply Kd.R_drew)); exact Kd.R_mono (Kd.R_far (p := ⟨go17, ((ji14) : Int).toNat * 3 + 2, none⟩) (Kd.R_types HO_23.out GG17.out (by decide)) (fun _ hk => hk.2) (.string (((rd_T91 x8_1 (ji14)).f2) ++ ((rd_T119 t163 x25_1).f1)))) (fun _ hk => trivial)⟩, ⟨by repeat (with_reducible first | exact HB.out | apply below_alloc | apply pw_below_drewN | apply below_drew1 | refine below_set ?_ GB17.out | refine below_set ?_ GE168.out)⟩⟩
            ·rw [if_neg c26] at H
             exact absurd H (by simp)
          ·rw [if_neg c16] at H
           exact absurd H (by simp)
         ·rw [if_neg c15] at H
          exact absurd H (by simp)
        ·replace c13 := Bool.eq_false_iff.mpr c13
         subst c13
         have H1 : (if x8_1.length < 4398046511104 then ((some (x8_1 ++ [(⟨x9_1, x9_1, (⟨#[]⟩ : ByteArray)⟩ : S91)] : List (S91))).bind fun y171 => (if 0 ≤ (wrap64 ((y171.length : Int) - 1)) then (if (wrap64 ((y171.length : Int) - 1)) < (y171.length : Int) then (if ((rd_T119 t163 x25_1).f0) = 45 then (text_Edits.l0 k1 (y171.set ((wrap64 ((y171.length : Int) - 1)) : Int).toNat (⟨(rd_T91 y171 (wrap64 ((y171.length : Int) - 1))).f0, wrap64 (x9_1 + (((rd_T119 t163 x25_1).f1).size : Int)), (rd_T91 y171 (wrap64 ((y171.length : Int) - 1))).f2⟩ : S91)) (wrap64 (x9_1 + (((rd_T119 t163 x25_1).f1).size : Int))) true t163 (t163.length : Int) (wrap64 (x25_1 + 1))) else (if ((rd_T91 y171 (wrap64 ((y171.length : Int) - 1))).f2).size + ((rd_T119 t163 x25_1).f1).size ≤ 9223372036854775807 then (text_Edits.l0 k1 (y171.set ((wrap64 ((y171.length : Int) - 1)) : Int).toNat (⟨(rd_T91 y171 (wrap64 ((y171.length : Int) - 1))).f0, (rd_T91 y171 (wrap64 ((y171.length : Int) - 1))).f1, ((rd_T91 y171 (wrap64 ((y171.length : Int) - 1))).f2) ++ ((rd_T119 t163 x25_1).f1)⟩ : S91)) x9_1 true t163 (t163.length : Int) (wrap64 (x25_1 + 1))) else (none))) else (none)) else (none))) else (none)) = some (r1, r2) := by rw [if_neg (show ¬ (false = true) by decide)] at H; exact H
         clear H
         have H := H1
         clear H1
         by_cases c34 : x8_1.length < 4398046511104
         ·rw [if_pos c34] at H
          have LMc34 := Aside0.mk c34
          clear c34
          obtain ⟨y171, hy171⟩ : ∃ y_ : List (S91), y_ = (x8_1 ++ [(⟨x9_1, x9_1, (⟨#[]⟩ : ByteArray)⟩ : S91)]) := ⟨_, rfl⟩
          replace H : (if 0 ≤ (wrap64 ((y171.length : Int) - 1)) then (if (wrap64 ((y171.length : Int) - 1)) < (y171.length : Int) then (if ((rd_T119 t163 x25_1).f0) = 45 then (text_Edits.l0 k1 (y171.set ((wrap64 ((y171.length : Int) - 1)) : Int).toNat (⟨(rd_T91 y171 (wrap64 ((y171.length : Int) - 1))).f0, wrap64 (x9_1 + (((rd_T119 t163 x25_1).f1).size : Int)), (rd_T91 y171 (wrap64 ((y171.length : Int) - 1))).f2⟩ : S91)) (wrap64 (x9_1 + (((rd_T119 t163 x25_1).f1).size : Int))) true t163 (t163.length : Int) (wrap64 (x25_1 + 1))) else (if ((rd_T91 y171 (wrap64 ((y171.length : Int) - 1))).f2).size + ((rd_T119 t163 x25_1).f1).size ≤ 9223372036854775807 then (text_Edits.l0 k1 (y171.set ((wrap64 ((y171.length : Int) - 1)) : Int).toNat (⟨(rd_T91 y171 (wrap64 ((y171.length : Int) - 1))).f0, (rd_T91 y171 (wrap64 ((y171.length : Int) - 1))).f1, ((rd_T91 y171 (wrap64 ((y171.length : Int) - 1))).f2) ++ ((rd_T119 t163 x25_1).f1)⟩ : S91)) x9_1 true t163 (t163.length : Int) (wrap64 (x25_1 + 1))) else (none))) else (none)) else (none)) = some (r1, r2) := by first | (rw [hy171]; with_reducible exact H) | (have H2_ := (Option.bind_some _ _).symm.trans H; rw [hy171]; with_reducible exact H2_) | (have H2_ := (Option.bind_some _ _).symm.trans H; with_reducible exact H2_) | with_reducible exact H | (rw [hy171]; exact H) | exact H
          have Ny171 := Aside0.mk hy171
          clear hy171
          obtain ⟨ji35, hji35⟩ : ∃ j_ : Int, (wrap64 ((y171.length : Int) - 1)) = j_ := ⟨_, rfl⟩
          replace H : (if 0 ≤ (ji35) then (if (ji35) < (y171.length : Int) then (if ((rd_T119 t163 x25_1).f0) = 45 then (text_Edits.l0 k1 (y171.set ((ji35) : Int).toNat (⟨(rd_T91 y171 (ji35)).f0, wrap64 (x9_1 + (((rd_T119 t163 x25_1).f1).size : Int)), (rd_T91 y171 (ji35)).f2⟩ : S91)) (wrap64 (x9_1 + (((rd_T119 t163 x25_1).f1).size : Int))) true t163 (t163.length : Int) (wrap64 (x25_1 + 1))) else (if ((rd_T91 y171 (ji35)).f2).size + ((rd_T119 t163 x25_1).f1).size ≤ 9223372036854775807 then (text_Edits.l0 k1 (y171.set ((ji35) : Int).toNat (⟨(rd_T91 y171 (ji35)).f0, (rd_T91 y171 (ji35)).f1, ((rd_T91 y171 (ji35)).f2) ++ ((rd_T119 t163 x25_1).f1)⟩ : S91)) x9_1 true t163 (t163.length : Int) (wrap64 (x25_1 + 1))) else (none))) else (none)) else (none)) = some (r1, r2) := by first | (rw [hji35] at H; exact H) | (simp only [hji35] at H ⊢; exact H)
          have hji35w : (IntKind.i64.wrap ((y171.length : Int) - 1)) = ji35 := (i64_w _).trans hji35
          by_cases c36 : 0 ≤ (ji35)
          ·rw [if_pos c36] at H
           have c36b0 : decide (0 ≤ (ji35)) = true := decide_eq_true c36
           clear c36
           by_cases c37 : (ji35) < (y171.length : Int)
           ·rw [if_pos c37] at H
            have c37b0 : decide ((ji35) < (y171.length : Int)) = true := decide_eq_true c37
            clear c37
            by_cases c39 : ((rd_T119 t163 x25_1).f0) = 45
            ·rw [if_pos c39] at H
             have c39b0 : (((rd_T119 t163 x25_1).f0) == 45) = true := beq_iff_eq.mpr c39
             have c39b1 : (((rd_T119 t163 x25_1).f0) != 45) = false := bne_eq_false_iff_eq.mpr c39
             clear c39
             obtain ⟨y174, hy174⟩ : ∃ y_ : List (S91), y_ = (y171.set ((ji35) : Int).toNat (⟨(rd_T91 y171 (ji35)).f0, wrap64 (x9_1 + (((rd_T119 t163 x25_1).f1).size : Int)), (rd_T91 y171 (ji35)).f2⟩ : S91)) := ⟨_, rfl⟩
             replace H : (text_Edits.l0 k1 y174 (wrap64 (x9_1 + (((rd_T119 t163 x25_1).f1).size : Int))) true t163 (t163.length : Int) (wrap64 (x25_1 + 1))) = some (r1, r2) := by first | (rw [hy174]; with_reducible exact H) | (have H2_ := (Option.bind_some _ _).symm.trans H; rw [hy174]; with_reducible exact H2_) | (have H2_ := (Option.bind_some _ _).symm.trans H; with_reducible exact H2_) | with_reducible exact H | (rw [hy174]; exact H) | exact H
             have Ny174 := Aside0.mk hy174
             clear hy174
             have H' := Aside0.mk H
             clear H
             have p167 : 0 ≤ (x25_1 : Int) := of_decide_eq_true (by assumption)
             have q167 : x25_1 < (t163.length : Int) := of_decide_eq_true (by assumption)
             obtain ⟨ad167, e167, hx167_0, hx167_1⟩ := at_T119 (Kd.R_reads' HO_23.out).2.2 x25_1 p167 q167
             cases e167
             replace p167 := eq_true p167
             replace q167 := eq_true q167
             go_wp2_with (first | ((with_reducible refine gate_dst (N := 12) rfl ?_); refine box_event ?hg (N := 12) ?hd (cs := #[.int .u8 0, .string (⟨#[]⟩ : ByteArray)]) (t := 119) ?hr ?_; (case hd => rfl); (case hg => rfl); (case hr => first | (go_simp; done) | (go_simp; rfl)); intro gb168 hg w40 hbox hb; have n0_ := Aside0.mk (Kd.R_below (by (with_reducible repeat (first | apply Kd.R_alloc | apply Kd.R_drewN | apply Kd.R_drew)); exact HO_8.out) hb); have n1_ := Aside0.mk (Kd.R_below (Kd.R_elderB (by (with_reducible repeat (first | apply Kd.R_alloc | apply Kd.R_drewN | apply Kd.R_drew)); exact HO_23.out) gb168 (Nat.le_of_eq hg.symm)) hb); have n2_ := Aside0.mk (below_step (by repeat (with_reducible first | exact HB.out | apply below_alloc | apply pw_below_drewN | apply below_drew1)) hb); have n3_ := Aside0.mk (hbox); have n4_ := Aside0.mk ((by rw [hg]; exact (below_size (by repeat (with_reducible first | exact HB.out | apply below_alloc | apply pw_below_drewN | apply below_drew1))) : w.heap.size ≤ gb168)); have n5_ := Aside0.mk ((by rw [hg]; exact (below_size (by repeat (with_reducible first | exact HB.out | apply below_alloc | apply pw_below_drewN | apply below_drew1))) : w.heap.size ≤ gb168)); clear HO_8; clear HO_23; clear HB; have HO_8 := n0_; have HO_23 := n1_; have HB := n2_; have BK168 := n3_; have GW168 := n4_; have GE168 := n5_; clear n0_ n1_ n2_ n3_ n4_ n5_; clear hb hbox hg; have hcz41_0 : w40.cell? ⟨gb168, 0, none⟩ = some (.int .u8 0) := (blk_cell BK168.out 0).trans rfl; have hcz41_1 : w40.cell? ⟨gb168, 1, none⟩ = some (.string (⟨#[]⟩ : ByteArray)) := (blk_cell BK168.out 1).trans rfl; have hfz41_0 := blk_frozen BK168.out 0; have hfz41_1 := blk_frozen BK168.out 1) | ((with_reducible refine gate_builtin (b := .append) (xs := #[.tmp 39, .tmp 43]) rfl ?_); at_builtin; refine Kd.R_append k91 (w0 := w) w.heap.size rfl (.tmp 39) (.tmp 43) 68 91 (.agg #[(.int .i64 0), (.int .i64 0), (.string ⟨#[]⟩)]) 32 rfl Tryz.underlying68 info91 rfl (by decide) (by omega) u8 x8_1 (⟨x9_1, x9_1, (⟨#[]⟩ : ByteArray)⟩ : S91) [.int .i64 x9_1, .int .i64 x9_1, .string (⟨#[]⟩ : ByteArray)] (fun _ => True) (fun _ => False) rfl (by first | (go_simp; done) | (go_simp; rfl)) ?aP (fun _ hk => hk.elim) ?aF ?aO ?aB ?aS ?aL ?_; (case aP => exact k91_mkM _ _ _ (⟨x9_1, x9_1, (⟨#[]⟩ : ByteArray)⟩ : S91)); (case aB => exact (by repeat (with_reducible first | exact HB.out | apply below_alloc | apply pw_below_drewN | apply below_drew1 | refine below_set ?_ GE168.out))); (case aF => exact (fun _ _ => trivial)); (case aO => exact (by (with_reducible repeat (first | apply Kd.R_alloc | apply Kd.R_drewN | apply Kd.R_drew)); exact Kd.R_mono (Kd.R_far (p := ⟨gb168, 1, none⟩) (Kd.R_far (p := ⟨gb168, 0, none⟩) (Kd.R_types HO_8.out BK168.out (by decide)) (fun _ hk => hk.2) (.int .u8 ((rd_T119 t163 x25_1).f0))) (fun _ hk => hk.2) (.string ((rd_T119 t163 x25_1).f1))) (fun _ hk => trivial))); (case aS => exact (below_size (by repeat (with_reducible first | exact HB.out | apply below_alloc | apply pw_below_drewN | apply below_drew1 | refine below_set ?_ GE168.out)))); (case aL => have := LMc34.out; omega); intro v172 w42 ho hb hg hat; rw [← Ny171.out] at ho; have n0_ := Aside0.mk (Kd.R_over' (by (with_reducible repeat (first | apply Kd.R_alloc | apply Kd.R_drewN | apply Kd.R_drew)); exact (Kd.R_mono (Kd.R_far (p := ⟨gb168, 1, none⟩) (Kd.R_far (p := ⟨gb168, 0, none⟩) (Kd.R_mono HO_23.out (fun k_ hk => (⟨hk, hk.2⟩ : _ ∧ k_ ≠ gb168))) (fun _ hk => hk.2) (.int .u8 ((rd_T119 t163 x25_1).f0))) (fun _ hk => hk.2) (.string ((rd_T119 t163 x25_1).f1))) (fun _ h_ => h_.1))) (Kd.R_typed (by (with_reducible repeat (first | apply Kd.R_alloc | apply Kd.R_drewN | apply Kd.R_drew)); exact (Kd.R_mono (Kd.R_far (p := ⟨gb168, 1, none⟩) (Kd.R_far (p := ⟨gb168, 0, none⟩) (Kd.R_types HO_8.out BK168.out (by decide)) (fun _ hk => hk.2) (.int .u8 ((rd_T119 t163 x25_1).f0))) (fun _ hk => hk.2) (.string ((rd_T119 t163 x25_1).f1))) (fun _ h_ => h_.1)))) (by decide) hg); have n1_ := Aside0.mk (blk_grown (g := gb168) (o := .cells #[.int .u8 ((rd_T119 t163 x25_1).f0), .string ((rd_T119 t163 x25_1).f1)] 119 (0, 0)) (by (with_reducible repeat (first | refine blk_drewN ?_ _ | refine blk_drew ?_ | refine blk_alloc ?_ _)); refine blk_put (cs := #[.int .u8 ((rd_T119 t163 x25_1).f0), .string (⟨#[]⟩ : ByteArray)]) ?_ 1 _ rfl; (with_reducible repeat (first | refine blk_drewN ?_ _ | refine blk_drew ?_ | refine blk_alloc ?_ _)); refine blk_put (cs := #[.int .u8 0, .string (⟨#[]⟩ : ByteArray)]) ?_ 0 _ rfl; (with_reducible repeat (first | refine blk_drewN ?_ _ | refine blk_drew ?_ | refine blk_alloc ?_ _)); exact BK168.out) hg (Kd.R_ne HO_8.out BK168.out (by decide))); have n2_ := Aside0.mk (hb); have n3_ := Aside0.mk (ho); clear HO_23; clear BK168; clear HB; clear HO_8; have HO_23 := n0_; have BK168 := n1_; have HB := n2_; have HO173 := n3_; clear n0_ n1_ n2_ n3_; clear ho hb hg hat; obtain ⟨Ao43, co43, eo43⟩ := Kd.R_slice HO173.out; subst eo43; have p38 : 0 ≤ ((ji35) : Int) := of_decide_eq_true (by assumption); have q38 : ((ji35) : Int) < ((y171.length : Int) : Int) := of_decide_eq_true (by assumption); obtain ⟨go38, co38, eo38, gb38, gl38, cl38, HG38⟩ := Kd.R_form HO173.out (by omega); (first | cases eo38 | (injection eo38 with ea_ en_ ec_; (first | subst ea_ | (injection ea_ with ea_; subst ea_)); subst ec_; clear en_)); have GB38 := Aside0.mk gb38; have GG38 := Aside0.mk HG38; clear gb38 gl38 HG38; obtain ⟨ce38, hcl38, hM38, hcc38, hfr38⟩ := Kd.R_elem HO173.out z91 ((ji35) : Int) p38 q38; obtain rfl := k91_openM hM38; have hx38_0 : w42.cell? ⟨go38, ((ji35) : Int).toNat * 3, none⟩ = some (.int .i64 ((rd_T91 y171 (ji35)).f0)) := hcc38 0 _ rfl; have hx38_1 : w42.cell? ⟨go38, ((ji35) : Int).toNat * 3 + 1, none⟩ = some (.int .i64 ((rd_T91 y171 (ji35)).f1)) := hcc38 1 _ rfl; have hx38_2 : w42.cell? ⟨go38, ((ji35) : Int).toNat * 3 + 2, none⟩ = some (.string ((rd_T91 y171 (ji35)).f2)) := hcc38 2 _ rfl; have hf38_0 : w42.frozen? ⟨go38, ((ji35) : Int).toNat * 3, none⟩ = false := hfr38 0; have hf38_1 : w42.frozen? ⟨go38, ((ji35) : Int).toNat * 3 + 1, none⟩ = false := hfr38 1; have hf38_2 : w42.frozen? ⟨go38, ((ji35) : Int).toNat * 3 + 2, none⟩ = false := hfr38 2; clear hcl38 hcc38 hfr38 hM38; replace p38 := eq_true p38; replace q38 := eq_true q38; have hcz44_0 : w42.cell? ⟨gb168, 0, none⟩ = some (.int .u8 ((rd_T119 t163 x25_1).f0)) := (blk_cell BK168.out 0).trans rfl; have hcz44_1 : w42.cell? ⟨gb168, 1, none⟩ = some (.string ((rd_T119 t163 x25_1).f1)) := (blk_cell BK168.out 1).trans rfl; have hfz44_0 := blk_frozen BK168.out 0; have hfz44_1 := blk_frozen BK168.out 1; have HX45 := Aside0.mk (show Kd.R k91 91 w42 w.heap.size (fun _ => True) (.slice (some ⟨go38, 0, none⟩) y171.length co43) y171 from (by (with_reducible repeat (first | apply Kd.R_alloc | apply Kd.R_drewN | apply Kd.R_drew)); exact HO173.out)); obtain ⟨ce45, hcl45, hM45, hcc45, hfr45⟩ := Kd.R_elem HX45.out z91 ((ji35) : Int) (of_decide_eq_true (by assumption)) (by have h_ : ((ji35) : Int) < ((y171.length : Int) : Int) := of_decide_eq_true (by assumption); first | exact h_ | (have e_ := (Kd.R_reads' HO173.out).1; omega) | simpa using h_); obtain rfl := k91_openM hM45; have HP45 := Kd.R_seg HX45.out ((ji35) : Int) (of_decide_eq_true (by assumption)) (by have h_ : ((ji35) : Int) < ((y171.length : Int) : Int) := of_decide_eq_true (by assumption); first | exact h_ | (have e_ := (Kd.R_reads' HO173.out).1; omega) | simpa using h_) (seg := [.int .i64 (wrap64 (x9_1 + (((rd_T119 t163 x25_1).f1).size : Int)))]) (j := 1) hcl45 hcc45 (show 2 ≤ 3 from by decide) (x' := (⟨(rd_T91 y171 (ji35)).f0, wrap64 (x9_1 + (((rd_T119 t163 x25_1).f1).size : Int)), (rd_T91 y171 (ji35)).f2⟩ : S91)) (k91_mkM _ _ _ (⟨(rd_T91 y171 (ji35)).f0, wrap64 (x9_1 + (((rd_T119 t163 x25_1).f1).size : Int)), (rd_T91 y171 (ji35)).f2⟩ : S91) ) (fun _ hk => hk); have hx45_1 := hcc45 1 _ rfl; (try simp only [show (k91).sz = 3 from rfl, Nat.mul_one, Nat.add_zero] at hx45_1); have hf45_1 := hfr45 1; (try simp only [show (k91).sz = 3 from rfl, Nat.mul_one, Nat.add_zero] at hf45_1); clear hcl45 hcc45 hfr45 hM45) | ((with_reducible refine gate_store (t := 3) (p := 61) rfl ?_); refine store_event (t := 3) (p := 61) (v := ?vo_w46) (w1 := (w42.setCell ⟨go38, ((ji35) : Int).toNat * 3 + 1, none⟩ (.int .i64 (wrap64 (x9_1 + (((rd_T119 t163 x25_1).f1).size : Int)))))) ?hg ?ho ?hn ?hr ?_; (case ho => rfl); (case hg => rfl); (case hn => rfl); (case hr => first | (go_simp; done) | (go_simp; rfl)); intro w46 hw; have hg : w42.grownBy w46 (some go38) := (by rw [hw]; exact HP45.2); have hp_ : Kd.R k91 91 w46 w.heap.size (fun _ => True) (.slice (some ⟨go38, 0, none⟩) y171.length co43) y174 := (by rw [hw, Ny174.out]; exact HP45.1); clear HP45; have n0_ := Aside0.mk (Kd.R_over' (v := (.slice (some ⟨go38, 0, none⟩) y171.length co43)) (by (with_reducible repeat (first | apply Kd.R_alloc | apply Kd.R_drewN | apply Kd.R_drew)); exact HO_23.out) (Kd.R_typed HO173.out) (by decide) hg); have n1_ := Aside0.mk (blk_grown (g := gb168) (o := .cells #[.int .u8 ((rd_T119 t163 x25_1).f0), .string ((rd_T119 t163 x25_1).f1)] 119 (0, 0)) (by (with_reducible repeat (first | refine blk_drewN ?_ _ | refine blk_drew ?_ | refine blk_alloc ?_ _)); exact BK168.out) hg (Kd.R_ne HO173.out BK168.out (by decide))); have n2_ := Aside0.mk (hp_); have n3_ := Aside0.mk ((by rw [hw]; exact below_set (HB.out) GB38.out : Below w.heap.size w w46)); clear HO_23; clear BK168; clear HO173; clear HB; have HO_23 := n0_; have BK168 := n1_; have HO173 := n2_; have HB := n3_; clear n0_ n1_ n2_ n3_; clear hg hw hp_))
             go_roundg k1
             case measure => have := HK1.out; omega
             case rel => exact ⟨(y174), (wrap64 (x9_1 + (((rd_T119 t163 x25_1).f1).size : Int))), (true), (wrap64 (x25_1 + 1)), (by first | rfl | (simp; done) | (simp [*]; done)), (by first | rfl | (simp; done) | (simp [*]; done)), (by first | rfl | (simp; done) | (simp [*]; done)), H', ⟨by have := HK1.out; omega⟩, ⟨by (with_reducible repeat (first | apply Kd.R_alloc | apply Kd.R_drewN | apply Kd.R_drew)); exact HO173.out⟩, ⟨by (with_reducible repeat (first | apply Kd.R_alloc | apply Kd.R_drewN | apply Kd.R_drew)); exact Kd.R_mono HO_23.out (fun _ hk => trivial)⟩, ⟨by repeat (with_reducible first | exact HB.out | apply below_alloc | apply pw_below_drewN | apply below_drew1 | refine below_set ?_ GE168.out)⟩⟩
            ·rw [if_neg c39] at H
             have c39b0 : (((rd_T119 t163 x25_1).f0) == 45) = false := beq_eq_false_iff_ne.mpr c39
             have c39b1 : (((rd_T119 t163 x25_1).f0) != 45) = true := bne_iff_ne.mpr c39
             by_cases c47 : ((rd_T91 y171 (ji35)).f2).size + ((rd_T119 t163 x25_1).f1).size ≤ 9223372036854775807
             ·rw [if_pos c47] at H
              have c47b0 := eq_true c47
              have c47b1 : decide (((rd_T91 y171 (ji35)).f2).size + ((rd_T119 t163 x25_1).f1).size ≤ 9223372036854775807) = true := decide_eq_true c47
              try have c47b2 : (9223372036854775807 < ((rd_T91 y171 (ji35)).f2).size + ((rd_T119 t163 x25_1).f1).size) = False := eq_false (Nat.not_lt.2 c47)
              obtain ⟨y175, hy175⟩ : ∃ y_ : List (S91), y_ = (y171.set ((ji35) : Int).toNat (⟨(rd_T91 y171 (ji35)).f0, (rd_T91 y171 (ji35)).f1, ((rd_T91 y171 (ji35)).f2) ++ ((rd_T119 t163 x25_1).f1)⟩ : S91)) := ⟨_, rfl⟩
              replace H : (text_Edits.l0 k1 y175 x9_1 true t163 (t163.length : Int) (wrap64 (x25_1 + 1))) = some (r1, r2) := by first | (rw [hy175]; with_reducible exact H) | (have H2_ := (Option.bind_some _ _).symm.trans H; rw [hy175]; with_reducible exact H2_) | (have H2_ := (Option.bind_some _ _).symm.trans H; with_reducible exact H2_) | with_reducible exact H | (rw [hy175]; exact H) | exact H
              have Ny175 := Aside0.mk hy175
              clear hy175
              have H' := Aside0.mk H
              clear H
              have p167 : 0 ≤ (x25_1 : Int) := of_decide_eq_true (by assumption)
              have q167 : x25_1 < (t163.length : Int) := of_decide_eq_true (by assumption)
              obtain ⟨ad167, e167, hx167_0, hx167_1⟩ := at_T119 (Kd.R_reads' HO_23.out).2.2 x25_1 p167 q167
              cases e167
              replace p167 := eq_true p167
              replace q167 := eq_true q167
              try go_wp2_with (first | ((with_reducible refine gate_dst (N := 12) rfl ?_); refine box_event ?hg (N := 12) ?hd (cs := #[.int .u8 0, .string (⟨#[]⟩ : ByteArray)]) (t := 119) ?hr ?_; (case hd => rfl); (case hg => rfl); (case hr => first | (go_simp; done) | (go_simp; rfl)); intro gb168 hg w48 hbox hb; have n0_ := Aside0.mk (Kd.R_below (by (with_reducible repeat (first | apply Kd.R_alloc | apply Kd.R_drewN | apply Kd.R_drew)); exact HO_8.out) hb); have n1_ := Aside0.mk (Kd.R_below (Kd.R_elderB (by (with_reducible repeat (first | apply Kd.R_alloc | apply Kd.R_drewN | apply Kd.R_drew)); exact HO_23.out) gb168 (Nat.le_of_eq hg.symm)) hb); have n2_ := Aside0.mk (below_step (by repeat (with_reducible first | exact HB.out | apply below_alloc | apply pw_below_drewN | apply below_drew1)) hb); have n3_ := Aside0.mk (hbox); have n4_ := Aside0.mk ((by rw [hg]; exact (below_size (by repeat (with_reducible first | exact HB.out | apply below_alloc | apply pw_below_drewN | apply below_drew1))) : w.heap.size ≤ gb168)); have n5_ := Aside0.mk ((by rw [hg]; exact (below_size (by repeat (with_reducible first | exact HB.out | apply below_alloc | apply pw_below_drewN | apply below_drew1))) : w.heap.size ≤ gb168)); clear HO_8; clear HO_23; clear HB; have HO_8 := n0_; have HO_23 := n1_; have HB := n2_; have BK168 := n3_; have GW168 := n4_; have GE168 := n5_; clear n0_ n1_ n2_ n3_ n4_ n5_; clear hb hbox hg; have hcz49_0 : w48.cell? ⟨gb168, 0, none⟩ = some (.int .u8 0) := (blk_cell BK168.out 0).trans rfl; have hcz49_1 : w48.cell? ⟨gb168, 1, none⟩ = some (.string (⟨#[]⟩ : ByteArray)) := (blk_cell BK168.out 1).trans rfl; have hfz49_0 := blk_frozen BK168.out 0; have hfz49_1 := blk_frozen BK168.out 1) | ((with_reducible refine gate_builtin (b := .append) (xs := #[.tmp 39, .tmp 43]) rfl ?_); at_builtin; refine Kd.R_append k91 (w0 := w) w.heap.size rfl (.tmp 39) (.tmp 43) 68 91 (.agg #[(.int .i64 0), (.int .i64 0), (.string ⟨#[]⟩)]) 32 rfl Tryz.underlying68 info91 rfl (by decide) (by omega) u8 x8_1 (⟨x9_1, x9_1, (⟨#[]⟩ : ByteArray)⟩ : S91) [.int .i64 x9_1, .int .i64 x9_1, .string (⟨#[]⟩ : ByteArray)] (fun _ => True) (fun _ => False) rfl (by first | (go_simp; done) | (go_simp; rfl)) ?aP (fun _ hk => hk.elim) ?aF ?aO ?aB ?aS ?aL ?_; (case aP => exact k91_mkM _ _ _ (⟨x9_1, x9_1, (⟨#[]⟩ : ByteArray)⟩ : S91)); (case aB => exact (by repeat (with_reducible first | exact HB.out | apply below_alloc | apply pw_below_drewN | apply below_drew1 | refine below_set ?_ GE168.out))); (case aF => exact (fun _ _ => trivial)); (case aO => exact (by (with_reducible repeat (first | apply Kd.R_alloc | apply Kd.R_drewN | apply Kd.R_drew)); exact Kd.R_mono (Kd.R_far (p := ⟨gb168, 1, none⟩) (Kd.R_far (p := ⟨gb168, 0, none⟩) (Kd.R_types HO_8.out BK168.out (by decide)) (fun _ hk => hk.2) (.int .u8 ((rd_T119 t163 x25_1).f0))) (fun _ hk => hk.2) (.string ((rd_T119 t163 x25_1).f1))) (fun _ hk => trivial))); (case aS => exact (below_size (by repeat (with_reducible first | exact HB.out | apply below_alloc | apply pw_below_drewN | apply below_drew1 | refine below_set ?_ GE168.out)))); (case aL => have := LMc34.out; omega); intro v172 w50 ho hb hg hat; rw [← Ny171.out] at ho; have n0_ := Aside0.mk (Kd.R_over' (by (with_reducible repeat (first | apply Kd.R_alloc | apply Kd.R_drewN | apply Kd.R_drew)); exact (Kd.R_mono (Kd.R_far (p := ⟨gb168, 1, none⟩) (Kd.R_far (p := ⟨gb168, 0, none⟩) (Kd.R_mono HO_23.out (fun k_ hk => (⟨hk, hk.2⟩ : _ ∧ k_ ≠ gb168))) (fun _ hk => hk.2) (.int .u8 ((rd_T119 t163 x25_1).f0))) (fun _ hk => hk.2) (.string ((rd_T119 t163 x25_1).f1))) (fun _ h_ => h_.1))) (Kd.R_typed (by (with_reducible repeat (first | apply Kd.R_alloc | apply Kd.R_drewN | apply Kd.R_drew)); exact (Kd.R_mono (Kd.R_far (p := ⟨gb168, 1, none⟩) (Kd.R_far (p := ⟨gb168, 0, none⟩) (Kd.R_types HO_8.out BK168.out (by decide)) (fun _ hk => hk.2) (.int .u8 ((rd_T119 t163 x25_1).f0))) (fun _ hk => hk.2) (.string ((rd_T119 t163 x25_1).f1))) (fun _ h_ => h_.1)))) (by decide) hg); have n1_ := Aside0.mk (blk_grown (g := gb168) (o := .cells #[.int .u8 ((rd_T119 t163 x25_1).f0), .string ((rd_T119 t163 x25_1).f1)] 119 (0, 0)) (by (with_reducible repeat (first | refine blk_drewN ?_ _ | refine blk_drew ?_ | refine blk_alloc ?_ _)); refine blk_put (cs := #[.int .u8 ((rd_T119 t163 x25_1).f0), .string (⟨#[]⟩ : ByteArray)]) ?_ 1 _ rfl; (with_reducible repeat (first | refine blk_drewN ?_ _ | refine blk_drew ?_ | refine blk_alloc ?_ _)); refine blk_put (cs := #[.int .u8 0, .string (⟨#[]⟩ : ByteArray)]) ?_ 0 _ rfl; (with_reducible repeat (first | refine blk_drewN ?_ _ | refine blk_drew ?_ | refine blk_alloc ?_ _)); exact BK168.out) hg (Kd.R_ne HO_8.out BK168.out (by decide))); have n2_ := Aside0.mk (hb); have n3_ := Aside0.mk (ho); clear HO_23; clear BK168; clear HB; clear HO_8; have HO_23 := n0_; have BK168 := n1_; have HB := n2_; have HO173 := n3_; clear n0_ n1_ n2_ n3_; clear ho hb hg hat; obtain ⟨Ao51, co51, eo51⟩ := Kd.R_slice HO173.out; subst eo51; have p38 : 0 ≤ ((ji35) : Int) := of_decide_eq_true (by assumption); have q38 : ((ji35) : Int) < ((y171.length : Int) : Int) := of_decide_eq_true (by assumption); obtain ⟨go38, co38, eo38, gb38, gl38, cl38, HG38⟩ := Kd.R_form HO173.out (by omega); (first | cases eo38 | (injection eo38 with ea_ en_ ec_; (first | subst ea_ | (injection ea_ with ea_; subst ea_)); subst ec_; clear en_)); have GB38 := Aside0.mk gb38; have GG38 := Aside0.mk HG38; clear gb38 gl38 HG38; obtain ⟨ce38, hcl38, hM38, hcc38, hfr38⟩ := Kd.R_elem HO173.out z91 ((ji35) : Int) p38 q38; obtain rfl := k91_openM hM38; have hx38_0 : w50.cell? ⟨go38, ((ji35) : Int).toNat * 3, none⟩ = some (.int .i64 ((rd_T91 y171 (ji35)).f0)) := hcc38 0 _ rfl; have hx38_1 : w50.cell? ⟨go38, ((ji35) : Int).toNat * 3 + 1, none⟩ = some (.int .i64 ((rd_T91 y171 (ji35)).f1)) := hcc38 1 _ rfl; have hx38_2 : w50.cell? ⟨go38, ((ji35) : Int).toNat * 3 + 2, none⟩ = some (.string ((rd_T91 y171 (ji35)).f2)) := hcc38 2 _ rfl; have hf38_0 : w50.frozen? ⟨go38, ((ji35) : Int).toNat * 3, none⟩ = false := hfr38 0; have hf38_1 : w50.frozen? ⟨go38, ((ji35) : Int).toNat * 3 + 1, none⟩ = false := hfr38 1; have hf38_2 : w50.frozen? ⟨go38, ((ji35) : Int).toNat * 3 + 2, none⟩ = false := hfr38 2; clear hcl38 hcc38 hfr38 hM38; replace p38 := eq_true p38; replace q38 := eq_true q38; have hcz52_0 : w50.cell? ⟨gb168, 0, none⟩ = some (.int .u8 ((rd_T119 t163 x25_1).f0)) := (blk_cell BK168.out 0).trans rfl; have hcz52_1 : w50.cell? ⟨gb168, 1, none⟩ = some (.string ((rd_T119 t163 x25_1).f1)) := (blk_cell BK168.out 1).trans rfl; have hfz52_0 := blk_frozen BK168.out 0; have hfz52_1 := blk_frozen BK168.out 1))
              have n0_ := Aside0.mk (Kd.R_drew HO_23.out)
              have n1_ := Aside0.mk (Kd.R_drew HO173.out)
              have n2_ := Aside0.mk (blk_drew BK168.out)
              have n3_ := Aside0.mk (below_drew1 HB.out)
              clear HO_23
              clear HO173
              clear BK168
              clear HB
              have HO_23 := n0_
              have HO173 := n1_
              have BK168 := n2_
              have HB := n3_
              clear n0_ n1_ n2_ n3_
              obtain ⟨ce54, hcl54, hM54, hcc54, hfr54⟩ := Kd.R_elem HO173.out z91 ((ji35) : Int) (of_decide_eq_true (by assumption)) (by have h_ : ((ji35) : Int) < ((y171.length : Int) : Int) := of_decide_eq_true (by assumption); first | exact h_ | (have e_ := (Kd.R_reads' HO173.out).1; omega) | simpa using h_)
              obtain rfl := k91_openM hM54
              have HP54 := (Kd.R_seg HO173.out ((ji35) : Int) (of_decide_eq_true (by assumption)) (by have h_ : ((ji35) : Int) < ((y171.length : Int) : Int) := of_decide_eq_true (by assumption); first | exact h_ | (have e_ := (Kd.R_reads' HO173.out).1; omega) | simpa using h_) (seg := [.string (((rd_T91 y171 (ji35)).f2) ++ ((rd_T119 t163 x25_1).f1))]) (j := 2) hcl54 hcc54 (show 3 ≤ 3 from by decide) (x' := (⟨(rd_T91 y171 (ji35)).f0, (rd_T91 y171 (ji35)).f1, ((rd_T91 y171 (ji35)).f2) ++ ((rd_T119 t163 x25_1).f1)⟩ : S91)) (k91_mkM _ _ _ (⟨(rd_T91 y171 (ji35)).f0, (rd_T91 y171 (ji35)).f1, ((rd_T91 y171 (ji35)).f2) ++ ((rd_T119 t163 x25_1).f1)⟩ : S91) ) (fun _ hk => hk)).1
              rw [← Ny175.out] at HP54
              have HQ54 := Aside0.mk HP54
              have hxq54 := hcc54 2 _ rfl
              have hfq54 : World.frozen? _ ⟨go38, ((ji35) : Int).toNat * 3 + 2, none⟩ = false := hfr54 2
              clear hcl54 hcc54 hfr54 hM54 HP54
              refine start_ (n := 10) (S := fun w' => w'.cell? ⟨gb168, 0, none⟩ = some (.int .u8 ((rd_T119 t163 x25_1).f0)) ∧ w'.cell? ⟨gb168, 1, none⟩ = some (.string ((rd_T119 t163 x25_1).f1)) ∧ w'.cell? ⟨go38, (ji35).toNat * 3 + 2, none⟩ = some (.string ((rd_T91 y171 (ji35)).f2))) (ds := [9]) (bA 10 0) (by kernel_rfl) rfl rfl ⟨(blk_cell BK168.out 0).trans rfl, (blk_cell BK168.out 1).trans rfl, hxq54⟩ (fun hHeld => ?_); refine with_tabW text_Edits.tab19 text_Edits.bits19 (fun HT_ HW_ => ?_)
              have GG38 := (show Aside0 (w50.drew.heap[go38]? = some (.cells cl38 91)) from GG38)
              generalize w50.drew = w53 at HO_23 HO173 BK168 HB HQ54 GG38 hxq54 hfq54 hHeld ⊢
              refine pu_ 0 62 (bA 10 1) HT_ ?_
              refine pu_ 1 63 (bA 10 3) HT_ ?_
              refine pu_ 2 64 (bA 10 7) HT_ ?_
              refine pu_ 4 66 (bA 10 23) HT_ ?_
              refine tk_ 3 65 (bA 10 31) rfl HT_ HW_ hHeld (by rintro w' ⟨s0, s1, s2⟩; go_simp; with_reducible rfl) ?_
              refine tk_ 5 67 (bA 10 63) rfl HT_ HW_ hHeld (by rintro w' ⟨s0, s1, s2⟩; go_simp; with_reducible rfl) ?_
              refine pu_ 6 68 (bA 10 127) HT_ ?_
              refine pu_ 7 69 (bA 10 255) HT_ ?_
              refine pu_ 8 70 (bA 10 511) HT_ ?_
              refine last_ (i := 9) (N := none) (bA 10 1023) rfl rfl (one_of HT_.out (by kernel_rfl)) (by decide) (fun K hK => ?_)
              refine skip_ (w1 := ?_) (by rfl) rfl ?_ ?_
              rotate_left
              ·go_simp
               rfl
              refine hK.out _ _ ?_
              clear hK K
              refine done_ (done_of HT_.out (by kernel_rfl)) ?_
              try go_wp2
              go_roundg k1
              case measure => have := HK1.out; omega
              case rel => exact ⟨(y175), (x9_1), (true), (wrap64 (x25_1 + 1)), (by first | rfl | (simp; done) | (simp [*]; done)), (by first | rfl | (simp; done) | (simp [*]; done)), (by first | rfl | (simp; done) | (simp [*]; done)), H', ⟨by have := HK1.out; omega⟩, ⟨by (with_reducible repeat (first | apply Kd.R_alloc | apply Kd.R_drewN | apply Kd.R_drew)); exact HQ54.out⟩, ⟨by (with_reducible repeat (first | apply Kd.R_alloc | apply Kd.R_drewN | apply Kd.R_drew)); exact Kd.R_mono (Kd.R_far (p := ⟨go38, ((ji35) : Int).toNat * 3 + 2, none⟩) (Kd.R_types HO_23.out GG38.out (by decide)) (fun _ hk => hk.2) (.string (((rd_T91 y171 (ji35)).f2) ++ ((rd_T119 t163 x25_1).f1)))) (fun _ hk => trivial)⟩, ⟨by repeat (with_reducible first | exact HB.out | apply below_alloc | apply pw_below_drewN | apply below_drew1 | refine below_set ?_ GB38.out | refine below_set ?_ GE168.out)⟩⟩
             ·rw [if_neg c47] at H
              exact absurd H (by simp)
           ·rw [if_neg c37] at H
            exact absurd H (by simp)
          ·rw [if_neg c36] at H
           exact absurd H (by simp)
         ·rw [if_neg c34] at H
          exact absurd H (by simp)
      ·rw [if_neg c9] at H
       exact absurd H (by simp)
     ·rw [if_neg c8] at H
      exact absurd H (by simp)
    ·rw [if_neg c7] at H
     have c7b0 : decide (x25_1 < (t163.length : Int)) = false := decide_eq_false c7
     clear c7
     simp only [Option.some.injEq, Prod.mk.injEq] at H
     obtain ⟨rfl, rfl⟩ := H
     go_wp2
     go_ret2
     exact ⟨_, by first | rfl | (simp [errW_none, errW_some] <;> rfl) | (simp [*, errW_none, errW_some] <;> rfl), by (with_reducible repeat (first | apply Kd.R_alloc | apply Kd.R_drewN | apply Kd.R_drew)); exact HO_8.out, by repeat (with_reducible first | exact HB.out | apply below_alloc | apply pw_below_drewN | apply below_drew1)⟩
 ·rw [if_neg c4] at H
  have c4b0 : (t164 == 0) = false := beq_eq_false_iff_ne.mpr c4
  have c4b1 : (t164 != 0) = true := bne_iff_ne.mpr c4
  simp only [Option.some.injEq, Prod.mk.injEq] at H
  obtain ⟨rfl, rfl⟩ := H
  go_enter Tryz.func50, Tryz.ntmps50
  go_wp2_with (first | ((with_reducible refine gate_callee (f := 69) rfl ?_); refine goesL_ (some 17) rfl rfl Tryz.func69 (by kernel_rfl) rfl #[.string a0, .string a1, .int .i64 0] rfl (by (try simp only [List.map_toArray, List.map_cons, List.map_nil]); first | done | rfl | (simp only [List.length_drop, List.length_take]; rfl)) ?_; (with_reducible refine (text_sized.calls k a0 a1 0 t163 t164 _ A3.out).mono ?_); rintro e w55 ⟨v165, rfl, ho0, hb⟩; refine ⟨_, rfl, ?_⟩; have n0_ := Aside0.mk (Kd.R_lower ho0 (below_size (by repeat (with_reducible first | exact HB.out | apply below_alloc | apply pw_below_drewN | apply below_drew1)))); have n1_ := Aside0.mk (below_step (by repeat (with_reducible first | exact HB.out | apply below_alloc | apply pw_below_drewN | apply below_drew1)) hb); clear HB; have HO166 := n0_; have HB := n1_; clear n0_ n1_; (try clear hb); (try clear hb2); (try clear hk); (try clear hi); (try clear ho0)))
  go_ret2
  exact ⟨_, by first | rfl | (simp [errW_none, errW_some] <;> rfl) | (simp [*, errW_none, errW_some] <;> rfl), by first | exact Kd.R_nil _ _ _ _ _ | exact Kd.N_nil _ _ _ _ _ | exact Kd.V_nil _ _ _ _ _ | exact Kd.Q_nil _ _ _ _ _ | exact Kd.S_nil _ _ _ _ _, by repeat (with_reducible first | exact HB.out | apply below_alloc | apply pw_below_drewN | apply below_drew1)⟩

end Go.Proofs.YthimblhfjfngiaaGreat.PText

-- mended25

namespace Go.Proofs.YthimblhfjfngiaaGreat.PText
open Go.RowKit Go.Proofs.YthimblhfjfngiaaGreatW.PrintWords Go.Proofs.YthimblhfjfngiaaGreatW.PrintLast Go.Proofs.YthimblhfjfngiaaGreatW.PrintMore
attribute [local go_sem] max2_int min2_int max_two min_two max_three min_three max_four min_four   -- for this text's walks alone
set_option linter.unusedVariables false
set_option linter.unusedSimpArgs false

def past_both.f (k : Nat) (a0 : ByteArray) (a1 : ByteArray) (a2 : ByteArray) : Option ((List (S91)) × (List (S91)) × Int) := (text_Edits.f k a0 a1).bind fun bt333 => (if bt333.2 = 0 then ((text_Edits.f k a0 a2).bind fun bt337 => (if bt337.2 = 0 then (some (bt333.1, bt337.1, 0)) else (some (([] : List (S91)), ([] : List (S91)), bt337.2)))) else (some (([] : List (S91)), ([] : List (S91)), bt333.2)))
set_option maxHeartbeats 8000000 in
set_option maxRecDepth 100000 in
theorem past_both.calls (k : Nat) (a0 : ByteArray) (a1 : ByteArray) (a2 : ByteArray) (r1 : List (S91)) (r2 : List (S91)) (r3 : Int) (w : World) (h : past_both.f k a0 a1 a2 = some (r1, r2, r3)) :
  Calls Tryz.prog 57 #[.string a0, .string a1, .string a2] w fun e w' => ∃ v0_ v1_ : Value, e = .returned (.tuple #[v0_, v1_, .int .i64 r3]) ∧ Kd.R k91 91 w' w.heap.size (fun k_ => some k_ ≠ (v1_ : Value).ownBlock) v0_ r1 ∧ Kd.R k91 91 w' w.heap.size (fun k_ => some k_ ≠ (v0_ : Value).ownBlock) v1_ r2 ∧ Below w.heap.size w w' := by
 have HB := Aside0.mk (Below.refl w.heap.size w)
 have H : ((text_Edits.f k a0 a1).bind fun bt333 => (if bt333.2 = 0 then ((text_Edits.f k a0 a2).bind fun bt337 => (if bt337.2 = 0 then (some (bt333.1, bt337.1, 0)) else (some (([] : List (S91)), ([] : List (S91)), bt337.2)))) else (some (([] : List (S91)), ([] : List (S91)), bt333.2)))) = some (r1, r2, r3) := h
 clear h
 replace H := Option.bind_eq_some_iff.mp H
 obtain ⟨⟨t333, t334⟩, A40, H⟩ := H
 replace H : (if t334 = 0 then ((text_Edits.f k a0 a2).bind fun bt337 => (if bt337.2 = 0 then (some (t333, bt337.1, 0)) else (some (([] : List (S91)), ([] : List (S91)), bt337.2)))) else (some (([] : List (S91)), ([] : List (S91)), t334))) = some (r1, r2, r3) := H
 have A4 := Aside0.mk A40
 clear A40
 by_cases c5 : t334 = 0
 ·rw [if_pos c5] at H
  have c5b0 : (t334 == 0) = true := beq_iff_eq.mpr c5
  have c5b1 : (t334 != 0) = false := bne_eq_false_iff_eq.mpr c5
  clear c5
  replace H := Option.bind_eq_some_iff.mp H
  obtain ⟨⟨t337, t338⟩, A60, H⟩ := H
  replace H : (if t338 = 0 then (some (t333, t337, 0)) else (some (([] : List (S91)), ([] : List (S91)), t338))) = some (r1, r2, r3) := H
  have A6 := Aside0.mk A60
  clear A60
  by_cases c7 : t338 = 0
  ·rw [if_pos c7] at H
   have c7b0 : (t338 == 0) = true := beq_iff_eq.mpr c7
   have c7b1 : (t338 != 0) = false := bne_eq_false_iff_eq.mpr c7
   clear c7
   simp only [Option.some.injEq, Prod.mk.injEq] at H
   obtain ⟨rfl, rfl, rfl⟩ := H
   go_enter Tryz.func57, Tryz.ntmps57
   go_wp2_with (first | ((with_reducible refine gate_callee (f := 50) rfl ?_); refine goesL_ (some 12) rfl rfl Tryz.func50 (by kernel_rfl) rfl #[.string a0, .string a1] rfl (by (try simp only [List.map_toArray, List.map_cons, List.map_nil]); first | done | rfl | (simp only [List.length_drop, List.length_take]; rfl)) ?_; (with_reducible refine (text_Edits.calls k a0 a1 t333 t334 _ A4.out).mono ?_); rintro e w8 ⟨v335, rfl, ho0, hb⟩; refine ⟨_, rfl, ?_⟩; have n0_ := Aside0.mk (Kd.R_lower ho0 (below_size (by repeat (with_reducible first | exact HB.out | apply below_alloc | apply pw_below_drewN | apply below_drew1)))); have n1_ := Aside0.mk (below_step (by repeat (with_reducible first | exact HB.out | apply below_alloc | apply pw_below_drewN | apply below_drew1)) hb); clear HB; have HO336 := n0_; have HB := n1_; clear n0_ n1_; (try clear hb); (try clear hb2); (try clear hk); (try clear hi); (try clear ho0)) | ((with_reducible refine gate_callee (f := 50) rfl ?_); refine goesL_ (some 21) rfl rfl Tryz.func50 (by kernel_rfl) rfl #[.string a0, .string a2] rfl (by (try simp only [List.map_toArray, List.map_cons, List.map_nil]); first | done | rfl | (simp only [List.length_drop, List.length_take]; rfl)) ?_; (with_reducible refine (text_Edits.calls k a0 a2 t337 t338 _ A6.out).mono ?_); rintro e w9 ⟨v339, rfl, ho0, hb⟩; refine ⟨_, rfl, ?_⟩; have n0_ := Aside0.mk (Kd.R_elder' (by (with_reducible repeat (first | apply Kd.R_alloc | apply Kd.R_drewN | apply Kd.R_drew)); exact HO336.out) (Kd.R_base ho0) hb); have n1_ := Aside0.mk (Kd.R_lower (Kd.R_new' ho0 (Kd.R_lt (by (with_reducible repeat (first | apply Kd.R_alloc | apply Kd.R_drewN | apply Kd.R_drew)); exact HO336.out))) (below_size (by repeat (with_reducible first | exact HB.out | apply below_alloc | apply pw_below_drewN | apply below_drew1)))); have n2_ := Aside0.mk (below_step (by repeat (with_reducible first | exact HB.out | apply below_alloc | apply pw_below_drewN | apply below_drew1)) hb); clear HO336; clear HB; have HO336 := n0_; have HO340 := n1_; have HB := n2_; clear n0_ n1_ n2_; (try clear hb); (try clear hb2); (try clear hk); (try clear hi); (try clear ho0)))
   go_ret3
   exact ⟨_, _, by first | rfl | (simp [errW_none, errW_some] <;> rfl) | (simp [*, errW_none, errW_some] <;> rfl), by (with_reducible repeat (first | apply Kd.R_alloc | apply Kd.R_drewN | apply Kd.R_drew)); exact Kd.R_mono HO336.out (fun _ hk => hk.2), by (with_reducible repeat (first | apply Kd.R_alloc | apply Kd.R_drewN | apply Kd.R_drew)); exact Kd.R_mono HO340.out (fun _ hk => hk.2), by repeat (with_reducible first | exact HB.out | apply below_alloc | apply pw_below_drewN | apply below_drew1)⟩
  ·rw [if_neg c7] at H
   have c7b0 : (t338 == 0) = false := beq_eq_false_iff_ne.mpr c7
   have c7b1 : (t338 != 0) = true := bne_iff_ne.mpr c7
   simp only [Option.some.injEq, Prod.mk.injEq] at H
   obtain ⟨rfl, rfl, rfl⟩ := H
   go_enter Tryz.func57, Tryz.ntmps57
   go_wp2_with (first | ((with_reducible refine gate_callee (f := 50) rfl ?_); refine goesL_ (some 12) rfl rfl Tryz.func50 (by kernel_rfl) rfl #[.string a0, .string a1] rfl (by (try simp only [List.map_toArray, List.map_cons, List.map_nil]); first | done | rfl | (simp only [List.length_drop, List.length_take]; rfl)) ?_; (with_reducible refine (text_Edits.calls k a0 a1 t333 t334 _ A4.out).mono ?_); rintro e w10 ⟨v335, rfl, ho0, hb⟩; refine ⟨_, rfl, ?_⟩; have n0_ := Aside0.mk (Kd.R_lower ho0 (below_size (by repeat (with_reducible first | exact HB.out | apply below_alloc | apply pw_below_drewN | apply below_drew1)))); have n1_ := Aside0.mk (below_step (by repeat (with_reducible first | exact HB.out | apply below_alloc | apply pw_below_drewN | apply below_drew1)) hb); clear HB; have HO336 := n0_; have HB := n1_; clear n0_ n1_; (try clear hb); (try clear hb2); (try clear hk); (try clear hi); (try clear ho0)) | ((with_reducible refine gate_callee (f := 50) rfl ?_); refine goesL_ (some 21) rfl rfl Tryz.func50 (by kernel_rfl) rfl #[.string a0, .string a2] rfl (by (try simp only [List.map_toArray, List.map_cons, List.map_nil]); first | done | rfl | (simp only [List.length_drop, List.length_take]; rfl)) ?_; (with_reducible refine (text_Edits.calls k a0 a2 t337 t338 _ A6.out).mono ?_); rintro e w11 ⟨v339, rfl, ho0, hb⟩; refine ⟨_, rfl, ?_⟩; have n0_ := Aside0.mk (Kd.R_elder' (by (with_reducible repeat (first | apply Kd.R_alloc | apply Kd.R_drewN | apply Kd.R_drew)); exact HO336.out) (Kd.R_base ho0) hb); have n1_ := Aside0.mk (Kd.R_lower (Kd.R_new' ho0 (Kd.R_lt (by (with_reducible repeat (first | apply Kd.R_alloc | apply Kd.R_drewN | apply Kd.R_drew)); exact HO336.out))) (below_size (by repeat (with_reducible first | exact HB.out | apply below_alloc | apply pw_below_drewN | apply below_drew1)))); have n2_ := Aside0.mk (below_step (by repeat (with_reducible first | exact HB.out | apply below_alloc | apply pw_below_drewN | apply below_drew1)) hb); clear HO336; clear HB; have HO336 := n0_; have HO340 := n1_; have HB := n2_; clear n0_ n1_ n2_; (try clear hb); (try clear hb2); (try clear hk); (try clear hi); (try clear ho0)))
   go_ret3
   exact ⟨_, _, by first | rfl | (simp [errW_none, errW_some] <;> rfl) | (simp [*, errW_none, errW_some] <;> rfl), by first | exact Kd.R_nil _ _ _ _ _ | exact Kd.N_nil _ _ _ _ _ | exact Kd.V_nil _ _ _ _ _ | exact Kd.Q_nil _ _ _ _ _ | exact Kd.S_nil _ _ _ _ _, by first | exact Kd.R_nil _ _ _ _ _ | exact Kd.N_nil _ _ _ _ _ | exact Kd.V_nil _ _ _ _ _ | exact Kd.Q_nil _ _ _ _ _ | exact Kd.S_nil _ _ _ _ _, by repeat (with_reducible first | exact HB.out | apply below_alloc | apply pw_below_drewN | apply below_drew1)⟩
 ·rw [if_neg c5] at H
  have c5b0 : (t334 == 0) = false := beq_eq_false_iff_ne.mpr c5
  have c5b1 : (t334 != 0) = true := bne_iff_ne.mpr c5
  simp only [Option.some.injEq, Prod.mk.injEq] at H
  obtain ⟨rfl, rfl, rfl⟩ := H
  go_enter Tryz.func57, Tryz.ntmps57
  go_wp2_with (first | ((with_reducible refine gate_callee (f := 50) rfl ?_); refine goesL_ (some 12) rfl rfl Tryz.func50 (by kernel_rfl) rfl #[.string a0, .string a1] rfl (by (try simp only [List.map_toArray, List.map_cons, List.map_nil]); first | done | rfl | (simp only [List.length_drop, List.length_take]; rfl)) ?_; (with_reducible refine (text_Edits.calls k a0 a1 t333 t334 _ A4.out).mono ?_); rintro e w12 ⟨v335, rfl, ho0, hb⟩; refine ⟨_, rfl, ?_⟩; have n0_ := Aside0.mk (Kd.R_lower ho0 (below_size (by repeat (with_reducible first | exact HB.out | apply below_alloc | apply pw_below_drewN | apply below_drew1)))); have n1_ := Aside0.mk (below_step (by repeat (with_reducible first | exact HB.out | apply below_alloc | apply pw_below_drewN | apply below_drew1)) hb); clear HB; have HO336 := n0_; have HB := n1_; clear n0_ n1_; (try clear hb); (try clear hb2); (try clear hk); (try clear hi); (try clear ho0)))
  go_ret3
  exact ⟨_, _, by first | rfl | (simp [errW_none, errW_some] <;> rfl) | (simp [*, errW_none, errW_some] <;> rfl), by first | exact Kd.R_nil _ _ _ _ _ | exact Kd.N_nil _ _ _ _ _ | exact Kd.V_nil _ _ _ _ _ | exact Kd.Q_nil _ _ _ _ _ | exact Kd.S_nil _ _ _ _ _, by first | exact Kd.R_nil _ _ _ _ _ | exact Kd.N_nil _ _ _ _ _ | exact Kd.V_nil _ _ _ _ _ | exact Kd.Q_nil _ _ _ _ _ | exact Kd.S_nil _ _ _ _ _, by repeat (with_reducible first | exact HB.out | apply below_alloc | apply pw_below_drewN | apply below_drew1)⟩

end Go.Proofs.YthimblhfjfngiaaGreat.PText

namespace Go.Proofs.YthimblhfjfngiaaGreat.PText
open Go.RowKit Go.Lib Go.Proofs.YthimblhfjfngiaaGreatW.PrintWords Go.Proofs.YthimblhfjfngiaaGreatW.PrintLast Go.Proofs.YthimblhfjfngiaaGreatW.PrintMore
theorem stp_len {α : Type} [DecidableEq α] : ∀ (k : Nat) (l m : List α), l.length + m.length ≤ k → (Tx.stp l m).length ≤ l.length + m.length := by
  intro k
  induction k with
  | zero =>
    intro l m h
    have hl : l = [] := List.eq_nil_of_length_eq_zero (by omega)
    have hm : m = [] := List.eq_nil_of_length_eq_zero (by omega)
    subst hl hm
    rw [Tx.stp]; exact Nat.le_refl _
  | succ k ih =>
    intro l m h
    match l, m, h with
    | [], [], _ => rw [Tx.stp]; exact Nat.le_refl _
    | a :: l, [], h =>
      simp only [List.length_cons, List.length_nil] at h
      have := ih l [] (by simp; omega)
      rw [Tx.stp]
      simp only [List.length_cons, List.length_nil] at *
      omega
    | [], b :: m, h =>
      simp only [List.length_cons, List.length_nil] at h
      have := ih [] m (by simp; omega)
      rw [Tx.stp]
      simp only [List.length_cons, List.length_nil] at *
      omega
    | a :: l, b :: m, h =>
      simp only [List.length_cons] at h
      rw [Tx.stp]
      by_cases e : a = b
      · rw [if_pos e]
        have := ih l m (by omega)
        simp only [List.length_cons]; omega
      · rw [if_neg e]
        split
        · have := ih l (b :: m) (by simp only [List.length_cons]; omega)
          simp only [List.length_cons] at *; omega
        · have := ih (a :: l) m (by simp only [List.length_cons]; omega)
          simp only [List.length_cons] at *; omega
/-- the steps from one text to another one, or the error -/
def sizedR (a b : ByteArray) (ctx : Int) : List S119 × Int :=
  if 200000 < a.size ∨ 200000 < b.size ∨ 2000 < (linesB a).length ∨ 2000 < (linesB b).length then ([], 2) else if ctx < 0 ∨ 20 < ctx then ([], 1) else (stS (linesB a) (linesB b), 0)
theorem sized_zero {a b : ByteArray} {ctx : Int} (h : (sizedR a b ctx).2 = 0) : sizedR a b ctx = (stS (linesB a) (linesB b), 0) ∧ 0 ≤ ctx ∧ ctx ≤ 20 ∧ (linesB a).length ≤ 2000 ∧ (linesB b).length ≤ 2000 ∧ a.size ≤ 200000 ∧ b.size ≤ 200000 := by
  unfold sizedR at h ⊢
  by_cases c1 : 200000 < a.size ∨ 200000 < b.size ∨ 2000 < (linesB a).length ∨ 2000 < (linesB b).length
  · rw [if_pos c1] at h; cases h
  · rw [if_neg c1] at h ⊢
    by_cases c2 : ctx < 0 ∨ 20 < ctx
    · rw [if_pos c2] at h; cases h
    · rw [if_neg c2]
      exact ⟨rfl, by omega, by omega, by omega, by omega, by omega, by omega⟩
theorem sized_f (a b : ByteArray) (ctx : Int) (ha : a.size ≤ 1000000000) (hb : b.size ≤ 1000000000) (k : Nat) (hk : 5000000 ≤ k) : text_sized.f k a b ctx = some (sizedR a b ctx) := by
  obtain ⟨k, rfl⟩ : ∃ q, k = q + 1 := ⟨k - 1, by omega⟩
  have ea : text_Lines.f a = some (linesB a) := by unfold text_Lines.f; rw [if_pos ha]
  have eb : text_Lines.f b = some (linesB b) := by unfold text_Lines.f; rw [if_pos hb]
  unfold text_sized.f sizedR
  rw [ea, eb, Option.bind_some, Option.bind_some]
  have hT : text_sized.j0 (k + 1) ctx (linesB a) (linesB b) true = some ([], 2) := by rw [text_sized.j0, if_pos rfl]
  by_cases c1 : 200000 < a.size
  · rw [if_pos (show (a.size : Int) > 200000 by omega), if_pos (Or.inl c1), hT]
  rw [if_neg (show ¬ (a.size : Int) > 200000 by omega)]
  by_cases c2 : 200000 < b.size
  · rw [if_pos (show (b.size : Int) > 200000 by omega), if_pos (Or.inr (Or.inl c2)), hT]
  rw [if_neg (show ¬ (b.size : Int) > 200000 by omega)]
  by_cases c3 : 2000 < (linesB a).length
  · rw [if_pos (show ((linesB a).length : Int) > 2000 by omega), if_pos (Or.inr (Or.inr (Or.inl c3))), hT]
  rw [if_neg (show ¬ ((linesB a).length : Int) > 2000 by omega)]
  by_cases c4 : 2000 < (linesB b).length
  · rw [decide_eq_true (show ((linesB b).length : Int) > 2000 by omega), if_pos (Or.inr (Or.inr (Or.inr c4))), hT]
  rw [decide_eq_false (show ¬ ((linesB b).length : Int) > 2000 by omega), if_neg (by omega), text_sized.j0, if_neg (by decide)]
  by_cases c5 : ctx < 0
  · rw [if_pos c5, if_pos (Or.inl c5)]
  rw [if_neg c5]
  by_cases c6 : 20 < ctx
  · rw [if_pos c6, if_pos (Or.inr c6)]
  have hm : (linesB a).length * ((linesB b).length + 2) ≤ 2000 * 2002 := Nat.mul_le_mul (by omega) (by omega)
  rw [if_neg c6, if_neg (by omega), steps_f _ _ (by omega) (by omega) k (by omega), Option.bind_some]
end Go.Proofs.YthimblhfjfngiaaGreat.PText

namespace Go.Proofs.YthimblhfjfngiaaGreat.PText
open Go.RowKit Go.Lib Go.Proofs.YthimblhfjfngiaaGreatW.PrintWords Go.Proofs.YthimblhfjfngiaaGreatW.PrintLast Go.Proofs.YthimblhfjfngiaaGreatW.PrintMore
def ofE (e : Tx.Ed) : S91 := ⟨e.f, e.t, ⟨e.x.toArray⟩⟩
theorem rdSt (st : List (UInt8 × List UInt8)) (i : Nat) (h : i < st.length) : rd_T119 (st.map toSt) (i : Int) = toSt st[i] := by
  rw [rd78_at _ i (by rw [List.length_map]; exact h), List.getElem_map]
theorem u8_is (x : UInt8) (n : Nat) (hn : n < 256) : ((x.toNat : Nat) : Int) = (n : Int) ↔ x = UInt8.ofNat n := by
  constructor
  · intro h
    apply UInt8.toNat_inj.1
    rw [UInt8.toNat_ofNat', Nat.mod_eq_of_lt (by omega)]
    omega
  · intro h
    rw [h, UInt8.toNat_ofNat', Nat.mod_eq_of_lt (by omega)]
theorem u8_32 (x : UInt8) : ((x.toNat : Nat) : Int) = 32 ↔ x = 32 := u8_is x 32 (by omega)
theorem u8_45 (x : UInt8) : ((x.toNat : Nat) : Int) = 45 ↔ x = 45 := u8_is x 45 (by omega)
theorem toSt0 (x : UInt8 × List UInt8) : (toSt x).f0 = ((x.1.toNat : Nat) : Int) := rfl
theorem mk_size (l : List UInt8) : (⟨l.toArray⟩ : ByteArray).size = l.length := by show l.toArray.size = _; simp
theorem toSt1 (x : UInt8 × List UInt8) : ((toSt x).f1).size = x.2.length := mk_size _
theorem mk_append (a b : List UInt8) : (⟨a.toArray⟩ : ByteArray) ++ ⟨b.toArray⟩ = ⟨(a ++ b).toArray⟩ := by
  apply bL_ext; rw [bL_append]; rfl
/-- a list that ends with an element -/
theorem last34 (D : List S91) (e : S91) (h : D.length ≤ 1000000) : wrap64 (((D ++ [e]).length : Int) - 1) = (D.length : Int) := by
  rw [List.length_append, List.length_singleton, w64 (by omega) (by omega)]; omega
theorem get34 (D : List S91) (e : S91) : rd_T91 (D ++ [e]) (D.length : Int) = e := by
  unfold rd_T91
  rw [Int.toNat_natCast, List.getD_eq_getElem?_getD, List.getElem?_append_right (Nat.le_refl _), Nat.sub_self]; rfl
theorem set34 (D : List S91) (e v : S91) : (D ++ [e]).set (D.length : Int).toNat v = D ++ [v] := by
  rw [Int.toNat_natCast, List.set_append_right _ _ (Nat.le_refl _), Nat.sub_self]; rfl
/-- an edit that is open takes a step -/
theorem tEdit_step (k : Nat) (D : List S91) (e : Tx.Ed) (at_ : Int) (st : List (UInt8 × List UInt8)) (i : Nat) (o : UInt8) (x : List UInt8) (hD : D.length ≤ 1000000) (hb : e.x.length + x.length ≤ 1000000000000) (W : Int) (hW : wrap64 (at_ + (x.length : Int)) = W) :
    (if 0 ≤ wrap64 (((D ++ [ofE e]).length : Int) - 1) then if wrap64 (((D ++ [ofE e]).length : Int) - 1) < ((D ++ [ofE e]).length : Int) then
      if ((o.toNat : Nat) : Int) = 45 then text_Edits.l0 k ((D ++ [ofE e]).set (wrap64 (((D ++ [ofE e]).length : Int) - 1)).toNat ⟨(rd_T91 (D ++ [ofE e]) (wrap64 (((D ++ [ofE e]).length : Int) - 1))).f0, wrap64 (at_ + (x.length : Int)), (rd_T91 (D ++ [ofE e]) (wrap64 (((D ++ [ofE e]).length : Int) - 1))).f2⟩) (wrap64 (at_ + (x.length : Int))) true (st.map toSt) (st.length : Int) (wrap64 ((i : Int) + 1))
      else if (rd_T91 (D ++ [ofE e]) (wrap64 (((D ++ [ofE e]).length : Int) - 1))).f2.size + x.length ≤ 9223372036854775807 then text_Edits.l0 k ((D ++ [ofE e]).set (wrap64 (((D ++ [ofE e]).length : Int) - 1)).toNat ⟨(rd_T91 (D ++ [ofE e]) (wrap64 (((D ++ [ofE e]).length : Int) - 1))).f0, (rd_T91 (D ++ [ofE e]) (wrap64 (((D ++ [ofE e]).length : Int) - 1))).f1, (rd_T91 (D ++ [ofE e]) (wrap64 (((D ++ [ofE e]).length : Int) - 1))).f2 ++ ⟨x.toArray⟩⟩) at_ true (st.map toSt) (st.length : Int) (wrap64 ((i : Int) + 1)) else none
    else none else none) = if o = 45 then text_Edits.l0 k (D ++ [ofE ⟨e.f, W, e.x⟩]) W true (st.map toSt) (st.length : Int) (wrap64 ((i : Int) + 1)) else text_Edits.l0 k (D ++ [ofE ⟨e.f, e.t, e.x ++ x⟩]) at_ true (st.map toSt) (st.length : Int) (wrap64 ((i : Int) + 1)) := by
  have hs : (ofE e).f2.size = e.x.length := mk_size _
  rw [last34 D _ hD, get34, set34, set34, hW, if_pos (by omega), if_pos (by rw [List.length_append, List.length_singleton]; omega)]
  by_cases c : o = 45
  · rw [if_pos ((u8_45 o).2 c), if_pos c]; rfl
  · rw [if_neg (fun q => c ((u8_45 o).1 q)), if_neg c, if_pos (by rw [hs]; omega)]
    have e3 : (ofE e).f2 ++ ⟨x.toArray⟩ = ⟨(e.x ++ x).toArray⟩ := mk_append _ _
    rw [e3]; rfl
theorem tEdits_l0 (st : List (UInt8 × List UInt8)) (hst : st.length ≤ 100000) (hx : ∀ x ∈ st, x.2.length ≤ 1000000) : ∀ (n i k : Nat) (D : List S91) (c : Option Tx.Ed) (at_ : Int), st.length - i = n → i ≤ st.length → n + 1 ≤ k → D.length + c.toList.length ≤ i → 0 ≤ at_ → at_ ≤ (i : Int) * 1000000 → (∀ e ∈ c.toList, e.x.length ≤ i * 1000000) →
    text_Edits.l0 k (D ++ c.toList.map ofE) at_ c.isSome (st.map toSt) (st.length : Int) (i : Int) = some (D ++ (Tx.eg at_ c (st.drop i)).map ofE, 0) := by
  intro n
  induction n with
  | zero =>
    intro i k D c at_ hn hi hk hD h0 h1 h2
    obtain ⟨k, rfl⟩ : ∃ q, k = q + 1 := ⟨k - 1, by omega⟩
    rw [text_Edits.l0, if_neg (by omega), List.drop_of_length_le (by omega)]
    rfl
  | succ n ih =>
    intro i k D c at_ hn hi hk hD h0 h1 h2
    obtain ⟨k, rfl⟩ : ∃ q, k = q + 1 := ⟨k - 1, by omega⟩
    have hlt : i < st.length := by omega
    have hd : st.drop i = st[i] :: st.drop (i + 1) := List.drop_eq_getElem_cons hlt
    have hxs := hx st[i] (List.getElem_mem hlt)
    rw [hd, text_Edits.l0, if_pos (by omega), if_pos (by omega), if_pos (by rw [List.length_map]; omega), rdSt st i hlt, toSt0, toSt1]
    rw [show (toSt st[i]).f1 = ⟨st[i].2.toArray⟩ from rfl]
    generalize st[i] = y at *
    obtain ⟨o, x⟩ := y
    dsimp only
    have W : Aside0 (wrap64 (at_ + (x.length : Int)) = at_ + (x.length : Int)) := ⟨w64 (by omega) (by have : x.length ≤ 1000000 := hxs; omega)⟩
    have hxl : x.length ≤ 1000000 := hxs
    have N : Aside0 (wrap64 ((i : Int) + 1) = ((i + 1 : Nat) : Int)) := ⟨nx i (by omega)⟩
    by_cases c1 : o = 32
    · subst c1
      rw [if_pos (show (((32 : UInt8).toNat : Nat) : Int) = 32 from rfl), Tx.eg_keep]
      rw [W.out, N.out]
      have := ih (i + 1) k (D ++ c.toList.map ofE) none (at_ + (x.length : Int)) (by omega) (by omega) (by omega) (by rw [List.length_append, List.length_map]; simp; omega) (by omega) (by omega) (fun e h => by cases h)
      simp only [Option.toList_none, List.map_nil, List.append_nil, Option.isSome_none] at this
      rw [this, List.map_append, ← List.append_assoc]
    · rw [if_neg (fun q => c1 ((u8_32 o).1 q))]
      -- the edit that is open, or a new one
      have main : ∀ (e : Tx.Ed) (D' : List S91), D'.length + 1 ≤ i + 1 → e.x.length ≤ i * 1000000 →
          (if o = 45 then text_Edits.l0 k (D' ++ [ofE ⟨e.f, at_ + (x.length : Int), e.x⟩]) (at_ + (x.length : Int)) true (st.map toSt) (st.length : Int) (wrap64 ((i : Int) + 1)) else text_Edits.l0 k (D' ++ [ofE ⟨e.f, e.t, e.x ++ x⟩]) at_ true (st.map toSt) (st.length : Int) (wrap64 ((i : Int) + 1))) =
          some (D' ++ (if o = 45 then Tx.eg (at_ + (x.length : Int)) (some ⟨e.f, at_ + (x.length : Int), e.x⟩) (st.drop (i + 1)) else Tx.eg at_ (some ⟨e.f, e.t, e.x ++ x⟩) (st.drop (i + 1))).map ofE, 0) := by
        intro e D' hD' he
        rw [N.out]
        by_cases c2 : o = 45
        · rw [if_pos c2, if_pos c2]
          exact ih (i + 1) k D' (some ⟨e.f, at_ + (x.length : Int), e.x⟩) (at_ + (x.length : Int)) (by omega) (by omega) (by omega) (by simp; omega) (by omega) (by omega) (fun e' h => by have h3 := List.mem_singleton.1 h; subst h3; exact Nat.le_trans he (Nat.mul_le_mul_right _ (by omega)))
        · rw [if_neg c2, if_neg c2]
          exact ih (i + 1) k D' (some ⟨e.f, e.t, e.x ++ x⟩) at_ (by omega) (by omega) (by omega) (by simp; omega) (by omega) (by omega) (fun e' h => by have h3 := List.mem_singleton.1 h; subst h3; have h4 : (e.x ++ x).length = e.x.length + x.length := List.length_append; exact Nat.le_trans (Nat.le_of_eq h4) (by rw [Nat.add_mul]; omega))
      have hE : ∀ e : Tx.Ed, Tx.eg at_ c ((o, x) :: st.drop (i + 1)) = (if o = 45 then Tx.eg (at_ + (x.length : Int)) (some ⟨(c.getD ⟨at_, at_, []⟩).f, at_ + (x.length : Int), (c.getD ⟨at_, at_, []⟩).x⟩) (st.drop (i + 1)) else Tx.eg at_ (some ⟨(c.getD ⟨at_, at_, []⟩).f, (c.getD ⟨at_, at_, []⟩).t, (c.getD ⟨at_, at_, []⟩).x ++ x⟩) (st.drop (i + 1))) := fun _ => by
        by_cases c2 : o = 45
        · subst c2; rw [if_pos rfl, Tx.eg_gone]
        · rw [if_neg c2, Tx.eg_come at_ c o x _ c1 c2]
      rw [hE ⟨0, 0, []⟩]
      cases c with
      | some e =>
        have he : e.x.length ≤ i * 1000000 := h2 e (by simp)
        have hD' : D.length + 1 ≤ i := hD
        rw [if_pos (show (Option.isSome (some e)) = true from rfl)]
        exact (tEdit_step k D e at_ st i o x (by omega) (by omega) _ W.out).trans (main e D (by omega) he)
      | none =>
        have hD' : D.length ≤ i := by simpa using hD
        rw [if_neg (show ¬ (Option.isSome (none : Option Tx.Ed)) = true by decide), if_pos (by simp; omega), Option.bind_some]
        have e0 : D ++ (none : Option Tx.Ed).toList.map ofE ++ [(⟨at_, at_, (⟨#[]⟩ : ByteArray)⟩ : S91)] = D ++ [ofE ⟨at_, at_, []⟩] := by simp [ofE]
        rw [e0]
        exact (tEdit_step k D ⟨at_, at_, []⟩ at_ st i o x (by omega) (by simp; omega) _ W.out).trans (main ⟨at_, at_, []⟩ D (by omega) (by simp))
end Go.Proofs.YthimblhfjfngiaaGreat.PText

namespace Go.Proofs.YthimblhfjfngiaaGreat.PText
open Go.RowKit Go.Lib Go.Proofs.YthimblhfjfngiaaGreatW.PrintWords Go.Proofs.YthimblhfjfngiaaGreatW.PrintLast Go.Proofs.YthimblhfjfngiaaGreatW.PrintMore
theorem linesB_bL (s : ByteArray) : (linesB s).map bL = Tx.lines (bL s) := by
  unfold linesB
  rw [List.map_map]
  exact (List.map_congr_left (fun x _ => bL_mk x)).trans (List.map_id _)
theorem flat_mem {α : Type} : ∀ {l : List (List α)} {x : List α}, x ∈ l → x.length ≤ l.flatten.length
  | y :: l, x, h => by
    rw [List.flatten_cons, List.length_append]
    rcases List.mem_cons.1 h with h | h
    · subst h; omega
    · have := flat_mem h; omega
/-- the steps of two texts -/
def stT (a b : ByteArray) : List (UInt8 × List UInt8) := Tx.stp (Tx.lines (bL a)) (Tx.lines (bL b))
theorem stT_S (a b : ByteArray) : stS (linesB a) (linesB b) = (stT a b).map toSt := by unfold stS stT; rw [linesB_bL, linesB_bL]
theorem stT_len (a b : ByteArray) : (stT a b).length ≤ (linesB a).length + (linesB b).length := by
  have := stp_len _ (Tx.lines (bL a)) (Tx.lines (bL b)) (Nat.le_refl _)
  rw [← linesB_bL, ← linesB_bL, List.length_map, List.length_map, linesB_bL, linesB_bL] at this
  exact this
theorem stT_ok (a b : ByteArray) : ∀ x ∈ stT a b, (x.1 = 32 ∨ x.1 = 45 ∨ x.1 = 43) ∧ x.2 ≠ [] ∧ x.2.length ≤ max a.size b.size := by
  intro x hx
  obtain ⟨h1, h2⟩ := Tx.stp_op _ _ _ (Nat.le_refl _) x hx
  have ha := bL_size a
  have hb := bL_size b
  rcases h2 with h2 | h2
  · have := flat_mem h2
    rw [Tx.lines_flat] at this
    exact ⟨h1, Tx.lines_ne _ x.2 h2, by omega⟩
  · have := flat_mem h2
    rw [Tx.lines_flat] at this
    exact ⟨h1, Tx.lines_ne _ x.2 h2, by omega⟩
/-- the edits from one text to another one -/
def editsS (a b : ByteArray) : List S91 := (Tx.eg 0 none (stT a b)).map ofE
def editsR (a b : ByteArray) : List S91 × Int := if (sizedR a b 0).2 = 0 then (editsS a b, 0) else ([], (sizedR a b 0).2)
theorem edits_f (a b : ByteArray) (ha : a.size ≤ 1000000000) (hb : b.size ≤ 1000000000) (k : Nat) (hk : 5000000 ≤ k) : text_Edits.f k a b = some (editsR a b) := by
  unfold text_Edits.f editsR
  rw [sized_f a b 0 ha hb k hk, Option.bind_some]
  by_cases h : (sizedR a b 0).2 = 0
  · rw [if_pos h, if_pos h]
    obtain ⟨e1, -, -, n1, n2, z1, z2⟩ := sized_zero h
    have hl := stT_len a b
    rw [e1]
    show text_Edits.l0 k [] 0 false (stS (linesB a) (linesB b)) ((stS (linesB a) (linesB b)).length : Int) 0 = _
    rw [stT_S, List.length_map]
    have := tEdits_l0 (stT a b) (by omega) (fun x hx => by have := (stT_ok a b x hx).2.2; omega) (stT a b).length 0 k [] none 0 (by omega) (by omega) (by omega) (by simp) (by omega) (by omega) (fun e h => by cases h)
    rw [List.drop_zero] at this
    exact this
  · rw [if_neg h, if_neg h]
theorem eg_len : ∀ (l : List Tx.St) (a : Int) (c : Option Tx.Ed), (Tx.eg a c l).length ≤ c.toList.length + l.length
  | [], a, c => by show c.toList.length ≤ _; omega
  | (o, x) :: l, a, c => by
    by_cases c1 : o = 32
    · subst c1
      rw [Tx.eg_keep, List.length_append, List.length_cons]
      have := eg_len l (a + x.length) none
      simp only [Option.toList_none, List.length_nil] at this
      omega
    · have one : ∀ d : Tx.Ed, (some d).toList.length = 1 := fun _ => rfl
      by_cases c2 : o = 45
      · subst c2
        rw [Tx.eg_gone, List.length_cons]
        have := eg_len l (a + x.length) (some ⟨(c.getD ⟨a, a, []⟩).f, a + x.length, (c.getD ⟨a, a, []⟩).x⟩)
        rw [one] at this; omega
      · rw [Tx.eg_come a c o x l c1 c2, List.length_cons]
        have := eg_len l a (some ⟨(c.getD ⟨a, a, []⟩).f, (c.getD ⟨a, a, []⟩).t, (c.getD ⟨a, a, []⟩).x ++ x⟩)
        rw [one] at this; omega
theorem editsR_len (a b : ByteArray) : (editsR a b).1.length ≤ 4000 := by
  unfold editsR
  by_cases h : (sizedR a b 0).2 = 0
  · obtain ⟨-, -, -, n1, n2, -, -⟩ := sized_zero h
    have hl := stT_len a b
    have := eg_len (stT a b) 0 none
    rw [if_pos h]
    show (List.map ofE _).length ≤ _
    rw [List.length_map]
    simp only [Option.toList_none, List.length_nil] at this
    omega
  · rw [if_neg h]; exact Nat.zero_le _
end Go.Proofs.YthimblhfjfngiaaGreat.PText

namespace Go.Proofs.YthimblhfjfngiaaGreat.PText
open Go.RowKit Go.Lib Go.Sort Go.Proofs.YthimblhfjfngiaaGreatW.PrintWords Go.Proofs.YthimblhfjfngiaaGreatW.PrintLast Go.Proofs.YthimblhfjfngiaaGreatW.PrintMore
set_option linter.unusedVariables false
set_option linter.unusedSimpArgs false
theorem heap_same {w : World} {b t : Nat} {v : Value} {fz : Nat × Nat} (h : w.heap[b]? = some (.cells #[v] t fz)) (k : Nat) : (w.setCell ⟨b, 0, none⟩ v).heap[k]? = w.heap[k]? := by
  by_cases hk : k = b
  · subst hk
    unfold World.setCell
    simp only
    rw [Array.getElem?_modify, if_pos rfl, h]
    rfl
  · exact Below.heap_setCell _ _ _ _ (fun e => hk e)
theorem below_same {B : Nat} {a w : World} {b t : Nat} {v : Value} {fz : Nat × Nat} (h : Below B a w) (hb : w.heap[b]? = some (.cells #[v] t fz)) : Below B a (w.setCell ⟨b, 0, none⟩ v) :=
  ⟨h.os, h.tape, h.output, by
    have : (w.setCell ⟨b, 0, none⟩ v).heap.size = w.heap.size := by unfold World.setCell; simp
    rw [this]; exact h.size, fun k hk => (heap_same hb k).trans (h.block k hk)⟩
/-- to append no values to a row -/
theorem append_idle {P : Program} {ops : Array Oper} {o : Oper} {a : Act} {Q : Exit → Act → World → Prop} {Kc : Act → World → Prop} {W : World} {α : Type} (d : Kd α) (hw : Region.wanted o (yielded ops a.tmps) = true) (s x : Operand) (t e : TypeId) (z : Value) (bytes base : Nat)
    (ho : o.op = .call { callee := .builtin .append, args := #[s, x], argTypes := #[t, t] })
    (ht : P.underlying t = some (.slice e)) (hinfo : (P.info? e).map (fun i => (i.zero, i.size, i.bytes)) = some (some z, d.sz, bytes)) (v : Value) (xs : List α) (ok : Nat → Prop) (hs : a.eval s = v) (hx : a.eval x = .slice none 0 0)
    {W0 : World} (HO : d.R e W0 base ok v xs) (h : Kc (a.put o.dst v) W) :
    if Region.wanted o (yielded ops a.tmps) = true then Oper.wp P o a W Kc Q else Kc (a.put o.dst undef) W := by
  obtain ⟨i0, hi, hzz⟩ := Option.map_eq_some_iff.1 hinfo
  obtain ⟨hok, inner, hown, hr⟩ := HO
  have hrun : (Builtin.append_ #[t, t] o.type #[v, .slice none 0 0]).run P W = .ok v W := by
    rcases hown.2 with ⟨rfl, hn⟩ | ⟨g, cap, cur, rfl, _, _, hnc, _⟩
    · simp [Builtin.append_, run_underlying ht, sizeOf, typeInfo, hi, Builtin.lenOf, Builtin.firstCells]
    · simp [Builtin.append_, run_underlying ht, sizeOf, typeInfo, hi, Builtin.lenOf, Builtin.firstCells, hnc, storeCells]
  rw [if_pos hw]
  unfold Oper.wp execOp
  simp only [ho, resolve, invoke, builtin, Sem.run_bind, Sem.run_pure, Result.andThen_ok, List.map_toArray, List.map_cons, List.map_nil, hs, hx, hrun]
  exact h
/-- the same heap -/
structure Same (w w' : World) : Prop where
  below : Below w.heap.size w w'
  heap : ∀ k : Nat, w'.heap[k]? = w.heap[k]?
theorem Same.refl (w : World) : Same w w := ⟨Below.refl _ _, fun _ => rfl⟩
theorem Same.drew {w w' : World} (h : Same w w') : Same w w'.drew := ⟨h.below.drew, h.heap⟩
theorem Same.set {w w' : World} {b t : Nat} {v : Value} {fz : Nat × Nat} (h : Same w w') (hb : w.heap[b]? = some (.cells #[v] t fz)) : Same w (w'.setCell ⟨b, 0, none⟩ v) :=
  ⟨below_same h.below ((h.heap b).trans hb), fun k => (heap_same ((h.heap b).trans hb) k).trans (h.heap k)⟩
theorem Same.cell {w w' : World} (h : Same w w') (p : Addr) : w'.cell? p = w.cell? p := by
  unfold World.cell?
  simp only [h.heap]
theorem Same.frozen {w w' : World} (h : Same w w') (p : Addr) : w'.frozen? p = w.frozen? p := by
  simp only [World.frozen?, h.heap]
theorem Same.all {w w' : World} {bn bo bl : Nat} {v : Value} (h : Same w w') (hn : w.cell? ⟨bn, 0, none⟩ = some (.int .i64 0)) (ho : w.cell? ⟨bo, 0, none⟩ = some v) (hl : w.cell? ⟨bl, 0, none⟩ = some (.slice none 0 0)) (hf : w.frozen? ⟨bo, 0, none⟩ = false) :
    w'.cell? ⟨bn, 0, none⟩ = some (.int .i64 0) ∧ w'.cell? ⟨bo, 0, none⟩ = some v ∧ w'.cell? ⟨bl, 0, none⟩ = some (.slice none 0 0) ∧ w'.frozen? ⟨bo, 0, none⟩ = false ∧ Same w w' :=
  ⟨(h.cell _).trans hn, (h.cell _).trans ho, (h.cell _).trans hl, (h.frozen _).trans hf, h⟩
set_option maxRecDepth 100000 in
set_option maxHeartbeats 2000000 in
/-- nothing to pass -/
theorem pass_idle (keep : Bool) (bn ba bs bo bl base : Nat) (v : Value) (D : List Int) (w : World) (hn : w.cell? ⟨bn, 0, none⟩ = some (.int .i64 0)) (ha : w.cell? ⟨ba, 0, none⟩ = some (.int .i64 0))
    (ho : w.heap[bo]? = some (.cells #[v] 28 (0, 0))) (hl : w.cell? ⟨bl, 0, none⟩ = some (.slice none 0 0)) (hR : Kd.R (Kd.int .i64) 3 w base (fun _ => True) v D) :
    Calls Tryz.prog 51 #[.int .i64 0, .bool keep, .pointer (some ⟨bn, 0, none⟩), .pointer (some ⟨ba, 0, none⟩), .pointer (some ⟨bs, 0, none⟩), .pointer (some ⟨bo, 0, none⟩), .pointer (some ⟨bl, 0, none⟩)] w fun e w' => e = .returned (.tuple #[]) ∧ Below w.heap.size w w' := by
  obtain ⟨A, c, rfl⟩ := Kd.R_slice hR
  have hoc : w.cell? ⟨bo, 0, none⟩ = some (.slice A D.length c) := by unfold World.cell?; rw [ho]; rfl
  have hof : w.frozen? ⟨bo, 0, none⟩ = false := by simp [World.frozen?, ho]
  have HO := Aside0.mk ho
  have HR := Aside0.mk hR
  clear ho hR
  go_enter Tryz.func51, Tryz.ntmps51
  go_wp2_with fail
  go_loopg [11] 0 (fun _ v11 wr => wr = w)
  case atStart => exact rfl
  case round =>
    obtain rfl := hrel
    cases keep
    · go_wp2_with fail
      first
        | (go_end0; exact ⟨rfl, Below.refl _ _⟩)
        | exact ⟨rfl, Below.refl _ _⟩
    · go_wp2_with fail
      go_region_held3 (fun w' => w'.cell? ⟨bn, 0, none⟩ = some (.int .i64 0) ∧ w'.cell? ⟨bo, 0, none⟩ = some (.slice A D.length c) ∧ w'.cell? ⟨bl, 0, none⟩ = some (.slice none 0 0) ∧ w'.frozen? ⟨bo, 0, none⟩ = false ∧ Same wr w')
        (first | exact Same.all (Same.refl _) hn hoc hl hof | exact Same.all (Same.refl _).drew hn hoc hl hof | exact Same.all ((Same.refl _).set HO.out).drew hn hoc hl hof | exact Same.all ((Same.refl _).drew.set HO.out).drew hn hoc hl hof)
        (first
          | (refine append_idle (Kd.int .i64) ?hw1 (.tmp 24) (.tmp 29) 28 3 (.int .i64 0) 8 base ?hg1 Tryz.underlying28 info3 _ D (fun _ => True) ?hs1 ?hx1 HR.out ?_; (case hw1 => rfl); (case hg1 => rfl); (case hs1 => rfl); (case hx1 => rfl)))
      go_split_ands
      first
        | (go_end0; exact ⟨rfl, Same.below (by assumption)⟩)
        | exact ⟨rfl, Same.below (by assumption)⟩
        | exact bodyPost_end0 ⟨rfl, Same.below (by assumption)⟩
/-- as many times one number as there are lines -/
def putL (es : List S91) (k : Int) : List Int := (es.map (fun x => List.replicate (linesB x.f2).length k)).flatten
theorem putL_snoc (es : List S91) (k : Int) (i : Nat) (h : i < es.length) : putL (es.take (i + 1)) k = putL (es.take i) k ++ List.replicate (linesB es[i].f2).length k := by
  unfold putL
  rw [List.take_add_one, List.getElem?_eq_getElem h, Option.toList_some, List.map_append, List.flatten_append]
  simp
theorem putL_take (es : List S91) (k : Int) (i : Nat) : (putL (es.take i) k).length ≤ (putL es k).length := by
  have h : putL es k = putL (es.take i) k ++ putL (es.drop i) k := by
    unfold putL
    rw [← List.flatten_append, ← List.map_append, List.take_append_drop]
  rw [h, List.length_append]; omega
theorem lines_nil : text_Lines.f ⟨#[]⟩ = some [] := by kernel_rfl
theorem heap3 (w : World) (a b c : Obj) : (((w.alloc a).alloc b).alloc c).heap[w.heap.size]? = some a ∧ (((w.alloc a).alloc b).alloc c).heap[w.heap.size + 1]? = some b ∧ (((w.alloc a).alloc b).alloc c).heap[w.heap.size + 1 + 1]? = some c ∧ (((w.alloc a).alloc b).alloc c).heap.size = w.heap.size + 3 ∧ Below w.heap.size w (((w.alloc a).alloc b).alloc c) := by
  refine ⟨?_, ?_, ?_, ?_, ?_⟩
  · show (((w.heap.push a).push b).push c)[w.heap.size]? = _
    rw [Array.getElem?_push, if_neg (by simp; omega), Array.getElem?_push, if_neg (by simp), Array.getElem?_push_size]
  · show (((w.heap.push a).push b).push c)[w.heap.size + 1]? = _
    rw [Array.getElem?_push, if_neg (by simp), Array.getElem?_push, if_pos (by simp)]
  · show (((w.heap.push a).push b).push c)[w.heap.size + 1 + 1]? = _
    rw [Array.getElem?_push, if_pos (by simp)]
  · show (((w.heap.push a).push b).push c).size = _
    simp
  · exact (((Below.refl _ w).alloc (Nat.le_refl _) a).alloc (by simp) b).alloc (by simp; omega) c
/-- the variables of past.blamed, laid -/
theorem boxes {w w1 w2 : World} {v2 : Value} {A1 : Option Addr} {c1 : Nat} {es : List S91} (h1 : Below (w.alloc (.cells #[.slice none 0 0] 28)).heap.size (w.alloc (.cells #[.slice none 0 0] 28)) w1)
    (h2 : Below (((w1.alloc (.cells #[.slice none 0 0] 28)).alloc (.cells #[.int .i64 0] 3)).alloc (.cells #[.int .i64 0] 3)).heap.size (((w1.alloc (.cells #[.slice none 0 0] 28)).alloc (.cells #[.int .i64 0] 3)).alloc (.cells #[.int .i64 0] 3)) w2)
    (ho : Kd.R k91 91 w1 (w.alloc (.cells #[.slice none 0 0] 28)).heap.size (fun _ => True) (.slice A1 es.length c1) es) :
    (w2.alloc (.cells #[v2] 47)).heap[w1.heap.size]? = some (.cells #[.slice none 0 0] 28 (0, 0)) ∧ (w2.alloc (.cells #[v2] 47)).cell? ⟨w1.heap.size + 1, 0, none⟩ = some (.int .i64 0) ∧ (w2.alloc (.cells #[v2] 47)).cell? ⟨w1.heap.size + 1 + 1, 0, none⟩ = some (.int .i64 0) ∧
    (w2.alloc (.cells #[v2] 47)).cell? ⟨w.heap.size, 0, none⟩ = some (.slice none 0 0) ∧ Below w.heap.size w (w2.alloc (.cells #[v2] 47)) ∧ (w2.alloc (.cells #[v2] 47)).heap.size = w2.heap.size + 1 ∧ w.heap.size < w1.heap.size ∧ w1.heap.size + 3 ≤ w2.heap.size ∧
    Kd.R k91 91 (w2.alloc (.cells #[v2] 47)) (w.alloc (.cells #[.slice none 0 0] 28)).heap.size (fun _ => True) (.slice A1 es.length c1) es := by
  obtain ⟨q1, q2, q3, q4, q5⟩ := heap3 w1 (.cells #[.slice none 0 0] 28) (.cells #[.int .i64 0] 3) (.cells #[.int .i64 0] 3)
  have s0 : (w.alloc (.cells #[.slice none 0 0] 28)).heap.size = w.heap.size + 1 := by simp
  have s1 := h1.size
  have s2 := h2.size
  have b2 : Below w2.heap.size w2 (w2.alloc (.cells #[v2] 47)) := (Below.refl _ w2).alloc (Nat.le_refl _) _
  have B12 : Below w1.heap.size w1 (w2.alloc (.cells #[v2] 47)) := (q5.trans (h2.mono (by omega))).trans (b2.mono (by omega))
  have hh : ∀ k, k < w1.heap.size + 3 → (w2.alloc (.cells #[v2] 47)).heap[k]? = (((w1.alloc (.cells #[.slice none 0 0] 28)).alloc (.cells #[.int .i64 0] 3)).alloc (.cells #[.int .i64 0] 3)).heap[k]? := fun k hk => (b2.block k (by omega)).trans (h2.block k (by omega))
  refine ⟨(hh _ (by omega)).trans q1, ?_, ?_, ?_, ?_, by simp, by omega, by omega, Kd.R_below ho B12⟩
  · have e := (hh (w1.heap.size + 1) (by omega)).trans q2
    unfold World.cell?; simp only [e]; rfl
  · have e := (hh (w1.heap.size + 1 + 1) (by omega)).trans q3
    unfold World.cell?; simp only [e]; rfl
  · have : (w2.alloc (.cells #[v2] 47)).heap[w.heap.size]? = some (.cells #[.slice none 0 0] 28 (0, 0)) := (B12.block _ (by omega)).trans ((h1.block _ (by omega)).trans (heap_nw w _))
    unfold World.cell?; rw [this]; rfl
  · exact (((Below.refl _ w).alloc (Nat.le_refl _) _).trans (h1.mono (by omega))).trans (B12.mono (by omega))
theorem box_self {W0 wr : World} {bo base : Nat} {v0 v : Value} (h : Below base (W0.setCell ⟨bo, 0, none⟩ v) wr) (h0 : W0.heap[bo]? = some (.cells #[v0] 28 (0, 0))) (hb : bo < base) : wr.heap[bo]? = some (.cells #[v] 28 (0, 0)) := by
  rw [h.block bo hb]
  unfold World.setCell
  simp only
  rw [Array.getElem?_modify, if_pos rfl, h0]
  rfl
theorem box_other {W0 wr : World} {bo base : Nat} {v u : Value} {b i : Nat} (h : Below base (W0.setCell ⟨bo, 0, none⟩ v) wr) (hb : b < base) (hne : b ≠ bo) (hc : W0.cell? ⟨b, i, none⟩ = some u) : wr.cell? ⟨b, i, none⟩ = some u := by
  rw [← hc]
  unfold World.cell?
  simp only
  rw [h.block b hb, Below.heap_setCell _ _ _ _ hne]
theorem box_step2 {W0 wr w5 : World} {bo base : Nat} {v0 v v5 : Value} (h : Below base (W0.setCell ⟨bo, 0, none⟩ v) wr) (h5 : Below base wr w5) (h0 : W0.heap[bo]? = some (.cells #[v0] 28 (0, 0))) (hb : bo < base) :
    Below base (W0.setCell ⟨bo, 0, none⟩ v5) (w5.setCell ⟨bo, 0, none⟩ v5) := by
  have ss : ∀ (W : World) (u : Value), (W.setCell ⟨bo, 0, none⟩ u).heap.size = W.heap.size := fun W u => by unfold World.setCell; simp
  refine ⟨h5.os.trans h.os, h5.tape.trans h.tape, h5.output.trans h.output, ?_, fun k hk => ?_⟩
  · have := h.size; have := h5.size
    rw [ss] at *; rw [ss]; omega
  · by_cases e : k = bo
    · subst e
      have h3 := (h5.block k hk).trans (box_self h h0 hk)
      unfold World.setCell
      simp only
      rw [Array.getElem?_modify, if_pos rfl, Array.getElem?_modify, if_pos rfl, h0, h3]
      rfl
    · rw [Below.heap_setCell _ _ _ _ e, Below.heap_setCell _ _ _ _ e, h5.block k hk, h.block k hk, Below.heap_setCell _ _ _ _ e]
set_option maxRecDepth 100000 in
set_option maxHeartbeats 4000000 in
theorem blamed_new (es : List S91) (k : Int) (now : ByteArray) (w : World) (he : text_Edits.f 5000000 ⟨#[]⟩ now = some (es, 0)) (h0 : ∀ x ∈ es, x.f0 = 0 ∧ x.f1 = 0 ∧ x.f2.size ≤ 1000000000) (hlen : es.length ≤ 4000) (hD : (putL es k).length ≤ 1000000) :
    Calls Tryz.prog 29 #[.string ⟨#[]⟩, .string now, .slice none 0 0, .int .i64 k] w fun e w' => ∃ v, e = .returned (.tuple #[v, .int .i64 0]) ∧ Kd.R (Kd.int .i64) 3 w' w.heap.size (fun _ => True) v (putL es k) ∧ Below w.heap.size w w' := by
  have HE := Aside0.mk he
  have H0 := Aside0.mk h0
  have HLN := Aside0.mk hlen
  have HD := Aside0.mk hD
  clear he h0 hlen hD
  go_enter Tryz.func29, Tryz.ntmps29
  go_wp2_with (first
    | (go_at_call 50; refine (text_Edits.calls 5000000 _ now es 0 _ HE.out).mono ?_; rintro e w1 ⟨v1, rfl, ho, hb⟩; obtain ⟨A1, c1, rfl⟩ := Kd.R_slice ho; have HO1 := Aside0.mk ho; have HB1 := Aside0.mk hb; clear ho hb HE)
    | (go_at_call 36; refine (text_Lines.calls _ [] _ lines_nil).mono ?_; rintro e w2 ⟨v2, rfl, ho, hb⟩; obtain ⟨A2, c2, rfl⟩ := Kd.R_slice ho; have HX := Aside0.mk (boxes (v2 := .slice A2 0 c2) HB1.out hb HO1.out); clear ho hb HB1 HO1))
  obtain ⟨hbo, hba, hbn, hbl, hB, hz, hlt1, hlt2, hER⟩ := HX.out
  clear HX
  generalize w2.alloc (.cells #[.slice A2 0 c2] 47) = W0 at *
  have l1 : w1.heap.size + 1 + 1 < W0.heap.size := by omega
  have l2 : w1.heap.size + 1 < W0.heap.size := by omega
  have l3 : w1.heap.size < W0.heap.size := by omega
  have l4 : w.heap.size < W0.heap.size := by omega
  have l5 : w.heap.size ≤ w1.heap.size := by omega
  have n1 : w1.heap.size + 1 + 1 ≠ w1.heap.size := by omega
  have n2 : w1.heap.size + 1 ≠ w1.heap.size := by omega
  have n4 : w.heap.size ≠ w1.heap.size := by omega
  clear hlt1 hlt2 hz
  generalize w2.heap.size = bs at *
  generalize w1.heap.size + 1 + 1 = bn at *
  generalize w1.heap.size + 1 = ba at *
  generalize w1.heap.size = bo at *
  have ss : ∀ (W : World) (u : Value), (W.setCell ⟨bo, 0, none⟩ u).heap.size = W.heap.size := fun W u => by unfold World.setCell; simp
  have HCE : Aside0 (∀ v wr, Below W0.heap.size (W0.setCell ⟨bo, 0, none⟩ v) wr → Kd.C k91 wr A1 es.length es) := ⟨fun v wr h =>
    (Kd.R_reads' (Kd.R_below (Kd.R_set hER hbo (fun q hq => by rcases List.mem_cons.1 hq with h | h; subst h; decide; cases h) 0 v) (by rw [ss]; exact h))).2.2⟩
  have HPA : Aside0 (∀ (keep : Bool) (v : Value) (D : List Int) (wr : World), Below W0.heap.size (W0.setCell ⟨bo, 0, none⟩ v) wr → Kd.R (Kd.int .i64) 3 wr W0.heap.size (fun _ => True) v D →
      Calls Tryz.prog 51 #[.int .i64 0, .bool keep, .pointer (some ⟨bn, 0, none⟩), .pointer (some ⟨ba, 0, none⟩), .pointer (some ⟨bs, 0, none⟩), .pointer (some ⟨bo, 0, none⟩), .pointer (some ⟨w.heap.size, 0, none⟩)] wr fun e w' => e = .returned (.tuple #[]) ∧ Below wr.heap.size wr w') :=
    ⟨fun keep v D wr h1 h2 => pass_idle keep bn ba bs bo w.heap.size W0.heap.size v D wr (box_other h1 l1 n1 hbn) (box_other h1 l2 n2 hba) (box_self h1 hbo l3) (box_other h1 l4 n4 hbl) h2⟩
  have HBF : Aside0 (∀ v wr, Below W0.heap.size (W0.setCell ⟨bo, 0, none⟩ v) wr → Below w.heap.size w wr) := ⟨fun v wr h => (hB.setCell (p := ⟨bo, 0, none⟩) l5 v).trans (h.mono (by omega))⟩
  have HBO := Aside0.mk hbo
  have HL3 := Aside0.mk l3
  have HS0 : Aside0 (Below W0.heap.size (W0.setCell ⟨bo, 0, none⟩ (.slice none 0 0)) W0) := ⟨by
    have q := Same.set (Same.refl W0) hbo
    exact ⟨rfl, rfl, rfl, by rw [ss]; exact Nat.le_refl _, fun k _ => (q.heap k).symm⟩⟩
  clear hbo hba hbn hbl hB hER l1 l2 l3 l4 l5 n1 n2 n4 ss
  go_loopg [33] (es.length + 1) (fun kq v33 w' => ∃ (i : Nat) (v : Value), v33 = .int .i64 (i : Int) ∧ Aside0 (es.length - i < kq ∧ i ≤ es.length) ∧ Aside0 (Below W0.heap.size (W0.setCell ⟨bo, 0, none⟩ v) w') ∧ Aside0 (Kd.R (Kd.int .i64) 3 w' W0.heap.size (fun _ => True) v (putL (es.take i) k)))
  case atStart => exact ⟨0, .slice none 0 0, rfl, ⟨by omega, by omega⟩, HS0, ⟨Kd.R_nil _ _ _ _ _⟩⟩
  case round =>
    obtain ⟨i, v, rfl, HI, HBe, HR⟩ := hrel
    obtain ⟨k1, rfl⟩ : ∃ k1, gk = k1 + 1 := ⟨gk - 1, by have := HI.out.1; omega⟩
    have hwr : W0.heap.size ≤ wr.heap.size := by have := HBe.out.size; unfold World.setCell at this; simpa using this
    by_cases hlt : i < es.length
    · have hb : decide ((i : Int) < (es.length : Int)) = true := by simp; omega
      have hb2 : decide ((0 : Int) ≤ (i : Int)) = true := by simp
      obtain ⟨ad, e0, hx0, hx1, hx2⟩ := at_T91 (HCE.out v wr HBe.out) (i : Int) (by omega) (by omega)
      cases e0
      rw [Int.toNat_natCast] at hx0 hx1 hx2
      rw [rd34_at es i hlt] at hx0 hx1 hx2
      have HSN := Aside0.mk (putL_snoc es k i hlt)
      have HTK := Aside0.mk (putL_take es k (i + 1))
      have hx := H0.out es[i] (List.getElem_mem hlt)
      generalize es[i] = x at *
      obtain ⟨g0, g1, t⟩ := x
      obtain ⟨y0, y1, y2⟩ := hx
      cases y0
      cases y1
      have HT := Aside0.mk (show text_Lines.f t = some (linesB t) by unfold text_Lines.f; rw [if_pos y2])
      have HBA : Aside0 (Below W0.heap.size (W0.setCell ⟨bo, 0, none⟩ v) (wr.alloc (.cells #[.int .i64 0, .int .i64 0, .string t] 91))) := ⟨HBe.out.alloc hwr _⟩
      have HP1 := Aside0.mk (HPA.out true v _ _ HBA.out (Kd.R_alloc HR.out _))
      have hy0 : (wr.alloc (.cells #[.int .i64 0, .int .i64 0, .string t] 91)).cell? ⟨wr.heap.size, 0, none⟩ = some (.int .i64 0) := by unfold World.cell?; simp only [heap_nw]; rfl
      have hy1 : (wr.alloc (.cells #[.int .i64 0, .int .i64 0, .string t] 91)).cell? ⟨wr.heap.size, 1, none⟩ = some (.int .i64 0) := by unfold World.cell?; simp only [heap_nw]; rfl
      have hy2 : (wr.alloc (.cells #[.int .i64 0, .int .i64 0, .string t] 91)).cell? ⟨wr.heap.size, 2, none⟩ = some (.string t) := by unfold World.cell?; simp only [heap_nw]; rfl
      have hsa : wr.heap.size < (wr.alloc (.cells #[.int .i64 0, .int .i64 0, .string t] 91)).heap.size := by simp
      have HY1 := Aside0.mk hy1
      have HY2 := Aside0.mk hy2
      have HSA := Aside0.mk hsa
      clear hy1 hy2 hsa y2
      go_wp2_with (first
        | (go_at_call 51; refine HP1.out.mono ?_; rintro e w3 ⟨rfl, hb3⟩; have HB3 := Aside0.mk hb3; have hz1 := (hb3.cell (p := ⟨wr.heap.size, 1, none⟩) HSA.out).trans HY1.out; clear hb3 HP1)
        | (go_at_call 51; refine (HPA.out false v (putL (es.take i) k) w3 (HBA.out.trans (HB3.out.mono (Nat.le_trans hwr (Nat.le_of_lt HSA.out)))) (Kd.R_below (Kd.R_alloc HR.out _) HB3.out)).mono ?_; rintro e w4 ⟨rfl, hb4⟩; have HB4 := Aside0.mk (HB3.out.trans (hb4.mono HB3.out.size)); have hz2 := (HB4.out.cell (p := ⟨wr.heap.size, 2, none⟩) HSA.out).trans HY2.out; clear hb4)
        | (go_at_call 36; refine (text_Lines.calls _ _ _ HT.out).mono ?_; rintro e w5 ⟨v5, rfl, ho, hb⟩; obtain ⟨A5, c5, rfl⟩ := Kd.R_slice ho; have HB5 := Aside0.mk (HB4.out.trans (hb.mono HB4.out.size)); clear ho hb))
      have hW : wr.heap.size ≤ w5.heap.size := Nat.le_trans (Nat.le_of_lt HSA.out) HB5.out.size
      have HB6 : Aside0 (Below W0.heap.size (W0.setCell ⟨bo, 0, none⟩ v) w5) := ⟨HBA.out.trans (HB5.out.mono (Nat.le_trans hwr (Nat.le_of_lt HSA.out)))⟩
      have HR6 : Aside0 (Kd.R (Kd.int .i64) 3 w5 W0.heap.size (fun _ => True) v (putL (es.take i) k ++ List.replicate 0 k)) := ⟨by rw [List.replicate_zero, List.append_nil]; exact Kd.R_below (Kd.R_alloc HR.out _) HB5.out⟩
      have HL5 := Aside0.mk (Nat.le_trans hwr hW)
      have HI2 : Aside0 (es.length - i < k1 + 1 ∧ i < es.length) := ⟨HI.out.1, hlt⟩
      clear hW hwr hx0 hx1 hx2 HB5 HB4 HB3 HBA HSA HY1 HY2 hz1 hz2 HBe HR hy0 hlt
      generalize hn : (linesB t).length = n at *
      clear hn
      go_loopg [49] (n + 1) (fun kq v49 w' => ∃ (j : Nat) (v : Value), v49 = .int .i64 (j : Int) ∧ Aside0 (n - j < kq ∧ j ≤ n) ∧ Aside0 (Below W0.heap.size (W0.setCell ⟨bo, 0, none⟩ v) w') ∧ Aside0 (Kd.R (Kd.int .i64) 3 w' W0.heap.size (fun _ => True) v (putL (es.take i) k ++ List.replicate j k)))
      case atStart => exact ⟨0, v, rfl, ⟨by omega, by omega⟩, HB6, HR6⟩
      case round =>
        obtain ⟨j, v, rfl, HJ, HBj, HRj⟩ := hrel
        obtain ⟨k2, rfl⟩ : ∃ k2, gk = k2 + 1 := ⟨gk - 1, by have := HJ.out.1; omega⟩
        have hwr : W0.heap.size ≤ wr.heap.size := by have := HBj.out.size; unfold World.setCell at this; simpa using this
        have hLen : (putL (es.take i) k ++ List.replicate j k).length ≤ 1000000 := by
          have h1 := HTK.out
          rw [HSN.out, List.length_append, List.length_replicate] at h1
          have h2 := HD.out
          have h3 := HJ.out.2
          rw [List.length_append, List.length_replicate]
          omega
        have HLE := Aside0.mk hLen
        have HWR := Aside0.mk hwr
        clear hLen
        by_cases hlt : j < n
        · have hb : decide ((j : Int) < (n : Int)) = true := by simp; omega
          obtain ⟨A7, c7, rfl⟩ := Kd.R_slice HRj.out
          have hoh := box_self HBj.out HBO.out HL3.out
          have hoc : wr.cell? ⟨bo, 0, none⟩ = some (.slice A7 (putL (es.take i) k ++ List.replicate j k).length c7) := by unfold World.cell?; rw [hoh]; rfl
          have HOH := Aside0.mk hoh
          have HLT := Aside0.mk hlt
          clear hoh
          have HEQ : Aside0 (putL (es.take i) k ++ List.replicate j k ++ [k] = putL (es.take i) k ++ List.replicate (j + 1) k) := ⟨by rw [List.append_assoc, List.replicate_succ']⟩
          have HNB : Aside0 (n ≤ 1000000) := ⟨by
            have h1 := HTK.out
            rw [HSN.out, List.length_append, List.length_replicate] at h1
            have h2 := HD.out
            omega⟩
          generalize putL (es.take i) k ++ List.replicate j k = L at *
          go_wp2_with (at_builtin; go_loud (refine Kd.R_append (Kd.int .i64) (w0 := wr) W0.heap.size rfl (.tmp 51) (.tmp 53) 28 3 (.int .i64 0) 8 rfl Tryz.underlying28 info3 rfl (by decide) (by omega) _ L k [.int .i64 k] (fun _ => True) (fun _ => False) rfl (by first | rfl | (simp; done) | (go_simp; done)) rfl (fun _ hk => hk.elim) (fun _ _ => trivial) HRj.out (Below.refl W0.heap.size wr) HWR.out (by have := HLE.out; omega) ?_); intro v1 w7 ho hb hg hat; go_loud (obtain ⟨A8, c8, rfl⟩ := Kd.R_slice ho; have hp7 : w7.heap[bo]? = some (.cells #[.slice A7 L.length c7] 28 (0, 0)) := (hb.block bo HL3.out).trans HOH.out; have hc7 : w7.cell? ⟨bo, 0, none⟩ = some (.slice A7 L.length c7) := (by unfold World.cell?; rw [hp7]; rfl); have hf7 : w7.frozen? ⟨bo, 0, none⟩ = false := (by simp [World.frozen?, hp7])); rw [show (L ++ [k]).length = L.length + 1 by rw [List.length_append]; rfl] at ho; have HO7 := Aside0.mk ho; have HB7 := Aside0.mk hb; have HP7 := Aside0.mk hp7; clear ho hb hg hat hp7)
          go_roundg k2
          case measure => have := HJ.out.1; have := HLT.out; omega
          case rel => exact ⟨j + 1, _, congrArg (Value.int .i64) (by first | exact nx j (by have := HNB.out; have := HJ.out; omega) | (have := HNB.out; have := HJ.out; omega)), ⟨by have := HJ.out.1; omega, by have := HLT.out; omega⟩, ⟨box_step2 HBj.out HB7.out HBO.out HL3.out⟩, ⟨by rw [← HEQ.out]; exact Kd.R_set HO7.out HP7.out (fun q hq => by rcases List.mem_cons.1 hq with h | h; subst h; decide; cases h) 0 _⟩⟩
        · have hb : decide ((j : Int) < (n : Int)) = false := by simp; omega
          have hjn : j = n := by have := HJ.out.2; omega
          subst hjn
          rw [← HSN.out] at HRj
          go_wp2_with fail
          go_roundg k1
          case measure => have := HI2.out; omega
          case rel => exact ⟨i + 1, _, congrArg (Value.int .i64) (by first | exact nx i (by have := HLN.out; have := HI2.out; omega) | (have := HLN.out; have := HI2.out; omega)), ⟨by have := HI2.out; omega, by have := HI2.out; omega⟩, HBj, HRj⟩
    · have hb : decide ((i : Int) < (es.length : Int)) = false := by simp; omega
      have hin : es.take i = es := List.take_of_length_le (by omega)
      rw [hin] at HR
      clear hin
      obtain ⟨A7, c7, rfl⟩ := Kd.R_slice HR.out
      have hoh := box_self HBe.out HBO.out HL3.out
      have hoc : wr.cell? ⟨bo, 0, none⟩ = some (.slice A7 (putL es k).length c7) := by unfold World.cell?; rw [hoh]; rfl
      have hbw : bo < wr.heap.size := Nat.lt_of_lt_of_le HL3.out hwr
      have HPZ := Aside0.mk (HPA.out true _ _ wr HBe.out HR.out)
      go_wp2_with (go_at_call 51; refine HPZ.out.mono ?_; rintro e w3 ⟨rfl, hb3⟩; have HB3 := Aside0.mk hb3; have hz1 := (hb3.cell (p := ⟨bo, 0, none⟩) hbw).trans hoc; clear hb3 HPZ)
      go_ret2
      have hbs : w.heap.size ≤ W0.heap.size := by have := (HBF.out _ _ HS0.out).size; exact this
      exact ⟨_, rfl, Kd.R_below (Kd.R_lower HR.out hbs) HB3.out, (HBF.out _ _ HBe.out).trans (HB3.out.mono (Nat.le_trans hbs hwr))⟩
end Go.Proofs.YthimblhfjfngiaaGreat.PText

