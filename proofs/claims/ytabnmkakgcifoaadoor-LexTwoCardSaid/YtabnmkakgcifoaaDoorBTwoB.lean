/- LexTwo holds: for all two texts the statement answers true, where the two listed package variables hold what the program's text lays. Part 2 of 2. -/
import Derived.Test.YtabnmkakgcifoaaDoorBTwoA
namespace Go.Proofs.YtabnmkakgcifoaaDoor.PLex
open Go.RowKit Go.Proofs.YtabnmkakgcifoaaDoorW.PrintWords Go.Proofs.YtabnmkakgcifoaaDoorW.PrintLast Go.Proofs.YtabnmkakgcifoaaDoorW.PrintMore
attribute [local go_sem] max2_int min2_int max_two min_two max_three min_three max_four min_four   -- for this text's walks alone
set_option linter.unusedVariables false
set_option linter.unusedSimpArgs false

attribute [local go_sem high] eqA30
mutual
def lw2_LexTwo.j0 : Nat → ByteArray → ByteArray → Bool → Option (Bool)
 | 0, _, _, _ => none
 | k + 1, x0, x1, x43 => if x43 = true then ((lw2_awake.f).bind fun t224 => (some t224)) else ((lex_Scan.f x0).bind fun bt225 => ((lex_Scan.f x1).bind fun bt229 => (if x0.size + 1 ≤ 9223372036854775807 then (if (x0 ++ (⟨#[10]⟩ : ByteArray)).size + x1.size ≤ 9223372036854775807 then ((lex_Scan.f ((x0 ++ (⟨#[10]⟩ : ByteArray)) ++ x1)).bind fun bt233 => (if bt225.2 = 0 then (if bt229.2 = 0 then (if bt233.2 = 0 then (if (bt225.1.length : Int) = 0 then (lw2_LexTwo.j1 k x0 x1 bt225.1 bt229.1 bt233.1 true) else (lw2_LexTwo.j1 k x0 x1 bt225.1 bt229.1 bt233.1 ((bt229.1.length : Int) == 0))) else (lw2_LexTwo.j1 k x0 x1 bt225.1 bt229.1 bt233.1 true)) else (lw2_LexTwo.j1 k x0 x1 bt225.1 bt229.1 bt233.1 true)) else (lw2_LexTwo.j1 k x0 x1 bt225.1 bt229.1 bt233.1 true))) else (none)) else (none))))
def lw2_LexTwo.j1 : Nat → ByteArray → ByteArray → List (S30) → List (S30) → List (S30) → Bool → Option (Bool)
 | 0, _, _, _, _, _, _ => none
 | k + 1, x0, x1, x5, x7, x9, x82 => if x82 = true then (if (wrap64 ((x0.size : Int) + (x1.size : Int))) > 10000 then ((lw2_awake.f).bind fun t237 => (some t237)) else (some false)) else (if (x9.length : Int) = (wrap64 ((wrap64 ((x5.length : Int) + (x7.length : Int))) - 1)) then (lw2_LexTwo.l0 k x0 x5 x7 x9 0) else (some false))
def lw2_LexTwo.l0 : Nat → ByteArray → List (S30) → List (S30) → List (S30) → Int → Option (Bool)
 | 0, _, _, _, _, _ => none
 | k + 1, x0, x5, x7, x9, x11 => if x11 < (x9.length : Int) then (if (wrap64 (x11 - (wrap64 ((x5.length : Int) - 1)))) < 0 then (if 0 ≤ x11 then (if x11 < (x5.length : Int) then (if (!(((rd_T30 x9 x11).f0) == ((rd_T30 x5 x11).f0)) || (!((((rd_T30 x9 x11).f1).toList) == (((rd_T30 x5 x11).f1).toList)) || (!((((rd_T30 x9 x11).f2).toList) == (((rd_T30 x5 x11).f2).toList)) || (!(((rd_T30 x9 x11).f3) == ((rd_T30 x5 x11).f3)))))) = true then (some false) else (lw2_LexTwo.l0 k x0 x5 x7 x9 (wrap64 (x11 + 1)))) else (none)) else (none)) else (if 0 ≤ (wrap64 (x11 - (wrap64 ((x5.length : Int) - 1)))) then (if (wrap64 (x11 - (wrap64 ((x5.length : Int) - 1)))) < (x7.length : Int) then (if (wrap64 (x11 - (wrap64 ((x5.length : Int) - 1)))) = 0 then (if 0 ≤ (wrap64 ((x5.length : Int) - 1)) then (if (wrap64 ((x5.length : Int) - 1)) < (x5.length : Int) then (if ((rd_T30 x5 (wrap64 ((x5.length : Int) - 1))).f1).size + 1 ≤ 9223372036854775807 then (if (((rd_T30 x5 (wrap64 ((x5.length : Int) - 1))).f1) ++ (⟨#[10]⟩ : ByteArray)).size + ((rd_T30 x7 (wrap64 (x11 - (wrap64 ((x5.length : Int) - 1))))).f1).size ≤ 9223372036854775807 then (if 0 ≤ x11 then (if ((rd_T30 x9 x11).f0) = ((rd_T30 x7 (wrap64 (x11 - (wrap64 ((x5.length : Int) - 1))))).f0) then (if ((rd_T30 x9 x11).f2).toList = ((rd_T30 x7 (wrap64 (x11 - (wrap64 ((x5.length : Int) - 1))))).f2).toList then (if ((rd_T30 x9 x11).f1).toList = ((((rd_T30 x5 (wrap64 ((x5.length : Int) - 1))).f1) ++ (⟨#[10]⟩ : ByteArray)) ++ ((rd_T30 x7 (wrap64 (x11 - (wrap64 ((x5.length : Int) - 1))))).f1)).toList then (if ((rd_T30 x9 x11).f3) = (wrap64 ((wrap64 (((rd_T30 x7 (wrap64 (x11 - (wrap64 ((x5.length : Int) - 1))))).f3) + (x0.size : Int))) + 1)) then (lw2_LexTwo.l0 k x0 x5 x7 x9 (wrap64 (x11 + 1))) else (some false)) else (some false)) else (some false)) else (some false)) else (none)) else (none)) else (none)) else (none)) else (none)) else (if 0 ≤ x11 then (if ((rd_T30 x9 x11).f0) = ((rd_T30 x7 (wrap64 (x11 - (wrap64 ((x5.length : Int) - 1))))).f0) then (if ((rd_T30 x9 x11).f2).toList = ((rd_T30 x7 (wrap64 (x11 - (wrap64 ((x5.length : Int) - 1))))).f2).toList then (if ((rd_T30 x9 x11).f1).toList = ((rd_T30 x7 (wrap64 (x11 - (wrap64 ((x5.length : Int) - 1))))).f1).toList then (if ((rd_T30 x9 x11).f3) = (wrap64 ((wrap64 (((rd_T30 x7 (wrap64 (x11 - (wrap64 ((x5.length : Int) - 1))))).f3) + (x0.size : Int))) + 1)) then (lw2_LexTwo.l0 k x0 x5 x7 x9 (wrap64 (x11 + 1))) else (some false)) else (some false)) else (some false)) else (some false)) else (none))) else (none)) else (none))) else ((lw2_awake.f).bind fun t238 => (some t238))
end
def lw2_LexTwo.f (k : Nat) (a0 : ByteArray) (a1 : ByteArray) : Option (Bool) := if (wrap64 ((a0.size : Int) + (a1.size : Int))) > 199999 then (lw2_LexTwo.j0 k a0 a1 true) else (if a0.toList = ([] : List UInt8) then ((lw2_open.f k a0).bind fun t222 => (lw2_LexTwo.j0 k a0 a1 t222)) else (if 0 ≤ (wrap64 ((a0.size : Int) - 1)) then (if (wrap64 ((a0.size : Int) - 1)) < (a0.size : Int) then (if (bt a0 (wrap64 ((a0.size : Int) - 1))) = 92 then (lw2_LexTwo.j0 k a0 a1 true) else (if (bt a0 (wrap64 ((a0.size : Int) - 1))) = 13 then (lw2_LexTwo.j0 k a0 a1 true) else ((lw2_open.f k a0).bind fun t223 => (lw2_LexTwo.j0 k a0 a1 t223)))) else (none)) else (none)))
set_option maxHeartbeats 8000000 in
set_option maxRecDepth 100000 in
theorem lw2_LexTwo.calls (k : Nat) (a0 : ByteArray) (a1 : ByteArray) (_r : Bool) (w : World) (hGl : Glob w) (h : lw2_LexTwo.f k a0 a1 = some true) :
  Calls Tryd.prog 4 #[.string a0, .string a1] w fun e w' => e = .returned (.bool true) ∧ Below w.heap.size w w' := by
 have hu30 := Tryd.underlying30
 have HB := Aside0.mk (Below.refl w.heap.size w)
 have HGl := Aside0.mk hGl
 clear hGl
 have H : (if (wrap64 ((a0.size : Int) + (a1.size : Int))) > 199999 then (lw2_LexTwo.j0 k a0 a1 true) else (if a0.toList = ([] : List UInt8) then ((lw2_open.f k a0).bind fun t222 => (lw2_LexTwo.j0 k a0 a1 t222)) else (if 0 ≤ (wrap64 ((a0.size : Int) - 1)) then (if (wrap64 ((a0.size : Int) - 1)) < (a0.size : Int) then (if (bt a0 (wrap64 ((a0.size : Int) - 1))) = 92 then (lw2_LexTwo.j0 k a0 a1 true) else (if (bt a0 (wrap64 ((a0.size : Int) - 1))) = 13 then (lw2_LexTwo.j0 k a0 a1 true) else ((lw2_open.f k a0).bind fun t223 => (lw2_LexTwo.j0 k a0 a1 t223)))) else (none)) else (none)))) = some true := h
 clear h
 have HC3 := Aside0.mk H
 clear H
 go_enter Tryd.func4, Tryd.ntmps4
 go_upto_region 1 with (fail)
 repeat (go_quiet (fail); go_upto_region 1 with (fail))
 go_cut [43] (fun v43 wc => ∃ (kq : Nat) (x43_2 : Bool), v43 = .bool x43_2 ∧ Aside0 (lw2_LexTwo.j0 kq a0 a1 x43_2 = some true) ∧ Aside0 (kq ≤ k) ∧ Aside0 (Below w.heap.size w wc))
 case first =>
  have H := HC3.out
  clear HC3
  by_cases c4 : (wrap64 ((a0.size : Int) + (a1.size : Int))) > 199999
  ·rw [if_pos c4] at H
   have c4b0 : decide (199999 < (wrap64 ((a0.size : Int) + (a1.size : Int)))) = true := decide_eq_true c4
   clear c4
   (first | rw [c4b0] | (simp only [i64_w, i32_w]; rw [c4b0]) | skip)
   have H' := Aside0.mk H
   clear H
   go_wp2
   repeat (go_quiet (fail); try go_wp2)
   go_meet
   case rel => exact ⟨_, (true), (by first | rfl | (simp; done) | (simp [*]; done)), H', ⟨by first | omega | exact Nat.le_refl _⟩, ⟨by repeat (first | (with_reducible first | exact HB.out | apply below_alloc | apply pw_below_drewN | apply below_drew1) | exact HB.out)⟩⟩
  ·rw [if_neg c4] at H
   have c4b0 : decide (199999 < (wrap64 ((a0.size : Int) + (a1.size : Int)))) = false := decide_eq_false c4
   clear c4
   (first | rw [c4b0] | (simp only [i64_w, i32_w]; rw [c4b0]) | skip)
   by_cases c5 : a0.toList = ([] : List UInt8)
   ·rw [if_pos c5] at H
    have c5b0 : (a0.toList == ([] : List UInt8)) = true := beq_iff_eq.mpr c5
    have c5b1 : (a0.toList != ([] : List UInt8)) = false := bne_eq_false_iff_eq.mpr c5
    clear c5
    replace H := Option.bind_eq_some_iff.mp H
    obtain ⟨t222, A60, H⟩ := H
    replace H : (lw2_LexTwo.j0 k a0 a1 t222) = some true := H
    have A6 := Aside0.mk A60
    clear A60
    have H' := Aside0.mk H
    clear H
    go_wp2_with (first | (go_at_call 14; (with_reducible refine (lw2_open.calls k a0 t222 _ A6.out).mono ?_); rintro e w7 ⟨rfl, hb⟩; have n0_ := Aside0.mk (below_step (by repeat (first | (with_reducible first | exact HB.out | apply below_alloc | apply pw_below_drewN | apply below_drew1) | exact HB.out)) hb); clear HB; have HB := n0_; clear n0_; (try clear hb); (try clear hb2); (try clear hk); (try clear hi)))
    repeat (go_quiet (first | (go_at_call 14; (with_reducible refine (lw2_open.calls k a0 t222 _ A6.out).mono ?_); rintro e w7 ⟨rfl, hb⟩; have n0_ := Aside0.mk (below_step (by repeat (first | (with_reducible first | exact HB.out | apply below_alloc | apply pw_below_drewN | apply below_drew1) | exact HB.out)) hb); clear HB; have HB := n0_; clear n0_; (try clear hb); (try clear hb2); (try clear hk); (try clear hi))); try go_wp2_with (first | (go_at_call 14; (with_reducible refine (lw2_open.calls k a0 t222 _ A6.out).mono ?_); rintro e w7 ⟨rfl, hb⟩; have n0_ := Aside0.mk (below_step (by repeat (first | (with_reducible first | exact HB.out | apply below_alloc | apply pw_below_drewN | apply below_drew1) | exact HB.out)) hb); clear HB; have HB := n0_; clear n0_; (try clear hb); (try clear hb2); (try clear hk); (try clear hi))))
    go_meet
    case rel => exact ⟨_, (t222), (by first | rfl | (simp; done) | (simp [*]; done)), H', ⟨by first | omega | exact Nat.le_refl _⟩, ⟨by repeat (first | (with_reducible first | exact HB.out | apply below_alloc | apply pw_below_drewN | apply below_drew1) | exact HB.out)⟩⟩
   ·rw [if_neg c5] at H
    have c5b0 : (a0.toList == ([] : List UInt8)) = false := beq_eq_false_iff_ne.mpr c5
    have c5b1 : (a0.toList != ([] : List UInt8)) = true := bne_iff_ne.mpr c5
    obtain ⟨ji8, hji8⟩ : ∃ j_ : Int, (wrap64 ((a0.size : Int) - 1)) = j_ := ⟨_, rfl⟩
    replace H : (if 0 ≤ (ji8) then (if (ji8) < (a0.size : Int) then (if (bt a0 (ji8)) = 92 then (lw2_LexTwo.j0 k a0 a1 true) else (if (bt a0 (ji8)) = 13 then (lw2_LexTwo.j0 k a0 a1 true) else ((lw2_open.f k a0).bind fun t223 => (lw2_LexTwo.j0 k a0 a1 t223)))) else (none)) else (none)) = some true := by first | (rw [hji8] at H; exact H) | (simp only [hji8] at H ⊢; exact H)
    have hji8w : (IntKind.i64.wrap ((a0.size : Int) - 1)) = ji8 := (i64_w _).trans hji8
    by_cases c9 : 0 ≤ (ji8)
    ·rw [if_pos c9] at H
     have c9b0 : decide (0 ≤ (ji8)) = true := decide_eq_true c9
     clear c9
     by_cases c10 : (ji8) < (a0.size : Int)
     ·rw [if_pos c10] at H
      have c10b0 : decide ((ji8) < (a0.size : Int)) = true := decide_eq_true c10
      clear c10
      by_cases c12 : (bt a0 (ji8)) = 92
      ·rw [if_pos c12] at H
       have c12b0 : ((bt a0 (ji8)) == 92) = true := beq_iff_eq.mpr c12
       have c12b1 : ((bt a0 (ji8)) != 92) = false := bne_eq_false_iff_eq.mpr c12
       clear c12
       have H' := Aside0.mk H
       clear H
       have p11 : 0 ≤ ((ji8) : Int) := of_decide_eq_true (by first | (with_reducible assumption) | assumption)
       have q11 : (ji8) < (a0.size : Int) := of_decide_eq_true (by first | (with_reducible assumption) | assumption)
       have hx11 := bt_at a0 (ji8)
       replace p11 := eq_true p11
       replace q11 := eq_true q11
       go_wp2
       repeat (go_quiet (fail); try go_wp2)
       go_meet
       case rel => exact ⟨_, (true), (by first | rfl | (simp; done) | (simp [*]; done)), H', ⟨by first | omega | exact Nat.le_refl _⟩, ⟨by repeat (first | (with_reducible first | exact HB.out | apply below_alloc | apply pw_below_drewN | apply below_drew1) | exact HB.out)⟩⟩
      ·rw [if_neg c12] at H
       have c12b0 : ((bt a0 (ji8)) == 92) = false := beq_eq_false_iff_ne.mpr c12
       have c12b1 : ((bt a0 (ji8)) != 92) = true := bne_iff_ne.mpr c12
       by_cases c14 : (bt a0 (ji8)) = 13
       ·rw [if_pos c14] at H
        have c14b0 : ((bt a0 (ji8)) == 13) = true := beq_iff_eq.mpr c14
        have c14b1 : ((bt a0 (ji8)) != 13) = false := bne_eq_false_iff_eq.mpr c14
        clear c14
        have H' := Aside0.mk H
        clear H
        have p11 : 0 ≤ ((ji8) : Int) := of_decide_eq_true (by first | (with_reducible assumption) | assumption)
        have q11 : (ji8) < (a0.size : Int) := of_decide_eq_true (by first | (with_reducible assumption) | assumption)
        have hx11 := bt_at a0 (ji8)
        replace p11 := eq_true p11
        replace q11 := eq_true q11
        have p13 : 0 ≤ ((ji8) : Int) := of_decide_eq_true (by first | (with_reducible assumption) | assumption)
        have q13 : (ji8) < (a0.size : Int) := of_decide_eq_true (by first | (with_reducible assumption) | assumption)
        have hx13 := bt_at a0 (ji8)
        replace p13 := eq_true p13
        replace q13 := eq_true q13
        go_wp2
        repeat (go_quiet (fail); try go_wp2)
        go_meet
        case rel => exact ⟨_, (true), (by first | rfl | (simp; done) | (simp [*]; done)), H', ⟨by first | omega | exact Nat.le_refl _⟩, ⟨by repeat (first | (with_reducible first | exact HB.out | apply below_alloc | apply pw_below_drewN | apply below_drew1) | exact HB.out)⟩⟩
       ·rw [if_neg c14] at H
        have c14b0 : ((bt a0 (ji8)) == 13) = false := beq_eq_false_iff_ne.mpr c14
        have c14b1 : ((bt a0 (ji8)) != 13) = true := bne_iff_ne.mpr c14
        replace H := Option.bind_eq_some_iff.mp H
        obtain ⟨t223, A150, H⟩ := H
        replace H : (lw2_LexTwo.j0 k a0 a1 t223) = some true := H
        have A15 := Aside0.mk A150
        clear A150
        have H' := Aside0.mk H
        clear H
        have p11 : 0 ≤ ((ji8) : Int) := of_decide_eq_true (by first | (with_reducible assumption) | assumption)
        have q11 : (ji8) < (a0.size : Int) := of_decide_eq_true (by first | (with_reducible assumption) | assumption)
        have hx11 := bt_at a0 (ji8)
        replace p11 := eq_true p11
        replace q11 := eq_true q11
        have p13 : 0 ≤ ((ji8) : Int) := of_decide_eq_true (by first | (with_reducible assumption) | assumption)
        have q13 : (ji8) < (a0.size : Int) := of_decide_eq_true (by first | (with_reducible assumption) | assumption)
        have hx13 := bt_at a0 (ji8)
        replace p13 := eq_true p13
        replace q13 := eq_true q13
        go_wp2_with (first | (go_at_call 14; (with_reducible refine (lw2_open.calls k a0 t223 _ A15.out).mono ?_); rintro e w16 ⟨rfl, hb⟩; have n0_ := Aside0.mk (below_step (by repeat (first | (with_reducible first | exact HB.out | apply below_alloc | apply pw_below_drewN | apply below_drew1) | exact HB.out)) hb); clear HB; have HB := n0_; clear n0_; (try clear hb); (try clear hb2); (try clear hk); (try clear hi)))
        repeat (go_quiet (first | (go_at_call 14; (with_reducible refine (lw2_open.calls k a0 t223 _ A15.out).mono ?_); rintro e w16 ⟨rfl, hb⟩; have n0_ := Aside0.mk (below_step (by repeat (first | (with_reducible first | exact HB.out | apply below_alloc | apply pw_below_drewN | apply below_drew1) | exact HB.out)) hb); clear HB; have HB := n0_; clear n0_; (try clear hb); (try clear hb2); (try clear hk); (try clear hi))); try go_wp2_with (first | (go_at_call 14; (with_reducible refine (lw2_open.calls k a0 t223 _ A15.out).mono ?_); rintro e w16 ⟨rfl, hb⟩; have n0_ := Aside0.mk (below_step (by repeat (first | (with_reducible first | exact HB.out | apply below_alloc | apply pw_below_drewN | apply below_drew1) | exact HB.out)) hb); clear HB; have HB := n0_; clear n0_; (try clear hb); (try clear hb2); (try clear hk); (try clear hi))))
        go_meet
        case rel => exact ⟨_, (t223), (by first | rfl | (simp; done) | (simp [*]; done)), H', ⟨by first | omega | exact Nat.le_refl _⟩, ⟨by repeat (first | (with_reducible first | exact HB.out | apply below_alloc | apply pw_below_drewN | apply below_drew1) | exact HB.out)⟩⟩
     ·rw [if_neg c10] at H
      exact absurd H (by simp)
    ·rw [if_neg c9] at H
     exact absurd H (by simp)
 case rest =>
  clear HC3
  try clear c1
  try clear p1
  try clear q1
  try clear hx1
  try clear p2
  try clear c4
  try clear c4b0
  try clear c5
  try clear c5b0
  try clear c5b1
  try clear p6
  try clear c9
  try clear c9b0
  try clear c10
  try clear c10b0
  try clear p11
  try clear q11
  try clear hx11
  try clear c12
  try clear c12b0
  try clear c12b1
  try clear p13
  try clear q13
  try clear hx13
  try clear c14
  try clear c14b0
  try clear c14b1
  try clear p11
  try clear p13
  try clear q11
  try clear q13
  obtain ⟨kq, x43_2, rfl, HA, HJ2, HB⟩ := hcut
  cases kq with
  | zero => exact absurd HA.out (by simp [lw2_LexTwo.j0])
  | succ kj2 =>
   have H := HA.out
   clear HA
   simp only [lw2_LexTwo.j0] at H
   by_cases c17 : x43_2 = true
   ·subst c17
    have H1 : ((lw2_awake.f).bind fun t224 => (some t224)) = some true := by rw [if_pos rfl] at H; exact H
    clear H
    have H := H1
    clear H1
    replace H := Option.bind_eq_some_iff.mp H
    obtain ⟨t224, A180, H⟩ := H
    replace H : (some t224) = some true := H
    have A18 := Aside0.mk A180
    clear A180
    obtain rfl := Option.some.inj H
    go_wp2_with (first | (go_at_call 13; (with_reducible refine (lw2_awake.calls  true _ ?side1 A18.out).mono ?_); (case side1 => exact Glob.below HGl.out (by repeat (first | (with_reducible first | exact HB.out | apply below_alloc | apply pw_below_drewN | apply below_drew1) | exact HB.out))); rintro e w19 ⟨rfl, hb⟩; have n0_ := Aside0.mk (below_step (by repeat (first | (with_reducible first | exact HB.out | apply below_alloc | apply pw_below_drewN | apply below_drew1) | exact HB.out)) hb); clear HB; have HB := n0_; clear n0_; (try clear hb); (try clear hb2); (try clear hk); (try clear hi)))
    repeat (go_quiet (first | (go_at_call 13; (with_reducible refine (lw2_awake.calls  true _ ?side1 A18.out).mono ?_); (case side1 => exact Glob.below HGl.out (by repeat (first | (with_reducible first | exact HB.out | apply below_alloc | apply pw_below_drewN | apply below_drew1) | exact HB.out))); rintro e w19 ⟨rfl, hb⟩; have n0_ := Aside0.mk (below_step (by repeat (first | (with_reducible first | exact HB.out | apply below_alloc | apply pw_below_drewN | apply below_drew1) | exact HB.out)) hb); clear HB; have HB := n0_; clear n0_; (try clear hb); (try clear hb2); (try clear hk); (try clear hi))); try go_wp2_with (first | (go_at_call 13; (with_reducible refine (lw2_awake.calls  true _ ?side1 A18.out).mono ?_); (case side1 => exact Glob.below HGl.out (by repeat (first | (with_reducible first | exact HB.out | apply below_alloc | apply pw_below_drewN | apply below_drew1) | exact HB.out))); rintro e w19 ⟨rfl, hb⟩; have n0_ := Aside0.mk (below_step (by repeat (first | (with_reducible first | exact HB.out | apply below_alloc | apply pw_below_drewN | apply below_drew1) | exact HB.out)) hb); clear HB; have HB := n0_; clear n0_; (try clear hb); (try clear hb2); (try clear hk); (try clear hi))))
    go_ret
    exact ⟨by first | rfl | (simp [errW_none, errW_some] <;> rfl) | (simp [*, errW_none, errW_some] <;> rfl), by repeat (first | (with_reducible first | exact HB.out | apply below_alloc | apply pw_below_drewN | apply below_drew1) | exact HB.out)⟩
   ·replace c17 := Bool.eq_false_iff.mpr c17
    subst c17
    have H1 : ((lex_Scan.f a0).bind fun bt225 => ((lex_Scan.f a1).bind fun bt229 => (if a0.size + 1 ≤ 9223372036854775807 then (if (a0 ++ (⟨#[10]⟩ : ByteArray)).size + a1.size ≤ 9223372036854775807 then ((lex_Scan.f ((a0 ++ (⟨#[10]⟩ : ByteArray)) ++ a1)).bind fun bt233 => (if bt225.2 = 0 then (if bt229.2 = 0 then (if bt233.2 = 0 then (if (bt225.1.length : Int) = 0 then (lw2_LexTwo.j1 kj2 a0 a1 bt225.1 bt229.1 bt233.1 true) else (lw2_LexTwo.j1 kj2 a0 a1 bt225.1 bt229.1 bt233.1 ((bt229.1.length : Int) == 0))) else (lw2_LexTwo.j1 kj2 a0 a1 bt225.1 bt229.1 bt233.1 true)) else (lw2_LexTwo.j1 kj2 a0 a1 bt225.1 bt229.1 bt233.1 true)) else (lw2_LexTwo.j1 kj2 a0 a1 bt225.1 bt229.1 bt233.1 true))) else (none)) else (none)))) = some true := by rw [if_neg (show ¬ (false = true) by decide)] at H; exact H
    clear H
    have H := H1
    clear H1
    replace H := Option.bind_eq_some_iff.mp H
    obtain ⟨⟨t225, t226⟩, A200, H⟩ := H
    replace H : ((lex_Scan.f a1).bind fun bt229 => (if a0.size + 1 ≤ 9223372036854775807 then (if (a0 ++ (⟨#[10]⟩ : ByteArray)).size + a1.size ≤ 9223372036854775807 then ((lex_Scan.f ((a0 ++ (⟨#[10]⟩ : ByteArray)) ++ a1)).bind fun bt233 => (if t226 = 0 then (if bt229.2 = 0 then (if bt233.2 = 0 then (if (t225.length : Int) = 0 then (lw2_LexTwo.j1 kj2 a0 a1 t225 bt229.1 bt233.1 true) else (lw2_LexTwo.j1 kj2 a0 a1 t225 bt229.1 bt233.1 ((bt229.1.length : Int) == 0))) else (lw2_LexTwo.j1 kj2 a0 a1 t225 bt229.1 bt233.1 true)) else (lw2_LexTwo.j1 kj2 a0 a1 t225 bt229.1 bt233.1 true)) else (lw2_LexTwo.j1 kj2 a0 a1 t225 bt229.1 bt233.1 true))) else (none)) else (none))) = some true := H
    have A20 := Aside0.mk A200
    clear A200
    replace H := Option.bind_eq_some_iff.mp H
    obtain ⟨⟨t229, t230⟩, A210, H⟩ := H
    replace H : (if a0.size + 1 ≤ 9223372036854775807 then (if (a0 ++ (⟨#[10]⟩ : ByteArray)).size + a1.size ≤ 9223372036854775807 then ((lex_Scan.f ((a0 ++ (⟨#[10]⟩ : ByteArray)) ++ a1)).bind fun bt233 => (if t226 = 0 then (if t230 = 0 then (if bt233.2 = 0 then (if (t225.length : Int) = 0 then (lw2_LexTwo.j1 kj2 a0 a1 t225 t229 bt233.1 true) else (lw2_LexTwo.j1 kj2 a0 a1 t225 t229 bt233.1 ((t229.length : Int) == 0))) else (lw2_LexTwo.j1 kj2 a0 a1 t225 t229 bt233.1 true)) else (lw2_LexTwo.j1 kj2 a0 a1 t225 t229 bt233.1 true)) else (lw2_LexTwo.j1 kj2 a0 a1 t225 t229 bt233.1 true))) else (none)) else (none)) = some true := H
    have A21 := Aside0.mk A210
    clear A210
    by_cases c22 : a0.size + 1 ≤ 9223372036854775807
    ·rw [if_pos c22] at H
     have c22b0 := eq_true c22
     have c22b1 : decide (a0.size + 1 ≤ 9223372036854775807) = true := decide_eq_true c22
     try have c22b2 : (9223372036854775807 < a0.size + 1) = False := eq_false (Nat.not_lt.2 c22)
     by_cases c23 : (a0 ++ (⟨#[10]⟩ : ByteArray)).size + a1.size ≤ 9223372036854775807
     ·rw [if_pos c23] at H
      have c23b0 := eq_true c23
      have c23b1 : decide ((a0 ++ (⟨#[10]⟩ : ByteArray)).size + a1.size ≤ 9223372036854775807) = true := decide_eq_true c23
      try have c23b2 : (9223372036854775807 < (a0 ++ (⟨#[10]⟩ : ByteArray)).size + a1.size) = False := eq_false (Nat.not_lt.2 c23)
      replace H := Option.bind_eq_some_iff.mp H
      obtain ⟨⟨t233, t234⟩, A240, H⟩ := H
      replace H : (if t226 = 0 then (if t230 = 0 then (if t234 = 0 then (if (t225.length : Int) = 0 then (lw2_LexTwo.j1 kj2 a0 a1 t225 t229 t233 true) else (lw2_LexTwo.j1 kj2 a0 a1 t225 t229 t233 ((t229.length : Int) == 0))) else (lw2_LexTwo.j1 kj2 a0 a1 t225 t229 t233 true)) else (lw2_LexTwo.j1 kj2 a0 a1 t225 t229 t233 true)) else (lw2_LexTwo.j1 kj2 a0 a1 t225 t229 t233 true)) = some true := H
      have A24 := Aside0.mk A240
      clear A240
      have HC25 := Aside0.mk H
      clear H
      go_upto_region 6 with (first | (go_at_call 10; (with_reducible refine (lex_Scan.calls a0 t225 t226 _ ?side1 A20.out).mono ?_); (case side1 => exact Glob.below HGl.out (by repeat (first | (with_reducible first | exact HB.out | apply below_alloc | apply pw_below_drewN | apply below_drew1) | exact HB.out))); rintro e w26 ⟨v227, rfl, ho0, hb⟩; have n0_ := Aside0.mk (Kd.R_lower ho0 (below_size (by repeat (first | (with_reducible first | exact HB.out | apply below_alloc | apply pw_below_drewN | apply below_drew1) | exact HB.out)))); have n1_ := Aside0.mk (below_step (by repeat (first | (with_reducible first | exact HB.out | apply below_alloc | apply pw_below_drewN | apply below_drew1) | exact HB.out)) hb); clear HB; have HO228 := n0_; have HB := n1_; clear n0_ n1_; (try clear hb); (try clear hb2); (try clear hk); (try clear hi); (try clear ho0)) | (go_at_call 10; (with_reducible refine (lex_Scan.calls a1 t229 t230 _ ?side1 A21.out).mono ?_); (case side1 => exact Glob.below HGl.out (by repeat (first | (with_reducible first | exact HB.out | apply below_alloc | apply pw_below_drewN | apply below_drew1) | exact HB.out))); rintro e w27 ⟨v231, rfl, ho0, hb⟩; have n0_ := Aside0.mk (Kd.R_elder' (by (with_reducible repeat (first | apply Kd.R_alloc | apply Kd.R_drewN | apply Kd.R_drew)); exact HO228.out) (Kd.R_base ho0) hb); have n1_ := Aside0.mk (Kd.R_lower (Kd.R_new' ho0 (Kd.R_lt (by (with_reducible repeat (first | apply Kd.R_alloc | apply Kd.R_drewN | apply Kd.R_drew)); exact HO228.out))) (below_size (by repeat (first | (with_reducible first | exact HB.out | apply below_alloc | apply pw_below_drewN | apply below_drew1) | exact HB.out)))); have n2_ := Aside0.mk (below_step (by repeat (first | (with_reducible first | exact HB.out | apply below_alloc | apply pw_below_drewN | apply below_drew1) | exact HB.out)) hb); clear HO228; clear HB; have HO228 := n0_; have HO232 := n1_; have HB := n2_; clear n0_ n1_ n2_; (try clear hb); (try clear hb2); (try clear hk); (try clear hi); (try clear ho0)) | (go_at_call 10; (with_reducible refine (lex_Scan.calls ((a0 ++ (⟨#[10]⟩ : ByteArray)) ++ a1) t233 t234 _ ?side1 A24.out).mono ?_); (case side1 => exact Glob.below HGl.out (by repeat (first | (with_reducible first | exact HB.out | apply below_alloc | apply pw_below_drewN | apply below_drew1) | exact HB.out))); rintro e w28 ⟨v235, rfl, ho0, hb⟩; have n0_ := Aside0.mk (Kd.R_elder' (by (with_reducible repeat (first | apply Kd.R_alloc | apply Kd.R_drewN | apply Kd.R_drew)); exact HO228.out) (Kd.R_base ho0) hb); have n1_ := Aside0.mk (Kd.R_elder' (by (with_reducible repeat (first | apply Kd.R_alloc | apply Kd.R_drewN | apply Kd.R_drew)); exact HO232.out) (Kd.R_base ho0) hb); have n2_ := Aside0.mk (Kd.R_lower (Kd.R_new' (Kd.R_new' ho0 (Kd.R_lt (by (with_reducible repeat (first | apply Kd.R_alloc | apply Kd.R_drewN | apply Kd.R_drew)); exact HO228.out))) (Kd.R_lt (by (with_reducible repeat (first | apply Kd.R_alloc | apply Kd.R_drewN | apply Kd.R_drew)); exact HO232.out))) (below_size (by repeat (first | (with_reducible first | exact HB.out | apply below_alloc | apply pw_below_drewN | apply below_drew1) | exact HB.out)))); have n3_ := Aside0.mk (below_step (by repeat (first | (with_reducible first | exact HB.out | apply below_alloc | apply pw_below_drewN | apply below_drew1) | exact HB.out)) hb); clear HO228; clear HO232; clear HB; have HO228 := n0_; have HO232 := n1_; have HO236 := n2_; have HB := n3_; clear n0_ n1_ n2_ n3_; (try clear hb); (try clear hb2); (try clear hk); (try clear hi); (try clear ho0)))
      repeat (go_quiet (first | (go_at_call 10; (with_reducible refine (lex_Scan.calls a0 t225 t226 _ ?side1 A20.out).mono ?_); (case side1 => exact Glob.below HGl.out (by repeat (first | (with_reducible first | exact HB.out | apply below_alloc | apply pw_below_drewN | apply below_drew1) | exact HB.out))); rintro e w26 ⟨v227, rfl, ho0, hb⟩; have n0_ := Aside0.mk (Kd.R_lower ho0 (below_size (by repeat (first | (with_reducible first | exact HB.out | apply below_alloc | apply pw_below_drewN | apply below_drew1) | exact HB.out)))); have n1_ := Aside0.mk (below_step (by repeat (first | (with_reducible first | exact HB.out | apply below_alloc | apply pw_below_drewN | apply below_drew1) | exact HB.out)) hb); clear HB; have HO228 := n0_; have HB := n1_; clear n0_ n1_; (try clear hb); (try clear hb2); (try clear hk); (try clear hi); (try clear ho0)) | (go_at_call 10; (with_reducible refine (lex_Scan.calls a1 t229 t230 _ ?side1 A21.out).mono ?_); (case side1 => exact Glob.below HGl.out (by repeat (first | (with_reducible first | exact HB.out | apply below_alloc | apply pw_below_drewN | apply below_drew1) | exact HB.out))); rintro e w27 ⟨v231, rfl, ho0, hb⟩; have n0_ := Aside0.mk (Kd.R_elder' (by (with_reducible repeat (first | apply Kd.R_alloc | apply Kd.R_drewN | apply Kd.R_drew)); exact HO228.out) (Kd.R_base ho0) hb); have n1_ := Aside0.mk (Kd.R_lower (Kd.R_new' ho0 (Kd.R_lt (by (with_reducible repeat (first | apply Kd.R_alloc | apply Kd.R_drewN | apply Kd.R_drew)); exact HO228.out))) (below_size (by repeat (first | (with_reducible first | exact HB.out | apply below_alloc | apply pw_below_drewN | apply below_drew1) | exact HB.out)))); have n2_ := Aside0.mk (below_step (by repeat (first | (with_reducible first | exact HB.out | apply below_alloc | apply pw_below_drewN | apply below_drew1) | exact HB.out)) hb); clear HO228; clear HB; have HO228 := n0_; have HO232 := n1_; have HB := n2_; clear n0_ n1_ n2_; (try clear hb); (try clear hb2); (try clear hk); (try clear hi); (try clear ho0)) | (go_at_call 10; (with_reducible refine (lex_Scan.calls ((a0 ++ (⟨#[10]⟩ : ByteArray)) ++ a1) t233 t234 _ ?side1 A24.out).mono ?_); (case side1 => exact Glob.below HGl.out (by repeat (first | (with_reducible first | exact HB.out | apply below_alloc | apply pw_below_drewN | apply below_drew1) | exact HB.out))); rintro e w28 ⟨v235, rfl, ho0, hb⟩; have n0_ := Aside0.mk (Kd.R_elder' (by (with_reducible repeat (first | apply Kd.R_alloc | apply Kd.R_drewN | apply Kd.R_drew)); exact HO228.out) (Kd.R_base ho0) hb); have n1_ := Aside0.mk (Kd.R_elder' (by (with_reducible repeat (first | apply Kd.R_alloc | apply Kd.R_drewN | apply Kd.R_drew)); exact HO232.out) (Kd.R_base ho0) hb); have n2_ := Aside0.mk (Kd.R_lower (Kd.R_new' (Kd.R_new' ho0 (Kd.R_lt (by (with_reducible repeat (first | apply Kd.R_alloc | apply Kd.R_drewN | apply Kd.R_drew)); exact HO228.out))) (Kd.R_lt (by (with_reducible repeat (first | apply Kd.R_alloc | apply Kd.R_drewN | apply Kd.R_drew)); exact HO232.out))) (below_size (by repeat (first | (with_reducible first | exact HB.out | apply below_alloc | apply pw_below_drewN | apply below_drew1) | exact HB.out)))); have n3_ := Aside0.mk (below_step (by repeat (first | (with_reducible first | exact HB.out | apply below_alloc | apply pw_below_drewN | apply below_drew1) | exact HB.out)) hb); clear HO228; clear HO232; clear HB; have HO228 := n0_; have HO232 := n1_; have HO236 := n2_; have HB := n3_; clear n0_ n1_ n2_ n3_; (try clear hb); (try clear hb2); (try clear hk); (try clear hi); (try clear ho0))); go_upto_region 6 with (first | (go_at_call 10; (with_reducible refine (lex_Scan.calls a0 t225 t226 _ ?side1 A20.out).mono ?_); (case side1 => exact Glob.below HGl.out (by repeat (first | (with_reducible first | exact HB.out | apply below_alloc | apply pw_below_drewN | apply below_drew1) | exact HB.out))); rintro e w26 ⟨v227, rfl, ho0, hb⟩; have n0_ := Aside0.mk (Kd.R_lower ho0 (below_size (by repeat (first | (with_reducible first | exact HB.out | apply below_alloc | apply pw_below_drewN | apply below_drew1) | exact HB.out)))); have n1_ := Aside0.mk (below_step (by repeat (first | (with_reducible first | exact HB.out | apply below_alloc | apply pw_below_drewN | apply below_drew1) | exact HB.out)) hb); clear HB; have HO228 := n0_; have HB := n1_; clear n0_ n1_; (try clear hb); (try clear hb2); (try clear hk); (try clear hi); (try clear ho0)) | (go_at_call 10; (with_reducible refine (lex_Scan.calls a1 t229 t230 _ ?side1 A21.out).mono ?_); (case side1 => exact Glob.below HGl.out (by repeat (first | (with_reducible first | exact HB.out | apply below_alloc | apply pw_below_drewN | apply below_drew1) | exact HB.out))); rintro e w27 ⟨v231, rfl, ho0, hb⟩; have n0_ := Aside0.mk (Kd.R_elder' (by (with_reducible repeat (first | apply Kd.R_alloc | apply Kd.R_drewN | apply Kd.R_drew)); exact HO228.out) (Kd.R_base ho0) hb); have n1_ := Aside0.mk (Kd.R_lower (Kd.R_new' ho0 (Kd.R_lt (by (with_reducible repeat (first | apply Kd.R_alloc | apply Kd.R_drewN | apply Kd.R_drew)); exact HO228.out))) (below_size (by repeat (first | (with_reducible first | exact HB.out | apply below_alloc | apply pw_below_drewN | apply below_drew1) | exact HB.out)))); have n2_ := Aside0.mk (below_step (by repeat (first | (with_reducible first | exact HB.out | apply below_alloc | apply pw_below_drewN | apply below_drew1) | exact HB.out)) hb); clear HO228; clear HB; have HO228 := n0_; have HO232 := n1_; have HB := n2_; clear n0_ n1_ n2_; (try clear hb); (try clear hb2); (try clear hk); (try clear hi); (try clear ho0)) | (go_at_call 10; (with_reducible refine (lex_Scan.calls ((a0 ++ (⟨#[10]⟩ : ByteArray)) ++ a1) t233 t234 _ ?side1 A24.out).mono ?_); (case side1 => exact Glob.below HGl.out (by repeat (first | (with_reducible first | exact HB.out | apply below_alloc | apply pw_below_drewN | apply below_drew1) | exact HB.out))); rintro e w28 ⟨v235, rfl, ho0, hb⟩; have n0_ := Aside0.mk (Kd.R_elder' (by (with_reducible repeat (first | apply Kd.R_alloc | apply Kd.R_drewN | apply Kd.R_drew)); exact HO228.out) (Kd.R_base ho0) hb); have n1_ := Aside0.mk (Kd.R_elder' (by (with_reducible repeat (first | apply Kd.R_alloc | apply Kd.R_drewN | apply Kd.R_drew)); exact HO232.out) (Kd.R_base ho0) hb); have n2_ := Aside0.mk (Kd.R_lower (Kd.R_new' (Kd.R_new' ho0 (Kd.R_lt (by (with_reducible repeat (first | apply Kd.R_alloc | apply Kd.R_drewN | apply Kd.R_drew)); exact HO228.out))) (Kd.R_lt (by (with_reducible repeat (first | apply Kd.R_alloc | apply Kd.R_drewN | apply Kd.R_drew)); exact HO232.out))) (below_size (by repeat (first | (with_reducible first | exact HB.out | apply below_alloc | apply pw_below_drewN | apply below_drew1) | exact HB.out)))); have n3_ := Aside0.mk (below_step (by repeat (first | (with_reducible first | exact HB.out | apply below_alloc | apply pw_below_drewN | apply below_drew1) | exact HB.out)) hb); clear HO228; clear HO232; clear HB; have HO228 := n0_; have HO232 := n1_; have HO236 := n2_; have HB := n3_; clear n0_ n1_ n2_ n3_; (try clear hb); (try clear hb2); (try clear hk); (try clear hi); (try clear ho0))))
      (try simp only [Act.put, List.setIfInBounds_toArray, List.set_cons_zero, List.set_cons_succ])
      go_cut [82] (fun v82 wc => ∃ (kq : Nat) (x82_24 : Bool), v82 = .bool x82_24 ∧ Aside0 (lw2_LexTwo.j1 kq a0 a1 t225 t229 t233 x82_24 = some true) ∧ Aside0 (kq ≤ kj2) ∧ Aside0 (Kd.R k30 30 wc w.heap.size (fun k_ => some k_ ≠ (v231 : Value).ownBlock ∧ some k_ ≠ (v235 : Value).ownBlock) v227 t225) ∧ Aside0 (Kd.R k30 30 wc w.heap.size (fun k_ => some k_ ≠ (v227 : Value).ownBlock ∧ some k_ ≠ (v235 : Value).ownBlock) v231 t229) ∧ Aside0 (Kd.R k30 30 wc w.heap.size (fun k_ => some k_ ≠ (v227 : Value).ownBlock ∧ some k_ ≠ (v231 : Value).ownBlock) v235 t233) ∧ Aside0 (Below w.heap.size w wc))
      case first =>
       have H := HC25.out
       clear HC25
       by_cases c29 : t226 = 0
       ·rw [if_pos c29] at H
        have c29b0 : (t226 == 0) = true := beq_iff_eq.mpr c29
        have c29b1 : (t226 != 0) = false := bne_eq_false_iff_eq.mpr c29
        clear c29
        (first | rw [c29b0] | (simp only [i64_w, i32_w]; rw [c29b0]) | skip)
        by_cases c30 : t230 = 0
        ·rw [if_pos c30] at H
         have c30b0 : (t230 == 0) = true := beq_iff_eq.mpr c30
         have c30b1 : (t230 != 0) = false := bne_eq_false_iff_eq.mpr c30
         clear c30
         by_cases c31 : t234 = 0
         ·rw [if_pos c31] at H
          have c31b0 : (t234 == 0) = true := beq_iff_eq.mpr c31
          have c31b1 : (t234 != 0) = false := bne_eq_false_iff_eq.mpr c31
          clear c31
          by_cases c32 : (t225.length : Int) = 0
          ·rw [if_pos c32] at H
           have c32b0 : ((t225.length : Int) == 0) = true := beq_iff_eq.mpr c32
           have c32b1 : ((t225.length : Int) != 0) = false := bne_eq_false_iff_eq.mpr c32
           clear c32
           have H' := Aside0.mk H
           clear H
           obtain ⟨Ao33, co33, eo33⟩ := Kd.R_slice HO228.out
           subst eo33
           go_wp2
           repeat (go_quiet (fail); try go_wp2)
           go_meet
           case rel => exact ⟨_, (true), (by first | rfl | (simp; done) | (simp [*]; done)), H', ⟨by have := HJ2.out; first | omega | exact Nat.le_refl _⟩, ⟨by (with_reducible repeat (first | apply Kd.R_alloc | apply Kd.R_drewN | apply Kd.R_drew)); exact Kd.R_mono HO228.out (fun _ hk => ⟨hk.1.2, hk.2⟩)⟩, ⟨by (with_reducible repeat (first | apply Kd.R_alloc | apply Kd.R_drewN | apply Kd.R_drew)); exact Kd.R_mono HO232.out (fun _ hk => ⟨hk.1.2, hk.2⟩)⟩, ⟨by (with_reducible repeat (first | apply Kd.R_alloc | apply Kd.R_drewN | apply Kd.R_drew)); exact Kd.R_mono HO236.out (fun _ hk => ⟨hk.1.2, hk.2⟩)⟩, ⟨by repeat (first | (with_reducible first | exact HB.out | apply below_alloc | apply pw_below_drewN | apply below_drew1) | exact HB.out)⟩⟩
          ·rw [if_neg c32] at H
           have c32b0 : ((t225.length : Int) == 0) = false := beq_eq_false_iff_ne.mpr c32
           have c32b1 : ((t225.length : Int) != 0) = true := bne_iff_ne.mpr c32
           have c32b2 : ¬ (t225 = []) := fun h_ => c32 (by rw [h_]; rfl)
           have H' := Aside0.mk H
           clear H
           obtain ⟨Ao34, co34, eo34⟩ := Kd.R_slice HO228.out
           subst eo34
           obtain ⟨Ao35, co35, eo35⟩ := Kd.R_slice HO232.out
           subst eo35
           go_wp2
           repeat (go_quiet (fail); try go_wp2)
           go_meet
           case rel => exact ⟨_, (((t229.length : Int) == 0)), (by first | rfl | (simp; done) | (simp [*]; done)), H', ⟨by have := HJ2.out; first | omega | exact Nat.le_refl _⟩, ⟨by (with_reducible repeat (first | apply Kd.R_alloc | apply Kd.R_drewN | apply Kd.R_drew)); exact Kd.R_mono HO228.out (fun _ hk => ⟨hk.1.2, hk.2⟩)⟩, ⟨by (with_reducible repeat (first | apply Kd.R_alloc | apply Kd.R_drewN | apply Kd.R_drew)); exact Kd.R_mono HO232.out (fun _ hk => ⟨hk.1.2, hk.2⟩)⟩, ⟨by (with_reducible repeat (first | apply Kd.R_alloc | apply Kd.R_drewN | apply Kd.R_drew)); exact Kd.R_mono HO236.out (fun _ hk => ⟨hk.1.2, hk.2⟩)⟩, ⟨by repeat (first | (with_reducible first | exact HB.out | apply below_alloc | apply pw_below_drewN | apply below_drew1) | exact HB.out)⟩⟩
         ·rw [if_neg c31] at H
          have c31b0 : (t234 == 0) = false := beq_eq_false_iff_ne.mpr c31
          have c31b1 : (t234 != 0) = true := bne_iff_ne.mpr c31
          have H' := Aside0.mk H
          clear H
          go_wp2
          repeat (go_quiet (fail); try go_wp2)
          go_meet
          case rel => exact ⟨_, (true), (by first | rfl | (simp; done) | (simp [*]; done)), H', ⟨by have := HJ2.out; first | omega | exact Nat.le_refl _⟩, ⟨by (with_reducible repeat (first | apply Kd.R_alloc | apply Kd.R_drewN | apply Kd.R_drew)); exact Kd.R_mono HO228.out (fun _ hk => ⟨hk.1.2, hk.2⟩)⟩, ⟨by (with_reducible repeat (first | apply Kd.R_alloc | apply Kd.R_drewN | apply Kd.R_drew)); exact Kd.R_mono HO232.out (fun _ hk => ⟨hk.1.2, hk.2⟩)⟩, ⟨by (with_reducible repeat (first | apply Kd.R_alloc | apply Kd.R_drewN | apply Kd.R_drew)); exact Kd.R_mono HO236.out (fun _ hk => ⟨hk.1.2, hk.2⟩)⟩, ⟨by repeat (first | (with_reducible first | exact HB.out | apply below_alloc | apply pw_below_drewN | apply below_drew1) | exact HB.out)⟩⟩
        ·rw [if_neg c30] at H
         have c30b0 : (t230 == 0) = false := beq_eq_false_iff_ne.mpr c30
         have c30b1 : (t230 != 0) = true := bne_iff_ne.mpr c30
         have H' := Aside0.mk H
         clear H
         go_wp2
         repeat (go_quiet (fail); try go_wp2)
         go_meet
         case rel => exact ⟨_, (true), (by first | rfl | (simp; done) | (simp [*]; done)), H', ⟨by have := HJ2.out; first | omega | exact Nat.le_refl _⟩, ⟨by (with_reducible repeat (first | apply Kd.R_alloc | apply Kd.R_drewN | apply Kd.R_drew)); exact Kd.R_mono HO228.out (fun _ hk => ⟨hk.1.2, hk.2⟩)⟩, ⟨by (with_reducible repeat (first | apply Kd.R_alloc | apply Kd.R_drewN | apply Kd.R_drew)); exact Kd.R_mono HO232.out (fun _ hk => ⟨hk.1.2, hk.2⟩)⟩, ⟨by (with_reducible repeat (first | apply Kd.R_alloc | apply Kd.R_drewN | apply Kd.R_drew)); exact Kd.R_mono HO236.out (fun _ hk => ⟨hk.1.2, hk.2⟩)⟩, ⟨by repeat (first | (with_reducible first | exact HB.out | apply below_alloc | apply pw_below_drewN | apply below_drew1) | exact HB.out)⟩⟩
       ·rw [if_neg c29] at H
        have c29b0 : (t226 == 0) = false := beq_eq_false_iff_ne.mpr c29
        have c29b1 : (t226 != 0) = true := bne_iff_ne.mpr c29
        (first | rw [c29b0] | (simp only [i64_w, i32_w]; rw [c29b0]) | skip)
        have H' := Aside0.mk H
        clear H
        go_wp2
        repeat (go_quiet (fail); try go_wp2)
        go_meet
        case rel => exact ⟨_, (true), (by first | rfl | (simp; done) | (simp [*]; done)), H', ⟨by have := HJ2.out; first | omega | exact Nat.le_refl _⟩, ⟨by (with_reducible repeat (first | apply Kd.R_alloc | apply Kd.R_drewN | apply Kd.R_drew)); exact Kd.R_mono HO228.out (fun _ hk => ⟨hk.1.2, hk.2⟩)⟩, ⟨by (with_reducible repeat (first | apply Kd.R_alloc | apply Kd.R_drewN | apply Kd.R_drew)); exact Kd.R_mono HO232.out (fun _ hk => ⟨hk.1.2, hk.2⟩)⟩, ⟨by (with_reducible repeat (first | apply Kd.R_alloc | apply Kd.R_drewN | apply Kd.R_drew)); exact Kd.R_mono HO236.out (fun _ hk => ⟨hk.1.2, hk.2⟩)⟩, ⟨by repeat (first | (with_reducible first | exact HB.out | apply below_alloc | apply pw_below_drewN | apply below_drew1) | exact HB.out)⟩⟩
      case rest =>
       clear HC25
       try clear c1
       try clear p1
       try clear q1
       try clear hx1
       try clear c2
       try clear p2
       try clear c3
       try clear c4
       try clear c4b0
       try clear c5
       try clear c5b0
       try clear c5b1
       try clear p6
       try clear c9
       try clear c9b0
       try clear c10
       try clear c10b0
       try clear p11
       try clear q11
       try clear hx11
       try clear c12
       try clear c12b0
       try clear c12b1
       try clear p13
       try clear q13
       try clear hx13
       try clear c14
       try clear c14b0
       try clear c14b1
       try clear c17
       try clear c22
       try clear c22b0
       try clear c22b1
       try clear c22b2
       try clear c23
       try clear c23b0
       try clear c23b1
       try clear c23b2
       try clear c29
       try clear c29b0
       try clear c29b1
       try clear c30
       try clear c30b0
       try clear c30b1
       try clear c31
       try clear c31b0
       try clear c31b1
       try clear c32
       try clear c32b0
       try clear c32b1
       try clear c32b2
       try clear p1
       try clear p11
       try clear p13
       try clear p2
       try clear p6
       try clear q1
       try clear q11
       try clear q13
       obtain ⟨kq, x82_24, rfl, HA, HJ24, HO_5, HO_7, HO_9, HB⟩ := hcut
       cases kq with
       | zero => exact absurd HA.out (by simp [lw2_LexTwo.j1])
       | succ kj24 =>
        have H := HA.out
        clear HA
        simp only [lw2_LexTwo.j1] at H
        by_cases c36 : x82_24 = true
        ·subst c36
         have H1 : (if (wrap64 ((a0.size : Int) + (a1.size : Int))) > 10000 then ((lw2_awake.f).bind fun t237 => (some t237)) else (some false)) = some true := by rw [if_pos rfl] at H; exact H
         clear H
         have H := H1
         clear H1
         by_cases c37 : (wrap64 ((a0.size : Int) + (a1.size : Int))) > 10000
         ·rw [if_pos c37] at H
          have c37b0 : decide (10000 < (wrap64 ((a0.size : Int) + (a1.size : Int)))) = true := decide_eq_true c37
          clear c37
          replace H := Option.bind_eq_some_iff.mp H
          obtain ⟨t237, A380, H⟩ := H
          replace H : (some t237) = some true := H
          have A38 := Aside0.mk A380
          clear A380
          obtain rfl := Option.some.inj H
          go_wp2_with (first | (go_at_call 13; (with_reducible refine (lw2_awake.calls  true _ ?side1 A38.out).mono ?_); (case side1 => exact Glob.below HGl.out (by repeat (first | (with_reducible first | exact HB.out | apply below_alloc | apply pw_below_drewN | apply below_drew1) | exact HB.out))); rintro e w39 ⟨rfl, hb⟩; have n0_ := Aside0.mk (Kd.R_below (by (with_reducible repeat (first | apply Kd.R_alloc | apply Kd.R_drewN | apply Kd.R_drew)); exact HO_5.out) hb); have n1_ := Aside0.mk (Kd.R_below (by (with_reducible repeat (first | apply Kd.R_alloc | apply Kd.R_drewN | apply Kd.R_drew)); exact HO_7.out) hb); have n2_ := Aside0.mk (Kd.R_below (by (with_reducible repeat (first | apply Kd.R_alloc | apply Kd.R_drewN | apply Kd.R_drew)); exact HO_9.out) hb); have n3_ := Aside0.mk (below_step (by repeat (first | (with_reducible first | exact HB.out | apply below_alloc | apply pw_below_drewN | apply below_drew1) | exact HB.out)) hb); clear HO_5; clear HO_7; clear HO_9; clear HB; have HO_5 := n0_; have HO_7 := n1_; have HO_9 := n2_; have HB := n3_; clear n0_ n1_ n2_ n3_; (try clear hb); (try clear hb2); (try clear hk); (try clear hi)))
          repeat (go_quiet (first | (go_at_call 13; (with_reducible refine (lw2_awake.calls  true _ ?side1 A38.out).mono ?_); (case side1 => exact Glob.below HGl.out (by repeat (first | (with_reducible first | exact HB.out | apply below_alloc | apply pw_below_drewN | apply below_drew1) | exact HB.out))); rintro e w39 ⟨rfl, hb⟩; have n0_ := Aside0.mk (Kd.R_below (by (with_reducible repeat (first | apply Kd.R_alloc | apply Kd.R_drewN | apply Kd.R_drew)); exact HO_5.out) hb); have n1_ := Aside0.mk (Kd.R_below (by (with_reducible repeat (first | apply Kd.R_alloc | apply Kd.R_drewN | apply Kd.R_drew)); exact HO_7.out) hb); have n2_ := Aside0.mk (Kd.R_below (by (with_reducible repeat (first | apply Kd.R_alloc | apply Kd.R_drewN | apply Kd.R_drew)); exact HO_9.out) hb); have n3_ := Aside0.mk (below_step (by repeat (first | (with_reducible first | exact HB.out | apply below_alloc | apply pw_below_drewN | apply below_drew1) | exact HB.out)) hb); clear HO_5; clear HO_7; clear HO_9; clear HB; have HO_5 := n0_; have HO_7 := n1_; have HO_9 := n2_; have HB := n3_; clear n0_ n1_ n2_ n3_; (try clear hb); (try clear hb2); (try clear hk); (try clear hi))); try go_wp2_with (first | (go_at_call 13; (with_reducible refine (lw2_awake.calls  true _ ?side1 A38.out).mono ?_); (case side1 => exact Glob.below HGl.out (by repeat (first | (with_reducible first | exact HB.out | apply below_alloc | apply pw_below_drewN | apply below_drew1) | exact HB.out))); rintro e w39 ⟨rfl, hb⟩; have n0_ := Aside0.mk (Kd.R_below (by (with_reducible repeat (first | apply Kd.R_alloc | apply Kd.R_drewN | apply Kd.R_drew)); exact HO_5.out) hb); have n1_ := Aside0.mk (Kd.R_below (by (with_reducible repeat (first | apply Kd.R_alloc | apply Kd.R_drewN | apply Kd.R_drew)); exact HO_7.out) hb); have n2_ := Aside0.mk (Kd.R_below (by (with_reducible repeat (first | apply Kd.R_alloc | apply Kd.R_drewN | apply Kd.R_drew)); exact HO_9.out) hb); have n3_ := Aside0.mk (below_step (by repeat (first | (with_reducible first | exact HB.out | apply below_alloc | apply pw_below_drewN | apply below_drew1) | exact HB.out)) hb); clear HO_5; clear HO_7; clear HO_9; clear HB; have HO_5 := n0_; have HO_7 := n1_; have HO_9 := n2_; have HB := n3_; clear n0_ n1_ n2_ n3_; (try clear hb); (try clear hb2); (try clear hk); (try clear hi))))
          go_ret
          exact ⟨by first | rfl | (simp [errW_none, errW_some] <;> rfl) | (simp [*, errW_none, errW_some] <;> rfl), by repeat (first | (with_reducible first | exact HB.out | apply below_alloc | apply pw_below_drewN | apply below_drew1) | exact HB.out)⟩
         ·rw [if_neg c37] at H
          have c37b0 : decide (10000 < (wrap64 ((a0.size : Int) + (a1.size : Int)))) = false := decide_eq_false c37
          clear c37
          exact absurd H (by simp)
        ·replace c36 := Bool.eq_false_iff.mpr c36
         subst c36
         have H1 : (if (t233.length : Int) = (wrap64 ((wrap64 ((t225.length : Int) + (t229.length : Int))) - 1)) then (lw2_LexTwo.l0 kj24 a0 t225 t229 t233 0) else (some false)) = some true := by rw [if_neg (show ¬ (false = true) by decide)] at H; exact H
         clear H
         have H := H1
         clear H1
         by_cases c40 : (t233.length : Int) = (wrap64 ((wrap64 ((t225.length : Int) + (t229.length : Int))) - 1))
         ·rw [if_pos c40] at H
          have c40b0 : ((t233.length : Int) == (wrap64 ((wrap64 ((t225.length : Int) + (t229.length : Int))) - 1))) = true := beq_iff_eq.mpr c40
          have c40b1 : ((t233.length : Int) != (wrap64 ((wrap64 ((t225.length : Int) + (t229.length : Int))) - 1))) = false := bne_eq_false_iff_eq.mpr c40
          clear c40
          have H' := Aside0.mk H
          clear H
          obtain ⟨Ao41, co41, eo41⟩ := Kd.R_slice HO_9.out
          subst eo41
          obtain ⟨Ao42, co42, eo42⟩ := Kd.R_slice HO_5.out
          subst eo42
          obtain ⟨Ao43, co43, eo43⟩ := Kd.R_slice HO_7.out
          subst eo43
          go_wp2
          repeat (go_quiet (fail); try go_wp2)
          try simp only [Act.put, List.setIfInBounds_toArray, List.set_cons_succ, List.set_cons_zero]
          go_loopg [11] kj24 (fun kq v11 w' => ∃ (x11_3 : Int), v11 = .int .i64 x11_3 ∧ Aside0 (lw2_LexTwo.l0 kq a0 t225 t229 t233 x11_3 = some true) ∧ Aside0 (kq ≤ kj24) ∧ Aside0 (Kd.R k30 30 w' w.heap.size (fun k_ => some k_ ≠ ((.slice Ao43 t229.length co43) : Value).ownBlock ∧ some k_ ≠ ((.slice Ao41 t233.length co41) : Value).ownBlock) (.slice Ao42 t225.length co42) t225) ∧ Aside0 (Kd.R k30 30 w' w.heap.size (fun k_ => some k_ ≠ ((.slice Ao42 t225.length co42) : Value).ownBlock ∧ some k_ ≠ ((.slice Ao41 t233.length co41) : Value).ownBlock) (.slice Ao43 t229.length co43) t229) ∧ Aside0 (Kd.R k30 30 w' w.heap.size (fun k_ => some k_ ≠ ((.slice Ao42 t225.length co42) : Value).ownBlock ∧ some k_ ≠ ((.slice Ao43 t229.length co43) : Value).ownBlock) (.slice Ao41 t233.length co41) t233) ∧ Aside0 (Below w.heap.size w w'))
          case atStart => exact ⟨(0), (by first | rfl | (simp; done) | (simp [*]; done)), H', ⟨Nat.le_refl _⟩, ⟨by (with_reducible repeat (first | apply Kd.R_alloc | apply Kd.R_drewN | apply Kd.R_drew)); exact HO_5.out⟩, ⟨by (with_reducible repeat (first | apply Kd.R_alloc | apply Kd.R_drewN | apply Kd.R_drew)); exact HO_7.out⟩, ⟨by (with_reducible repeat (first | apply Kd.R_alloc | apply Kd.R_drewN | apply Kd.R_drew)); exact HO_9.out⟩, ⟨by repeat (first | (with_reducible first | exact HB.out | apply below_alloc | apply pw_below_drewN | apply below_drew1) | exact HB.out)⟩⟩
          case round =>
           clear H'
           try clear c1
           try clear p1
           try clear q1
           try clear hx1
           try clear c2
           try clear p2
           try clear c3
           try clear c4
           try clear c4b0
           try clear c5
           try clear c5b0
           try clear c5b1
           try clear p6
           try clear c9
           try clear c9b0
           try clear c10
           try clear c10b0
           try clear p11
           try clear q11
           try clear hx11
           try clear c12
           try clear c12b0
           try clear c12b1
           try clear p13
           try clear q13
           try clear hx13
           try clear c14
           try clear c14b0
           try clear c14b1
           try clear c17
           try clear c22
           try clear c22b0
           try clear c22b1
           try clear c22b2
           try clear c23
           try clear c23b0
           try clear c23b1
           try clear c23b2
           try clear c29
           try clear c29b0
           try clear c29b1
           try clear c30
           try clear c30b0
           try clear c30b1
           try clear c31
           try clear c31b0
           try clear c31b1
           try clear c32
           try clear c32b0
           try clear c32b1
           try clear c32b2
           try clear c36
           try clear c37
           try clear c37b0
           try clear c40
           try clear c40b0
           try clear c40b1
           try clear p1
           try clear p11
           try clear p13
           try clear p2
           try clear p6
           try clear q1
           try clear q11
           try clear q13
           obtain ⟨x11_3, rfl, HA, HK3, HO_5, HO_7, HO_9, HB⟩ := hrel
           cases gk with
           | zero => exact absurd HA.out (by simp [lw2_LexTwo.l0])
           | succ k3 =>
            have H := HA.out
            clear HA
            simp only [lw2_LexTwo.l0] at H
            by_cases c44 : x11_3 < (t233.length : Int)
            ·rw [if_pos c44] at H
             have c44b0 : decide (x11_3 < (t233.length : Int)) = true := decide_eq_true c44
             clear c44
             by_cases c45 : (wrap64 (x11_3 - (wrap64 ((t225.length : Int) - 1)))) < 0
             ·rw [if_pos c45] at H
              have c45b0 : decide ((wrap64 (x11_3 - (wrap64 ((t225.length : Int) - 1)))) < 0) = true := decide_eq_true c45
              clear c45
              by_cases c46 : 0 ≤ x11_3
              ·rw [if_pos c46] at H
               have c46b0 : decide (0 ≤ x11_3) = true := decide_eq_true c46
               clear c46
               by_cases c47 : x11_3 < (t225.length : Int)
               ·rw [if_pos c47] at H
                have c47b0 : decide (x11_3 < (t225.length : Int)) = true := decide_eq_true c47
                clear c47
                by_cases c48 : (!(((rd_T30 t233 x11_3).f0) == ((rd_T30 t225 x11_3).f0)) || (!((((rd_T30 t233 x11_3).f1).toList) == (((rd_T30 t225 x11_3).f1).toList)) || (!((((rd_T30 t233 x11_3).f2).toList) == (((rd_T30 t225 x11_3).f2).toList)) || (!(((rd_T30 t233 x11_3).f3) == ((rd_T30 t225 x11_3).f3)))))) = true
                ·rw [if_pos c48] at H
                 have c48b0 : (!(((rd_T30 t233 x11_3).f0) == ((rd_T30 t225 x11_3).f0)) || (!((((rd_T30 t233 x11_3).f1).toList) == (((rd_T30 t225 x11_3).f1).toList)) || (!((((rd_T30 t233 x11_3).f2).toList) == (((rd_T30 t225 x11_3).f2).toList)) || (!(((rd_T30 t233 x11_3).f3) == ((rd_T30 t225 x11_3).f3)))))) = true := c48
                 clear c48
                 exact absurd H (by simp)
                ·rw [if_neg c48] at H
                 have c48b0 : (!(((rd_T30 t233 x11_3).f0) == ((rd_T30 t225 x11_3).f0)) || (!((((rd_T30 t233 x11_3).f1).toList) == (((rd_T30 t225 x11_3).f1).toList)) || (!((((rd_T30 t233 x11_3).f2).toList) == (((rd_T30 t225 x11_3).f2).toList)) || (!(((rd_T30 t233 x11_3).f3) == ((rd_T30 t225 x11_3).f3)))))) = false := by simpa using c48
                 clear c48
                 have H' := Aside0.mk H
                 clear H
                 have p239 : 0 ≤ (x11_3 : Int) := of_decide_eq_true (by first | (with_reducible assumption) | assumption)
                 have q239 : x11_3 < (t233.length : Int) := of_decide_eq_true (by first | (with_reducible assumption) | assumption)
                 obtain ⟨ad239, e239, hx239_0, hx239_1, hx239_2, hx239_3⟩ := at_T30 (Kd.R_reads' HO_9.out).2.2 x11_3 p239 q239
                 cases e239
                 replace p239 := eq_true p239
                 replace q239 := eq_true q239
                 have p240 : 0 ≤ (x11_3 : Int) := of_decide_eq_true (by first | (with_reducible assumption) | assumption)
                 have q240 : x11_3 < (t225.length : Int) := of_decide_eq_true (by first | (with_reducible assumption) | assumption)
                 obtain ⟨ad240, e240, hx240_0, hx240_1, hx240_2, hx240_3⟩ := at_T30 (Kd.R_reads' HO_5.out).2.2 x11_3 p240 q240
                 cases e240
                 replace p240 := eq_true p240
                 replace q240 := eq_true q240
                 go_wp2
                 repeat (go_quiet (fail); try go_wp2)
                 go_roundg k3
                 case measure => have := HJ2.out; have := HJ24.out; have := HK3.out; omega
                 case rel => exact ⟨(wrap64 (x11_3 + 1)), (by first | rfl | (simp; done) | (simp [*]; done)), H', ⟨by have := HJ2.out; have := HJ24.out; have := HK3.out; omega⟩, ⟨by (with_reducible repeat (first | apply Kd.R_alloc | apply Kd.R_drewN | apply Kd.R_drew)); exact HO_5.out⟩, ⟨by (with_reducible repeat (first | apply Kd.R_alloc | apply Kd.R_drewN | apply Kd.R_drew)); exact HO_7.out⟩, ⟨by (with_reducible repeat (first | apply Kd.R_alloc | apply Kd.R_drewN | apply Kd.R_drew)); exact HO_9.out⟩, ⟨by repeat (first | (with_reducible first | exact HB.out | apply below_alloc | apply pw_below_drewN | apply below_drew1) | exact HB.out)⟩⟩
               ·rw [if_neg c47] at H
                exact absurd H (by simp)
              ·rw [if_neg c46] at H
               exact absurd H (by simp)
             ·rw [if_neg c45] at H
              have c45b0 : decide ((wrap64 (x11_3 - (wrap64 ((t225.length : Int) - 1)))) < 0) = false := decide_eq_false c45
              clear c45
              obtain ⟨ji49, hji49⟩ : ∃ j_ : Int, (wrap64 (x11_3 - (wrap64 ((t225.length : Int) - 1)))) = j_ := ⟨_, rfl⟩
              replace H : (if 0 ≤ (ji49) then (if (ji49) < (t229.length : Int) then (if (ji49) = 0 then (if 0 ≤ (wrap64 ((t225.length : Int) - 1)) then (if (wrap64 ((t225.length : Int) - 1)) < (t225.length : Int) then (if ((rd_T30 t225 (wrap64 ((t225.length : Int) - 1))).f1).size + 1 ≤ 9223372036854775807 then (if (((rd_T30 t225 (wrap64 ((t225.length : Int) - 1))).f1) ++ (⟨#[10]⟩ : ByteArray)).size + ((rd_T30 t229 (ji49)).f1).size ≤ 9223372036854775807 then (if 0 ≤ x11_3 then (if ((rd_T30 t233 x11_3).f0) = ((rd_T30 t229 (ji49)).f0) then (if ((rd_T30 t233 x11_3).f2).toList = ((rd_T30 t229 (ji49)).f2).toList then (if ((rd_T30 t233 x11_3).f1).toList = ((((rd_T30 t225 (wrap64 ((t225.length : Int) - 1))).f1) ++ (⟨#[10]⟩ : ByteArray)) ++ ((rd_T30 t229 (ji49)).f1)).toList then (if ((rd_T30 t233 x11_3).f3) = (wrap64 ((wrap64 (((rd_T30 t229 (ji49)).f3) + (a0.size : Int))) + 1)) then (lw2_LexTwo.l0 k3 a0 t225 t229 t233 (wrap64 (x11_3 + 1))) else (some false)) else (some false)) else (some false)) else (some false)) else (none)) else (none)) else (none)) else (none)) else (none)) else (if 0 ≤ x11_3 then (if ((rd_T30 t233 x11_3).f0) = ((rd_T30 t229 (ji49)).f0) then (if ((rd_T30 t233 x11_3).f2).toList = ((rd_T30 t229 (ji49)).f2).toList then (if ((rd_T30 t233 x11_3).f1).toList = ((rd_T30 t229 (ji49)).f1).toList then (if ((rd_T30 t233 x11_3).f3) = (wrap64 ((wrap64 (((rd_T30 t229 (ji49)).f3) + (a0.size : Int))) + 1)) then (lw2_LexTwo.l0 k3 a0 t225 t229 t233 (wrap64 (x11_3 + 1))) else (some false)) else (some false)) else (some false)) else (some false)) else (none))) else (none)) else (none)) = some true := by first | (rw [hji49] at H; exact H) | (simp only [hji49] at H ⊢; exact H)
              (try rw [hji49] at c45b0)
              have hji49w : (IntKind.i64.wrap (x11_3 - (wrap64 ((t225.length : Int) - 1)))) = ji49 := (i64_w _).trans hji49
              by_cases c50 : 0 ≤ (ji49)
              ·rw [if_pos c50] at H
               have c50b0 : decide (0 ≤ (ji49)) = true := decide_eq_true c50
               clear c50
               by_cases c51 : (ji49) < (t229.length : Int)
               ·rw [if_pos c51] at H
                have c51b0 : decide ((ji49) < (t229.length : Int)) = true := decide_eq_true c51
                clear c51
                by_cases c52 : (ji49) = 0
                ·rw [if_pos c52] at H
                 have c52b0 : ((ji49) == 0) = true := beq_iff_eq.mpr c52
                 have c52b1 : ((ji49) != 0) = false := bne_eq_false_iff_eq.mpr c52
                 clear c52
                 obtain ⟨ji53, hji53⟩ : ∃ j_ : Int, (wrap64 ((t225.length : Int) - 1)) = j_ := ⟨_, rfl⟩
                 replace H : (if 0 ≤ (ji53) then (if (ji53) < (t225.length : Int) then (if ((rd_T30 t225 (ji53)).f1).size + 1 ≤ 9223372036854775807 then (if (((rd_T30 t225 (ji53)).f1) ++ (⟨#[10]⟩ : ByteArray)).size + ((rd_T30 t229 (ji49)).f1).size ≤ 9223372036854775807 then (if 0 ≤ x11_3 then (if ((rd_T30 t233 x11_3).f0) = ((rd_T30 t229 (ji49)).f0) then (if ((rd_T30 t233 x11_3).f2).toList = ((rd_T30 t229 (ji49)).f2).toList then (if ((rd_T30 t233 x11_3).f1).toList = ((((rd_T30 t225 (ji53)).f1) ++ (⟨#[10]⟩ : ByteArray)) ++ ((rd_T30 t229 (ji49)).f1)).toList then (if ((rd_T30 t233 x11_3).f3) = (wrap64 ((wrap64 (((rd_T30 t229 (ji49)).f3) + (a0.size : Int))) + 1)) then (lw2_LexTwo.l0 k3 a0 t225 t229 t233 (wrap64 (x11_3 + 1))) else (some false)) else (some false)) else (some false)) else (some false)) else (none)) else (none)) else (none)) else (none)) else (none)) = some true := by first | (rw [hji53] at H; exact H) | (simp only [hji53] at H ⊢; exact H)
                 (try rw [hji53] at c45b0)
                 have hji53w : (IntKind.i64.wrap ((t225.length : Int) - 1)) = ji53 := (i64_w _).trans hji53
                 have hji49' : wrap64 (x11_3 - ji53) = ji49 := by rw [← hji53]; exact hji49
                 have hji49w' : IntKind.i64.wrap (x11_3 - ji53) = ji49 := (i64_w _).trans hji49'
                 by_cases c54 : 0 ≤ (ji53)
                 ·rw [if_pos c54] at H
                  have c54b0 : decide (0 ≤ (ji53)) = true := decide_eq_true c54
                  clear c54
                  by_cases c55 : (ji53) < (t225.length : Int)
                  ·rw [if_pos c55] at H
                   have c55b0 : decide ((ji53) < (t225.length : Int)) = true := decide_eq_true c55
                   clear c55
                   by_cases c56 : ((rd_T30 t225 (ji53)).f1).size + 1 ≤ 9223372036854775807
                   ·rw [if_pos c56] at H
                    have c56b0 := eq_true c56
                    have c56b1 : decide (((rd_T30 t225 (ji53)).f1).size + 1 ≤ 9223372036854775807) = true := decide_eq_true c56
                    try have c56b2 : (9223372036854775807 < ((rd_T30 t225 (ji53)).f1).size + 1) = False := eq_false (Nat.not_lt.2 c56)
                    by_cases c57 : (((rd_T30 t225 (ji53)).f1) ++ (⟨#[10]⟩ : ByteArray)).size + ((rd_T30 t229 (ji49)).f1).size ≤ 9223372036854775807
                    ·rw [if_pos c57] at H
                     have c57b0 := eq_true c57
                     have c57b1 : decide ((((rd_T30 t225 (ji53)).f1) ++ (⟨#[10]⟩ : ByteArray)).size + ((rd_T30 t229 (ji49)).f1).size ≤ 9223372036854775807) = true := decide_eq_true c57
                     try have c57b2 : (9223372036854775807 < (((rd_T30 t225 (ji53)).f1) ++ (⟨#[10]⟩ : ByteArray)).size + ((rd_T30 t229 (ji49)).f1).size) = False := eq_false (Nat.not_lt.2 c57)
                     by_cases c58 : 0 ≤ x11_3
                     ·rw [if_pos c58] at H
                      have c58b0 : decide (0 ≤ x11_3) = true := decide_eq_true c58
                      clear c58
                      by_cases c59 : ((rd_T30 t233 x11_3).f0) = ((rd_T30 t229 (ji49)).f0)
                      ·rw [if_pos c59] at H
                       have c59b0 : (((rd_T30 t233 x11_3).f0) == ((rd_T30 t229 (ji49)).f0)) = true := beq_iff_eq.mpr c59
                       have c59b1 : (((rd_T30 t233 x11_3).f0) != ((rd_T30 t229 (ji49)).f0)) = false := bne_eq_false_iff_eq.mpr c59
                       clear c59
                       by_cases c60 : ((rd_T30 t233 x11_3).f2).toList = ((rd_T30 t229 (ji49)).f2).toList
                       ·rw [if_pos c60] at H
                        have c60b0 : (((rd_T30 t233 x11_3).f2).toList == ((rd_T30 t229 (ji49)).f2).toList) = true := beq_iff_eq.mpr c60
                        have c60b1 : (((rd_T30 t233 x11_3).f2).toList != ((rd_T30 t229 (ji49)).f2).toList) = false := bne_eq_false_iff_eq.mpr c60
                        clear c60
                        by_cases c61 : ((rd_T30 t233 x11_3).f1).toList = ((((rd_T30 t225 (ji53)).f1) ++ (⟨#[10]⟩ : ByteArray)) ++ ((rd_T30 t229 (ji49)).f1)).toList
                        ·rw [if_pos c61] at H
                         have c61b0 : (((rd_T30 t233 x11_3).f1).toList == ((((rd_T30 t225 (ji53)).f1) ++ (⟨#[10]⟩ : ByteArray)) ++ ((rd_T30 t229 (ji49)).f1)).toList) = true := beq_iff_eq.mpr c61
                         have c61b1 : (((rd_T30 t233 x11_3).f1).toList != ((((rd_T30 t225 (ji53)).f1) ++ (⟨#[10]⟩ : ByteArray)) ++ ((rd_T30 t229 (ji49)).f1)).toList) = false := bne_eq_false_iff_eq.mpr c61
                         clear c61
                         by_cases c62 : ((rd_T30 t233 x11_3).f3) = (wrap64 ((wrap64 (((rd_T30 t229 (ji49)).f3) + (a0.size : Int))) + 1))
                         ·rw [if_pos c62] at H
                          have c62b0 : (((rd_T30 t233 x11_3).f3) == (wrap64 ((wrap64 (((rd_T30 t229 (ji49)).f3) + (a0.size : Int))) + 1))) = true := beq_iff_eq.mpr c62
                          have c62b1 : (((rd_T30 t233 x11_3).f3) != (wrap64 ((wrap64 (((rd_T30 t229 (ji49)).f3) + (a0.size : Int))) + 1))) = false := bne_eq_false_iff_eq.mpr c62
                          clear c62
                          have H' := Aside0.mk H
                          clear H
                          have p241 : 0 ≤ ((ji49) : Int) := of_decide_eq_true (by first | (with_reducible assumption) | assumption)
                          have q241 : (ji49) < (t229.length : Int) := of_decide_eq_true (by first | (with_reducible assumption) | assumption)
                          obtain ⟨ad241, e241, hx241_0, hx241_1, hx241_2, hx241_3⟩ := at_T30 (Kd.R_reads' HO_7.out).2.2 (ji49) p241 q241
                          cases e241
                          replace p241 := eq_true p241
                          replace q241 := eq_true q241
                          have p242 : 0 ≤ ((ji53) : Int) := of_decide_eq_true (by first | (with_reducible assumption) | assumption)
                          have q242 : (ji53) < (t225.length : Int) := of_decide_eq_true (by first | (with_reducible assumption) | assumption)
                          obtain ⟨ad242, e242, hx242_0, hx242_1, hx242_2, hx242_3⟩ := at_T30 (Kd.R_reads' HO_5.out).2.2 (ji53) p242 q242
                          cases e242
                          replace p242 := eq_true p242
                          replace q242 := eq_true q242
                          have p243 : 0 ≤ (x11_3 : Int) := of_decide_eq_true (by first | (with_reducible assumption) | assumption)
                          have q243 : x11_3 < (t233.length : Int) := of_decide_eq_true (by first | (with_reducible assumption) | assumption)
                          obtain ⟨ad243, e243, hx243_0, hx243_1, hx243_2, hx243_3⟩ := at_T30 (Kd.R_reads' HO_9.out).2.2 x11_3 p243 q243
                          cases e243
                          replace p243 := eq_true p243
                          replace q243 := eq_true q243
                          have p244 : 0 ≤ ((ji49) : Int) := of_decide_eq_true (by first | (with_reducible assumption) | assumption)
                          have q244 : (ji49) < (t229.length : Int) := of_decide_eq_true (by first | (with_reducible assumption) | assumption)
                          obtain ⟨ad244, e244, hx244_0, hx244_1, hx244_2, hx244_3⟩ := at_T30 (Kd.R_reads' HO_7.out).2.2 (ji49) p244 q244
                          obtain rfl : ad241 = ad244 := (by injection e244)
                          replace p244 := eq_true p244
                          replace q244 := eq_true q244
                          have p245 : 0 ≤ (x11_3 : Int) := of_decide_eq_true (by first | (with_reducible assumption) | assumption)
                          have q245 : x11_3 < (t233.length : Int) := of_decide_eq_true (by first | (with_reducible assumption) | assumption)
                          obtain ⟨ad245, e245, hx245_0, hx245_1, hx245_2, hx245_3⟩ := at_T30 (Kd.R_reads' HO_9.out).2.2 x11_3 p245 q245
                          obtain rfl : ad243 = ad245 := (by injection e245)
                          replace p245 := eq_true p245
                          replace q245 := eq_true q245
                          have p246 : 0 ≤ ((ji49) : Int) := of_decide_eq_true (by first | (with_reducible assumption) | assumption)
                          have q246 : (ji49) < (t229.length : Int) := of_decide_eq_true (by first | (with_reducible assumption) | assumption)
                          obtain ⟨ad246, e246, hx246_0, hx246_1, hx246_2, hx246_3⟩ := at_T30 (Kd.R_reads' HO_7.out).2.2 (ji49) p246 q246
                          obtain rfl : ad241 = ad246 := (by injection e246)
                          replace p246 := eq_true p246
                          replace q246 := eq_true q246
                          have p247 : 0 ≤ (x11_3 : Int) := of_decide_eq_true (by first | (with_reducible assumption) | assumption)
                          have q247 : x11_3 < (t233.length : Int) := of_decide_eq_true (by first | (with_reducible assumption) | assumption)
                          obtain ⟨ad247, e247, hx247_0, hx247_1, hx247_2, hx247_3⟩ := at_T30 (Kd.R_reads' HO_9.out).2.2 x11_3 p247 q247
                          obtain rfl : ad243 = ad247 := (by injection e247)
                          replace p247 := eq_true p247
                          replace q247 := eq_true q247
                          have p248 : 0 ≤ (x11_3 : Int) := of_decide_eq_true (by first | (with_reducible assumption) | assumption)
                          have q248 : x11_3 < (t233.length : Int) := of_decide_eq_true (by first | (with_reducible assumption) | assumption)
                          obtain ⟨ad248, e248, hx248_0, hx248_1, hx248_2, hx248_3⟩ := at_T30 (Kd.R_reads' HO_9.out).2.2 x11_3 p248 q248
                          obtain rfl : ad243 = ad248 := (by injection e248)
                          replace p248 := eq_true p248
                          replace q248 := eq_true q248
                          have p249 : 0 ≤ ((ji49) : Int) := of_decide_eq_true (by first | (with_reducible assumption) | assumption)
                          have q249 : (ji49) < (t229.length : Int) := of_decide_eq_true (by first | (with_reducible assumption) | assumption)
                          obtain ⟨ad249, e249, hx249_0, hx249_1, hx249_2, hx249_3⟩ := at_T30 (Kd.R_reads' HO_7.out).2.2 (ji49) p249 q249
                          obtain rfl : ad241 = ad249 := (by injection e249)
                          replace p249 := eq_true p249
                          replace q249 := eq_true q249
                          go_wp2
                          repeat (go_quiet (fail); try go_wp2)
                          go_roundg k3
                          case measure => have := HJ2.out; have := HJ24.out; have := HK3.out; omega
                          case rel => exact ⟨(wrap64 (x11_3 + 1)), (by first | rfl | (simp; done) | (simp [*]; done)), H', ⟨by have := HJ2.out; have := HJ24.out; have := HK3.out; omega⟩, ⟨by (with_reducible repeat (first | apply Kd.R_alloc | apply Kd.R_drewN | apply Kd.R_drew)); exact HO_5.out⟩, ⟨by (with_reducible repeat (first | apply Kd.R_alloc | apply Kd.R_drewN | apply Kd.R_drew)); exact HO_7.out⟩, ⟨by (with_reducible repeat (first | apply Kd.R_alloc | apply Kd.R_drewN | apply Kd.R_drew)); exact HO_9.out⟩, ⟨by repeat (first | (with_reducible first | exact HB.out | apply below_alloc | apply pw_below_drewN | apply below_drew1) | exact HB.out)⟩⟩
                         ·rw [if_neg c62] at H
                          have c62b0 : (((rd_T30 t233 x11_3).f3) == (wrap64 ((wrap64 (((rd_T30 t229 (ji49)).f3) + (a0.size : Int))) + 1))) = false := beq_eq_false_iff_ne.mpr c62
                          have c62b1 : (((rd_T30 t233 x11_3).f3) != (wrap64 ((wrap64 (((rd_T30 t229 (ji49)).f3) + (a0.size : Int))) + 1))) = true := bne_iff_ne.mpr c62
                          exact absurd H (by simp)
                        ·rw [if_neg c61] at H
                         have c61b0 : (((rd_T30 t233 x11_3).f1).toList == ((((rd_T30 t225 (ji53)).f1) ++ (⟨#[10]⟩ : ByteArray)) ++ ((rd_T30 t229 (ji49)).f1)).toList) = false := beq_eq_false_iff_ne.mpr c61
                         have c61b1 : (((rd_T30 t233 x11_3).f1).toList != ((((rd_T30 t225 (ji53)).f1) ++ (⟨#[10]⟩ : ByteArray)) ++ ((rd_T30 t229 (ji49)).f1)).toList) = true := bne_iff_ne.mpr c61
                         exact absurd H (by simp)
                       ·rw [if_neg c60] at H
                        have c60b0 : (((rd_T30 t233 x11_3).f2).toList == ((rd_T30 t229 (ji49)).f2).toList) = false := beq_eq_false_iff_ne.mpr c60
                        have c60b1 : (((rd_T30 t233 x11_3).f2).toList != ((rd_T30 t229 (ji49)).f2).toList) = true := bne_iff_ne.mpr c60
                        exact absurd H (by simp)
                      ·rw [if_neg c59] at H
                       have c59b0 : (((rd_T30 t233 x11_3).f0) == ((rd_T30 t229 (ji49)).f0)) = false := beq_eq_false_iff_ne.mpr c59
                       have c59b1 : (((rd_T30 t233 x11_3).f0) != ((rd_T30 t229 (ji49)).f0)) = true := bne_iff_ne.mpr c59
                       exact absurd H (by simp)
                     ·rw [if_neg c58] at H
                      exact absurd H (by simp)
                    ·rw [if_neg c57] at H
                     exact absurd H (by simp)
                   ·rw [if_neg c56] at H
                    exact absurd H (by simp)
                  ·rw [if_neg c55] at H
                   exact absurd H (by simp)
                 ·rw [if_neg c54] at H
                  exact absurd H (by simp)
                ·rw [if_neg c52] at H
                 have c52b0 : ((ji49) == 0) = false := beq_eq_false_iff_ne.mpr c52
                 have c52b1 : ((ji49) != 0) = true := bne_iff_ne.mpr c52
                 by_cases c63 : 0 ≤ x11_3
                 ·rw [if_pos c63] at H
                  have c63b0 : decide (0 ≤ x11_3) = true := decide_eq_true c63
                  clear c63
                  by_cases c64 : ((rd_T30 t233 x11_3).f0) = ((rd_T30 t229 (ji49)).f0)
                  ·rw [if_pos c64] at H
                   have c64b0 : (((rd_T30 t233 x11_3).f0) == ((rd_T30 t229 (ji49)).f0)) = true := beq_iff_eq.mpr c64
                   have c64b1 : (((rd_T30 t233 x11_3).f0) != ((rd_T30 t229 (ji49)).f0)) = false := bne_eq_false_iff_eq.mpr c64
                   clear c64
                   by_cases c65 : ((rd_T30 t233 x11_3).f2).toList = ((rd_T30 t229 (ji49)).f2).toList
                   ·rw [if_pos c65] at H
                    have c65b0 : (((rd_T30 t233 x11_3).f2).toList == ((rd_T30 t229 (ji49)).f2).toList) = true := beq_iff_eq.mpr c65
                    have c65b1 : (((rd_T30 t233 x11_3).f2).toList != ((rd_T30 t229 (ji49)).f2).toList) = false := bne_eq_false_iff_eq.mpr c65
                    clear c65
                    by_cases c66 : ((rd_T30 t233 x11_3).f1).toList = ((rd_T30 t229 (ji49)).f1).toList
                    ·rw [if_pos c66] at H
                     have c66b0 : (((rd_T30 t233 x11_3).f1).toList == ((rd_T30 t229 (ji49)).f1).toList) = true := beq_iff_eq.mpr c66
                     have c66b1 : (((rd_T30 t233 x11_3).f1).toList != ((rd_T30 t229 (ji49)).f1).toList) = false := bne_eq_false_iff_eq.mpr c66
                     clear c66
                     by_cases c67 : ((rd_T30 t233 x11_3).f3) = (wrap64 ((wrap64 (((rd_T30 t229 (ji49)).f3) + (a0.size : Int))) + 1))
                     ·rw [if_pos c67] at H
                      have c67b0 : (((rd_T30 t233 x11_3).f3) == (wrap64 ((wrap64 (((rd_T30 t229 (ji49)).f3) + (a0.size : Int))) + 1))) = true := beq_iff_eq.mpr c67
                      have c67b1 : (((rd_T30 t233 x11_3).f3) != (wrap64 ((wrap64 (((rd_T30 t229 (ji49)).f3) + (a0.size : Int))) + 1))) = false := bne_eq_false_iff_eq.mpr c67
                      clear c67
                      have H' := Aside0.mk H
                      clear H
                      have p241 : 0 ≤ ((ji49) : Int) := of_decide_eq_true (by first | (with_reducible assumption) | assumption)
                      have q241 : (ji49) < (t229.length : Int) := of_decide_eq_true (by first | (with_reducible assumption) | assumption)
                      obtain ⟨ad241, e241, hx241_0, hx241_1, hx241_2, hx241_3⟩ := at_T30 (Kd.R_reads' HO_7.out).2.2 (ji49) p241 q241
                      cases e241
                      replace p241 := eq_true p241
                      replace q241 := eq_true q241
                      have p250 : 0 ≤ (x11_3 : Int) := of_decide_eq_true (by first | (with_reducible assumption) | assumption)
                      have q250 : x11_3 < (t233.length : Int) := of_decide_eq_true (by first | (with_reducible assumption) | assumption)
                      obtain ⟨ad250, e250, hx250_0, hx250_1, hx250_2, hx250_3⟩ := at_T30 (Kd.R_reads' HO_9.out).2.2 x11_3 p250 q250
                      cases e250
                      replace p250 := eq_true p250
                      replace q250 := eq_true q250
                      have p251 : 0 ≤ ((ji49) : Int) := of_decide_eq_true (by first | (with_reducible assumption) | assumption)
                      have q251 : (ji49) < (t229.length : Int) := of_decide_eq_true (by first | (with_reducible assumption) | assumption)
                      obtain ⟨ad251, e251, hx251_0, hx251_1, hx251_2, hx251_3⟩ := at_T30 (Kd.R_reads' HO_7.out).2.2 (ji49) p251 q251
                      obtain rfl : ad241 = ad251 := (by injection e251)
                      replace p251 := eq_true p251
                      replace q251 := eq_true q251
                      have p252 : 0 ≤ (x11_3 : Int) := of_decide_eq_true (by first | (with_reducible assumption) | assumption)
                      have q252 : x11_3 < (t233.length : Int) := of_decide_eq_true (by first | (with_reducible assumption) | assumption)
                      obtain ⟨ad252, e252, hx252_0, hx252_1, hx252_2, hx252_3⟩ := at_T30 (Kd.R_reads' HO_9.out).2.2 x11_3 p252 q252
                      obtain rfl : ad250 = ad252 := (by injection e252)
                      replace p252 := eq_true p252
                      replace q252 := eq_true q252
                      have p253 : 0 ≤ ((ji49) : Int) := of_decide_eq_true (by first | (with_reducible assumption) | assumption)
                      have q253 : (ji49) < (t229.length : Int) := of_decide_eq_true (by first | (with_reducible assumption) | assumption)
                      obtain ⟨ad253, e253, hx253_0, hx253_1, hx253_2, hx253_3⟩ := at_T30 (Kd.R_reads' HO_7.out).2.2 (ji49) p253 q253
                      obtain rfl : ad241 = ad253 := (by injection e253)
                      replace p253 := eq_true p253
                      replace q253 := eq_true q253
                      have p254 : 0 ≤ (x11_3 : Int) := of_decide_eq_true (by first | (with_reducible assumption) | assumption)
                      have q254 : x11_3 < (t233.length : Int) := of_decide_eq_true (by first | (with_reducible assumption) | assumption)
                      obtain ⟨ad254, e254, hx254_0, hx254_1, hx254_2, hx254_3⟩ := at_T30 (Kd.R_reads' HO_9.out).2.2 x11_3 p254 q254
                      obtain rfl : ad250 = ad254 := (by injection e254)
                      replace p254 := eq_true p254
                      replace q254 := eq_true q254
                      have p255 : 0 ≤ (x11_3 : Int) := of_decide_eq_true (by first | (with_reducible assumption) | assumption)
                      have q255 : x11_3 < (t233.length : Int) := of_decide_eq_true (by first | (with_reducible assumption) | assumption)
                      obtain ⟨ad255, e255, hx255_0, hx255_1, hx255_2, hx255_3⟩ := at_T30 (Kd.R_reads' HO_9.out).2.2 x11_3 p255 q255
                      obtain rfl : ad250 = ad255 := (by injection e255)
                      replace p255 := eq_true p255
                      replace q255 := eq_true q255
                      have p256 : 0 ≤ ((ji49) : Int) := of_decide_eq_true (by first | (with_reducible assumption) | assumption)
                      have q256 : (ji49) < (t229.length : Int) := of_decide_eq_true (by first | (with_reducible assumption) | assumption)
                      obtain ⟨ad256, e256, hx256_0, hx256_1, hx256_2, hx256_3⟩ := at_T30 (Kd.R_reads' HO_7.out).2.2 (ji49) p256 q256
                      obtain rfl : ad241 = ad256 := (by injection e256)
                      replace p256 := eq_true p256
                      replace q256 := eq_true q256
                      go_wp2
                      repeat (go_quiet (fail); try go_wp2)
                      go_roundg k3
                      case measure => have := HJ2.out; have := HJ24.out; have := HK3.out; omega
                      case rel => exact ⟨(wrap64 (x11_3 + 1)), (by first | rfl | (simp; done) | (simp [*]; done)), H', ⟨by have := HJ2.out; have := HJ24.out; have := HK3.out; omega⟩, ⟨by (with_reducible repeat (first | apply Kd.R_alloc | apply Kd.R_drewN | apply Kd.R_drew)); exact HO_5.out⟩, ⟨by (with_reducible repeat (first | apply Kd.R_alloc | apply Kd.R_drewN | apply Kd.R_drew)); exact HO_7.out⟩, ⟨by (with_reducible repeat (first | apply Kd.R_alloc | apply Kd.R_drewN | apply Kd.R_drew)); exact HO_9.out⟩, ⟨by repeat (first | (with_reducible first | exact HB.out | apply below_alloc | apply pw_below_drewN | apply below_drew1) | exact HB.out)⟩⟩
                     ·rw [if_neg c67] at H
                      have c67b0 : (((rd_T30 t233 x11_3).f3) == (wrap64 ((wrap64 (((rd_T30 t229 (ji49)).f3) + (a0.size : Int))) + 1))) = false := beq_eq_false_iff_ne.mpr c67
                      have c67b1 : (((rd_T30 t233 x11_3).f3) != (wrap64 ((wrap64 (((rd_T30 t229 (ji49)).f3) + (a0.size : Int))) + 1))) = true := bne_iff_ne.mpr c67
                      exact absurd H (by simp)
                    ·rw [if_neg c66] at H
                     have c66b0 : (((rd_T30 t233 x11_3).f1).toList == ((rd_T30 t229 (ji49)).f1).toList) = false := beq_eq_false_iff_ne.mpr c66
                     have c66b1 : (((rd_T30 t233 x11_3).f1).toList != ((rd_T30 t229 (ji49)).f1).toList) = true := bne_iff_ne.mpr c66
                     exact absurd H (by simp)
                   ·rw [if_neg c65] at H
                    have c65b0 : (((rd_T30 t233 x11_3).f2).toList == ((rd_T30 t229 (ji49)).f2).toList) = false := beq_eq_false_iff_ne.mpr c65
                    have c65b1 : (((rd_T30 t233 x11_3).f2).toList != ((rd_T30 t229 (ji49)).f2).toList) = true := bne_iff_ne.mpr c65
                    exact absurd H (by simp)
                  ·rw [if_neg c64] at H
                   have c64b0 : (((rd_T30 t233 x11_3).f0) == ((rd_T30 t229 (ji49)).f0)) = false := beq_eq_false_iff_ne.mpr c64
                   have c64b1 : (((rd_T30 t233 x11_3).f0) != ((rd_T30 t229 (ji49)).f0)) = true := bne_iff_ne.mpr c64
                   exact absurd H (by simp)
                 ·rw [if_neg c63] at H
                  exact absurd H (by simp)
               ·rw [if_neg c51] at H
                exact absurd H (by simp)
              ·rw [if_neg c50] at H
               exact absurd H (by simp)
            ·rw [if_neg c44] at H
             have c44b0 : decide (x11_3 < (t233.length : Int)) = false := decide_eq_false c44
             clear c44
             replace H := Option.bind_eq_some_iff.mp H
             obtain ⟨t238, A680, H⟩ := H
             replace H : (some t238) = some true := H
             have A68 := Aside0.mk A680
             clear A680
             obtain rfl := Option.some.inj H
             go_wp2_with (first | (go_at_call 13; (with_reducible refine (lw2_awake.calls  true _ ?side1 A68.out).mono ?_); (case side1 => exact Glob.below HGl.out (by repeat (first | (with_reducible first | exact HB.out | apply below_alloc | apply pw_below_drewN | apply below_drew1) | exact HB.out))); rintro e w69 ⟨rfl, hb⟩; have n0_ := Aside0.mk (Kd.R_below (by (with_reducible repeat (first | apply Kd.R_alloc | apply Kd.R_drewN | apply Kd.R_drew)); exact HO_5.out) hb); have n1_ := Aside0.mk (Kd.R_below (by (with_reducible repeat (first | apply Kd.R_alloc | apply Kd.R_drewN | apply Kd.R_drew)); exact HO_7.out) hb); have n2_ := Aside0.mk (Kd.R_below (by (with_reducible repeat (first | apply Kd.R_alloc | apply Kd.R_drewN | apply Kd.R_drew)); exact HO_9.out) hb); have n3_ := Aside0.mk (below_step (by repeat (first | (with_reducible first | exact HB.out | apply below_alloc | apply pw_below_drewN | apply below_drew1) | exact HB.out)) hb); clear HO_5; clear HO_7; clear HO_9; clear HB; have HO_5 := n0_; have HO_7 := n1_; have HO_9 := n2_; have HB := n3_; clear n0_ n1_ n2_ n3_; (try clear hb); (try clear hb2); (try clear hk); (try clear hi)))
             repeat (go_quiet (first | (go_at_call 13; (with_reducible refine (lw2_awake.calls  true _ ?side1 A68.out).mono ?_); (case side1 => exact Glob.below HGl.out (by repeat (first | (with_reducible first | exact HB.out | apply below_alloc | apply pw_below_drewN | apply below_drew1) | exact HB.out))); rintro e w69 ⟨rfl, hb⟩; have n0_ := Aside0.mk (Kd.R_below (by (with_reducible repeat (first | apply Kd.R_alloc | apply Kd.R_drewN | apply Kd.R_drew)); exact HO_5.out) hb); have n1_ := Aside0.mk (Kd.R_below (by (with_reducible repeat (first | apply Kd.R_alloc | apply Kd.R_drewN | apply Kd.R_drew)); exact HO_7.out) hb); have n2_ := Aside0.mk (Kd.R_below (by (with_reducible repeat (first | apply Kd.R_alloc | apply Kd.R_drewN | apply Kd.R_drew)); exact HO_9.out) hb); have n3_ := Aside0.mk (below_step (by repeat (first | (with_reducible first | exact HB.out | apply below_alloc | apply pw_below_drewN | apply below_drew1) | exact HB.out)) hb); clear HO_5; clear HO_7; clear HO_9; clear HB; have HO_5 := n0_; have HO_7 := n1_; have HO_9 := n2_; have HB := n3_; clear n0_ n1_ n2_ n3_; (try clear hb); (try clear hb2); (try clear hk); (try clear hi))); try go_wp2_with (first | (go_at_call 13; (with_reducible refine (lw2_awake.calls  true _ ?side1 A68.out).mono ?_); (case side1 => exact Glob.below HGl.out (by repeat (first | (with_reducible first | exact HB.out | apply below_alloc | apply pw_below_drewN | apply below_drew1) | exact HB.out))); rintro e w69 ⟨rfl, hb⟩; have n0_ := Aside0.mk (Kd.R_below (by (with_reducible repeat (first | apply Kd.R_alloc | apply Kd.R_drewN | apply Kd.R_drew)); exact HO_5.out) hb); have n1_ := Aside0.mk (Kd.R_below (by (with_reducible repeat (first | apply Kd.R_alloc | apply Kd.R_drewN | apply Kd.R_drew)); exact HO_7.out) hb); have n2_ := Aside0.mk (Kd.R_below (by (with_reducible repeat (first | apply Kd.R_alloc | apply Kd.R_drewN | apply Kd.R_drew)); exact HO_9.out) hb); have n3_ := Aside0.mk (below_step (by repeat (first | (with_reducible first | exact HB.out | apply below_alloc | apply pw_below_drewN | apply below_drew1) | exact HB.out)) hb); clear HO_5; clear HO_7; clear HO_9; clear HB; have HO_5 := n0_; have HO_7 := n1_; have HO_9 := n2_; have HB := n3_; clear n0_ n1_ n2_ n3_; (try clear hb); (try clear hb2); (try clear hk); (try clear hi))))
             go_ret
             exact ⟨by first | rfl | (simp [errW_none, errW_some] <;> rfl) | (simp [*, errW_none, errW_some] <;> rfl), by repeat (first | (with_reducible first | exact HB.out | apply below_alloc | apply pw_below_drewN | apply below_drew1) | exact HB.out)⟩
         ·rw [if_neg c40] at H
          have c40b0 : ((t233.length : Int) == (wrap64 ((wrap64 ((t225.length : Int) + (t229.length : Int))) - 1))) = false := beq_eq_false_iff_ne.mpr c40
          have c40b1 : ((t233.length : Int) != (wrap64 ((wrap64 ((t225.length : Int) + (t229.length : Int))) - 1))) = true := bne_iff_ne.mpr c40
          exact absurd H (by simp)
     ·rw [if_neg c23] at H
      exact absurd H (by simp)
    ·rw [if_neg c22] at H
     exact absurd H (by simp)

end Go.Proofs.YtabnmkakgcifoaaDoor.PLex

namespace Go.Proofs.YtabnmkakgcifoaaDoor.Lx
theorem upto10_len : ∀ l : B, upto10 l ≤ l.length
  | [] => Nat.le_refl _
  | c :: r => by
    unfold upto10
    have := upto10_len r
    split <;> simp only [List.length_cons] <;> omega
theorem block_len : ∀ l : B, block l ≤ l.length
  | [] => Nat.le_refl _
  | [c] => by unfold block; simp [block]
  | c :: d :: r => by
    unfold block
    have := block_len (d :: r)
    simp only [List.length_cons] at *
    split <;> omega
theorem piece_cons' (c : UInt8) (r : B) : piece (c :: r) = if isBl c then 1 else if c = 92 then (if r.head? = some 10 then 2 else if r.take 2 = [13, 10] then 3 else 0) else cmt (c :: r) := rfl
theorem cmt_cons' (c : UInt8) (r : B) : cmt (c :: r) = if c = 47 then (if r.head? = some 47 then upto10 r + 1 else if r.head? = some 42 then block (r.drop 1) + 2 else 0) else 0 := rfl
theorem cmt_len (l : B) : cmt l ≤ l.length := by
  cases l with
  | nil => exact Nat.le_refl _
  | cons c r =>
    rw [cmt_cons']
    split
    · split
      · have := upto10_len r
        simp only [List.length_cons]; omega
      · split
        · cases r with
          | nil => rename_i h; cases h
          | cons d r =>
            have := block_len r
            simp only [List.length_cons, List.drop_succ_cons, List.drop_zero]; omega
        · omega
    · omega
theorem piece_len (l : B) : piece l ≤ l.length := by
  cases l with
  | nil => exact Nat.le_refl _
  | cons c r =>
    rw [piece_cons']
    split
    · simp
    · split
      · split
        · cases r with
          | nil => rename_i h; cases h
          | cons d r => simp
        · split
          · rename_i h
            have := congrArg List.length h
            simp only [List.length_take, List.length_cons, List.length_nil] at this
            simp only [List.length_cons]; omega
          · omega
      · exact cmt_len _
/-- the signs as they are: none is too long, none begins with what begins something else -/
structure Fair (S : List B) : Prop where
  h39 : ∀ s ∈ S, s.head? ≠ some 39
  h34 : ∀ s ∈ S, s.head? ≠ some 34
  h92 : ∀ s ∈ S, s.head? ≠ some 92
  h10 : ∀ s ∈ S, (10 : UInt8) ∉ s
  h32 : ∀ s ∈ S, (32 : UInt8) ∉ s
  h35 : ∀ s ∈ S, s.head? = some 35 → s = [35]
  bl : ∀ s ∈ S, ∀ c, s.head? = some c → isBl c = false
  len : ∀ s ∈ S, s.length ≤ 3
variable (K S : List B)
/-- pieces and tokens, one after another -/
def flat : Nat → B → B → Nat → Bool → List Tok
  | 0, _, _, _, _ => []
  | k + 1, bf, l, at_, f =>
    if piece l ≠ 0 then flat k (bf ++ l.take (piece l)) (l.drop (piece l)) (at_ + piece l) (clearAfter l (piece l) f)
    else if l = [] then [⟨0, bf, [], at_⟩]
    else ⟨(tok K S f l).1, bf, l.take (tok K S f l).2, at_⟩ :: flat k [] (l.drop (tok K S f l).2) (at_ + (tok K S f l).2) false
theorem flat_piece (k : Nat) (bf l : B) (a : Nat) (f : Bool) (n : Nat) (h : piece l = n) (hn : n ≠ 0) : flat K S (k + 1) bf l a f = flat K S k (bf ++ l.take n) (l.drop n) (a + n) (clearAfter l n f) := by
  subst h
  rw [flat, if_pos hn]
theorem flat_end (k : Nat) (bf : B) (a : Nat) (f : Bool) : flat K S (k + 1) bf [] a f = [⟨0, bf, [], a⟩] := by
  rw [flat, if_neg (by simp [piece]), if_pos rfl]
theorem flat_tok (k : Nat) (bf l : B) (a : Nat) (f : Bool) (t : Nat × Nat) (h : piece l = 0) (hl : l ≠ []) (ht : tok K S f l = t) :
    flat K S (k + 1) bf l a f = ⟨t.1, bf, l.take t.2, a⟩ :: flat K S k [] (l.drop t.2) (a + t.2) false := by
  subst ht
  rw [flat, if_neg (by simp [h]), if_neg hl]
variable {K S}
theorem tok_len (hS : Fair S) (f : Bool) (l : B) (hl : l ≠ []) : 0 < (tok K S f l).2 ∧ (tok K S f l).2 ≤ l.length ∧ (tok K S f l).1 ≠ 0 := by
  cases l with
  | nil => exact absurd rfl hl
  | cons c r =>
    have h := tok_kinds K S f c r hS.h39 hS.h34
    refine ⟨h.2.2.1, h.2.2.2, ?_⟩
    rw [h.2.1]
    split
    · simp
    · unfold kinds
      repeat' split
      all_goals simp
theorem flat_fuel (hS : Fair S) : ∀ (n k : Nat) (bf l : B) (a : Nat) (f : Bool), l.length < n → n ≤ k → flat K S k bf l a f = flat K S n bf l a f := by
  intro n
  induction n with
  | zero => intro k bf l a f h; omega
  | succ n ih =>
    intro k bf l a f h hk
    obtain ⟨k, rfl⟩ : ∃ m, k = m + 1 := ⟨k - 1, by omega⟩
    by_cases hp : piece l = 0
    · by_cases hl : l = []
      · subst hl; rw [flat_end, flat_end]
      · rw [flat_tok K S k bf l a f _ hp hl rfl, flat_tok K S n bf l a f _ hp hl rfl]
        have := tok_len (K := K) hS f l hl
        rw [ih k _ _ _ _ (by rw [List.length_drop]; omega) (by omega)]
    · rw [flat_piece K S k bf l a f _ rfl hp, flat_piece K S n bf l a f _ rfl hp]
      have := piece_len l
      exact ih k _ _ _ _ (by rw [List.length_drop]; omega) (by omega)
theorem pre_len : ∀ (n : Nat) (l : B) (f : Bool), (pre n l f).1 ≤ l.length := by
  intro n
  induction n with
  | zero => intro l f; exact Nat.zero_le _
  | succ n ih =>
    intro l f
    unfold pre
    dsimp only
    split
    · exact Nat.zero_le _
    · have := ih (l.drop (piece l)) (clearAfter l (piece l) f)
      have := piece_len l
      simp only [List.length_drop] at *
      omega
/-- what stands before a token, piece by piece -/
theorem flat_pre : ∀ (m : Nat) (l bf : B) (a : Nat) (f : Bool) (k : Nat), l.length ≤ m → flat K S (k + l.length + 1) bf l a f =
    (if l.drop (pre m l f).1 = [] then [⟨0, bf ++ l, [], a + l.length⟩] else flat K S (k + (l.length - (pre m l f).1) + 1) (bf ++ l.take (pre m l f).1) (l.drop (pre m l f).1) (a + (pre m l f).1) (pre m l f).2) ∨ ∃ k', k ≤ k' ∧ flat K S (k + l.length + 1) bf l a f =
    (if l.drop (pre m l f).1 = [] then [⟨0, bf ++ l, [], a + l.length⟩] else flat K S (k' + (l.length - (pre m l f).1) + 1) (bf ++ l.take (pre m l f).1) (l.drop (pre m l f).1) (a + (pre m l f).1) (pre m l f).2) := by
  intro m
  induction m with
  | zero =>
    intro l bf a f k h
    obtain rfl := List.eq_nil_of_length_eq_zero (Nat.le_zero.mp h)
    left
    rw [flat_end, if_pos (by simp)]
    simp
  | succ m ih =>
    intro l bf a f k h
    by_cases hp : piece l = 0
    · have e : pre (m + 1) l f = (0, f) := by unfold pre; simp [hp]
      rw [e]
      by_cases hl : l = []
      · subst hl; left; rw [flat_end, if_pos (by simp)]; simp
      · left
        rw [if_neg (by simpa using hl)]
        simp
    · have e : pre (m + 1) l f = (piece l + (pre m (l.drop (piece l)) (clearAfter l (piece l) f)).1, (pre m (l.drop (piece l)) (clearAfter l (piece l) f)).2) := by
        rw [pre]; dsimp only; rw [if_neg hp]
      have hle := piece_len l
      have hle2 := pre_len m (l.drop (piece l)) (clearAfter l (piece l) f)
      rw [e, flat_piece K S _ bf l a f _ rfl hp]
      generalize hn : piece l = n at *
      have hi := ih (l.drop n) (bf ++ l.take n) (a + n) (clearAfter l n f) (k + n - 1) (by rw [List.length_drop]; omega)
      generalize pre m (l.drop n) (clearAfter l n f) = p at *
      simp only [List.length_drop] at hi hle2
      rw [show k + n - 1 + (l.length - n) + 1 = k + l.length by omega] at hi
      have hbf : bf ++ l.take n ++ l.drop n = bf ++ l := by rw [List.append_assoc, List.take_append_drop]
      have hbt : bf ++ l.take n ++ (l.drop n).take p.1 = bf ++ l.take (n + p.1) := by rw [List.append_assoc, List.take_add]
      rw [hbf, hbt, List.drop_drop] at hi
      right
      rcases hi with hi | ⟨k', hk, hi⟩
      · refine ⟨k + n - 1, by omega, ?_⟩
        rw [hi]
        dsimp only
        rw [show a + n + (l.length - n) = a + l.length by omega, show k + n - 1 + (l.length - n - p.1) + 1 = k + n - 1 + (l.length - (n + p.1)) + 1 by omega, Nat.add_assoc a n p.1]
      · refine ⟨k', by omega, ?_⟩
        rw [hi]
        dsimp only
        rw [show a + n + (l.length - n) = a + l.length by omega, show k' + (l.length - n - p.1) + 1 = k' + (l.length - (n + p.1)) + 1 by omega, Nat.add_assoc a n p.1]
theorem pre_stops : ∀ (m : Nat) (l : B) (f : Bool), l.length ≤ m → piece (l.drop (pre m l f).1) = 0 := by
  intro m
  induction m with
  | zero =>
    intro l f h
    obtain rfl := List.eq_nil_of_length_eq_zero (Nat.le_zero.mp h)
    simp [piece]
  | succ m ih =>
    intro l f h
    unfold pre
    dsimp only
    split
    · rename_i hp; simpa using hp
    · rename_i hp
      have hle := piece_len l
      rw [← List.drop_drop]
      exact ih _ _ (by rw [List.length_drop]; omega)
theorem go_flat (hS : Fair S) : ∀ (m : Nat) (l : B) (a : Nat) (f : Bool), l.length < m → go K S m l a f = flat K S (l.length + 1) [] l a f := by
  intro m
  induction m with
  | zero => intro l a f h; omega
  | succ m ih =>
    intro l a f h
    have hp := pre_len l.length l f
    have hs := pre_stops l.length l f (Nat.le_refl _)
    have e : ∃ k', flat K S (l.length + 1) [] l a f = (if l.drop (pre l.length l f).1 = [] then [⟨0, [] ++ l, [], a + l.length⟩] else flat K S (k' + (l.length - (pre l.length l f).1) + 1) ([] ++ l.take (pre l.length l f).1) (l.drop (pre l.length l f).1) (a + (pre l.length l f).1) (pre l.length l f).2) := by
      rcases flat_pre (K := K) (S := S) l.length l [] a f 0 (Nat.le_refl _) with e | ⟨k', -, e⟩
      · exact ⟨0, by rw [← e, Nat.zero_add]⟩
      · exact ⟨k', by rw [← e, Nat.zero_add]⟩
    obtain ⟨k', e⟩ := e
    rw [e]
    unfold go
    dsimp only
    generalize pre l.length l f = p at *
    by_cases hl : l.drop p.1 = []
    · rw [if_pos hl, if_pos hl]; rfl
    · rw [if_neg hl, if_neg hl]
      have ht := tok_len (K := K) hS p.2 (l.drop p.1) hl
      rw [flat_tok K S _ _ _ _ _ _ hs hl rfl, List.nil_append]
      congr 1
      generalize tok K S p.2 (l.drop p.1) = t at *
      simp only [List.length_drop] at ht
      rw [ih _ _ _ (by simp only [List.length_drop]; omega)]
      rw [flat_fuel hS (((l.drop p.1).drop t.2).length + 1) (k' + (l.length - p.1)) _ _ _ _ (by omega) (by simp only [List.length_drop]; omega)]
theorem tokens_flat (hS : Fair S) (l : B) : tokens K S l = flat K S (l.length + 1) [] l 0 true := go_flat hS _ _ _ _ (by omega)
/-- the text of tokens -/
def textOf (ts : List Tok) : B := (ts.map fun t => t.before ++ t.text).flatten
/-- tokens in a row from a place on: the last one is the end -/
def Row : Nat → List Tok → Prop
  | _, [] => False
  | a, [t] => t.kind = 0 ∧ t.text = [] ∧ t.at_ = a + t.before.length
  | a, t :: u :: r => t.kind ≠ 0 ∧ t.text ≠ [] ∧ t.at_ = a + t.before.length ∧ Row (a + t.before.length + t.text.length) (u :: r)
theorem flat_ne : ∀ (k : Nat) (bf l : B) (a : Nat) (f : Bool), l.length < k → flat K S k bf l a f ≠ [] := by
  intro k
  induction k with
  | zero => intro bf l a f h; omega
  | succ k ih =>
    intro bf l a f h
    by_cases hp : piece l = 0
    · by_cases hl : l = []
      · subst hl; rw [flat_end]; simp
      · rw [flat_tok K S k bf l a f _ hp hl rfl]; simp
    · rw [flat_piece K S k bf l a f _ rfl hp]
      have := piece_len l
      exact ih _ _ _ _ (by rw [List.length_drop]; omega)
theorem flat_text (hS : Fair S) : ∀ (k : Nat) (bf l : B) (a : Nat) (f : Bool), l.length < k → textOf (flat K S k bf l a f) = bf ++ l := by
  intro k
  induction k with
  | zero => intro bf l a f h; omega
  | succ k ih =>
    intro bf l a f h
    by_cases hp : piece l = 0
    · by_cases hl : l = []
      · subst hl; rw [flat_end]; simp [textOf]
      · rw [flat_tok K S k bf l a f _ hp hl rfl]
        have ht := tok_len (K := K) hS f l hl
        have e := ih [] (l.drop (tok K S f l).2) (a + (tok K S f l).2) false (by rw [List.length_drop]; omega)
        unfold textOf at e ⊢
        rw [List.map_cons, List.flatten_cons, e, List.nil_append, List.append_assoc, List.take_append_drop]
    · rw [flat_piece K S k bf l a f _ rfl hp]
      have := piece_len l
      rw [ih _ _ _ _ (by rw [List.length_drop]; omega), List.append_assoc, List.take_append_drop]
theorem flat_row (hS : Fair S) : ∀ (k : Nat) (bf l : B) (a b : Nat) (f : Bool), l.length < k → a = b + bf.length → Row b (flat K S k bf l a f) := by
  intro k
  induction k with
  | zero => intro bf l a b f h; omega
  | succ k ih =>
    intro bf l a b f h ha
    by_cases hp : piece l = 0
    · by_cases hl : l = []
      · subst hl; rw [flat_end]; exact ⟨rfl, rfl, ha⟩
      · rw [flat_tok K S k bf l a f _ hp hl rfl]
        have ht := tok_len (K := K) hS f l hl
        have e := ih [] (l.drop (tok K S f l).2) (a + (tok K S f l).2) (a + (tok K S f l).2) false (by rw [List.length_drop]; omega) (by simp)
        have hne := flat_ne (K := K) (S := S) k [] (l.drop (tok K S f l).2) (a + (tok K S f l).2) false (by rw [List.length_drop]; omega)
        generalize flat K S k [] (l.drop (tok K S f l).2) (a + (tok K S f l).2) false = q at *
        cases q with
        | nil => exact absurd rfl hne
        | cons u r =>
          refine ⟨ht.2.2, ?_, ha, ?_⟩
          · intro h0
            have := congrArg List.length h0
            simp only [List.length_take, List.length_nil] at this
            omega
          · rw [← ha, List.length_take, Nat.min_eq_left ht.2.1]; exact e
    · rw [flat_piece K S k bf l a f _ rfl hp]
      have := piece_len l
      exact ih _ _ _ _ _ (by rw [List.length_drop]; omega) (by rw [List.length_append, List.length_take, Nat.min_eq_left this]; omega)
theorem tokens_text (hS : Fair S) (l : B) : textOf (tokens K S l) = l := by rw [tokens_flat hS, flat_text hS _ _ _ _ _ (by omega), List.nil_append]
theorem tokens_row (hS : Fair S) (l : B) : Row 0 (tokens K S l) := by rw [tokens_flat hS]; exact flat_row hS _ _ _ _ _ _ (by omega) rfl
theorem flat_len (hS : Fair S) : ∀ (k : Nat) (bf l : B) (a : Nat) (f : Bool), l.length < k → (flat K S k bf l a f).length ≤ l.length + 1 := by
  intro k
  induction k with
  | zero => intro bf l a f h; omega
  | succ k ih =>
    intro bf l a f h
    by_cases hp : piece l = 0
    · by_cases hl : l = []
      · subst hl; rw [flat_end]; simp
      · rw [flat_tok K S k bf l a f _ hp hl rfl]
        have ht := tok_len (K := K) hS f l hl
        have e := ih [] (l.drop (tok K S f l).2) (a + (tok K S f l).2) false (by rw [List.length_drop]; omega)
        rw [List.length_drop] at e
        rw [List.length_cons]; omega
    · rw [flat_piece K S k bf l a f _ rfl hp]
      have := piece_len l
      have e := ih (bf ++ l.take (piece l)) (l.drop (piece l)) (a + piece l) (clearAfter l (piece l) f) (by rw [List.length_drop]; omega)
      rw [List.length_drop] at e
      omega
theorem tokens_len (hS : Fair S) (l : B) : (tokens K S l).length ≤ l.length + 1 := by rw [tokens_flat hS]; exact flat_len hS _ _ _ _ _ (by omega)
end Go.Proofs.YtabnmkakgcifoaaDoor.Lx

namespace Go.Proofs.YtabnmkakgcifoaaDoor.Lx
/-- a text does not end with a backslash or a byte 13 -/
def EndOk (l : B) : Prop := ∀ q c, l = q ++ [c] → c ≠ 92 ∧ c ≠ 13
theorem EndOk.drop {l : B} (h : EndOk l) (n : Nat) : EndOk (l.drop n) := fun q c e => h (l.take n ++ q) c (by rw [List.append_assoc, ← e, List.take_append_drop])
theorem EndOk.tail {c : UInt8} {l : B} (h : EndOk (c :: l)) : EndOk l := h.drop 1
theorem EndOk.one {c : UInt8} (h : EndOk [c]) : c ≠ 92 ∧ c ≠ 13 := h [] c rfl
theorem ln_app_10 (b : B) : ∀ (l : B) (pp p : UInt8), EndOk (p :: l) → ln pp p (l ++ 10 :: b) = ln pp p l
  | [], pp, p, h => by
    have := h.one
    have q : ¬ (p = 92 ∨ p = 13 ∧ pp = 92) := by
      rintro (h1 | h1)
      · exact this.1 h1
      · exact this.2 h1.1
    show (if (10 : UInt8) = 10 ∧ ¬ (p = 92 ∨ p = 13 ∧ pp = 92) then 0 else ln p 10 b + 1) = 0
    rw [if_pos ⟨rfl, q⟩]
  | c :: r, pp, p, h => by
    have e := ln_app_10 b r p c h.tail
    rw [List.cons_append, ln, ln, e]
theorem ln_app_lt (y : B) : ∀ (l : B) (pp p : UInt8), ln pp p l < l.length → ln pp p (l ++ y) = ln pp p l
  | [], pp, p, h => by simp at h
  | c :: r, pp, p, h => by
    rw [List.cons_append, ln]
    rw [ln] at h ⊢
    by_cases hc : c = 10 ∧ ¬ (p = 92 ∨ p = 13 ∧ pp = 92)
    · rw [if_pos hc, if_pos hc]
    · rw [if_neg hc] at h ⊢
      rw [if_neg hc, ln_app_lt y r p c (by simp only [List.length_cons] at h; omega)]
theorem take_app {l y : B} {n : Nat} (h : n ≤ l.length) : (l ++ y).take n = l.take n := List.take_append_of_le_length h
theorem lineLen_app_lt (r y : B) (h : ln 0 35 r < r.length) : lineLen (r ++ y) = lineLen r := by
  unfold lineLen
  dsimp only
  rw [ln_app_lt y r 0 35 h, ← List.cons_append, take_app (by simp only [List.length_cons]; omega)]
  have h1 : ln 0 35 r + 1 < (r ++ y).length + 1 := by rw [List.length_append]; omega
  have h2 : ln 0 35 r + 1 < r.length + 1 := by omega
  by_cases h3 : ((35 :: r).take (ln 0 35 r + 1)).getLastD 0 = 13
  · rw [if_pos ⟨h1, h3⟩, if_pos ⟨h2, h3⟩]
  · rw [if_neg (fun q => h3 q.2), if_neg (fun q => h3 q.2)]
theorem lineLen_app_10 (r b : B) (h : EndOk (35 :: r)) : lineLen (r ++ 10 :: b) = lineLen r := by
  rcases Nat.lt_or_ge (ln 0 35 r) r.length with hlt | hge
  · exact lineLen_app_lt r _ hlt
  · have hl := ln_le r 0 35
    have he : ln 0 35 r = r.length := by omega
    unfold lineLen
    dsimp only
    rw [ln_app_10 b r 0 35 h, he, ← List.cons_append, take_app (by simp), List.take_of_length_le (by simp), if_neg (fun q => Nat.lt_irrefl _ q.1 : ¬ (r.length + 1 < r.length + 1 ∧ _)), if_neg]
    intro q
    obtain ⟨p, c, e⟩ : ∃ p c, (35 :: r : B) = p ++ [c] := ⟨(35 :: r).dropLast, (35 :: r).getLast (by simp), (List.dropLast_concat_getLast _).symm⟩
    have := h p c e
    rw [e] at q
    exact this.2 (by simpa using q.2)
theorem tw_app (p : UInt8 → Bool) (d : UInt8) (b : B) (hd : p d = false) : ∀ l : B, (l ++ d :: b).takeWhile p = l.takeWhile p
  | [] => by rw [List.nil_append, List.takeWhile_cons_of_neg (by simp [hd])]; rfl
  | c :: r => by
    rw [List.cons_append, List.takeWhile_cons, List.takeWhile_cons, tw_app p d b hd r]
theorem tw_app_lt (p : UInt8 → Bool) (y : B) : ∀ l : B, (l.takeWhile p).length < l.length → (l ++ y).takeWhile p = l.takeWhile p
  | [], h => by simp at h
  | c :: r, h => by
    rw [List.cons_append, List.takeWhile_cons, List.takeWhile_cons]
    rw [List.takeWhile_cons] at h
    by_cases hc : p c = true
    · rw [if_pos hc] at h ⊢
      rw [if_pos hc, tw_app_lt p y r (by simpa using h)]
    · rw [if_neg hc, if_neg hc]
theorem numRest_cons (c d : UInt8) (r : B) : numRest c (d :: r) = if isLD d || d == 46 || ((d == 43 || d == 45) && (c == 101 || c == 69)) then numRest d r + 1 else 0 := rfl
theorem numRest_app (d : UInt8) (b : B) (h1 : isLD d = false) (h2 : (d == 46) = false) (h3 : (d == 43 || d == 45) = false) : ∀ (l : B) (c : UInt8), numRest c (l ++ d :: b) = numRest c l
  | [], c => by rw [List.nil_append, numRest_cons, h1, h2, h3]; rfl
  | e :: r, c => by rw [List.cons_append, numRest_cons, numRest_cons, numRest_app d b h1 h2 h3 r e]
theorem numRest_app_lt (y : B) : ∀ (l : B) (c : UInt8), numRest c l < l.length → numRest c (l ++ y) = numRest c l
  | [], c, h => by simp at h
  | e :: r, c, h => by
    rw [List.cons_append, numRest_cons, numRest_cons]
    rw [numRest_cons] at h
    split at h
    · rename_i q
      rw [if_pos q, if_pos q, numRest_app_lt y r e (by simp only [List.length_cons] at h; omega)]
    · rename_i q
      rw [if_neg q, if_neg q]
theorem quoted_two (m c d : UInt8) (r : B) : quoted m (c :: d :: r) = if c = m then some 1 else if c = 10 then none
    else if c = 92 then (if d = 10 then none else (quoted m r).map (· + 2)) else (quoted m (d :: r)).map (· + 1) := rfl
theorem quoted_one (m c : UInt8) : quoted m [c] = if c = m then some 1 else none := rfl
theorem quoted_10 (m : UInt8) (hm : m ≠ 10) (b : B) : quoted m (10 :: b) = none := by
  cases b with
  | nil => rw [quoted_one, if_neg (Ne.symm hm)]
  | cons d r => rw [quoted_two, if_neg (Ne.symm hm), if_pos rfl]
theorem quoted_app_10 (m : UInt8) (hm : m ≠ 10) (b : B) : ∀ (n : Nat) (l : B), l.length ≤ n → EndOk l → quoted m (l ++ 10 :: b) = quoted m l := by
  intro n
  induction n with
  | zero =>
    intro l h _
    obtain rfl := List.eq_nil_of_length_eq_zero (Nat.le_zero.mp h)
    rw [List.nil_append, quoted_10 m hm b]; rfl
  | succ n ih =>
    intro l h he
    match l, h, he with
    | [], _, _ => rw [List.nil_append, quoted_10 m hm b]; rfl
    | [c], _, he =>
      have h92 := he.one.1
      rw [List.singleton_append, quoted_two, quoted_one, quoted_10 m hm b]
      by_cases h1 : c = m
      · rw [if_pos h1, if_pos h1]
      · rw [if_neg h1, if_neg h1, if_neg h92]; split <;> rfl
    | c :: d :: r, h, he =>
      simp only [List.length_cons] at h
      rw [List.cons_append, List.cons_append, quoted_two, quoted_two, ih r (by omega) he.tail.tail, ← List.cons_append, ih (d :: r) (by simp only [List.length_cons]; omega) he.tail]
theorem quoted_app_some (m : UInt8) (y : B) : ∀ (n : Nat) (l : B), l.length ≤ n → ∀ q, quoted m l = some q → quoted m (l ++ y) = some q := by
  intro n
  induction n with
  | zero =>
    intro l h q hq
    obtain rfl := List.eq_nil_of_length_eq_zero (Nat.le_zero.mp h)
    cases hq
  | succ n ih =>
    intro l h q hq
    match l, h, hq with
    | [], _, hq => cases hq
    | [c], _, hq =>
      rw [quoted_one] at hq
      split at hq
      · rename_i hc
        cases hq
        cases y with
        | nil => rw [List.append_nil, quoted_one, if_pos hc]
        | cons d r => rw [List.singleton_append, quoted_two, if_pos hc]
      · cases hq
    | c :: d :: r, h, hq =>
      simp only [List.length_cons] at h
      rw [List.cons_append, List.cons_append, quoted_two]
      rw [quoted_two] at hq
      split at hq
      · rename_i hc; rw [if_pos hc]; exact hq
      · rename_i hc
        rw [if_neg hc]
        split at hq
        · cases hq
        · rename_i h10
          rw [if_neg h10]
          split at hq
          · rename_i h92
            rw [if_pos h92]
            split at hq
            · cases hq
            · rename_i hd
              obtain ⟨p, hp, rfl⟩ := Option.map_eq_some_iff.mp hq
              rw [if_neg hd, ih r (by omega) p hp]; rfl
          · rename_i h92
            obtain ⟨p, hp, rfl⟩ := Option.map_eq_some_iff.mp hq
            rw [if_neg h92, ← List.cons_append, ih (d :: r) (by simp only [List.length_cons]; omega) p hp]; rfl
theorem quoted_app_close (m : UInt8) (h1 : m ≠ 42) (h2 : m ≠ 47) : ∀ (n : Nat) (l : B), l.length ≤ n → quoted m l = none → quoted m (l ++ [42, 47]) = none := by
  have z : quoted m [42, 47] = none := by
    rw [quoted_two, if_neg (Ne.symm h1), if_neg (by decide), if_neg (by decide), quoted_one, if_neg (Ne.symm h2)]; rfl
  intro n
  induction n with
  | zero =>
    intro l h _
    obtain rfl := List.eq_nil_of_length_eq_zero (Nat.le_zero.mp h)
    exact z
  | succ n ih =>
    intro l h hq
    match l, h, hq with
    | [], _, _ => exact z
    | [c], _, hq =>
      rw [quoted_one] at hq
      split at hq
      · cases hq
      · rename_i hc
        rw [List.singleton_append, quoted_two, if_neg hc, z]
        split
        · rfl
        · split
          · rw [if_neg (by decide), quoted_one, if_neg (Ne.symm h2)]; rfl
          · rfl
    | c :: d :: r, h, hq =>
      simp only [List.length_cons] at h
      rw [List.cons_append, List.cons_append, quoted_two]
      rw [quoted_two] at hq
      split at hq
      · cases hq
      · rename_i hc
        rw [if_neg hc]
        split at hq
        · rename_i h10; rw [if_pos h10]
        · rename_i h10
          rw [if_neg h10]
          split at hq
          · rename_i h92
            rw [if_pos h92]
            split at hq
            · rename_i hd; rw [if_pos hd]
            · rename_i hd
              rw [if_neg hd, ih r (by omega) (by simpa using hq)]; rfl
          · rename_i h92
            rw [if_neg h92, ← List.cons_append, ih (d :: r) (by simp only [List.length_cons]; omega) (by simpa using hq)]; rfl
theorem signLen_congr (S : List B) (l m : B) (h : ∀ s ∈ S, s.isPrefixOf l = s.isPrefixOf m) : signLen S l = signLen S m := by
  unfold signLen
  suffices g : ∀ (q : List B) (n : Nat), (∀ s ∈ q, s.isPrefixOf l = s.isPrefixOf m) → q.foldl (fun n s => if n < s.length ∧ s.isPrefixOf l then s.length else n) n = q.foldl (fun n s => if n < s.length ∧ s.isPrefixOf m then s.length else n) n from g S 0 h
  intro q
  induction q with
  | nil => intro n _; rfl
  | cons s q ih =>
    intro n hq
    rw [List.foldl_cons, List.foldl_cons, hq s List.mem_cons_self]
    exact ih _ (fun t ht => hq t (List.mem_cons_of_mem _ ht))
theorem prefix_app_not (d : UInt8) (b : B) : ∀ (s l : B), d ∉ s → s.isPrefixOf (l ++ d :: b) = s.isPrefixOf l
  | [], l, _ => by simp
  | e :: s, [], h => by
    have : (e == d) = false := beq_eq_false_iff_ne.mpr (fun q => h (by rw [q]; exact List.mem_cons_self))
    show ((e == d) && s.isPrefixOf b) = false
    rw [this]; rfl
  | e :: s, c :: l, h => by
    show ((e == c) && s.isPrefixOf (l ++ d :: b)) = ((e == c) && s.isPrefixOf l)
    rw [prefix_app_not d b s l (fun q => h (List.mem_cons_of_mem _ q))]
theorem prefix_app_le (y : B) : ∀ (s l : B), s.length ≤ l.length → s.isPrefixOf (l ++ y) = s.isPrefixOf l
  | [], l, _ => by simp
  | e :: s, [], h => by simp at h
  | e :: s, c :: l, h => by
    show ((e == c) && s.isPrefixOf (l ++ y)) = ((e == c) && s.isPrefixOf l)
    rw [prefix_app_le y s l (by simpa using h)]
variable {K S : List B}
theorem headD_app (r y : B) (h : isD (y.headD 0) = false) : isD ((r ++ y).headD 0) = isD (r.headD 0) := by
  cases r with
  | nil => rw [List.nil_append, h]; rfl
  | cons c r => rfl
theorem tok_app_10 (hS : Fair S) (f : Bool) (c : UInt8) (r b : B) (h : EndOk (c :: r)) : tok K S f (c :: r ++ 10 :: b) = tok K S f (c :: r) := by
  rw [List.cons_append, tok_cons, tok_cons]
  rw [headD_app r (10 :: b) (show isD 10 = false by decide), numRest_app 10 b (by decide) (by decide) (by decide)]
  rw [show (c :: (r ++ 10 :: b)) = (c :: r) ++ 10 :: b from rfl]
  rw [signLen_congr S ((c :: r) ++ 10 :: b) (c :: r) (fun s hs => prefix_app_not 10 b s _ (hS.h10 s hs))]
  unfold nameLen
  rw [tw_app isLD 10 b (by decide) (c :: r)]
  by_cases h35 : c = 35 ∧ f = true
  · rw [if_pos h35, if_pos h35, lineLen_app_10 r b (h35.1 ▸ h)]
  · rw [if_neg h35, if_neg h35]
    by_cases hq : c = 39 ∨ c = 34
    · rw [if_pos hq, if_pos hq, quoted_app_10 c (by rcases hq with rfl | rfl <;> decide) b _ r (Nat.le_refl _) h.tail]
    · rw [if_neg hq, if_neg hq]
theorem tok_app_close (hS : Fair S) (f : Bool) (c : UInt8) (r : B) (h : (tok K S f (c :: r)).2 + 2 ≤ r.length + 1) : tok K S f (c :: r ++ [42, 47]) = tok K S f (c :: r) := by
  have hp := (tok_len (K := K) hS f (c :: r) (by simp)).1
  obtain ⟨d, e, r', rfl⟩ : ∃ d e r', r = d :: e :: r' := by
    match r, h with
    | [], h => simp at h
    | [d], h => simp at h; omega
    | d :: e :: r', _ => exact ⟨d, e, r', rfl⟩
  have hsl : signLen S ((c :: d :: e :: r') ++ [42, 47]) = signLen S (c :: d :: e :: r') :=
    signLen_congr S _ _ (fun s hs => prefix_app_le _ s _ (by have := hS.len s hs; simp only [List.length_cons]; omega))
  rw [tok_cons] at h
  rw [List.cons_append, tok_cons, tok_cons]
  rw [show (c :: ((d :: e :: r') ++ [42, 47])) = (c :: d :: e :: r') ++ [42, 47] from rfl, hsl]
  rw [show ((d :: e :: r') ++ [42, 47] : B).headD 0 = (d :: e :: r').headD 0 from rfl]
  generalize d :: e :: r' = r at *
  by_cases h35 : c = 35 ∧ f = true
  · rw [if_pos h35] at h
    rw [if_pos h35, if_pos h35, lineLen_app_lt]
    unfold lineLen at h
    have := ln_le r 0 35
    dsimp only at h
    split at h
    · rename_i q; omega
    · omega
  · rw [if_neg h35] at h
    rw [if_neg h35, if_neg h35]
    by_cases hL : isL c = true
    · rw [if_pos hL] at h
      rw [if_pos hL, if_pos hL]
      unfold nameLen at h ⊢
      rw [tw_app_lt isLD [42, 47] (c :: r) (by simp only [List.length_cons]; dsimp only at h; omega)]
    · rw [if_neg hL] at h
      rw [if_neg hL, if_neg hL]
      by_cases hD : (isD c || (c == 46 && isD (r.headD 0))) = true
      · rw [if_pos hD] at h
        rw [if_pos hD, if_pos hD, numRest_app_lt _ r c (by dsimp only at h; omega)]
      · rw [if_neg hD] at h
        rw [if_neg hD, if_neg hD]
        by_cases hq : c = 39 ∨ c = 34
        · rw [if_pos hq, if_pos hq]
          cases hqq : quoted c r with
          | some n => rw [quoted_app_some c _ _ r (Nat.le_refl _) n hqq]
          | none => rw [quoted_app_close c (by rcases hq with rfl | rfl <;> decide) (by rcases hq with rfl | rfl <;> decide) _ r (Nat.le_refl _) hqq]
        · rw [if_neg hq, if_neg hq]
/-- is there a '*/'? -/
def closed : B → Bool
  | [] => false
  | c :: r => (c == 42 && r.head? == some 47) || closed r
/-- a comment begins that does not end -/
def isOpen : B → Bool
  | 47 :: 42 :: r => !closed r
  | _ => false
theorem block_cons (c : UInt8) (r : B) : block (c :: r) = if c = 42 ∧ r.head? = some 47 then 2 else block r + 1 := rfl
theorem block_app (y : B) : ∀ l : B, closed l = true → block (l ++ y) = block l
  | [], h => by cases h
  | [c], h => by simp [closed] at h
  | c :: d :: r, h => by
    rw [List.cons_append, block_cons, block_cons]
    rw [show (((d :: r) ++ y : B).head?) = (d :: r).head? from rfl]
    by_cases hc : c = 42 ∧ (d :: r).head? = some 47
    · rw [if_pos hc, if_pos hc]
    · rw [if_neg hc, if_neg hc, block_app y (d :: r)]
      rw [closed, Bool.or_eq_true, Bool.and_eq_true, beq_iff_eq, beq_iff_eq] at h
      exact h.resolve_left hc
theorem block_open : ∀ l : B, closed l = false → block l = l.length
  | [], _ => rfl
  | c :: r, h => by
    rw [closed, Bool.or_eq_false_iff, Bool.and_eq_false_iff] at h
    rw [block_cons, if_neg, block_open r h.2]; rfl
    rintro ⟨h1, h2⟩
    rcases h.1 with q | q
    · rw [h1] at q; exact absurd q (by decide)
    · rw [h2] at q; exact absurd q (by decide)
theorem block_shut : ∀ l : B, closed l = false → block (l ++ [42, 47]) = l.length + 2
  | [], _ => rfl
  | [c], _ => by
    show block (c :: 42 :: [47]) = 3
    rw [block_cons, if_neg (by simp)]; rfl
  | c :: d :: r, h => by
    rw [closed, Bool.or_eq_false_iff, Bool.and_eq_false_iff] at h
    rw [List.cons_append, block_cons, if_neg, block_shut (d :: r) h.2]; rfl
    rintro ⟨h1, h2⟩
    rcases h.1 with q | q
    · rw [h1] at q; exact absurd q (by decide)
    · rw [show ((d :: r) ++ [42, 47] : B).head? = (d :: r).head? from rfl] at h2
      rw [h2] at q; exact absurd q (by decide)
theorem upto10_app_10 (b : B) : ∀ l : B, upto10 (l ++ 10 :: b) = upto10 l
  | [] => rfl
  | c :: r => by
    rw [List.cons_append, upto10, upto10, upto10_app_10 b r]
theorem upto10_app_lt (y : B) : ∀ l : B, upto10 l < l.length → upto10 (l ++ y) = upto10 l
  | [], h => by simp at h
  | c :: r, h => by
    rw [List.cons_append, upto10, upto10]
    rw [upto10] at h
    by_cases hc : c = 10
    · rw [if_pos hc, if_pos hc]
    · rw [if_neg hc] at h ⊢
      rw [if_neg hc, upto10_app_lt y r (by simpa using h)]
theorem isOpen_block {r : B} (h : isOpen (47 :: r) = false) (hr : r.head? = some 42) : closed (r.drop 1) = true := by
  cases r with
  | nil => cases hr
  | cons d r =>
    obtain rfl : d = 42 := by simpa using hr
    simpa [isOpen] using h
theorem cmt_app_10 (c : UInt8) (r b : B) (ho : isOpen (c :: r) = false) : cmt (c :: r ++ 10 :: b) = cmt (c :: r) := by
  rw [List.cons_append, cmt_cons', cmt_cons']
  by_cases h47 : c = 47
  · subst h47
    rw [if_pos rfl, if_pos rfl, upto10_app_10]
    cases r with
    | nil => rfl
    | cons d r =>
      rw [show ((d :: r) ++ 10 :: b : B).head? = (d :: r).head? from rfl]
      by_cases h42 : (d :: r).head? = some 42
      · rw [show ((d :: r) ++ 10 :: b : B).drop 1 = (d :: r).drop 1 ++ 10 :: b from rfl, block_app _ _ (isOpen_block ho h42)]
      · rw [if_neg h42, if_neg h42]
  · rw [if_neg h47, if_neg h47]
theorem piece_app_10 (c : UInt8) (r b : B) (h : EndOk (c :: r)) (ho : isOpen (c :: r) = false) : piece (c :: r ++ 10 :: b) = piece (c :: r) := by
  have hc := cmt_app_10 c r b ho
  rw [List.cons_append] at hc ⊢
  rw [piece_cons', piece_cons', hc]
  by_cases h92 : c = 92
  · subst h92
    rw [if_neg (by decide : ¬ isBl 92 = true), if_neg (by decide : ¬ isBl 92 = true), if_pos rfl, if_pos rfl]
    match r, h with
    | [], h => exact absurd rfl h.one.1
    | [d], h =>
      have hd : d ≠ 13 := h.tail.one.2
      rw [show ([d] ++ 10 :: b : B).head? = [d].head? from rfl]
      by_cases h10 : [d].head? = some 10
      · rw [if_pos h10, if_pos h10]
      · have e1 : ([d] ++ 10 :: b : B).take 2 ≠ [13, 10] := by
          intro q
          exact hd (by simpa using congrArg (fun x => x.headD 0) q)
        rw [if_neg h10, if_neg h10, if_neg e1, if_neg (by simp)]
    | d :: e :: r, h => rfl
  · rw [if_neg h92, if_neg h92]
theorem cmt_app_lt (c : UInt8) (r y : B) (ho : isOpen (c :: r) = false) (h : cmt (c :: r) < r.length + 1) (hr : r ≠ []) : cmt (c :: r ++ y) = cmt (c :: r) := by
  rw [List.cons_append, cmt_cons', cmt_cons']
  rw [cmt_cons'] at h
  by_cases h47 : c = 47
  · subst h47
    rw [if_pos rfl] at h
    rw [if_pos rfl, if_pos rfl]
    cases r with
    | nil => exact absurd rfl hr
    | cons d r =>
      rw [show ((d :: r) ++ y : B).head? = (d :: r).head? from rfl]
      by_cases h1 : (d :: r).head? = some 47
      · rw [if_pos h1] at h ⊢
        rw [if_pos h1, upto10_app_lt y _ (by omega)]
      · rw [if_neg h1, if_neg h1]
        by_cases h42 : (d :: r).head? = some 42
        · rw [show ((d :: r) ++ y : B).drop 1 = (d :: r).drop 1 ++ y from rfl, block_app _ _ (isOpen_block ho h42)]
        · rw [if_neg h42, if_neg h42]
  · rw [if_neg h47, if_neg h47]
theorem piece_app_lt (c d e : UInt8) (r y : B) (ho : isOpen (c :: d :: e :: r) = false) (h : piece (c :: d :: e :: r) < r.length + 3) : piece (c :: d :: e :: r ++ y) = piece (c :: d :: e :: r) := by
  rw [piece_cons'] at h
  rw [show (c :: d :: e :: r ++ y : B) = c :: ((d :: e :: r) ++ y) from rfl, piece_cons', piece_cons']
  by_cases hb : isBl c = true
  · rw [if_pos hb, if_pos hb]
  · rw [if_neg hb] at h ⊢
    rw [if_neg hb]
    by_cases h92 : c = 92
    · rw [if_pos h92, if_pos h92]; rfl
    · rw [if_neg h92] at h ⊢
      rw [if_neg h92]
      exact cmt_app_lt c (d :: e :: r) y ho (by simp only [List.length_cons]; omega) (by simp)
theorem clearAfter_app (l y : B) (n : Nat) (f : Bool) (h : n ≤ l.length) (hl : l ≠ []) : clearAfter (l ++ y) n f = clearAfter l n f := by
  cases l with
  | nil => exact absurd rfl hl
  | cons c r =>
    unfold clearAfter
    rw [take_app h]; rfl
variable (K S) in
/-- a text ends in a comment that goes on -/
def opens : Nat → B → Bool → Bool
  | 0, _, _ => false
  | k + 1, l, f => if piece l ≠ 0 then (isOpen l || opens k (l.drop (piece l)) (clearAfter l (piece l) f)) else if l = [] then false else opens k (l.drop (tok K S f l).2) false
theorem isOpen_piece : ∀ l : B, isOpen l = true → piece l = l.length ∧ 2 ≤ l.length := by
  intro l h
  unfold isOpen at h
  split at h
  · rename_i r
    have hc : closed r = false := by simpa using h
    have e := block_open r hc
    constructor
    · rw [piece_cons', if_neg (by decide), if_neg (by decide), cmt_cons', if_pos rfl, if_neg (by simp), if_pos (by rfl : (42 :: r : B).head? = some 42), List.drop_succ_cons, List.drop_zero, e]; rfl
    · simp
  · cases h
theorem opens_len : ∀ (k : Nat) (l : B) (f : Bool), opens K S k l f = true → 2 ≤ l.length := by
  intro k
  induction k with
  | zero => intro l f h; cases h
  | succ k ih =>
    intro l f h
    unfold opens at h
    split at h
    · rcases (Bool.or_eq_true _ _).mp h with h | h
      · exact (isOpen_piece l h).2
      · have := ih _ _ h; rw [List.length_drop] at this; omega
    · split at h
      · cases h
      · have := ih _ _ h; rw [List.length_drop] at this; omega
/-- two texts with a line feed between -/
theorem flat_two (hS : Fair S) (b : B) : ∀ (m : Nat) (l bf : B) (a : Nat) (f : Bool), l.length < m → EndOk l → opens K S m l f = false →
    ∃ init be, flat K S (l.length + 1) bf l a f = init ++ [⟨0, be, [], a + l.length⟩] ∧ flat K S (l.length + b.length + 2) bf (l ++ 10 :: b) a f = init ++ flat K S (b.length + 1) (be ++ [10]) b (a + l.length + 1) true := by
  intro m
  induction m with
  | zero => intro l bf a f h; omega
  | succ m ih =>
    intro l bf a f hm he ho
    unfold opens at ho
    by_cases hp : piece l = 0
    · rw [if_neg (by simpa using hp)] at ho
      by_cases hl : l = []
      · subst hl
        refine ⟨[], bf, by rw [flat_end]; rfl, ?_⟩
        have hc : clearAfter (10 :: b) 1 f = true := by
          unfold clearAfter
          rw [if_neg (fun q => absurd (show isFF 10 = true from q.2) (by decide))]
          simp
        rw [List.nil_append, List.length_nil, flat_piece K S _ bf (10 :: b) a f 1 rfl (by decide), Nat.zero_add, hc]
        rfl
      · rw [if_neg hl] at ho
        obtain ⟨c, r, rfl⟩ : ∃ c r, l = c :: r := by
          cases l with
          | nil => exact absurd rfl hl
          | cons c r => exact ⟨c, r, rfl⟩
        have ht := tok_len (K := K) hS f (c :: r) hl
        have ta := tok_app_10 (K := K) hS f c r b he
        have hop : isOpen (c :: r) = false := by
          cases h : isOpen (c :: r) with
          | false => rfl
          | true => have := isOpen_piece _ h; omega
        have pa := piece_app_10 c r b he hop
        rw [hp] at pa
        rw [flat_tok K S _ bf (c :: r) a f _ hp hl rfl, flat_tok K S _ bf (c :: r ++ 10 :: b) a f _ pa (by simp) ta]
        generalize tok K S f (c :: r) = t at *
        obtain ⟨init, be, e1, e2⟩ := ih ((c :: r).drop t.2) [] (a + t.2) false (by rw [List.length_drop]; omega) (he.drop _) ho
        refine ⟨⟨t.1, bf, (c :: r).take t.2, a⟩ :: init, be, ?_, ?_⟩
        · rw [flat_fuel hS (((c :: r).drop t.2).length + 1) _ _ _ _ _ (by omega) (by rw [List.length_drop]; omega), e1, List.length_drop, show a + t.2 + ((c :: r).length - t.2) = a + (c :: r).length by omega]
          rfl
        · rw [List.length_drop, show a + t.2 + ((c :: r).length - t.2) + 1 = a + (c :: r).length + 1 by omega] at e2
          rw [take_app ht.2.1, List.drop_append_of_le_length ht.2.1, flat_fuel hS ((c :: r).length - t.2 + b.length + 2) _ _ _ _ _ (by simp only [List.length_append, List.length_drop, List.length_cons]; omega) (by omega), e2]
          rfl
    · rw [if_pos hp, Bool.or_eq_false_iff] at ho
      obtain ⟨c, r, rfl⟩ : ∃ c r, l = c :: r := by
        cases l with
        | nil => exact absurd rfl hp
        | cons c r => exact ⟨c, r, rfl⟩
      have pa := piece_app_10 c r b he ho.1
      have hle := piece_len (c :: r)
      have ca := clearAfter_app (c :: r) (10 :: b) (piece (c :: r)) f hle (by simp)
      rw [flat_piece K S _ bf (c :: r) a f _ rfl hp, flat_piece K S _ bf (c :: r ++ 10 :: b) a f _ pa hp, ca, take_app hle, List.drop_append_of_le_length hle]
      generalize hn : piece (c :: r) = n at *
      obtain ⟨init, be, e1, e2⟩ := ih ((c :: r).drop n) (bf ++ (c :: r).take n) (a + n) (clearAfter (c :: r) n f) (by rw [List.length_drop]; omega) (he.drop _) ho.2
      refine ⟨init, be, ?_, ?_⟩
      · rw [flat_fuel hS (((c :: r).drop n).length + 1) _ _ _ _ _ (by omega) (by rw [List.length_drop]; omega), e1, List.length_drop, show a + n + ((c :: r).length - n) = a + (c :: r).length by omega]
      · rw [List.length_drop, show a + n + ((c :: r).length - n) + 1 = a + (c :: r).length + 1 by omega] at e2
        rw [flat_fuel hS ((c :: r).length - n + b.length + 2) _ _ _ _ _ (by simp only [List.length_append, List.length_drop, List.length_cons]; omega) (by omega), e2]
/-- a comment that goes on is shut by its sign -/
def lc : Nat → B → Bool
  | 0, _ => false
  | _ + 1, [] => false
  | k + 1, c :: r => if c = 47 ∧ r.head? = some 42 then lc k ((r.drop 1).drop (block (r.drop 1)))
    else if c = 47 ∧ r.head? = some 47 then (if upto10 (c :: r) = (c :: r).length then true else lc k ((c :: r).drop (upto10 (c :: r) + 1)))
    else lc k r
theorem lc_cons (k : Nat) (c : UInt8) (r : B) : lc (k + 1) (c :: r) = if c = 47 ∧ r.head? = some 42 then lc k ((r.drop 1).drop (block (r.drop 1)))
    else if c = 47 ∧ r.head? = some 47 then (if upto10 (c :: r) = (c :: r).length then true else lc k ((c :: r).drop (upto10 (c :: r) + 1)))
    else lc k r := rfl
theorem lc_fuel : ∀ (n k : Nat) (l : B), l.length ≤ n → n ≤ k → lc k l = lc n l := by
  intro n
  induction n with
  | zero =>
    intro k l h _
    obtain rfl := List.eq_nil_of_length_eq_zero (Nat.le_zero.mp h)
    cases k <;> rfl
  | succ n ih =>
    intro k l h hk
    obtain ⟨k, rfl⟩ : ∃ m, k = m + 1 := ⟨k - 1, by omega⟩
    cases l with
    | nil => rfl
    | cons c r =>
      simp only [List.length_cons] at h
      rw [lc_cons, lc_cons, ih k _ (by simp only [List.length_drop]; omega) (by omega), ih k ((c :: r).drop (upto10 (c :: r) + 1)) (by simp only [List.length_drop, List.length_cons]; omega) (by omega), ih k r (by omega) (by omega)]
def LC (l : B) : Bool := lc l.length l
theorem LC_fuel (k : Nat) (l : B) (h : l.length ≤ k) : lc k l = LC l := lc_fuel _ _ _ (Nat.le_refl _) h
theorem LC_cons (c : UInt8) (r : B) : LC (c :: r) = if c = 47 ∧ r.head? = some 42 then LC ((r.drop 1).drop (block (r.drop 1)))
    else if c = 47 ∧ r.head? = some 47 then (if upto10 (c :: r) = (c :: r).length then true else LC ((c :: r).drop (upto10 (c :: r) + 1)))
    else LC r := by
  rw [← LC_fuel (r.length + 1) (c :: r) (by simp), lc_cons, LC_fuel _ _ (by simp only [List.length_drop]; omega), LC_fuel _ _ (by simp only [List.length_drop, List.length_cons]; omega), LC_fuel _ r (Nat.le_refl _)]
theorem upto10_at : ∀ l : B, upto10 l < l.length → l.drop (upto10 l) = 10 :: l.drop (upto10 l + 1)
  | [], h => by simp at h
  | c :: r, h => by
    rw [upto10] at h ⊢
    by_cases hc : c = 10
    · rw [if_pos hc, List.drop_zero, List.drop_succ_cons, List.drop_zero, hc]
    · rw [if_neg hc] at h ⊢
      rw [List.drop_succ_cons, List.drop_succ_cons, upto10_at r (by simpa using h)]
theorem LC_piece (l y : B) (ho : isOpen l = false) (hp : piece l ≠ 0) (h : piece l + 2 ≤ l.length) : LC (l ++ y) = LC (l.drop (piece l) ++ y) := by
  match l, ho, hp, h with
  | [], _, _, h => simp at h
  | [c], _, hp, h => simp at h
  | [c, d], _, hp, h => simp at h; omega
  | c :: d :: e :: r, ho, hp, h =>
    rw [show (c :: d :: e :: r ++ y : B) = c :: ((d :: e :: r) ++ y) from rfl, LC_cons]
    rw [show ((d :: e :: r) ++ y : B).head? = some d from rfl]
    rw [piece_cons'] at hp h ⊢
    by_cases hb : isBl c = true
    · have h47 : c ≠ 47 := by rintro rfl; exact absurd hb (by decide)
      rw [if_neg (fun q => h47 q.1), if_neg (fun q => h47 q.1), if_pos hb]; rfl
    · rw [if_neg hb] at hp h ⊢
      by_cases h92 : c = 92
      · have h47 : c ≠ 47 := by rw [h92]; decide
        rw [if_neg (fun q => h47 q.1), if_neg (fun q => h47 q.1), if_pos h92]
        rw [if_pos h92] at hp h
        by_cases h10 : (d :: e :: r).head? = some 10
        · obtain rfl : d = 10 := by simpa using h10
          rw [if_pos h10, List.cons_append, LC_cons, if_neg (fun q => absurd q.1 (by decide)), if_neg (fun q => absurd q.1 (by decide))]; rfl
        · rw [if_neg h10] at hp h ⊢
          by_cases h13 : (d :: e :: r).take 2 = [13, 10]
          · rw [if_pos h13]
            obtain ⟨rfl, rfl⟩ : d = 13 ∧ e = 10 := by simpa using h13
            rw [List.cons_append, LC_cons, if_neg (fun q => absurd q.1 (by decide)), if_neg (fun q => absurd q.1 (by decide)), List.cons_append, LC_cons, if_neg (fun q => absurd q.1 (by decide)), if_neg (fun q => absurd q.1 (by decide))]; rfl
          · rw [if_neg h13] at hp; exact absurd rfl hp
      · rw [if_neg h92] at hp h ⊢
        rw [cmt_cons'] at hp h ⊢
        by_cases h47 : c = 47
        · rw [if_pos h47] at hp h ⊢
          rw [show (d :: e :: r : B).head? = some d from rfl] at hp h ⊢
          by_cases hd : some d = some 47
          · rw [if_pos hd] at hp h ⊢
            obtain rfl : d = 47 := by simpa using hd
            subst h47
            have hlt : upto10 (47 :: 47 :: e :: r) < (47 :: 47 :: e :: r : B).length := by
              rw [upto10, if_neg (by decide)]; simp only [List.length_cons] at h ⊢; omega
            have hup := upto10_app_lt y (47 :: 47 :: e :: r) hlt
            rw [if_neg (by simp), if_pos ⟨rfl, rfl⟩]
            rw [show (47 :: ((47 :: e :: r) ++ y) : B) = (47 :: 47 :: e :: r) ++ y from rfl, hup, if_neg (by rw [List.length_append]; omega)]
            have hat := upto10_at (47 :: 47 :: e :: r) hlt
            have hu : upto10 (47 :: e :: r) + 1 = upto10 (47 :: 47 :: e :: r) := by
              conv => rhs; rw [upto10, if_neg (by decide)]
            rw [hu, hat, List.cons_append (a := 10), LC_cons 10, if_neg (fun q => absurd q.1 (by decide)), if_neg (fun q => absurd q.1 (by decide))]
            rw [List.drop_append_of_le_length (by omega)]
          · rw [if_neg hd] at hp h ⊢
            by_cases h42 : some d = some 42
            · rw [if_pos h42] at hp h ⊢
              obtain rfl : d = 42 := by simpa using h42
              subst h47
              have hc : closed (e :: r) = true := isOpen_block ho rfl
              rw [if_pos ⟨rfl, rfl⟩]
              rw [show ((42 :: e :: r) ++ y : B).drop 1 = (e :: r) ++ y from rfl, block_app y _ hc, List.drop_append_of_le_length (block_len _)]
              rfl
            · rw [if_neg h42] at hp; exact absurd rfl hp
        · rw [if_neg h47] at hp; exact absurd rfl hp
theorem LC_open (l : B) (h : isOpen l = true) : piece (l ++ [42, 47]) = l.length + 2 ∧ LC (l ++ [42, 47]) = false := by
  unfold isOpen at h
  split at h
  · rename_i r
    have hc : closed r = false := by simpa using h
    have e := block_shut r hc
    constructor
    · rw [show (47 :: 42 :: r ++ [42, 47] : B) = 47 :: 42 :: (r ++ [42, 47]) from rfl, piece_cons', if_neg (by decide), if_neg (by decide), cmt_cons', if_pos rfl, if_neg (by simp), if_pos (by rfl : (42 :: (r ++ [42, 47]) : B).head? = some 42), List.drop_succ_cons, List.drop_zero, e]
      rfl
    · rw [show (47 :: 42 :: r ++ [42, 47] : B) = 47 :: 42 :: (r ++ [42, 47]) from rfl, LC_cons, if_pos ⟨rfl, rfl⟩, List.drop_succ_cons, List.drop_zero, e, List.drop_of_length_le (by simp)]
      rfl
  · cases h
theorem flat_open (hS : Fair S) : ∀ (m : Nat) (l bf : B) (a : Nat) (f : Bool), l.length < m → opens K S m l f = true → LC (bf ++ l ++ [42, 47]) = LC (l ++ [42, 47]) →
    ∃ init be, flat K S (l.length + 1) bf l a f = init ++ [⟨0, be, [], a + l.length⟩] ∧ flat K S (l.length + 3) bf (l ++ [42, 47]) a f = init ++ [⟨0, be ++ [42, 47], [], a + l.length + 2⟩] ∧ 2 ≤ be.length ∧ LC (be ++ [42, 47]) = false := by
  intro m
  induction m with
  | zero => intro l bf a f h; omega
  | succ m ih =>
    intro l bf a f hm ho hlc
    have h2 := opens_len _ _ _ ho
    unfold opens at ho
    by_cases hp : piece l = 0
    · rw [if_neg (by simpa using hp)] at ho
      have hl : l ≠ [] := by rintro rfl; simp at h2
      rw [if_neg hl] at ho
      obtain ⟨c, r, rfl⟩ : ∃ c r, l = c :: r := by
        cases l with
        | nil => exact absurd rfl hl
        | cons c r => exact ⟨c, r, rfl⟩
      have ht := tok_len (K := K) hS f (c :: r) hl
      have h2' := opens_len _ _ _ ho
      rw [List.length_drop, List.length_cons] at h2'
      have ta := tok_app_close (K := K) hS f c r (by omega)
      have hop : isOpen (c :: r) = false := by
        cases h : isOpen (c :: r) with
        | false => rfl
        | true => have := isOpen_piece _ h; omega
      obtain ⟨d, e, r', rfl⟩ : ∃ d e r', r = d :: e :: r' := by
        match r, h2' with
        | [], h => simp at h; omega
        | [d], h => simp at h; omega
        | d :: e :: r', _ => exact ⟨d, e, r', rfl⟩
      have pa := piece_app_lt c d e r' [42, 47] hop (by omega)
      rw [hp] at pa
      rw [flat_tok K S _ bf (c :: d :: e :: r') a f _ hp hl rfl, flat_tok K S _ bf (c :: d :: e :: r' ++ [42, 47]) a f _ pa (by simp) ta]
      generalize tok K S f (c :: d :: e :: r') = t at *
      obtain ⟨init, be, e1, e2, e3, e4⟩ := ih ((c :: d :: e :: r').drop t.2) [] (a + t.2) false (by rw [List.length_drop]; omega) ho rfl
      refine ⟨⟨t.1, bf, (c :: d :: e :: r').take t.2, a⟩ :: init, be, ?_, ?_, e3, e4⟩
      · rw [flat_fuel hS (((c :: d :: e :: r').drop t.2).length + 1) _ _ _ _ _ (by omega) (by rw [List.length_drop]; omega), e1, List.length_drop, show a + t.2 + ((c :: d :: e :: r').length - t.2) = a + (c :: d :: e :: r').length by omega]
        rfl
      · rw [List.length_drop, show a + t.2 + ((c :: d :: e :: r').length - t.2) + 2 = a + (c :: d :: e :: r').length + 2 by omega] at e2
        rw [take_app ht.2.1, List.drop_append_of_le_length ht.2.1, flat_fuel hS ((c :: d :: e :: r').length - t.2 + 3) _ _ _ _ _ (by simp only [List.length_append, List.length_drop, List.length_cons, List.length_nil]; omega) (by simp only [List.length_cons]; omega), e2]
        rfl
    · rw [if_pos hp, Bool.or_eq_true] at ho
      by_cases hop : isOpen l = true
      · obtain ⟨p1, p2⟩ := isOpen_piece l hop
        obtain ⟨q1, q2⟩ := LC_open l hop
        refine ⟨[], bf ++ l, ?_, ?_, by rw [List.length_append]; omega, ?_⟩
        · obtain ⟨k, hk⟩ : ∃ k, l.length = k + 1 := ⟨l.length - 1, by omega⟩
          rw [flat_piece K S _ bf l a f _ p1 (by omega), List.take_of_length_le (Nat.le_refl _), List.drop_of_length_le (Nat.le_refl _)]
          generalize clearAfter l l.length f = g
          rw [hk, flat_end]
          rw [← hk]; rfl
        · rw [flat_piece K S _ bf (l ++ [42, 47]) a f _ q1 (by omega), List.take_of_length_le (by simp), List.drop_of_length_le (by simp), flat_end, List.append_assoc]
          rfl
        · rw [hlc, q2]
      · have hop' : isOpen l = false := by simpa using hop
        have ho2 := ho.resolve_left hop
        have h2' := opens_len _ _ _ ho2
        rw [List.length_drop] at h2'
        have hle := piece_len l
        have hl : l ≠ [] := by rintro rfl; simp at h2
        obtain ⟨c, d, e, r', rfl⟩ : ∃ c d e r', l = c :: d :: e :: r' := by
          match l, h2', hp with
          | [], h, _ => simp at h
          | [c], h, hp => simp at h; omega
          | [c, d], h, hp => simp at h; omega
          | c :: d :: e :: r', _, _ => exact ⟨c, d, e, r', rfl⟩
        have pa := piece_app_lt c d e r' [42, 47] hop' (by simp only [List.length_cons] at h2' ⊢; omega)
        have lp := LC_piece (c :: d :: e :: r') [42, 47] hop' hp (by omega)
        have ca := clearAfter_app (c :: d :: e :: r') [42, 47] (piece (c :: d :: e :: r')) f hle hl
        rw [flat_piece K S _ bf (c :: d :: e :: r') a f _ rfl hp, flat_piece K S _ bf (c :: d :: e :: r' ++ [42, 47]) a f _ pa hp, ca, take_app hle, List.drop_append_of_le_length hle]
        generalize hn : piece (c :: d :: e :: r') = n at *
        obtain ⟨init, be, e1, e2, e3, e4⟩ := ih ((c :: d :: e :: r').drop n) (bf ++ (c :: d :: e :: r').take n) (a + n) (clearAfter (c :: d :: e :: r') n f) (by rw [List.length_drop]; omega) ho2
          (by rw [List.append_assoc bf, List.take_append_drop, hlc, lp])
        refine ⟨init, be, ?_, ?_, e3, e4⟩
        · rw [flat_fuel hS (((c :: d :: e :: r').drop n).length + 1) _ _ _ _ _ (by omega) (by rw [List.length_drop]; omega), e1, List.length_drop, show a + n + ((c :: d :: e :: r').length - n) = a + (c :: d :: e :: r').length by omega]
        · rw [List.length_drop, show a + n + ((c :: d :: e :: r').length - n) + 2 = a + (c :: d :: e :: r').length + 2 by omega] at e2
          rw [flat_fuel hS ((c :: d :: e :: r').length - n + 3) _ _ _ _ _ (by simp only [List.length_append, List.length_drop, List.length_cons, List.length_nil]; omega) (by simp only [List.length_cons]; omega), e2]
/-- places moved on -/
def mv (d : Nat) (t : Tok) : Tok := ⟨t.kind, t.before, t.text, t.at_ + d⟩
theorem flat_mv (d : Nat) : ∀ (k : Nat) (bf l : B) (a : Nat) (f : Bool), flat K S k bf l (a + d) f = (flat K S k bf l a f).map (mv d) := by
  intro k
  induction k with
  | zero => intro bf l a f; rfl
  | succ k ih =>
    intro bf l a f
    rw [flat, flat]
    by_cases hp : piece l ≠ 0
    · rw [if_pos hp, if_pos hp, show a + d + piece l = a + piece l + d by omega, ih]
    · rw [if_neg hp, if_neg hp]
      by_cases hl : l = []
      · rw [if_pos hl, if_pos hl]; rfl
      · rw [if_neg hl, if_neg hl, List.map_cons, show a + d + (tok K S f l).2 = a + (tok K S f l).2 + d by omega, ih]; rfl
/-- more ahead of the first token -/
def ahead (p : B) : List Tok → List Tok
  | [] => []
  | t :: r => ⟨t.kind, p ++ t.before, t.text, t.at_⟩ :: r
theorem flat_ahead (p : B) : ∀ (k : Nat) (bf l : B) (a : Nat) (f : Bool), flat K S k (p ++ bf) l a f = ahead p (flat K S k bf l a f) := by
  intro k
  induction k with
  | zero => intro bf l a f; rfl
  | succ k ih =>
    intro bf l a f
    rw [flat, flat]
    by_cases hp : piece l ≠ 0
    · rw [if_pos hp, if_pos hp, List.append_assoc, ih]
    · rw [if_neg hp, if_neg hp]
      by_cases hl : l = []
      · rw [if_pos hl, if_pos hl]; rfl
      · rw [if_neg hl, if_neg hl]; rfl
/-- the tokens of two texts with a line feed between -/
theorem tokens_two (hS : Fair S) (a b : B) (he : EndOk a) (ho : opens K S (a.length + 1) a true = false) :
    ∃ init be, tokens K S a = init ++ [⟨0, be, [], a.length⟩] ∧ tokens K S (a ++ 10 :: b) = init ++ (ahead (be ++ [10]) (tokens K S b)).map (mv (a.length + 1)) := by
  obtain ⟨init, be, e1, e2⟩ := flat_two hS b _ a [] 0 true (Nat.lt_succ_self _) he ho
  rw [Nat.zero_add] at e1 e2
  refine ⟨init, be, by rw [tokens_flat hS, e1], ?_⟩
  rw [tokens_flat hS, tokens_flat hS, List.length_append, List.length_cons, show a.length + (b.length + 1) + 1 = a.length + b.length + 2 by omega, e2, ← flat_ahead, List.append_nil]
  congr 1
  have := flat_mv (K := K) (S := S) (a.length + 1) (b.length + 1) (be ++ [10]) b 0 true
  rw [Nat.zero_add] at this
  exact this
theorem tokens_open (hS : Fair S) (a : B) (ho : opens K S (a.length + 1) a true = true) :
    ∃ init be, tokens K S a = init ++ [⟨0, be, [], a.length⟩] ∧ tokens K S (a ++ [42, 47]) = init ++ [⟨0, be ++ [42, 47], [], a.length + 2⟩] ∧ 2 ≤ be.length ∧ LC (be ++ [42, 47]) = false := by
  obtain ⟨init, be, e1, e2, e3, e4⟩ := flat_open hS _ a [] 0 true (Nat.lt_succ_self _) ho rfl
  rw [Nat.zero_add] at e1 e2
  exact ⟨init, be, by rw [tokens_flat hS, e1], by rw [tokens_flat hS, List.length_append]; exact e2, e3, e4⟩
end Go.Proofs.YtabnmkakgcifoaaDoor.Lx

namespace Go.Proofs.YtabnmkakgcifoaaDoor.PLex
open Go.RowKit Go.Proofs.YtabnmkakgcifoaaDoorW.PrintWords Go.Proofs.YtabnmkakgcifoaaDoorW.PrintLast Go.Proofs.YtabnmkakgcifoaaDoorW.PrintMore
theorem signs_fair : Lx.Fair signsL := by
  have h : ∀ s ∈ signsL, s.head? ≠ some 39 ∧ s.head? ≠ some 34 ∧ s.head? ≠ some 92 ∧ (10 : UInt8) ∉ s ∧ (32 : UInt8) ∉ s ∧ (s.head? = some 35 → s = [35]) ∧ s.head?.any Lx.isBl = false ∧ s.length ≤ 3 := by decide +kernel
  refine ⟨fun s hs => (h s hs).1, fun s hs => (h s hs).2.1, fun s hs => (h s hs).2.2.1, fun s hs => (h s hs).2.2.2.1, fun s hs => (h s hs).2.2.2.2.1, fun s hs => (h s hs).2.2.2.2.2.1, fun s hs c hc => ?_, fun s hs => (h s hs).2.2.2.2.2.2.2⟩
  have := (h s hs).2.2.2.2.2.2.1
  rw [hc] at this
  exact this
/-- the tokens of a text -/
@[irreducible] def toks (s : ByteArray) : List Lx.Tok := Lx.tokens keysL signsL (bl s)
theorem scanR_ok (s : ByteArray) (h : (scanR s).2 = 0) : (scanR s).1 = (toks s).map toS ∧ s.size ≤ 200000 ∧ (toks s).length ≤ 40000 := by
  unfold scanR at h ⊢
  by_cases h1 : 200000 < s.size
  · rw [if_pos h1] at h; exact absurd h (by decide)
  · rw [if_neg h1] at h ⊢
    by_cases h2 : 40000 < (Lx.tokens keysL signsL (bl s)).length
    · rw [if_pos h2] at h; exact absurd h (by decide)
    · rw [if_neg h2]; unfold toks; exact ⟨rfl, by omega, by omega⟩
theorem scanR_bad (s : ByteArray) (h : (scanR s).2 ≠ 0) : 40000 ≤ s.size := by
  unfold scanR at h
  by_cases h1 : 200000 < s.size
  · omega
  · rw [if_neg h1] at h
    by_cases h2 : 40000 < (Lx.tokens keysL signsL (bl s)).length
    · have := Lx.tokens_len (K := keysL) signs_fair (bl s)
      rw [bl_length] at this
      omega
    · rw [if_neg h2] at h; exact absurd rfl h
theorem rd_at (l : List S30) (i : Nat) (h : i < l.length) : rd_T30 l (i : Int) = l[i] := by
  unfold rd_T30
  rw [Int.toNat_natCast, List.getD_eq_getElem?_getD, List.getElem?_eq_getElem h]; rfl
theorem rd_map (l : List Lx.Tok) (i : Nat) (h : i < l.length) : rd_T30 (l.map toS) (i : Int) = toS l[i] := by
  rw [rd_at _ i (by rw [List.length_map]; exact h), List.getElem_map]
theorem rd_last (l : List Lx.Tok) (t : Lx.Tok) : rd_T30 ((l ++ [t]).map toS) (wrap64 ((((l ++ [t]).map toS).length : Int) - 1)) = toS t ∨ 1000000000000 < l.length := by
  rcases Nat.lt_or_ge 1000000000000 l.length with h | h
  · exact Or.inr h
  · left
    rw [List.length_map, List.length_append, List.length_singleton, w64 (by omega) (by omega), show ((l.length + 1 : Nat) : Int) - 1 = (l.length : Int) by omega, rd_map _ l.length (by simp)]
    simp
theorem mk_bl' (l : List UInt8) : bl (⟨l.toArray⟩ : ByteArray) = l := by simp [bl]
theorem mk_size (l : List UInt8) : (⟨l.toArray⟩ : ByteArray).size = l.length := by rw [← bl_length, mk_bl']
theorem bl_app (x y : ByteArray) : bl (x ++ y) = bl x ++ bl y := by
  unfold bl
  rw [ByteArray.data_append, Array.toList_append]
theorem toks_ne (s : ByteArray) : ∃ init e, toks s = init ++ [e] := by
  have h := Lx.tokens_row (K := keysL) signs_fair (bl s)
  unfold toks
  generalize Lx.tokens keysL signsL (bl s) = l at *
  cases l with
  | nil => exact absurd h (by simp [Lx.Row])
  | cons t r => exact ⟨(t :: r).dropLast, (t :: r).getLast (by simp), (List.dropLast_concat_getLast _).symm⟩
theorem toks_len (s : ByteArray) : (toks s).length ≤ s.size + 1 := by
  have := Lx.tokens_len (K := keysL) signs_fair (bl s)
  rw [bl_length] at this
  unfold toks
  exact this
end Go.Proofs.YtabnmkakgcifoaaDoor.PLex

namespace Go.Proofs.YtabnmkakgcifoaaDoor.PLex
open Go.RowKit Go.Proofs.YtabnmkakgcifoaaDoorW.PrintWords Go.Proofs.YtabnmkakgcifoaaDoorW.PrintLast Go.Proofs.YtabnmkakgcifoaaDoorW.PrintMore
theorem wsub (x y : Nat) (hx : x ≤ 1000000000) (hy : y ≤ 1000000000) : wrap64 ((x : Int) - (y : Int)) = (x : Int) - (y : Int) := w64 (by omega) (by omega)
theorem wadd (x y : Nat) (hx : x ≤ 1000000000) (hy : y ≤ 1000000000) : wrap64 ((x : Int) + (y : Int)) = ((x + y : Nat) : Int) := by rw [w64 (by omega) (by omega)]; omega
section
variable (s : ByteArray) (hs : s.size ≤ 1000000000000)
include hs
theorem lc_l1 (j0 : Nat) (h : ∀ i : Nat, j0 < i → i ≤ s.size + 2 → Ev (fun k => lw2_lineComment.l0 k s i) (Lx.LC ((bl s).drop i))) : ∀ (m j : Nat), s.size < j + m → j0 ≤ j → j ≤ s.size →
    Ev (fun k => lw2_lineComment.l1 k s j) (Lx.LC ((bl s).drop (j + Lx.block ((bl s).drop j)))) := by
  intro m
  induction m with
  | zero => intro j h1 h2 h3; omega
  | succ m ih =>
    intro j h1 h2 h3
    have hw : Aside0 (wrap64 ((j : Int) + 1) = ((j + 1 : Nat) : Int)) := Aside0.mk (by rw [w64 (by omega) (by omega)]; omega)
    have hw2 : Aside0 (wrap64 (((j + 1 : Nat) : Int) + 1) = ((j + 2 : Nat) : Int)) := Aside0.mk (by rw [w64 (by omega) (by omega)]; omega)
    rcases Nat.lt_or_ge (j + 1) s.size with hj | hj
    · have hB := drop_B s j (by omega)
      have hB1 := drop_B s (j + 1) hj
      have head : ∀ k, lw2_lineComment.l1 (k + 1) s j = if B s j = 42 ∧ B s (j + 1) = 47 then lw2_lineComment.l0 k s ((j + 2 : Nat) : Int) else lw2_lineComment.l1 k s ((j + 1 : Nat) : Int) := by
        intro k
        rw [lw2_lineComment.l1, hw.out, if_pos (by omega), if_pos (by omega), if_pos (by omega), bt_B s j (by omega), bt_B s (j + 1) hj, hw2.out]
        by_cases hc : B s j = 42
        · rw [if_pos (by rw [hc]; rfl), if_pos (by omega)]
          by_cases hd : B s (j + 1) = 47
          · rw [if_pos ((ci47 _).mpr hd), if_pos ⟨hc, hd⟩]
          · rw [if_neg (fun q => hd ((ci47 _).mp q)), if_neg (fun q => hd q.2)]
        · rw [if_neg (fun q => hc (by rw [← UInt8.toNat_inj]; show _ = 42; omega)), if_neg (fun q => hc q.1)]
      rw [hB, Lx.block_cons]
      have hh : ((bl s).drop (j + 1)).head? = some (B s (j + 1)) := by rw [hB1]; rfl
      by_cases hc : B s j = 42 ∧ B s (j + 1) = 47
      · rw [if_pos ⟨hc.1, by rw [hh, hc.2]⟩]
        exact Ev.step (fun k => (head k).trans (if_pos hc)) (h (j + 2) (by omega) (by omega))
      · rw [if_neg (fun q => hc ⟨q.1, by have := q.2; rw [hh] at this; simpa using this⟩)]
        have e := ih (j + 1) (by omega) (by omega) (by omega)
        rw [show j + (Lx.block ((bl s).drop (j + 1)) + 1) = j + 1 + Lx.block ((bl s).drop (j + 1)) by omega]
        exact Ev.step (fun k => (head k).trans (if_neg hc)) e
    · have hb : Lx.LC ((bl s).drop (j + Lx.block ((bl s).drop j))) = Lx.LC ((bl s).drop (j + 2)) := by
        rw [drop_end s (j + 2) (by omega)]
        have hlen : ((bl s).drop j).length = s.size - j := by rw [List.length_drop, bl_length]
        have hbl : Lx.block ((bl s).drop j) = ((bl s).drop j).length := by
          match hl : (bl s).drop j with
          | [] => rfl
          | [c] => rw [Lx.block_cons, if_neg (by simp)]; rfl
          | c :: d :: r => rw [hl] at hlen; simp only [List.length_cons] at hlen; omega
        rw [hbl, hlen, drop_end s _ (by omega)]
      rw [hb]
      refine Ev.step (fun k => ?_) (h (j + 2) (by omega) (by omega))
      rw [lw2_lineComment.l1, hw.out, if_neg (by omega), hw2.out]
theorem lc_l2 (j0 : Nat) (h : ∀ i : Nat, j0 < i → i ≤ s.size + 2 → Ev (fun k => lw2_lineComment.l0 k s i) (Lx.LC ((bl s).drop i))) : ∀ (m j : Nat), s.size < j + m → j0 ≤ j → j ≤ s.size →
    Ev (fun k => lw2_lineComment.l2 k s j) (if Lx.upto10 ((bl s).drop j) = ((bl s).drop j).length then true else Lx.LC ((bl s).drop (j + Lx.upto10 ((bl s).drop j) + 1))) := by
  intro m
  induction m with
  | zero => intro j h1 h2 h3; omega
  | succ m ih =>
    intro j h1 h2 h3
    have hw : Aside0 (wrap64 ((j : Int) + 1) = ((j + 1 : Nat) : Int)) := Aside0.mk (by rw [w64 (by omega) (by omega)]; omega)
    rcases Nat.lt_or_ge j s.size with hj | hj
    · have hB := drop_B s j hj
      have head : ∀ k, lw2_lineComment.l2 (k + 1) s j = if B s j = 10 then lw2_lineComment.l0 k s ((j + 1 : Nat) : Int) else lw2_lineComment.l2 k s ((j + 1 : Nat) : Int) := by
        intro k
        rw [lw2_lineComment.l2, hw.out, if_pos (by omega), if_pos (by omega), bt_B s j hj]
        by_cases hc : B s j = 10
        · rw [if_pos ((ci10 _).mpr hc), if_neg (by omega), if_pos hc]
        · rw [if_neg (fun q => hc ((ci10 _).mp q)), if_neg hc]
      rw [hB, Lx.upto10]
      by_cases hc : B s j = 10
      · rw [if_pos hc, if_neg (by simp)]
        exact Ev.step (fun k => (head k).trans (if_pos hc)) (h (j + 1) (by omega) (by omega))
      · rw [if_neg hc]
        have e := ih (j + 1) (by omega) (by omega) (by omega)
        rw [show j + (Lx.upto10 ((bl s).drop (j + 1)) + 1) + 1 = j + 1 + Lx.upto10 ((bl s).drop (j + 1)) + 1 by omega]
        by_cases hu : Lx.upto10 ((bl s).drop (j + 1)) = ((bl s).drop (j + 1)).length
        · rw [if_pos hu] at e
          rw [if_pos (by rw [List.length_cons]; omega)]
          exact Ev.step (fun k => (head k).trans (if_neg hc)) e
        · rw [if_neg hu] at e
          rw [if_neg (by rw [List.length_cons]; omega)]
          exact Ev.step (fun k => (head k).trans (if_neg hc)) e
    · rw [drop_end s j hj, if_pos (show Lx.upto10 [] = ([] : List UInt8).length from rfl)]
      refine Ev.step (fun k => ?_) (Ev.now _)
      rw [lw2_lineComment.l2, if_neg (by omega), if_pos (by omega)]
theorem lc_l0 : ∀ (m i : Nat), s.size + 2 < i + m → i ≤ s.size + 2 → Ev (fun k => lw2_lineComment.l0 k s i) (Lx.LC ((bl s).drop i)) := by
  intro m
  induction m with
  | zero => intro i h1 h2; omega
  | succ m ih =>
    intro i h1 h2
    have hw : Aside0 (wrap64 ((i : Int) + 1) = ((i + 1 : Nat) : Int)) := Aside0.mk (by rw [w64 (by omega) (by omega)]; omega)
    have hw2 : Aside0 (wrap64 ((i : Int) + 2) = ((i + 2 : Nat) : Int)) := Aside0.mk (by rw [w64 (by omega) (by omega)]; omega)
    have IH : ∀ j : Nat, i < j → j ≤ s.size + 2 → Ev (fun k => lw2_lineComment.l0 k s j) (Lx.LC ((bl s).drop j)) := fun j hj hj2 => ih j (by omega) hj2
    rcases Nat.lt_or_ge i s.size with hi | hi
    · have hB := drop_B s i hi
      have head : ∀ k, lw2_lineComment.l0 (k + 1) s i = lw2_lineComment.j1 k s i (decide (B s i = 47 ∧ ((bl s).drop (i + 1)).head? = some 42)) := by
        intro k
        rw [lw2_lineComment.l0, hw.out, if_pos (by omega)]
        rcases Nat.lt_or_ge (i + 1) s.size with hj | hj
        · rw [if_pos (by omega), if_pos (by omega), bt_B s i hi, bt_B s (i + 1) hj, drop_B s (i + 1) hj]
          by_cases hc : B s i = 47
          · rw [if_pos ((ci47 _).mpr hc), if_pos (by omega)]
            congr 1
            rw [Bool.eq_iff_iff, decide_eq_true_eq, beq_iff_eq]
            simp only [List.head?_cons, Option.some.injEq, hc, true_and]
            rw [← UInt8.toNat_inj]
            show _ ↔ _ = 42
            omega
          · rw [if_neg (fun q => hc ((ci47 _).mp q))]
            congr 1
            rw [eq_comm, decide_eq_false_iff_not]
            exact fun q => hc q.1
        · rw [if_neg (by omega), drop_end s (i + 1) hj]
          congr 1
          rw [eq_comm, decide_eq_false_iff_not]
          exact fun q => absurd q.2 (by simp)
      have head1 : ∀ k, lw2_lineComment.j1 (k + 1) s i false = lw2_lineComment.j3 k s i (decide (B s i = 47 ∧ ((bl s).drop (i + 1)).head? = some 47)) := by
        intro k
        rw [lw2_lineComment.j1, if_neg (by decide), hw.out]
        rcases Nat.lt_or_ge (i + 1) s.size with hj | hj
        · rw [if_pos (by omega), if_pos (by omega), if_pos (by omega), bt_B s i hi, bt_B s (i + 1) hj, drop_B s (i + 1) hj]
          by_cases hc : B s i = 47
          · rw [if_pos ((ci47 _).mpr hc), if_pos (by omega)]
            congr 1
            rw [Bool.eq_iff_iff, decide_eq_true_eq, beq_iff_eq]
            simp only [List.head?_cons, Option.some.injEq, hc, true_and]
            rw [ci47]
          · rw [if_neg (fun q => hc ((ci47 _).mp q))]
            congr 1
            rw [eq_comm, decide_eq_false_iff_not]
            exact fun q => hc q.1
        · rw [if_neg (by omega), drop_end s (i + 1) hj]
          congr 1
          rw [eq_comm, decide_eq_false_iff_not]
          exact fun q => absurd q.2 (by simp)
      rw [hB, Lx.LC_cons]
      by_cases h42 : B s i = 47 ∧ ((bl s).drop (i + 1)).head? = some 42
      · rw [if_pos h42]
        refine Ev.step (f := fun k => lw2_lineComment.j1 k s i true) (fun k => by rw [head, decide_eq_true h42]) (Ev.step (f := fun k => lw2_lineComment.l1 k s ((i + 2 : Nat) : Int)) (fun k => by rw [lw2_lineComment.j1, if_pos rfl, hw2.out]) ?_)
        have hlt : i + 1 < s.size := by
          rcases Nat.lt_or_ge (i + 1) s.size with h | h
          · exact h
          · rw [drop_end s (i + 1) h] at h42; exact absurd h42.2 (by simp)
        have e := lc_l1 s hs i IH (s.size + 1) (i + 2) (by omega) (by omega) (by omega)
        rw [show ((bl s).drop (i + 1)).drop 1 = (bl s).drop (i + 2) by rw [List.drop_drop], List.drop_drop]
        exact e
      · rw [if_neg h42]
        refine Ev.step (f := fun k => lw2_lineComment.j1 k s i false) (fun k => by rw [head, decide_eq_false h42]) ?_
        by_cases h47 : B s i = 47 ∧ ((bl s).drop (i + 1)).head? = some 47
        · rw [if_pos h47, ← hB, List.drop_drop, ← Nat.add_assoc]
          refine Ev.step (f := fun k => lw2_lineComment.j3 k s i true) (fun k => by rw [head1, decide_eq_true h47]) (Ev.step (f := fun k => lw2_lineComment.l2 k s i) (fun k => by rw [lw2_lineComment.j3, if_pos rfl]) ?_)
          exact lc_l2 s hs i IH (s.size + 1) i (by omega) (by omega) (by omega)
        · rw [if_neg h47]
          refine Ev.step (f := fun k => lw2_lineComment.j3 k s i false) (fun k => by rw [head1, decide_eq_false h47]) (Ev.step (f := fun k => lw2_lineComment.l0 k s ((i + 1 : Nat) : Int)) (fun k => by rw [lw2_lineComment.j3, if_neg (by decide), hw.out]) ?_)
          exact IH (i + 1) (by omega) (by omega)
    · rw [drop_end s i hi]
      refine Ev.step (fun k => ?_) (Ev.now _)
      rw [lw2_lineComment.l0, if_neg (by omega)]
      rfl
theorem lineComment_eq : Ev (fun k => lw2_lineComment.f k s) (Lx.LC (bl s)) := by
  have e := lc_l0 s hs (s.size + 3) 0 (by omega) (by omega)
  rw [List.drop_zero] at e
  exact Ev.congr (fun k => by unfold lw2_lineComment.f; rfl) e
end
theorem open_eq (s : ByteArray) (hs : s.size ≤ 1000000) : ∃ t, Ev (fun k => lw2_open.f k s) t ∧ (t = false → Lx.opens keysL signsL (s.size + 1) (bl s) true = false) := by
  have hsz : (s ++ (⟨#[42, 47]⟩ : ByteArray)).size = s.size + 2 := by rw [ByteArray.size_append]; rfl
  have e1 := rall_eq (s ++ (⟨#[42, 47]⟩ : ByteArray)) (by omega)
  have e2 := rall_eq s (by omega)
  have hb : bl (s ++ (⟨#[42, 47]⟩ : ByteArray)) = bl s ++ [42, 47] := bl_app _ _
  obtain ⟨i1, x1, ht1⟩ := toks_ne (s ++ (⟨#[42, 47]⟩ : ByteArray))
  obtain ⟨i2, x2, ht2⟩ := toks_ne s
  have hl1 := toks_len (s ++ (⟨#[42, 47]⟩ : ByteArray))
  have hl2 := toks_len s
  have hop := Lx.tokens_open (K := keysL) (S := signsL) signs_fair (bl s)
  rw [← hb, bl_length] at hop
  unfold toks at ht1 ht2 hl1 hl2
  rw [ht1] at e1 hl1 hop
  rw [ht2] at e2 hl2 hop
  rw [List.length_append, List.length_singleton] at hl1 hl2
  have r1 := (rd_last i1 x1).resolve_right (by omega)
  have r2 := (rd_last i2 x2).resolve_right (by omega)
  have n1 : (((i1 ++ [x1]).map toS).length : Int) = (i1.length : Int) + 1 := by simp
  have n2 : (((i2 ++ [x2]).map toS).length : Int) = (i2.length : Int) + 1 := by simp
  have w1 : Aside0 (wrap64 ((((i1 ++ [x1]).map toS).length : Int) - 1) = (i1.length : Int)) := Aside0.mk (by rw [n1, w64 (by omega) (by omega)]; omega)
  have w2 : Aside0 (wrap64 ((((i2 ++ [x2]).map toS).length : Int) - 1) = (i2.length : Int)) := Aside0.mk (by rw [n2, w64 (by omega) (by omega)]; omega)
  rw [w1.out] at r1
  rw [w2.out] at r2
  have s1 : (toS x1).f1.size = x1.before.length := mk_size _
  have s2 : (toS x2).f1.size = x2.before.length := mk_size _
  have hx1 : x1.before.length ≤ s.size + 2 := by
    have := Lx.tokens_text (K := keysL) signs_fair (bl (s ++ (⟨#[42, 47]⟩ : ByteArray)))
    rw [ht1] at this
    have := congrArg List.length this
    rw [bl_length, hsz] at this
    simp only [Lx.textOf, List.map_append, List.flatten_append, List.length_append, List.map_cons, List.map_nil, List.flatten_cons, List.flatten_nil, List.append_nil] at this
    omega
  have hx2 : x2.before.length ≤ s.size := by
    have := Lx.tokens_text (K := keysL) signs_fair (bl s)
    rw [ht2] at this
    have := congrArg List.length this
    rw [bl_length] at this
    simp only [Lx.textOf, List.map_append, List.flatten_append, List.length_append, List.map_cons, List.map_nil, List.flatten_cons, List.flatten_nil, List.append_nil] at this
    omega
  have head : ∀ k, lw2_open.f k s = (rf2_All.f k (s ++ (⟨#[42, 47]⟩ : ByteArray))).bind fun t211 => ((rf2_All.f k s).bind fun t214 => (if 0 ≤ (wrap64 ((t211.length : Int) - 1)) then (if (wrap64 ((t211.length : Int) - 1)) < (t211.length : Int) then (if (((rd_T30 t211 (wrap64 ((t211.length : Int) - 1))).f1).size : Int) ≥ 2 then (if 0 ≤ (wrap64 ((t214.length : Int) - 1)) then (if (wrap64 ((t214.length : Int) - 1)) < (t214.length : Int) then (if (wrap64 ((((rd_T30 t214 (wrap64 ((t214.length : Int) - 1))).f1).size : Int) + 2)) = (((rd_T30 t211 (wrap64 ((t211.length : Int) - 1))).f1).size : Int) then (if (t211.length : Int) = (t214.length : Int) then ((lw2_lineComment.f k ((rd_T30 t211 (wrap64 ((t211.length : Int) - 1))).f1)).bind fun t221 => (some (!t221))) else (some false)) else (some false)) else (none)) else (none)) else (some false)) else (none)) else (none))) := by
    intro k
    unfold lw2_open.f
    rw [if_pos (by omega)]
  have hlc := lineComment_eq (toS x1).f1 (by omega)
  rw [show bl (toS x1).f1 = x1.before from mk_bl' _] at hlc
  let T : Bool := if 2 ≤ x1.before.length ∧ x2.before.length + 2 = x1.before.length ∧ i1.length = i2.length then !(Lx.LC x1.before) else false
  refine ⟨T, Ev.congr head (Ev.bind e1 (Ev.bind e2 ?_)), ?_⟩
  · rw [w1.out, w2.out, r1, r2, s1, s2, n1, n2]
    have w3 : Aside0 (wrap64 ((x2.before.length : Int) + 2) = (x2.before.length : Int) + 2) := Aside0.mk (w64 (by omega) (by omega))
    rw [w3.out]
    refine Ev.congr (fun k => if_pos (by omega)) (Ev.congr (fun k => if_pos (by omega)) ?_)
    by_cases c1 : 2 ≤ x1.before.length
    · refine Ev.congr (fun k => if_pos (by omega)) (Ev.congr (fun k => if_pos (by omega)) (Ev.congr (fun k => if_pos (by omega)) ?_))
      by_cases c2 : x2.before.length + 2 = x1.before.length
      · refine Ev.congr (fun k => if_pos (by omega)) ?_
        by_cases c3 : i1.length = i2.length
        · refine Ev.congr (fun k => if_pos (by omega)) (Ev.bind hlc ?_)
          rw [show T = !(Lx.LC x1.before) from if_pos ⟨c1, c2, c3⟩]
          exact Ev.now _
        · refine Ev.congr (fun k => if_neg (by omega)) ?_
          rw [show T = false from if_neg (fun q => c3 q.2.2)]
          exact Ev.now _
      · refine Ev.congr (fun k => if_neg (by omega)) ?_
        rw [show T = false from if_neg (fun q => c2 q.2.1)]
        exact Ev.now _
    · refine Ev.congr (fun k => if_neg (by omega)) ?_
      rw [show T = false from if_neg (fun q => c1 q.1)]
      exact Ev.now _
  · intro hT
    cases ho : Lx.opens keysL signsL (s.size + 1) (bl s) true with
    | false => rfl
    | true =>
      exfalso
      obtain ⟨init, be, f1, f2, f3, f4⟩ := hop ho
      obtain ⟨g1, g2⟩ := List.append_inj' f1 rfl
      obtain ⟨g3, g4⟩ := List.append_inj' f2 rfl
      obtain rfl : x2 = ⟨0, be, [], s.size⟩ := by simpa using g2
      obtain rfl : x1 = ⟨0, be ++ [42, 47], [], s.size + 2⟩ := by simpa using g4
      have : T = true := by
        show (if _ then _ else _) = true
        rw [if_pos ⟨by simp, by simp, by rw [g1, g3]⟩]
        show (!(Lx.LC (be ++ [42, 47]))) = true
        rw [f4]; rfl
      rw [this] at hT
      exact absurd hT (by decide)
theorem endOk_of (s : ByteArray) (h : s.size = 0 ∨ (B s (s.size - 1) ≠ 92 ∧ B s (s.size - 1) ≠ 13)) : Lx.EndOk (bl s) := by
  intro q c e
  have hl := congrArg List.length e
  rw [bl_length, List.length_append, List.length_singleton] at hl
  rcases h with h | h
  · omega
  · have : B s (s.size - 1) = c := by
      unfold B
      rw [e, hl, Nat.add_sub_cancel, List.drop_left]; rfl
    rw [this] at h
    exact h
section
variable (a b : ByteArray) (hab : a.size + b.size ≤ 199999) (he : Lx.EndOk (bl a)) (ho : Lx.opens keysL signsL (a.size + 1) (bl a) true = false)
include hab he ho
theorem two_l0 (X Y Z : List S30) (hX : X = (toks a).map toS) (hY : Y = (toks b).map toS) (hZ : Z = (toks (a ++ (⟨#[10]⟩ : ByteArray) ++ b)).map toS) :
    (Z.length : Int) = (X.length : Int) + (Y.length : Int) - 1 ∧ Ev (fun k => lw2_LexTwo.l0 k a X Y Z 0) true := by
  have hb : bl (a ++ (⟨#[10]⟩ : ByteArray) ++ b) = bl a ++ 10 :: bl b := by rw [bl_app, bl_app, List.append_assoc]; rfl
  obtain ⟨init, be, f1, f2⟩ := Lx.tokens_two (K := keysL) signs_fair (bl a) (bl b) he (by rw [bl_length]; exact ho)
  rw [bl_length] at f1 f2
  have hla := toks_len a
  have hlb := toks_len b
  have hbe : be.length ≤ a.size := by
    have := Lx.tokens_text (K := keysL) signs_fair (bl a)
    rw [f1] at this
    have := congrArg List.length this
    rw [bl_length] at this
    simp only [Lx.textOf, List.map_append, List.flatten_append, List.length_append, List.map_cons, List.map_nil, List.flatten_cons, List.flatten_nil, List.append_nil] at this
    omega
  obtain ⟨i2, x2, ht2⟩ := toks_ne b
  have hbs : ∀ t ∈ toks b, t.before.length ≤ b.size ∧ t.at_ ≤ 2 * b.size + 2 := by
    intro t ht
    have hr := Lx.tokens_row (K := keysL) signs_fair (bl b)
    have htx := Lx.tokens_text (K := keysL) signs_fair (bl b)
    unfold toks at ht
    generalize Lx.tokens keysL signsL (bl b) = q at ht hr htx
    have hlen : (Lx.textOf q).length = b.size := by rw [htx, bl_length]
    have main : ∀ (q : List Lx.Tok) (p : Nat), Lx.Row p q → ∀ t ∈ q, t.before.length ≤ (Lx.textOf q).length ∧ t.at_ ≤ p + (Lx.textOf q).length := by
      intro q
      induction q with
      | nil => intro p h; exact absurd h (by simp [Lx.Row])
      | cons x r ih =>
        intro p h t ht
        have hto : (Lx.textOf (x :: r)).length = x.before.length + x.text.length + (Lx.textOf r).length := by
          simp only [Lx.textOf, List.map_cons, List.flatten_cons, List.length_append]
        cases r with
        | nil =>
          obtain rfl := List.mem_singleton.mp ht
          have := h.2.2
          omega
        | cons y r =>
          rcases List.mem_cons.mp ht with rfl | ht
          · have := h.2.2.1
            omega
          · have := ih _ h.2.2.2 t ht
            omega
    have := main q 0 hr t ht
    omega
  have hZt : toks (a ++ (⟨#[10]⟩ : ByteArray) ++ b) = init ++ (Lx.ahead (be ++ [10]) (toks b)).map (Lx.mv (a.size + 1)) := by
    unfold toks; rw [hb]; exact f2
  have hXt : toks a = init ++ [⟨0, be, [], a.size⟩] := by unfold toks; exact f1
  have hahl : (Lx.ahead (be ++ [10]) (toks b)).length = (toks b).length := by
    cases toks b <;> rfl
  have hxl : X.length = init.length + 1 := by rw [hX, List.length_map, hXt]; simp
  have hyl : Y.length = (toks b).length := by rw [hY, List.length_map]
  have hzl : Z.length = init.length + (toks b).length := by rw [hZ, List.length_map, hZt, List.length_append, List.length_map, hahl]
  have hbpos : 0 < (toks b).length := by rw [ht2]; simp
  have hil : init.length ≤ a.size := by rw [hXt] at hla; simp at hla; omega
  refine ⟨by omega, ?_⟩
  have hwx : Aside0 (wrap64 ((X.length : Int) - 1) = (init.length : Int)) := Aside0.mk (by rw [w64 (by omega) (by omega)]; omega)
  have hlast : rd_T30 X (init.length : Int) = toS ⟨0, be, [], a.size⟩ := by
    rw [hX, hXt, rd_map _ init.length (by simp)]
    simp
  have hZs : Z.length ≤ 1000000 := by omega
  have hins : init.length ≤ 1000000 := by omega
  have has : a.size ≤ 200000 := by omega
  have hbs1 : b.size ≤ 200000 := by omega
  have HAHL := Aside0.mk hahl
  have HBE := Aside0.mk hbe
  have HBPOS := Aside0.mk hbpos
  have HYL := Aside0.mk hyl
  clear hla hlb hil hab hahl hbe hbpos hyl
  obtain ⟨nb, hnb⟩ : ∃ n, (toks b).length = n := ⟨_, rfl⟩
  rw [hnb] at hzl
  have key : ∀ (m i : Nat), Z.length < i + m → i ≤ Z.length → Ev (fun k => lw2_LexTwo.l0 k a X Y Z i) true := by
    intro m
    induction m with
    | zero => intro i h1 h2; omega
    | succ m ih =>
      intro i h1 h2
      rcases Nat.lt_or_ge i Z.length with hi | hi
      · have hw : Aside0 (wrap64 ((i : Int) + 1) = ((i + 1 : Nat) : Int)) := Aside0.mk (by rw [w64 (by omega) (by omega)]; omega)
        have wq : Aside0 (wrap64 ((i : Int) - (init.length : Int)) = (i : Int) - (init.length : Int)) := Aside0.mk (wsub i init.length (by omega) (by omega))
        have e := ih (i + 1) (by omega) (by omega)
        refine Ev.step (f := fun k => lw2_LexTwo.l0 k a X Y Z ((i + 1 : Nat) : Int)) (fun k => ?_) e
        rw [lw2_LexTwo.l0, if_pos (by omega), hwx.out, wq.out, hw.out]
        rcases Nat.lt_or_ge i init.length with hlt | hge
        · rw [if_pos (by omega), if_pos (by omega), if_pos (by omega)]
          have e1 : rd_T30 Z i = toS init[i] := by
            rw [hZ, rd_map _ i (by rw [hZt, List.length_append]; omega)]
            congr 1
            simp only [hZt]
            rw [List.getElem_append_left hlt]
          have e2 : rd_T30 X i = toS init[i] := by
            rw [hX, rd_map _ i (by rw [hXt, List.length_append]; omega)]
            congr 1
            simp only [hXt]
            rw [List.getElem_append_left hlt]
          rw [e1, e2, if_neg (by simp)]
        · obtain ⟨j, rfl⟩ : ∃ j, i = init.length + j := ⟨i - init.length, by omega⟩
          have hj : j < (toks b).length := by rw [hnb]; omega
          have hjj : ((init.length + j : Nat) : Int) - (init.length : Int) = (j : Int) := by omega
          rw [hjj, if_neg (by omega), if_pos (by omega), if_pos (by rw [HYL.out]; exact Int.ofNat_lt.mpr hj), hlast]
          have ez : rd_T30 Z ((init.length + j : Nat) : Int) = toS (Lx.mv (a.size + 1) ((Lx.ahead (be ++ [10]) (toks b))[j]'(by rw [HAHL.out]; exact hj))) := by
            rw [hZ, rd_map _ (init.length + j) (by rw [hZt, List.length_append, List.length_map, HAHL.out]; exact Nat.add_lt_add_left hj _)]
            congr 1
            simp only [hZt]
            rw [List.getElem_append_right (by omega), List.getElem_map]
            simp only [Nat.add_sub_cancel_left]
          have ey : rd_T30 Y (j : Int) = toS (toks b)[j] := by rw [hY, rd_map _ j hj]
          rw [ez, ey]
          have hmem := hbs _ (List.getElem_mem hj)
          have wz : Aside0 (wrap64 (wrap64 ((toS (toks b)[j]).f3 + (a.size : Int)) + 1) = ((toks b)[j].at_ : Int) + ((a.size + 1 : Nat) : Int)) := Aside0.mk <| by
            have : (toS (toks b)[j]).f3 = ((toks b)[j].at_ : Int) := rfl
            rw [this, w64 (x := ((toks b)[j].at_ : Int) + (a.size : Int)) (by omega) (by omega), w64 (by omega) (by omega)]
            omega
          rw [wz.out]
          cases j with
          | zero =>
            have hah : ∀ h, (Lx.ahead (be ++ [10]) (toks b))[0]'h = (⟨(toks b)[0].kind, (be ++ ([10] : List UInt8)) ++ (toks b)[0].before, (toks b)[0].text, (toks b)[0].at_⟩ : Lx.Tok) := by
              intro h
              generalize toks b = q at *
              cases q with
              | nil => exact absurd hj (by simp)
              | cons t r => rfl
            rw [hah]
            rw [if_pos (by rfl), if_pos (by omega), if_pos (by omega)]
            have z1 : (toS ⟨0, be, [], a.size⟩).f1.size = be.length := mk_size _
            have z2 : (toS (toks b)[0]).f1.size = (toks b)[0].before.length := mk_size _
            have z3 : ((toS ⟨0, be, [], a.size⟩).f1 ++ (⟨#[10]⟩ : ByteArray)).size = be.length + 1 := by rw [ByteArray.size_append, z1]; rfl
            have hbe := HBE.out
            rw [if_pos (by omega), if_pos (by omega), if_pos (by omega), if_pos (by rfl), if_pos (by rfl), if_pos, if_pos (by simp only [toS, Lx.mv]; omega)]
            rw [toList_bl, toList_bl, bl_app, bl_app]
            show bl ⟨_⟩ = bl ⟨_⟩ ++ bl ⟨_⟩ ++ bl ⟨_⟩
            rw [mk_bl', mk_bl', mk_bl']
            rfl
          | succ j =>
            have hah : ∀ h, (Lx.ahead (be ++ [10]) (toks b))[j + 1]'h = (toks b)[j + 1] := by
              intro h
              generalize toks b = q at *
              cases q with
              | nil => exact absurd hj (by simp)
              | cons t r => rfl
            rw [hah]
            rw [if_neg (by omega), if_pos (by omega), if_pos (by rfl), if_pos (by rfl), if_pos (by rfl), if_pos (by simp only [toS, Lx.mv]; omega)]
      · refine Ev.step (fun k => ?_) (Ev.now _)
        rw [lw2_LexTwo.l0, if_neg (by omega), awake_eq]; rfl
  exact key (Z.length + 1) 0 (by omega) (by omega)
end
theorem two_j0 (a b : ByteArray) (hab : a.size + b.size ≤ 199999) (he : Lx.EndOk (bl a)) (ho : Lx.opens keysL signsL (a.size + 1) (bl a) true = false) : Ev (fun k => lw2_LexTwo.j0 k a b false) true := by
  have hz1 : (a ++ (⟨#[10]⟩ : ByteArray)).size = a.size + 1 := by rw [ByteArray.size_append]; rfl
  have hz2 : (a ++ (⟨#[10]⟩ : ByteArray) ++ b).size = a.size + 1 + b.size := by rw [ByteArray.size_append, hz1]
  have hw : Aside0 (wrap64 ((a.size : Int) + (b.size : Int)) = (a.size : Int) + (b.size : Int)) := Aside0.mk (w64 (by omega) (by omega))
  have bad : 10000 < a.size + b.size → Ev (fun k => lw2_LexTwo.j1 k a b (scanR a).1 (scanR b).1 (scanR (a ++ (⟨#[10]⟩ : ByteArray) ++ b)).1 true) true := by
    intro h
    refine Ev.step (f := fun _ => some true) (fun k => ?_) (Ev.now _)
    rw [lw2_LexTwo.j1, if_pos rfl, hw.out, if_pos (by omega), awake_eq]; rfl
  refine Ev.step (f := fun k => (if (scanR a).2 = 0 then (if (scanR b).2 = 0 then (if (scanR (a ++ (⟨#[10]⟩ : ByteArray) ++ b)).2 = 0 then (if ((scanR a).1.length : Int) = 0 then (lw2_LexTwo.j1 k a b (scanR a).1 (scanR b).1 (scanR (a ++ (⟨#[10]⟩ : ByteArray) ++ b)).1 true) else (lw2_LexTwo.j1 k a b (scanR a).1 (scanR b).1 (scanR (a ++ (⟨#[10]⟩ : ByteArray) ++ b)).1 (((scanR b).1.length : Int) == 0))) else (lw2_LexTwo.j1 k a b (scanR a).1 (scanR b).1 (scanR (a ++ (⟨#[10]⟩ : ByteArray) ++ b)).1 true)) else (lw2_LexTwo.j1 k a b (scanR a).1 (scanR b).1 (scanR (a ++ (⟨#[10]⟩ : ByteArray) ++ b)).1 true)) else (lw2_LexTwo.j1 k a b (scanR a).1 (scanR b).1 (scanR (a ++ (⟨#[10]⟩ : ByteArray) ++ b)).1 true))) (fun k => ?_) ?_
  · rw [lw2_LexTwo.j0, if_neg (by decide), scan_eq, Option.bind_some, scan_eq, Option.bind_some, if_pos (by omega), if_pos (by omega), scan_eq, Option.bind_some]
  · by_cases g1 : (scanR a).2 = 0
    · refine Ev.congr (fun k => if_pos g1) ?_
      by_cases g2 : (scanR b).2 = 0
      · refine Ev.congr (fun k => if_pos g2) ?_
        by_cases g3 : (scanR (a ++ (⟨#[10]⟩ : ByteArray) ++ b)).2 = 0
        · refine Ev.congr (fun k => if_pos g3) ?_
          obtain ⟨x1, x2, x3⟩ := scanR_ok a g1
          obtain ⟨y1, y2, y3⟩ := scanR_ok b g2
          obtain ⟨z1, z2, z3⟩ := scanR_ok _ g3
          obtain ⟨i1, t1, n1⟩ := toks_ne a
          obtain ⟨i2, t2, n2⟩ := toks_ne b
          have l1 : (scanR a).1.length = i1.length + 1 := by rw [x1, List.length_map, n1]; simp
          have l2 : (scanR b).1.length = i2.length + 1 := by rw [y1, List.length_map, n2]; simp
          obtain ⟨q1, q2⟩ := two_l0 a b hab he ho _ _ _ x1 y1 z1
          have m1 : i1.length < 40000 := by rw [n1] at x3; simp at x3; omega
          have m2 : i2.length < 40000 := by rw [n2] at y3; simp at y3; omega
          refine Ev.congr (fun k => if_neg (by omega)) ?_
          rw [show (((scanR b).1.length : Int) == 0) = false by rw [beq_eq_false_iff_ne]; omega]
          refine Ev.step (f := fun k => lw2_LexTwo.l0 k a (scanR a).1 (scanR b).1 (scanR (a ++ (⟨#[10]⟩ : ByteArray) ++ b)).1 0) (fun k => ?_) q2
          rw [lw2_LexTwo.j1, if_neg (by decide), w64 (x := ((scanR a).1.length : Int) + ((scanR b).1.length : Int)) (by omega) (by omega), w64 (by omega) (by omega), if_pos q1]
        · exact Ev.congr (fun k => if_neg g3) (bad (by have := scanR_bad _ g3; omega))
      · exact Ev.congr (fun k => if_neg g2) (bad (by have := scanR_bad _ g2; omega))
    · exact Ev.congr (fun k => if_neg g1) (bad (by have := scanR_bad _ g1; omega))
theorem lexTwo_eq (a b : ByteArray) (ha : a.size ≤ 140737488355328) (hb : b.size ≤ 140737488355328) : Ev (fun k => lw2_LexTwo.f k a b) true := by
  have hw : Aside0 (wrap64 ((a.size : Int) + (b.size : Int)) = (a.size : Int) + (b.size : Int)) := Aside0.mk (w64 (by omega) (by omega))
  have good : Ev (fun k => lw2_LexTwo.j0 k a b true) true :=
    Ev.step (f := fun _ => some true) (fun k => by rw [lw2_LexTwo.j0, if_pos rfl, awake_eq]; rfl) (Ev.now _)
  by_cases hbig : a.size + b.size ≤ 199999
  · obtain ⟨t, e1, e2⟩ := open_eq a (by omega)
    have rest : Lx.EndOk (bl a) → Ev (fun k => (lw2_open.f k a).bind fun t => lw2_LexTwo.j0 k a b t) true := by
      intro he
      refine Ev.bind e1 ?_
      cases t with
      | true => exact good
      | false => exact two_j0 a b hbig he (e2 rfl)
    by_cases h0 : a.size = 0
    · refine Ev.congr (fun k => ?_) (rest (endOk_of a (Or.inl h0)))
      unfold lw2_LexTwo.f
      rw [hw.out, if_neg (by omega), if_pos ((toList_nil_iff a).mpr h0)]
    · have h0' : ¬ a.toList = ([] : List UInt8) := fun h => h0 ((toList_nil_iff a).mp h)
      have hw1 : Aside0 (wrap64 ((a.size : Int) - 1) = ((a.size - 1 : Nat) : Int)) := Aside0.mk (by rw [w64 (by omega) (by omega)]; omega)
      have hB := bt_B a (a.size - 1) (by omega)
      by_cases h92 : B a (a.size - 1) = 92
      · refine Ev.congr (fun k => ?_) good
        unfold lw2_LexTwo.f
        rw [hw.out, if_neg (by omega), if_neg h0', hw1.out, if_pos (by omega), if_pos (by omega), hB, if_pos ((ci92 _).mpr h92)]
      · by_cases h13 : B a (a.size - 1) = 13
        · refine Ev.congr (fun k => ?_) good
          unfold lw2_LexTwo.f
          rw [hw.out, if_neg (by omega), if_neg h0', hw1.out, if_pos (by omega), if_pos (by omega), hB, if_neg (fun q => h92 ((ci92 _).mp q)), if_pos ((ci13 _).mpr h13)]
        · refine Ev.congr (fun k => ?_) (rest (endOk_of a (Or.inr ⟨h92, h13⟩)))
          unfold lw2_LexTwo.f
          rw [hw.out, if_neg (by omega), if_neg h0', hw1.out, if_pos (by omega), if_pos (by omega), hB, if_neg (fun q => h92 ((ci92 _).mp q)), if_neg (fun q => h13 ((ci13 _).mp q))]
  · refine Ev.congr (fun k => ?_) good
    unfold lw2_LexTwo.f
    rw [hw.out, if_pos (by omega)]
end Go.Proofs.YtabnmkakgcifoaaDoor.PLex

namespace Go.Proofs.YtabnmkakgcifoaaDoor.lexTwo
open Go.ChangeShapes Go.WideShapes Go.ChangeAt Go.RowKit
open Go.ChangeMaps (open_string shut_string)
set_option maxRecDepth 100000 in
theorem contract (H : Type) (enc : TypeId × Value → H) (W : World) (base : Nat) (args : Array Value) (ds gs : List (DataW H)) (before : List MemPlace)
    (hval : ∀ (j : Nat) t v, Tryd.f4.params[j]? = some t → args[j]? = some v → Value.okWide Tryd.prog W .any base t v)
    (hW : DataW.Whole enc Tryd.prog Tryd.f4.params.toList Rows.lexTwoSpec.vars false W args.toList ds gs before) (hL : laidMetH Tryd.prog Rows.lexTwoRow.laid W) (hsh : W.ShapedOpen Tryd.prog)
    (hsz : (DataW.weightsEach Tryd.prog (Tryd.f4.params.toList ++ Rows.lexTwoSpec.plain.varTypes Tryd.prog) (ds ++ gs)).all (· ≤ reachBytes) = true) :
    Calls Tryd.prog 4 args W fun e W' => ∃ v, e = .returned v ∧ Rows.lexTwoSpec.post enc Tryd.prog Tryd.f4 false true false false W args v W' := by
  have hGl := Row0.glob hL hsh
  have hW' := hW
  obtain ⟨p, q, hA0, hV, rfl, hfz, hnd⟩ := hW
  have hA : DataW.TrodAll enc Tryd.prog W 0 (fun _ => true) true Tryd.f4.params.toList args.toList ds p := hA0
  rw [Tryd.params4] at hA hval hsz
  obtain ⟨v0, vs0, d0, ds0, p0, q0, hargs, rfl, rfl, h0, r0⟩ := trodAll_cons hA
  obtain ⟨v1, vs1, d1, ds1, p1, q1, rfl, rfl, rfl, h1, r1⟩ := trodAll_cons r0
  obtain ⟨rfl, rfl, rfl⟩ := trodAll_nil r1
  obtain rfl : args = #[v0, v1] := by cases args; simp_all
  obtain ⟨rfl, rfl⟩ := trodVars_none hV
  obtain ⟨a0, rfl, rfl, rfl, y0⟩ := open_string Tryd.underlying9 (hval 0 9 v0 rfl rfl) h0
  obtain ⟨a1, rfl, rfl, rfl, y1⟩ := open_string Tryd.underlying9 (hval 1 9 v1 rfl rfl) h1
  have w0 : a0.size ≤ 140737488351232 := by
    have z := sized_string hsz (j := 0) (t := 9) rfl rfl
    rw [Array.length_toList] at z
    exact z
  have w1 : a1.size ≤ 140737488351232 := by
    have z := sized_string hsz (j := 1) (t := 9) rfl rfl
    rw [Array.length_toList] at z
    exact z
  clear hA0 hsz
  obtain ⟨k, hk⟩ := (PLex.lexTwo_eq a0 a1 (by omega) (by omega)).rounds
  refine (PLex.lw2_LexTwo.calls k a0 a1 true W hGl hk).mono fun e W' ⟨he, bel⟩ => ?_
  subst he
  exact ⟨_, rfl, _, _, _, [], _, [], hW', trodAll_mk1 (shut_bool Tryd.underlying4 _), (trodAll_cons_mk (shut_string Tryd.underlying9 y0) (trodAll_cons_mk (shut_string Tryd.underlying9 y1) trodAll_mk0)), rfl, bel.frame _, fun h => by cases h⟩
theorem reads (os : Os) {H : Type} (enc : TypeId × Value → H) : ∃ places, DataW.whole enc Tryd.prog ((Row0.laidWorld os).forCall (fun _ _ => 0) ⟨#[], #[.string ⟨#[]⟩, .string ⟨#[]⟩], []⟩).memory Tryd.f4.params.toList Rows.lexTwoSpec.vars false #[Value.string ⟨#[]⟩, Value.string ⟨#[]⟩].toList 8 = some ([.lit (.string []), .lit (.string [])], [], places) :=
  ⟨[], by kernel_rfl⟩
set_option maxRecDepth 100000 in
theorem lifted (os : Os) (started : os.Started) (H : Type) (enc : TypeId × Value → H) (F : Stop.Interp) :
    ReturnsInHanded {} Tryd.checked os 4 .any ((OpenSpec.ofChange Rows.lexTwoSpec).preRow enc Tryd.prog Tryd.f4 Rows.lexTwoRow.domain false Rows.lexTwoRow.laid) (((OpenSpec.ofChange Rows.lexTwoSpec).at F).post enc Tryd.prog Tryd.f4 false true false false) := by
  obtain ⟨places, hx⟩ := reads os enc
  refine returnsInHanded_of_row (C := Tryd.checked) (s := OpenSpec.ofChange Rows.lexTwoSpec) Row0.own started (by kernel_rfl) Tryd.func4
    (witness_row_atRef (enc := enc) (C := Tryd.checked) false (Row0.laidWorld os) #[.string ⟨#[]⟩, .string ⟨#[]⟩] rfl (by kernel_rfl) (by kernel_rfl) (by kernel_rfl)
      (OpenSpec.preRow_of_cond 8 hx (by kernel_rfl) (fun k hk => by cases hk) (by kernel_rfl) (Row0.laid_met os _))) ?_
  intro W base args ds gs before hval hW _ _ hsz hL hsh _
  exact contract H enc W base args ds gs before hval hW hL hsh hsz
theorem said : Rows.LexTwoSaid :=
  OpenClaim.holds_of_cond 4 Tryd.f4 rfl rfl rfl rfl rfl rfl rfl ⟨rfl, rfl, rfl, rfl, rfl⟩ rfl rfl rfl rfl rfl (by kernel_rfl) Tryd.func4 (by kernel_rfl)
    (of_decide_eq_true (by kernel_rfl)) (by unfold Func.isWrapper; first | (rw [if_pos (by decide +kernel)]; kernel_rfl) | (rw [if_neg (by decide +kernel)]; exact ⟨rfl, rfl⟩))
    (fun os started H enc _ F => by rw [OpenClaim.pre_eq_preRow]; exact lifted os started H enc F)
theorem plain (f : FuncId) (fn : Func) (hf : Tryd.pinned.checked.prog.funcNamed "smocking/smockinglaw02.LexTwo" = some f) (hfn : Tryd.pinned.checked.prog.funcs[f]? = some fn) :
    false = Tryd.pinned.checked.prog.looks [] ∧ ∀ (j : Nat) t, fn.params[j]? = some t → Tryd.pinned.checked.prog.wantsStandIn t = false := by
  obtain rfl : f = 4 := Option.some.inj ((show Tryd.prog.funcNamed "smocking/smockinglaw02.LexTwo" = some 4 by kernel_rfl).symm.trans hf) |>.symm
  obtain rfl : fn = Tryd.f4 := (Option.some.inj (Tryd.func4.symm.trans hfn)).symm
  refine ⟨by kernel_rfl, fun j t ht => ?_⟩
  rw [Tryd.params4] at ht
  obtain rfl : t = 9 := by simpa using Array.mem_of_getElem? ht
  exact (show Tryd.prog.wantsStandIn 9 = false by kernel_rfl)
theorem card : Rows.LexTwoCardSaid :=
  Claim7.holds_tied_plain_at .later [] _ _ _ _ said (fun _ h => by cases h) (by kernel_rfl) (fun _ h => by cases h) lexTwo_row_tie rfl ⟨rfl, rfl⟩ (by kernel_rfl) rfl plain (by kernel_rfl)
end Go.Proofs.YtabnmkakgcifoaaDoor.lexTwo
namespace Go.Proofs.YtabnmkakgcifoaaDoor
theorem lexTwo_card : Rows.LexTwoCardSaid := lexTwo.card
end Go.Proofs.YtabnmkakgcifoaaDoor

namespace Go.Proofs.YtabnmkakgcifoaaDoor
#print axioms lexTwo_card
end Go.Proofs.YtabnmkakgcifoaaDoor
