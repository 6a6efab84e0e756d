/- Chapter 01: what the claims share. Part 10 of 24. -/
import Derived.Test.YthimblhfjfngiaaDoorBTextI
namespace Go.Proofs.YthimblhfjfngiaaDoor.PText
open Go.RowKit Go.Proofs.YthimblhfjfngiaaDoorW.PrintWords Go.Proofs.YthimblhfjfngiaaDoorW.PrintLast Go.Proofs.YthimblhfjfngiaaDoorW.PrintMore
attribute [local go_sem] y1_ y2_ ycb_ ydb_ yV_ yW_ y3_ y4_   -- for this text's walks alone
set_option linter.unusedVariables false
set_option linter.unusedSimpArgs false

def yE_.f (a0_0 : Int) (a0_1 : ByteArray) : Option (ByteArray) := (some (([a0_0] : List Int) : List Int)).bind fun y449 => (if (strOfNums y449).size + a0_1.size ≤ 9223372036854775807 then (if 0 ≤ (wrap64 ((a0_1.size : Int) - 1)) then (if (wrap64 ((a0_1.size : Int) - 1)) < (a0_1.size : Int) then (if (bt a0_1 (wrap64 ((a0_1.size : Int) - 1))) = 10 then (some ((strOfNums y449) ++ a0_1)) else (if ((strOfNums y449) ++ a0_1).size + 10 ≤ 9223372036854775807 then (some (((strOfNums y449) ++ a0_1) ++ (⟨#[10, 92, 32, 110, 111, 32, 101, 110, 100, 10]⟩ : ByteArray))) else (none))) else (none)) else (none)) else (none))
set_option maxHeartbeats 8000000 in
set_option maxRecDepth 100000 in
theorem yE_.calls (a0_0 : Int) (a0_1 : ByteArray) (r : ByteArray) (w : World) (h : yE_.f a0_0 a0_1 = some r) :
  Calls Tryd.prog 66 #[.agg #[.int .u8 a0_0, .string a0_1]] w fun e w' => e = .returned (.string r) ∧ Below w.heap.size w w' := by
 have hu75 := Tryd.underlying75
 have HB := Aside0.mk (Below.refl w.heap.size w)
 have H : ((some (([a0_0] : List Int) : List Int)).bind fun y449 => (if (strOfNums y449).size + a0_1.size ≤ 9223372036854775807 then (if 0 ≤ (wrap64 ((a0_1.size : Int) - 1)) then (if (wrap64 ((a0_1.size : Int) - 1)) < (a0_1.size : Int) then (if (bt a0_1 (wrap64 ((a0_1.size : Int) - 1))) = 10 then (some ((strOfNums y449) ++ a0_1)) else (if ((strOfNums y449) ++ a0_1).size + 10 ≤ 9223372036854775807 then (some (((strOfNums y449) ++ a0_1) ++ (⟨#[10, 92, 32, 110, 111, 32, 101, 110, 100, 10]⟩ : ByteArray))) else (none))) else (none)) else (none)) else (none))) = some r := h
 clear h
 obtain ⟨y449, hy449⟩ : ∃ y_ : List Int, y_ = (([a0_0] : List Int)) := ⟨_, rfl⟩
 replace H : (if (strOfNums y449).size + a0_1.size ≤ 9223372036854775807 then (if 0 ≤ (wrap64 ((a0_1.size : Int) - 1)) then (if (wrap64 ((a0_1.size : Int) - 1)) < (a0_1.size : Int) then (if (bt a0_1 (wrap64 ((a0_1.size : Int) - 1))) = 10 then (some ((strOfNums y449) ++ a0_1)) else (if ((strOfNums y449) ++ a0_1).size + 10 ≤ 9223372036854775807 then (some (((strOfNums y449) ++ a0_1) ++ (⟨#[10, 92, 32, 110, 111, 32, 101, 110, 100, 10]⟩ : ByteArray))) else (none))) else (none)) else (none)) else (none)) = some r := by first | (rw [hy449]; with_reducible exact H) | (have H2_ := (Option.bind_some _ _).symm.trans H; rw [hy449]; with_reducible exact H2_) | (have H2_ := (Option.bind_some _ _).symm.trans H; with_reducible exact H2_) | with_reducible exact H | (rw [hy449]; exact H) | exact H
 have Ny449 := Aside0.mk hy449
 clear hy449
 by_cases c2 : (strOfNums y449).size + a0_1.size ≤ 9223372036854775807
 ·rw [if_pos c2] at H
  have c2b0 := eq_true c2
  have c2b1 : decide ((strOfNums y449).size + a0_1.size ≤ 9223372036854775807) = true := decide_eq_true c2
  try have c2b2 : (9223372036854775807 < (strOfNums y449).size + a0_1.size) = False := eq_false (Nat.not_lt.2 c2)
  obtain ⟨ji3, hji3⟩ : ∃ j_ : Int, (wrap64 ((a0_1.size : Int) - 1)) = j_ := ⟨_, rfl⟩
  replace H : (if 0 ≤ (ji3) then (if (ji3) < (a0_1.size : Int) then (if (bt a0_1 (ji3)) = 10 then (some ((strOfNums y449) ++ a0_1)) else (if ((strOfNums y449) ++ a0_1).size + 10 ≤ 9223372036854775807 then (some (((strOfNums y449) ++ a0_1) ++ (⟨#[10, 92, 32, 110, 111, 32, 101, 110, 100, 10]⟩ : ByteArray))) else (none))) else (none)) else (none)) = some r := by first | (rw [hji3] at H; exact H) | (simp only [hji3] at H ⊢; exact H)
  have hji3w : (IntKind.i64.wrap ((a0_1.size : Int) - 1)) = ji3 := (i64_w _).trans hji3
  by_cases c4 : 0 ≤ (ji3)
  ·rw [if_pos c4] at H
   have c4b0 : decide (0 ≤ (ji3)) = true := decide_eq_true c4
   clear c4
   by_cases c5 : (ji3) < (a0_1.size : Int)
   ·rw [if_pos c5] at H
    have c5b0 : decide ((ji3) < (a0_1.size : Int)) = true := decide_eq_true c5
    clear c5
    by_cases c7 : (bt a0_1 (ji3)) = 10
    ·rw [if_pos c7] at H
     have c7b0 : ((bt a0_1 (ji3)) == 10) = true := beq_iff_eq.mpr c7
     have c7b1 : ((bt a0_1 (ji3)) != 10) = false := bne_eq_false_iff_eq.mpr c7
     clear c7
     obtain rfl := Option.some.inj H
     go_enter Tryd.func66, Tryd.ntmps66
     go_wp2_with (first | ((with_reducible refine yS_ (N := 1) rfl ?_); refine ykb_ ?hg (N := 1) ?hd (cs := #[.int .u8 a0_0, .string a0_1]) (t := 75) ?hr ?_; (case hd => rfl); (case hg => rfl); (case hr => first | (go_simp; done) | (go_simp; rfl)); intro gb448 hg w8 hbox hb; have n0_ := Aside0.mk (ym_ (by repeat (with_reducible first | exact HB.out | apply yc_ | apply ya_ | apply yb_)) hb); have n1_ := Aside0.mk (hbox); have n2_ := Aside0.mk ((by rw [hg]; exact (yk_ (by repeat (with_reducible first | exact HB.out | apply yc_ | apply ya_ | apply yb_))) : w.heap.size ≤ gb448)); have n3_ := Aside0.mk ((by rw [hg]; exact (yk_ (by repeat (with_reducible first | exact HB.out | apply yc_ | apply ya_ | apply yb_))) : w.heap.size ≤ gb448)); clear HB; have HB := n0_; have BK448 := n1_; have GW448 := n2_; have GE448 := n3_; clear n0_ n1_ n2_ n3_; clear hb hbox hg; have hcz9_0 : w8.cell? ⟨gb448, 0, none⟩ = some (.int .u8 a0_0) := (yl_ BK448.out 0).trans rfl; have hcz9_1 : w8.cell? ⟨gb448, 1, none⟩ = some (.string a0_1) := (yl_ BK448.out 1).trans rfl; have hfz9_0 := yw_ BK448.out 0; have hfz9_1 := yw_ BK448.out 1) | ((with_reducible refine yS_ (N := 6) rfl ?_); refine Kd.R_lit (Kd.int .u8) _ 5 ?hg (N := 6) ?hd (xs := ([a0_0] : List Int)) (inner := [.int .u8 a0_0]) (ok := fun _ => True) (okp := fun _ => True) ?hr ?hp (fun _ hk => hk) trivial (Below.refl _ _) (Nat.le_refl _) (by simp) ?_; (case hd => rfl); (case hg => rfl); (case hr => first | (go_simp; done) | (go_simp; rfl)); (case hp => exact (Reps.one (show Kd.M (Kd.int .u8) _ _ _ a0_0 [.int .u8 a0_0] from rfl) (Reps.none _ _))); intro v450 w10 ho11 hb hg_ hnew_; clear hg_ hnew_; (first | rw [← Ny449.out] at ho11 | (simp only [Int.reduceToNat] at ho11; rw [← Ny449.out] at ho11)); have n0_ := Aside0.mk (Kd.yY_ ho11 (yk_ (by repeat (with_reducible first | exact HB.out | apply yc_ | apply ya_ | apply yb_ | refine yr_ ?_ GE448.out)))); have n1_ := Aside0.mk (yEb_ (g := gb448) (o := .cells #[.int .u8 a0_0, .string a0_1] 75 (0, 0)) (by (with_reducible repeat (first | refine yA_ ?_ _ | refine yB_ ?_ | refine yz_ ?_ _)); exact BK448.out) hb); have n2_ := Aside0.mk (ym_ (by repeat (with_reducible first | exact HB.out | apply yc_ | apply ya_ | apply yb_ | refine yr_ ?_ GE448.out)) hb); clear BK448; clear HB; have HO451 := n0_; have BK448 := n1_; have HB := n2_; clear n0_ n1_ n2_; clear hb ho11; have hcv12 := ymb_ (P := Tryd.prog) Tryd.underlying32 Tryd.underlying5 Tryd.underlying9 (Kd.yeb_ HO451.out); have hcz13_0 : w10.cell? ⟨gb448, 0, none⟩ = some (.int .u8 a0_0) := (yl_ BK448.out 0).trans rfl; have hcz13_1 : w10.cell? ⟨gb448, 1, none⟩ = some (.string a0_1) := (yl_ BK448.out 1).trans rfl; have hfz13_0 := yw_ BK448.out 0; have hfz13_1 := yw_ BK448.out 1; have p6 : 0 ≤ ((ji3) : Int) := of_decide_eq_true (by assumption); have q6 : (ji3) < (a0_1.size : Int) := of_decide_eq_true (by assumption); have hx6 := bt_at a0_1 (ji3); replace p6 := eq_true p6; replace q6 := eq_true q6))
     go_ret
     exact ⟨by first | rfl | (simp [yu_, yv_] <;> rfl) | (simp only [← hji3]; first | rfl | (simp [yu_, yv_] <;> rfl)) | (simp [*, yu_, yv_] <;> rfl), by repeat (with_reducible first | exact HB.out | apply yc_ | apply ya_ | apply yb_ | refine yr_ ?_ GE448.out)⟩
    ·rw [if_neg c7] at H
     have c7b0 : ((bt a0_1 (ji3)) == 10) = false := beq_eq_false_iff_ne.mpr c7
     have c7b1 : ((bt a0_1 (ji3)) != 10) = true := bne_iff_ne.mpr c7
     by_cases c14 : ((strOfNums y449) ++ a0_1).size + 10 ≤ 9223372036854775807
     ·rw [if_pos c14] at H
      have c14b0 := eq_true c14
      have c14b1 : decide (((strOfNums y449) ++ a0_1).size + 10 ≤ 9223372036854775807) = true := decide_eq_true c14
      try have c14b2 : (9223372036854775807 < ((strOfNums y449) ++ a0_1).size + 10) = False := eq_false (Nat.not_lt.2 c14)
      have c14b3 : (9223372036854775807 < (strOfNums y449).size + a0_1.size + 10) = False := by have h_ := c14b2; rw [ByteArray.size_append] at h_; exact h_
      obtain rfl := Option.some.inj H
      go_enter Tryd.func66, Tryd.ntmps66
      go_wp2_with (first | ((with_reducible refine yS_ (N := 1) rfl ?_); refine ykb_ ?hg (N := 1) ?hd (cs := #[.int .u8 a0_0, .string a0_1]) (t := 75) ?hr ?_; (case hd => rfl); (case hg => rfl); (case hr => first | (go_simp; done) | (go_simp; rfl)); intro gb448 hg w15 hbox hb; have n0_ := Aside0.mk (ym_ (by repeat (with_reducible first | exact HB.out | apply yc_ | apply ya_ | apply yb_)) hb); have n1_ := Aside0.mk (hbox); have n2_ := Aside0.mk ((by rw [hg]; exact (yk_ (by repeat (with_reducible first | exact HB.out | apply yc_ | apply ya_ | apply yb_))) : w.heap.size ≤ gb448)); have n3_ := Aside0.mk ((by rw [hg]; exact (yk_ (by repeat (with_reducible first | exact HB.out | apply yc_ | apply ya_ | apply yb_))) : w.heap.size ≤ gb448)); clear HB; have HB := n0_; have BK448 := n1_; have GW448 := n2_; have GE448 := n3_; clear n0_ n1_ n2_ n3_; clear hb hbox hg; have hcz16_0 : w15.cell? ⟨gb448, 0, none⟩ = some (.int .u8 a0_0) := (yl_ BK448.out 0).trans rfl; have hcz16_1 : w15.cell? ⟨gb448, 1, none⟩ = some (.string a0_1) := (yl_ BK448.out 1).trans rfl; have hfz16_0 := yw_ BK448.out 0; have hfz16_1 := yw_ BK448.out 1) | ((with_reducible refine yS_ (N := 6) rfl ?_); refine Kd.R_lit (Kd.int .u8) _ 5 ?hg (N := 6) ?hd (xs := ([a0_0] : List Int)) (inner := [.int .u8 a0_0]) (ok := fun _ => True) (okp := fun _ => True) ?hr ?hp (fun _ hk => hk) trivial (Below.refl _ _) (Nat.le_refl _) (by simp) ?_; (case hd => rfl); (case hg => rfl); (case hr => first | (go_simp; done) | (go_simp; rfl)); (case hp => exact (Reps.one (show Kd.M (Kd.int .u8) _ _ _ a0_0 [.int .u8 a0_0] from rfl) (Reps.none _ _))); intro v450 w17 ho18 hb hg_ hnew_; clear hg_ hnew_; (first | rw [← Ny449.out] at ho18 | (simp only [Int.reduceToNat] at ho18; rw [← Ny449.out] at ho18)); have n0_ := Aside0.mk (Kd.yY_ ho18 (yk_ (by repeat (with_reducible first | exact HB.out | apply yc_ | apply ya_ | apply yb_ | refine yr_ ?_ GE448.out)))); have n1_ := Aside0.mk (yEb_ (g := gb448) (o := .cells #[.int .u8 a0_0, .string a0_1] 75 (0, 0)) (by (with_reducible repeat (first | refine yA_ ?_ _ | refine yB_ ?_ | refine yz_ ?_ _)); exact BK448.out) hb); have n2_ := Aside0.mk (ym_ (by repeat (with_reducible first | exact HB.out | apply yc_ | apply ya_ | apply yb_ | refine yr_ ?_ GE448.out)) hb); clear BK448; clear HB; have HO451 := n0_; have BK448 := n1_; have HB := n2_; clear n0_ n1_ n2_; clear hb ho18; have hcv19 := ymb_ (P := Tryd.prog) Tryd.underlying32 Tryd.underlying5 Tryd.underlying9 (Kd.yeb_ HO451.out); have hcz20_0 : w17.cell? ⟨gb448, 0, none⟩ = some (.int .u8 a0_0) := (yl_ BK448.out 0).trans rfl; have hcz20_1 : w17.cell? ⟨gb448, 1, none⟩ = some (.string a0_1) := (yl_ BK448.out 1).trans rfl; have hfz20_0 := yw_ BK448.out 0; have hfz20_1 := yw_ BK448.out 1; have p6 : 0 ≤ ((ji3) : Int) := of_decide_eq_true (by assumption); have q6 : (ji3) < (a0_1.size : Int) := of_decide_eq_true (by assumption); have hx6 := bt_at a0_1 (ji3); replace p6 := eq_true p6; replace q6 := eq_true q6))
      go_ret
      exact ⟨by first | rfl | (simp [yu_, yv_] <;> rfl) | (simp only [← hji3]; first | rfl | (simp [yu_, yv_] <;> rfl)) | (simp [*, yu_, yv_] <;> rfl), by repeat (with_reducible first | exact HB.out | apply yc_ | apply ya_ | apply yb_ | refine yr_ ?_ GE448.out)⟩
     ·rw [if_neg c14] at H
      exact absurd H (by simp)
   ·rw [if_neg c5] at H
    exact absurd H (by simp)
  ·rw [if_neg c4] at H
   exact absurd H (by simp)
 ·rw [if_neg c2] at H
  exact absurd H (by simp)

end Go.Proofs.YthimblhfjfngiaaDoor.PText

-- mended25

namespace Go.Proofs.YthimblhfjfngiaaDoor.PText
open Go.RowKit Go.Proofs.YthimblhfjfngiaaDoorW.PrintWords Go.Proofs.YthimblhfjfngiaaDoorW.PrintLast Go.Proofs.YthimblhfjfngiaaDoorW.PrintMore
attribute [local go_sem] y1_ y2_ ycb_ ydb_ yV_ yW_ y3_ y4_   -- for this text's walks alone
set_option linter.unusedVariables false
set_option linter.unusedSimpArgs false

def yn_.f : Nat → Int → Option (ByteArray)
 | 0, _ => none
 | k + 1, a0 => if a0 < 10 then (some (strOfNums (([(wrap64 (48 + a0)) % 256] : List Int)))) else ((yn_.f k (wrap64 (Int.tdiv a0 10))).bind fun t455 => ((some (([(wrap64 (48 + (Int.tmod a0 10))) % 256] : List Int) : List Int)).bind fun y456 => (if t455.size + (strOfNums y456).size ≤ 9223372036854775807 then (some (t455 ++ (strOfNums y456))) else (none))))
def yn_.T3 : Bool × List (List Nat × List Nat) := (true, [([], []), ([0], [0]), ([1], [1]), ([], []), ([3], [3]), ([4], [4]), ([5], [5]), ([6], [6]), ([7], [7]), ([2, 8], [2, 8]), ([9, 2, 0, 1, 2, 3, 4, 5, 6, 7, 8, 9], [9])])
def yn_.B3 : List Nat := [0, 1, 3, 0, 8, 24, 56, 120, 248, 511, 1023]
theorem yn_.tab3 : rtab .any (opsOf Tryd.f67 3) = yn_.T3 := by kernel_rfl
theorem yn_.bits3 : waitsOk yn_.T3.2 yn_.B3 = true := by kernel_rfl
set_option maxHeartbeats 8000000 in
set_option maxRecDepth 100000 in
theorem yn_.calls (k : Nat) : ∀ (a0 : Int) (r : ByteArray) (w : World) (h : yn_.f k a0 = some r),
  Calls Tryd.prog 67 #[.int .i64 a0] w fun e w' => e = .returned (.string r) ∧ Below w.heap.size w w' := by
 induction k using Nat.strongRecOn with
 | _ k ih =>
 intro a0 r w h
 cases k with
 | zero => exact absurd h (by simp [yn_.f])
 | succ k =>
 simp only [yn_.f] at h
 have HB := Aside0.mk (Below.refl w.heap.size w)
 have H : (if a0 < 10 then (some (strOfNums (([(wrap64 (48 + a0)) % 256] : List Int)))) else ((yn_.f k (wrap64 (Int.tdiv a0 10))).bind fun t455 => ((some (([(wrap64 (48 + (Int.tmod a0 10))) % 256] : List Int) : List Int)).bind fun y456 => (if t455.size + (strOfNums y456).size ≤ 9223372036854775807 then (some (t455 ++ (strOfNums y456))) else (none))))) = some r := h
 clear h
 by_cases c2 : a0 < 10
 ·rw [if_pos c2] at H
  have c2b0 : decide (a0 < 10) = true := decide_eq_true c2
  clear c2
  obtain ⟨y452, hy452⟩ : ∃ y_ : List Int, y_ = (([(wrap64 (48 + a0)) % 256] : List Int)) := ⟨_, rfl⟩
  replace H : (some (strOfNums y452)) = some r := by first | (rw [hy452]; with_reducible exact H) | (have H2_ := (Option.bind_some _ _).symm.trans H; rw [hy452]; with_reducible exact H2_) | (have H2_ := (Option.bind_some _ _).symm.trans H; with_reducible exact H2_) | with_reducible exact H | (rw [hy452]; exact H) | exact H
  have Ny452 := Aside0.mk hy452
  clear hy452
  obtain rfl := Option.some.inj H
  go_enter Tryd.func67, Tryd.ntmps67
  go_wp2_with (first | ((with_reducible refine yS_ (N := 8) rfl ?_); refine Kd.R_lit (Kd.int .u8) _ 5 ?hg (N := 8) ?hd (xs := ([(wrap64 (48 + a0)) % 256] : List Int)) (inner := [.int .u8 ((wrap64 (48 + a0)) % 256)]) (ok := fun _ => True) (okp := fun _ => True) ?hr ?hp (fun _ hk => hk) trivial (Below.refl _ _) (Nat.le_refl _) (by simp) ?_; (case hd => rfl); (case hg => rfl); (case hr => first | (go_simp; done) | (go_simp; rfl)); (case hp => exact (Reps.one (show Kd.M (Kd.int .u8) _ _ _ ((wrap64 (48 + a0)) % 256) [.int .u8 ((wrap64 (48 + a0)) % 256)] from rfl) (Reps.none _ _))); intro v453 w3 ho4 hb hg_ hnew_; clear hg_ hnew_; (first | rw [← Ny452.out] at ho4 | (simp only [Int.reduceToNat] at ho4; rw [← Ny452.out] at ho4)); have n0_ := Aside0.mk (Kd.yY_ ho4 (yk_ (by repeat (with_reducible first | exact HB.out | apply yc_ | apply ya_ | apply yb_)))); have n1_ := Aside0.mk (ym_ (by repeat (with_reducible first | exact HB.out | apply yc_ | apply ya_ | apply yb_)) hb); clear HB; have HO454 := n0_; have HB := n1_; clear n0_ n1_; clear hb ho4; have hcv5 := ymb_ (P := Tryd.prog) Tryd.underlying32 Tryd.underlying5 Tryd.underlying9 (Kd.yeb_ HO454.out)))
  go_ret
  exact ⟨by first | rfl | (simp [yu_, yv_] <;> rfl) | (simp [*, yu_, yv_] <;> rfl), by repeat (with_reducible first | exact HB.out | apply yc_ | apply ya_ | apply yb_)⟩
 ·rw [if_neg c2] at H
  have c2b0 : decide (a0 < 10) = false := decide_eq_false c2
  clear c2
  replace H := Option.bind_eq_some_iff.mp H
  obtain ⟨t455, A60, H⟩ := H
  replace H : ((some (([(wrap64 (48 + (Int.tmod a0 10))) % 256] : List Int) : List Int)).bind fun y456 => (if t455.size + (strOfNums y456).size ≤ 9223372036854775807 then (some (t455 ++ (strOfNums y456))) else (none))) = some r := H
  have A6 := Aside0.mk A60
  clear A60
  obtain ⟨y456, hy456⟩ : ∃ y_ : List Int, y_ = (([(wrap64 (48 + (Int.tmod a0 10))) % 256] : List Int)) := ⟨_, rfl⟩
  replace H : (if t455.size + (strOfNums y456).size ≤ 9223372036854775807 then (some (t455 ++ (strOfNums y456))) else (none)) = some r := by first | (rw [hy456]; with_reducible exact H) | (have H2_ := (Option.bind_some _ _).symm.trans H; rw [hy456]; with_reducible exact H2_) | (have H2_ := (Option.bind_some _ _).symm.trans H; with_reducible exact H2_) | with_reducible exact H | (rw [hy456]; exact H) | exact H
  have Ny456 := Aside0.mk hy456
  clear hy456
  by_cases c7 : t455.size + (strOfNums y456).size ≤ 9223372036854775807
  ·rw [if_pos c7] at H
   have c7b0 := eq_true c7
   have c7b1 : decide (t455.size + (strOfNums y456).size ≤ 9223372036854775807) = true := decide_eq_true c7
   try have c7b2 : (9223372036854775807 < t455.size + (strOfNums y456).size) = False := eq_false (Nat.not_lt.2 c7)
   obtain rfl := Option.some.inj H
   go_enter Tryd.func67, Tryd.ntmps67
   try go_wp2
   have n0_ := Aside0.mk (yb_ HB.out)
   clear HB
   have HB := n0_
   clear n0_
   refine start_ (n := 11) (S := fun w' => True) (ds := []) (bA 11 0) (by kernel_rfl) rfl rfl trivial (fun hHeld => ?_); refine y9_ yn_.tab3 yn_.bits3 (fun HT_ HW_ => ?_)
   generalize w.drew = w8 at HB hHeld ⊢
   refine pu_ 0 10 (bA 11 1) HT_ ?_
   refine pu_ 1 11 (bA 11 3) HT_ ?_
   refine pu_ 3 13 (bA 11 11) HT_ ?_
   refine pu_ 4 14 (bA 11 27) HT_ ?_
   refine pu_ 5 15 (bA 11 59) HT_ ?_
   refine pu_ 6 16 (bA 11 123) HT_ ?_
   refine join_ (σ := Value) 2 (bA 11 511) (fun s_ => [(12, .string t455), (17, s_), (18, .string (strOfNums y456))]) (fun s_ w' => (Kd.R (Kd.int .u8) 5 w' w.heap.size (fun _ => True) s_ y456) ∧ (Below w.heap.size w w')) ?_ ?_
   rotate_left
   ·intro hCont
    refine two_ (i := 2) (j := 7) (Ni := some 12) (Nj := some 17) (bA 11 127) (bA 11 251) rfl rfl rfl rfl (two_of HT_.out (by kernel_rfl)) (by decide) (by decide) (fun K hK => ?_) (fun K hK => ?_)
    ·skip
     refine goes_ Tryd.func67 (by kernel_rfl) rfl #[.int .i64 (wrap64 (Int.tdiv a0 10))] (by rfl) rfl rfl (by (try simp only [List.map_toArray, List.map_cons, List.map_nil]); first | done | rfl | (simp only [List.length_drop, List.length_take]; rfl)) ?_
     with_reducible refine (ih k (by omega) (wrap64 (Int.tdiv a0 10)) t455 _ A6.out).mono ?_
     rintro e w9 ⟨rfl, hb⟩
     refine ⟨_, rfl, ?_⟩
     have n0_ := Aside0.mk (ym_ (by repeat (with_reducible first | exact HB.out | apply yc_ | apply ya_ | apply yb_)) hb)
     clear HB
     have HB := n0_
     clear n0_
     (try clear hb)
     (try clear hb2)
     (try clear hk)
     (try clear hi)
     refine hK.out _ _ trivial (fun hHeld => ?_)
     clear hK K
     refine norm_ (a' := ?_) ?_ ?_
     rotate_left
     ·show Act.put _ (some 12) _ = _
      simp only [Act.put, q1_, q2_, q3_, i64_w, i32_w]
      rfl
     refine one_ (i := 7) (N := some 17) (bA 11 255) rfl rfl (one_of HT_.out (by kernel_rfl)) (by decide) (fun K hK => ?_)
     refine Kd.R_lit_step (Kd.int .u8) _ 5 ?hg (N := 17) ?hd (xs := ([(wrap64 (48 + (Int.tmod a0 10))) % 256] : List Int)) (inner := [.int .u8 ((wrap64 (48 + (Int.tmod a0 10))) % 256)]) (ok := fun _ => True) (okp := fun _ => True) ?hr ?hp (fun _ hk => hk) trivial (Below.refl _ _) (Nat.le_refl _) (by simp) ?_; (case hd => rfl); (case hg => rfl); (case hr => first | (go_simp; done) | (go_simp; rfl)); (case hp => exact (Reps.one (show Kd.M (Kd.int .u8) _ _ _ ((wrap64 (48 + (Int.tmod a0 10))) % 256) [.int .u8 ((wrap64 (48 + (Int.tmod a0 10))) % 256)] from rfl) (Reps.none _ _)))
     intro v457 w10 ho11 hb hg_ hnew_
     clear hg_ hnew_
     (first | rw [← Ny456.out] at ho11 | (simp only [Int.reduceToNat] at ho11; rw [← Ny456.out] at ho11))
     have n0_ := Aside0.mk (Kd.yY_ ho11 (yk_ (by repeat (with_reducible first | exact HB.out | apply yc_ | apply ya_ | apply yb_))))
     have n1_ := Aside0.mk (ym_ (by repeat (with_reducible first | exact HB.out | apply yc_ | apply ya_ | apply yb_)) hb)
     clear HB
     have HO458 := n0_
     have HB := n1_
     clear n0_ n1_
     clear hb ho11
     refine hK.out _ _ trivial (fun hHeld => ?_)
     clear hK K
     refine norm_ (a' := ?_) ?_ ?_
     rotate_left
     ·show Act.put _ (some 17) _ = _
      simp only [Act.put, q1_, q2_, q3_, i64_w, i32_w]
      rfl
     refine one_ (i := 8) (N := some 18) (bA 11 511) rfl rfl (one_of HT_.out (by kernel_rfl)) (by decide) (fun K hK => ?_)
     have hcv12 := ymb_ (P := Tryd.prog) Tryd.underlying32 Tryd.underlying5 Tryd.underlying9 (Kd.yeb_ HO458.out)
     refine value_ (w1 := ?_) (v := ?_) (by rfl) rfl ?_ ?_
     rotate_left 2
     ·go_simp
      constructor
      ·rfl
      ·rfl
     clear hcv12
     refine hK.out _ _ trivial (fun hHeld => ?_)
     clear hK K
     refine norm_ (a' := ?_) ?_ ?_
     rotate_left
     ·show Act.put _ (some 18) _ = _
      simp only [Act.put, q1_, q2_, q3_, i64_w, i32_w]
      rfl
     exact norm_ (by simp only [putAll, Act.put, q1_, q2_, q3_]) (hCont (v457) _ ⟨(by (with_reducible repeat (first | apply Kd.yh_ | apply Kd.yi_ | apply Kd.R_drew)); exact HO458.out), (by repeat (with_reducible first | exact HB.out | apply yc_ | apply ya_ | apply yb_))⟩)
    ·skip
     refine Kd.R_lit_step (Kd.int .u8) _ 5 ?hg (N := 17) ?hd (xs := ([(wrap64 (48 + (Int.tmod a0 10))) % 256] : List Int)) (inner := [.int .u8 ((wrap64 (48 + (Int.tmod a0 10))) % 256)]) (ok := fun _ => True) (okp := fun _ => True) ?hr ?hp (fun _ hk => hk) trivial (Below.refl _ _) (Nat.le_refl _) (by simp) ?_; (case hd => rfl); (case hg => rfl); (case hr => first | (go_simp; done) | (go_simp; rfl)); (case hp => exact (Reps.one (show Kd.M (Kd.int .u8) _ _ _ ((wrap64 (48 + (Int.tmod a0 10))) % 256) [.int .u8 ((wrap64 (48 + (Int.tmod a0 10))) % 256)] from rfl) (Reps.none _ _)))
     intro v457 w9 ho10 hb hg_ hnew_
     clear hg_ hnew_
     (first | rw [← Ny456.out] at ho10 | (simp only [Int.reduceToNat] at ho10; rw [← Ny456.out] at ho10))
     have n0_ := Aside0.mk (Kd.yY_ ho10 (yk_ (by repeat (with_reducible first | exact HB.out | apply yc_ | apply ya_ | apply yb_))))
     have n1_ := Aside0.mk (ym_ (by repeat (with_reducible first | exact HB.out | apply yc_ | apply ya_ | apply yb_)) hb)
     clear HB
     have HO458 := n0_
     have HB := n1_
     clear n0_ n1_
     clear hb ho10
     refine hK.out _ _ trivial (fun hHeld => ?_)
     clear hK K
     refine norm_ (a' := ?_) ?_ ?_
     rotate_left
     ·show Act.put _ (some 17) _ = _
      simp only [Act.put, q1_, q2_, q3_, i64_w, i32_w]
      rfl
     refine two_ (i := 2) (j := 8) (Ni := some 12) (Nj := some 18) (bA 11 255) (bA 11 507) rfl rfl rfl rfl (two_of HT_.out (by kernel_rfl)) (by decide) (by decide) (fun K hK => ?_) (fun K hK => ?_)
     ·skip
      refine goes_ Tryd.func67 (by kernel_rfl) rfl #[.int .i64 (wrap64 (Int.tdiv a0 10))] (by rfl) rfl rfl (by (try simp only [List.map_toArray, List.map_cons, List.map_nil]); first | done | rfl | (simp only [List.length_drop, List.length_take]; rfl)) ?_
      with_reducible refine (ih k (by omega) (wrap64 (Int.tdiv a0 10)) t455 _ A6.out).mono ?_
      rintro e w11 ⟨rfl, hb⟩
      refine ⟨_, rfl, ?_⟩
      have n0_ := Aside0.mk (Kd.yM_ (by (with_reducible repeat (first | apply Kd.yh_ | apply Kd.yi_ | apply Kd.R_drew)); exact HO458.out) hb)
      have n1_ := Aside0.mk (ym_ (by repeat (with_reducible first | exact HB.out | apply yc_ | apply ya_ | apply yb_)) hb)
      clear HO458
      clear HB
      have HO458 := n0_
      have HB := n1_
      clear n0_ n1_
      (try clear hb)
      (try clear hb2)
      (try clear hk)
      (try clear hi)
      refine hK.out _ _ trivial (fun hHeld => ?_)
      clear hK K
      refine norm_ (a' := ?_) ?_ ?_
      rotate_left
      ·show Act.put _ (some 12) _ = _
       simp only [Act.put, q1_, q2_, q3_, i64_w, i32_w]
       rfl
      refine one_ (i := 8) (N := some 18) (bA 11 511) rfl rfl (one_of HT_.out (by kernel_rfl)) (by decide) (fun K hK => ?_)
      have hcv12 := ymb_ (P := Tryd.prog) Tryd.underlying32 Tryd.underlying5 Tryd.underlying9 (Kd.yeb_ HO458.out)
      refine value_ (w1 := ?_) (v := ?_) (by rfl) rfl ?_ ?_
      rotate_left 2
      ·go_simp
       constructor
       ·rfl
       ·rfl
      clear hcv12
      refine hK.out _ _ trivial (fun hHeld => ?_)
      clear hK K
      refine norm_ (a' := ?_) ?_ ?_
      rotate_left
      ·show Act.put _ (some 18) _ = _
       simp only [Act.put, q1_, q2_, q3_, i64_w, i32_w]
       rfl
      exact norm_ (by simp only [putAll, Act.put, q1_, q2_, q3_]) (hCont (v457) _ ⟨(by (with_reducible repeat (first | apply Kd.yh_ | apply Kd.yi_ | apply Kd.R_drew)); exact HO458.out), (by repeat (with_reducible first | exact HB.out | apply yc_ | apply ya_ | apply yb_))⟩)
     ·skip
      have hcv11 := ymb_ (P := Tryd.prog) Tryd.underlying32 Tryd.underlying5 Tryd.underlying9 (Kd.yeb_ HO458.out)
      refine value_ (w1 := ?_) (v := ?_) (by rfl) rfl ?_ ?_
      rotate_left 2
      ·go_simp
       constructor
       ·rfl
       ·rfl
      clear hcv11
      refine hK.out _ _ trivial (fun hHeld => ?_)
      clear hK K
      refine norm_ (a' := ?_) ?_ ?_
      rotate_left
      ·show Act.put _ (some 18) _ = _
       simp only [Act.put, q1_, q2_, q3_, i64_w, i32_w]
       rfl
      refine one_ (i := 2) (N := some 12) (bA 11 511) rfl rfl (one_of HT_.out (by kernel_rfl)) (by decide) (fun K hK => ?_)
      refine goes_ Tryd.func67 (by kernel_rfl) rfl #[.int .i64 (wrap64 (Int.tdiv a0 10))] (by rfl) rfl rfl (by (try simp only [List.map_toArray, List.map_cons, List.map_nil]); first | done | rfl | (simp only [List.length_drop, List.length_take]; rfl)) ?_
      with_reducible refine (ih k (by omega) (wrap64 (Int.tdiv a0 10)) t455 _ A6.out).mono ?_
      rintro e w12 ⟨rfl, hb⟩
      refine ⟨_, rfl, ?_⟩
      have n0_ := Aside0.mk (Kd.yM_ (by (with_reducible repeat (first | apply Kd.yh_ | apply Kd.yi_ | apply Kd.R_drew)); exact HO458.out) hb)
      have n1_ := Aside0.mk (ym_ (by repeat (with_reducible first | exact HB.out | apply yc_ | apply ya_ | apply yb_)) hb)
      clear HO458
      clear HB
      have HO458 := n0_
      have HB := n1_
      clear n0_ n1_
      (try clear hb)
      (try clear hb2)
      (try clear hk)
      (try clear hi)
      refine hK.out _ _ trivial (fun hHeld => ?_)
      clear hK K
      refine norm_ (a' := ?_) ?_ ?_
      rotate_left
      ·show Act.put _ (some 12) _ = _
       simp only [Act.put, q1_, q2_, q3_, i64_w, i32_w]
       rfl
      exact norm_ (by simp only [putAll, Act.put, q1_, q2_, q3_]) (hCont (v457) _ ⟨(by (with_reducible repeat (first | apply Kd.yh_ | apply Kd.yi_ | apply Kd.R_drew)); exact HO458.out), (by repeat (with_reducible first | exact HB.out | apply yc_ | apply ya_ | apply yb_))⟩)
   rintro v457 w13 ⟨h0_, h1_⟩
   have n0_ : Aside0 (Kd.R (Kd.int .u8) 5 w13 w.heap.size (fun _ => True) v457 y456) := ⟨h0_⟩
   have n1_ : Aside0 (Below w.heap.size w w13) := ⟨h1_⟩
   clear HB
   clear h0_ h1_
   have HO458 := n0_
   have HB := n1_
   clear n0_ n1_
   have hHeld := trivial
   refine norm_ (a' := ?_) ?_ ?_
   rotate_left; (· simp only [putAll, Act.put, q1_, q2_, q3_]; rfl)
   refine pu_ 9 19 (bA 11 1023) HT_ ?_
   refine pu_ 10 2 (bA 11 2047) HT_ ?_
   refine done_ (yqb_ HT_.out (by kernel_rfl)) ?_
   try go_wp2
   go_ret
   exact ⟨by first | rfl | (simp [yu_, yv_] <;> rfl) | (simp [*, yu_, yv_] <;> rfl), by repeat (with_reducible first | exact HB.out | apply yc_ | apply ya_ | apply yb_)⟩
  ·rw [if_neg c7] at H
   exact absurd H (by simp)

end Go.Proofs.YthimblhfjfngiaaDoor.PText

namespace Go.Proofs.YthimblhfjfngiaaDoor.PText
open Go.RowKit Go.Proofs.YthimblhfjfngiaaDoorW.PrintWords Go.Proofs.YthimblhfjfngiaaDoorW.PrintLast Go.Proofs.YthimblhfjfngiaaDoorW.PrintMore
attribute [local go_sem] y1_ y2_ ycb_ ydb_ yV_ yW_ y3_ y4_   -- for this text's walks alone
set_option linter.unusedVariables false
set_option linter.unusedSimpArgs false

mutual
def yg_.l0 : Nat → List (S75) → Int → Int → Int → Int → Int → Option (ByteArray)
 | 0, _, _, _, _, _, _ => none
 | k + 1, x0, x1, x2, x7, x8, x9 => if x9 < x1 then (if 0 ≤ x9 then (if x9 < (x0.length : Int) then (if ((rd_T75 x0 x9).f0) = 43 then (if ((rd_T75 x0 x9).f0) = 45 then (yg_.l0 k x0 x1 x2 x7 x8 (wrap64 (x9 + 1))) else (yg_.l0 k x0 x1 x2 x7 (wrap64 (x8 + 1)) (wrap64 (x9 + 1)))) else (if ((rd_T75 x0 x9).f0) = 45 then (yg_.l0 k x0 x1 x2 (wrap64 (x7 + 1)) x8 (wrap64 (x9 + 1))) else (yg_.l0 k x0 x1 x2 (wrap64 (x7 + 1)) (wrap64 (x8 + 1)) (wrap64 (x9 + 1))))) else (none)) else (none)) else (yg_.l1 k x0 x2 x7 x8 0 0 ([] : List Int) x1)
def yg_.l1 : Nat → List (S75) → Int → Int → Int → Int → Int → List Int → Int → Option (ByteArray)
 | 0, _, _, _, _, _, _, _, _ => none
 | k + 1, x0, x2, x7, x8, x10, x11, x12, x13 => if x13 < x2 then (if 0 ≤ x13 then (if x13 < (x0.length : Int) then (if ((rd_T75 x0 x13).f0) = 43 then (if ((rd_T75 x0 x13).f0) = 45 then ((yE_.f ((rd_T75 x0 x13).f0) ((rd_T75 x0 x13).f1)).bind fun t465 => (if x12.length + t465.size < 140737488355328 then (yg_.l1 k x0 x2 x7 x8 x10 x11 (x12 ++ bytesOf t465) (wrap64 (x13 + 1))) else (none))) else ((yE_.f ((rd_T75 x0 x13).f0) ((rd_T75 x0 x13).f1)).bind fun t470 => (if x12.length + t470.size < 140737488355328 then (yg_.l1 k x0 x2 x7 x8 x10 (wrap64 (x11 + 1)) (x12 ++ bytesOf t470) (wrap64 (x13 + 1))) else (none)))) else (if ((rd_T75 x0 x13).f0) = 45 then ((yE_.f ((rd_T75 x0 x13).f0) ((rd_T75 x0 x13).f1)).bind fun t476 => (if x12.length + t476.size < 140737488355328 then (yg_.l1 k x0 x2 x7 x8 (wrap64 (x10 + 1)) x11 (x12 ++ bytesOf t476) (wrap64 (x13 + 1))) else (none))) else ((yE_.f ((rd_T75 x0 x13).f0) ((rd_T75 x0 x13).f1)).bind fun t481 => (if x12.length + t481.size < 140737488355328 then (yg_.l1 k x0 x2 x7 x8 (wrap64 (x10 + 1)) (wrap64 (x11 + 1)) (x12 ++ bytesOf t481) (wrap64 (x13 + 1))) else (none))))) else (none)) else (none)) else (if x10 > 0 then (yg_.j2 k (wrap64 (x7 + 1)) x8 x10 x11 x12) else (yg_.j2 k x7 x8 x10 x11 x12))
def yg_.j2 : Nat → Int → Int → Int → Int → List Int → Option (ByteArray)
 | 0, _, _, _, _, _ => none
 | k + 1, x7, x8, x10, x11, x12 => if x11 > 0 then (yg_.j3 k x7 (wrap64 (x8 + 1)) x10 x11 x12) else (yg_.j3 k x7 x8 x10 x11 x12)
def yg_.j3 : Nat → Int → Int → Int → Int → List Int → Option (ByteArray)
 | 0, _, _, _, _, _ => none
 | k + 1, x7, x8, x10, x11, x12 => (yn_.f k x7).bind fun t485 => (if 3 + t485.size ≤ 9223372036854775807 then (if ((⟨#[64, 64, 32]⟩ : ByteArray) ++ t485).size + 1 ≤ 9223372036854775807 then ((yn_.f k x10).bind fun t486 => (if (((⟨#[64, 64, 32]⟩ : ByteArray) ++ t485) ++ (⟨#[44]⟩ : ByteArray)).size + t486.size ≤ 9223372036854775807 then (if ((((⟨#[64, 64, 32]⟩ : ByteArray) ++ t485) ++ (⟨#[44]⟩ : ByteArray)) ++ t486).size + 1 ≤ 9223372036854775807 then ((yn_.f k x8).bind fun t487 => (if (((((⟨#[64, 64, 32]⟩ : ByteArray) ++ t485) ++ (⟨#[44]⟩ : ByteArray)) ++ t486) ++ (⟨#[32]⟩ : ByteArray)).size + t487.size ≤ 9223372036854775807 then (if ((((((⟨#[64, 64, 32]⟩ : ByteArray) ++ t485) ++ (⟨#[44]⟩ : ByteArray)) ++ t486) ++ (⟨#[32]⟩ : ByteArray)) ++ t487).size + 1 ≤ 9223372036854775807 then ((yn_.f k x11).bind fun t488 => (if (((((((⟨#[64, 64, 32]⟩ : ByteArray) ++ t485) ++ (⟨#[44]⟩ : ByteArray)) ++ t486) ++ (⟨#[32]⟩ : ByteArray)) ++ t487) ++ (⟨#[44]⟩ : ByteArray)).size + t488.size ≤ 9223372036854775807 then (if ((((((((⟨#[64, 64, 32]⟩ : ByteArray) ++ t485) ++ (⟨#[44]⟩ : ByteArray)) ++ t486) ++ (⟨#[32]⟩ : ByteArray)) ++ t487) ++ (⟨#[44]⟩ : ByteArray)) ++ t488).size + 4 ≤ 9223372036854775807 then (if (((((((((⟨#[64, 64, 32]⟩ : ByteArray) ++ t485) ++ (⟨#[44]⟩ : ByteArray)) ++ t486) ++ (⟨#[32]⟩ : ByteArray)) ++ t487) ++ (⟨#[44]⟩ : ByteArray)) ++ t488) ++ (⟨#[32, 64, 64, 10]⟩ : ByteArray)).size + (strOfNums x12).size ≤ 9223372036854775807 then (some ((((((((((⟨#[64, 64, 32]⟩ : ByteArray) ++ t485) ++ (⟨#[44]⟩ : ByteArray)) ++ t486) ++ (⟨#[32]⟩ : ByteArray)) ++ t487) ++ (⟨#[44]⟩ : ByteArray)) ++ t488) ++ (⟨#[32, 64, 64, 10]⟩ : ByteArray)) ++ (strOfNums x12))) else (none)) else (none)) else (none))) else (none)) else (none))) else (none)) else (none))) else (none)) else (none))
end
def yg_.f (k : Nat) (l0 : List (S75)) (a1 : Int) (a2 : Int) : Option (ByteArray) := yg_.l0 k l0 a1 a2 0 0 0
def yg_.T23 : Bool × List (List Nat × List Nat) := (true, [([], []), ([0], [0]), ([1], [1]), ([2], [2]), ([], []), ([4, 1], [4]), ([3, 5], [3, 5]), ([6], [6]), ([], []), ([8, 5], [8]), ([7, 9], [7, 9]), ([10], [10]), ([], []), ([12, 9], [12]), ([11, 13], [11, 13]), ([14], [14]), ([], []), ([16], [16]), ([15, 17], [15, 17]), ([18, 13, 0, 1, 2, 3, 4, 5, 6, 7, 8, 9, 10, 11, 12, 13, 14, 15, 16, 17, 18], [18])])
def yg_.B23 : List Nat := [0, 1, 3, 7, 0, 19, 63, 127, 0, 307, 1023, 2047, 0, 4915, 16383, 32767, 0, 65536, 262143, 524287]
theorem yg_.tab23 : rtab .any (opsOf Tryd.f47 23) = yg_.T23 := by kernel_rfl
theorem yg_.bits23 : waitsOk yg_.T23.2 yg_.B23 = true := by kernel_rfl
set_option maxHeartbeats 8000000 in
set_option maxRecDepth 100000 in
theorem yg_.calls (k : Nat) (A0 : Option Addr) (c0 : Nat) (l0 : List (S75)) (a1 : Int) (a2 : Int) (r : ByteArray) (w : World) (hr0 : Kd.C k75 w A0 l0.length l0) (hc0 : l0.length ≤ c0) (h : yg_.f k l0 a1 a2 = some r) :
  Calls Tryd.prog 47 #[.slice A0 l0.length c0, .int .i64 a1, .int .i64 a2] w fun e w' => e = .returned (.string r) ∧ Below w.heap.size w w' := by
 have hu75 := Tryd.underlying75
 have HR0 := Aside0.mk hr0
 have HC0 := Aside0.mk hc0
 clear hr0 hc0
 have HB := Aside0.mk (Below.refl w.heap.size w)
 have H : (yg_.l0 k l0 a1 a2 0 0 0) = some r := h
 clear h
 have H' := Aside0.mk H
 clear H
 go_enter Tryd.func47, Tryd.ntmps47
 go_wp2
 try simp only [Act.put, List.setIfInBounds_toArray, List.set_cons_succ, List.set_cons_zero]
 go_loopg [7, 8, 9] k (fun kq v7 v8 v9 w' => ∃ (x7_1 : Int) (x8_1 : Int) (x9_1 : Int), v7 = .int .i64 x7_1 ∧ v8 = .int .i64 x8_1 ∧ v9 = .int .i64 x9_1 ∧ Aside0 (yg_.l0 kq l0 a1 a2 x7_1 x8_1 x9_1 = some r) ∧ Aside0 (kq ≤ k) ∧ Aside0 (Below w.heap.size w w'))
 case atStart => exact ⟨(0), (0), (0), (by first | rfl | (simp; done) | (simp [*]; done)), (by first | rfl | (simp; done) | (simp [*]; done)), (by first | rfl | (simp; done) | (simp [*]; done)), H', ⟨Nat.le_refl _⟩, ⟨by repeat (with_reducible first | exact HB.out | apply yc_ | apply ya_ | apply yb_)⟩⟩
 case round =>
  clear H'
  try clear p2
  obtain ⟨x7_1, x8_1, x9_1, rfl, rfl, rfl, HA, HK1, HB⟩ := hrel
  cases gk with
  | zero => exact absurd HA.out (by simp [yg_.l0])
  | succ k1 =>
   have H := HA.out
   clear HA
   simp only [yg_.l0] at H
   by_cases c4 : x9_1 < a1
   ·rw [if_pos c4] at H
    have c4b0 : decide (x9_1 < a1) = true := decide_eq_true c4
    clear c4
    by_cases c5 : 0 ≤ x9_1
    ·rw [if_pos c5] at H
     have c5b0 : decide (0 ≤ x9_1) = true := decide_eq_true c5
     clear c5
     by_cases c6 : x9_1 < (l0.length : Int)
     ·rw [if_pos c6] at H
      have c6b0 : decide (x9_1 < (l0.length : Int)) = true := decide_eq_true c6
      clear c6
      by_cases c7 : ((rd_T75 l0 x9_1).f0) = 43
      ·rw [if_pos c7] at H
       have c7b0 : (((rd_T75 l0 x9_1).f0) == 43) = true := beq_iff_eq.mpr c7
       have c7b1 : (((rd_T75 l0 x9_1).f0) != 43) = false := bne_eq_false_iff_eq.mpr c7
       clear c7
       by_cases c8 : ((rd_T75 l0 x9_1).f0) = 45
       ·rw [if_pos c8] at H
        have c8b0 : (((rd_T75 l0 x9_1).f0) == 45) = true := beq_iff_eq.mpr c8
        have c8b1 : (((rd_T75 l0 x9_1).f0) != 45) = false := bne_eq_false_iff_eq.mpr c8
        clear c8
        have H' := Aside0.mk H
        clear H
        have p459 : 0 ≤ (x9_1 : Int) := of_decide_eq_true (by assumption)
        have q459 : x9_1 < (l0.length : Int) := of_decide_eq_true (by assumption)
        obtain ⟨ad459, e459, hx459_0, hx459_1⟩ := at_T75 HR0.out x9_1 p459 q459
        cases e459
        replace hx459_0 := (HB.out.cell (World.block_lt_of_cell? w _ hx459_0)).trans hx459_0
        replace hx459_1 := (HB.out.cell (World.block_lt_of_cell? w _ hx459_1)).trans hx459_1
        replace p459 := eq_true p459
        replace q459 := eq_true q459
        have p460 : 0 ≤ (x9_1 : Int) := of_decide_eq_true (by assumption)
        have q460 : x9_1 < (l0.length : Int) := of_decide_eq_true (by assumption)
        obtain ⟨ad460, e460, hx460_0, hx460_1⟩ := at_T75 HR0.out x9_1 p460 q460
        obtain rfl : ad459 = ad460 := (by injection e460)
        replace hx460_0 := (HB.out.cell (World.block_lt_of_cell? w _ hx460_0)).trans hx460_0
        replace hx460_1 := (HB.out.cell (World.block_lt_of_cell? w _ hx460_1)).trans hx460_1
        replace p460 := eq_true p460
        replace q460 := eq_true q460
        go_wp2
        go_roundg k1
        case measure => have := HK1.out; omega
        case rel => exact ⟨(x7_1), (x8_1), (wrap64 (x9_1 + 1)), (by first | rfl | (simp; done) | (simp [*]; done)), (by first | rfl | (simp; done) | (simp [*]; done)), (by first | rfl | (simp; done) | (simp [*]; done)), H', ⟨by have := HK1.out; omega⟩, ⟨by repeat (with_reducible first | exact HB.out | apply yc_ | apply ya_ | apply yb_)⟩⟩
       ·rw [if_neg c8] at H
        have c8b0 : (((rd_T75 l0 x9_1).f0) == 45) = false := beq_eq_false_iff_ne.mpr c8
        have c8b1 : (((rd_T75 l0 x9_1).f0) != 45) = true := bne_iff_ne.mpr c8
        have H' := Aside0.mk H
        clear H
        have p459 : 0 ≤ (x9_1 : Int) := of_decide_eq_true (by assumption)
        have q459 : x9_1 < (l0.length : Int) := of_decide_eq_true (by assumption)
        obtain ⟨ad459, e459, hx459_0, hx459_1⟩ := at_T75 HR0.out x9_1 p459 q459
        cases e459
        replace hx459_0 := (HB.out.cell (World.block_lt_of_cell? w _ hx459_0)).trans hx459_0
        replace hx459_1 := (HB.out.cell (World.block_lt_of_cell? w _ hx459_1)).trans hx459_1
        replace p459 := eq_true p459
        replace q459 := eq_true q459
        have p460 : 0 ≤ (x9_1 : Int) := of_decide_eq_true (by assumption)
        have q460 : x9_1 < (l0.length : Int) := of_decide_eq_true (by assumption)
        obtain ⟨ad460, e460, hx460_0, hx460_1⟩ := at_T75 HR0.out x9_1 p460 q460
        obtain rfl : ad459 = ad460 := (by injection e460)
        replace hx460_0 := (HB.out.cell (World.block_lt_of_cell? w _ hx460_0)).trans hx460_0
        replace hx460_1 := (HB.out.cell (World.block_lt_of_cell? w _ hx460_1)).trans hx460_1
        replace p460 := eq_true p460
        replace q460 := eq_true q460
        go_wp2
        go_roundg k1
        case measure => have := HK1.out; omega
        case rel => exact ⟨(x7_1), (wrap64 (x8_1 + 1)), (wrap64 (x9_1 + 1)), (by first | rfl | (simp; done) | (simp [*]; done)), (by first | rfl | (simp; done) | (simp [*]; done)), (by first | rfl | (simp; done) | (simp [*]; done)), H', ⟨by have := HK1.out; omega⟩, ⟨by repeat (with_reducible first | exact HB.out | apply yc_ | apply ya_ | apply yb_)⟩⟩
      ·rw [if_neg c7] at H
       have c7b0 : (((rd_T75 l0 x9_1).f0) == 43) = false := beq_eq_false_iff_ne.mpr c7
       have c7b1 : (((rd_T75 l0 x9_1).f0) != 43) = true := bne_iff_ne.mpr c7
       by_cases c9 : ((rd_T75 l0 x9_1).f0) = 45
       ·rw [if_pos c9] at H
        have c9b0 : (((rd_T75 l0 x9_1).f0) == 45) = true := beq_iff_eq.mpr c9
        have c9b1 : (((rd_T75 l0 x9_1).f0) != 45) = false := bne_eq_false_iff_eq.mpr c9
        clear c9
        have H' := Aside0.mk H
        clear H
        have p459 : 0 ≤ (x9_1 : Int) := of_decide_eq_true (by assumption)
        have q459 : x9_1 < (l0.length : Int) := of_decide_eq_true (by assumption)
        obtain ⟨ad459, e459, hx459_0, hx459_1⟩ := at_T75 HR0.out x9_1 p459 q459
        cases e459
        replace hx459_0 := (HB.out.cell (World.block_lt_of_cell? w _ hx459_0)).trans hx459_0
        replace hx459_1 := (HB.out.cell (World.block_lt_of_cell? w _ hx459_1)).trans hx459_1
        replace p459 := eq_true p459
        replace q459 := eq_true q459
        have p461 : 0 ≤ (x9_1 : Int) := of_decide_eq_true (by assumption)
        have q461 : x9_1 < (l0.length : Int) := of_decide_eq_true (by assumption)
        obtain ⟨ad461, e461, hx461_0, hx461_1⟩ := at_T75 HR0.out x9_1 p461 q461
        obtain rfl : ad459 = ad461 := (by injection e461)
        replace hx461_0 := (HB.out.cell (World.block_lt_of_cell? w _ hx461_0)).trans hx461_0
        replace hx461_1 := (HB.out.cell (World.block_lt_of_cell? w _ hx461_1)).trans hx461_1
        replace p461 := eq_true p461
        replace q461 := eq_true q461
        go_wp2
        go_roundg k1
        case measure => have := HK1.out; omega
        case rel => exact ⟨(wrap64 (x7_1 + 1)), (x8_1), (wrap64 (x9_1 + 1)), (by first | rfl | (simp; done) | (simp [*]; done)), (by first | rfl | (simp; done) | (simp [*]; done)), (by first | rfl | (simp; done) | (simp [*]; done)), H', ⟨by have := HK1.out; omega⟩, ⟨by repeat (with_reducible first | exact HB.out | apply yc_ | apply ya_ | apply yb_)⟩⟩
       ·rw [if_neg c9] at H
        have c9b0 : (((rd_T75 l0 x9_1).f0) == 45) = false := beq_eq_false_iff_ne.mpr c9
        have c9b1 : (((rd_T75 l0 x9_1).f0) != 45) = true := bne_iff_ne.mpr c9
        have H' := Aside0.mk H
        clear H
        have p459 : 0 ≤ (x9_1 : Int) := of_decide_eq_true (by assumption)
        have q459 : x9_1 < (l0.length : Int) := of_decide_eq_true (by assumption)
        obtain ⟨ad459, e459, hx459_0, hx459_1⟩ := at_T75 HR0.out x9_1 p459 q459
        cases e459
        replace hx459_0 := (HB.out.cell (World.block_lt_of_cell? w _ hx459_0)).trans hx459_0
        replace hx459_1 := (HB.out.cell (World.block_lt_of_cell? w _ hx459_1)).trans hx459_1
        replace p459 := eq_true p459
        replace q459 := eq_true q459
        have p461 : 0 ≤ (x9_1 : Int) := of_decide_eq_true (by assumption)
        have q461 : x9_1 < (l0.length : Int) := of_decide_eq_true (by assumption)
        obtain ⟨ad461, e461, hx461_0, hx461_1⟩ := at_T75 HR0.out x9_1 p461 q461
        obtain rfl : ad459 = ad461 := (by injection e461)
        replace hx461_0 := (HB.out.cell (World.block_lt_of_cell? w _ hx461_0)).trans hx461_0
        replace hx461_1 := (HB.out.cell (World.block_lt_of_cell? w _ hx461_1)).trans hx461_1
        replace p461 := eq_true p461
        replace q461 := eq_true q461
        go_wp2
        go_roundg k1
        case measure => have := HK1.out; omega
        case rel => exact ⟨(wrap64 (x7_1 + 1)), (wrap64 (x8_1 + 1)), (wrap64 (x9_1 + 1)), (by first | rfl | (simp; done) | (simp [*]; done)), (by first | rfl | (simp; done) | (simp [*]; done)), (by first | rfl | (simp; done) | (simp [*]; done)), H', ⟨by have := HK1.out; omega⟩, ⟨by repeat (with_reducible first | exact HB.out | apply yc_ | apply ya_ | apply yb_)⟩⟩
     ·rw [if_neg c6] at H
      exact absurd H (by simp)
    ·rw [if_neg c5] at H
     exact absurd H (by simp)
   ·rw [if_neg c4] at H
    have c4b0 : decide (x9_1 < a1) = false := decide_eq_false c4
    clear c4
    have H' := Aside0.mk H
    clear H
    go_wp2
    try simp only [Act.put, List.setIfInBounds_toArray, List.set_cons_succ, List.set_cons_zero]
    go_loopg [10, 11, 12, 13] k1 (fun kq v10 v11 v12 v13 w' => ∃ (x10_2 : Int) (x11_2 : Int) (x12_2 : List Int) (x13_2 : Int), v10 = .int .i64 x10_2 ∧ v11 = .int .i64 x11_2 ∧ v13 = .int .i64 x13_2 ∧ Aside0 (yg_.l1 kq l0 a2 x7_1 x8_1 x10_2 x11_2 x12_2 x13_2 = some r) ∧ Aside0 (kq ≤ k1) ∧ Aside0 (Kd.R (Kd.int .u8) 5 w' w.heap.size (fun _ => True) v12 x12_2) ∧ Aside0 (Below w.heap.size w w'))
    case atStart => exact ⟨(0), (0), (([] : List Int)), (a1), (by first | rfl | (simp; done) | (simp [*]; done)), (by first | rfl | (simp; done) | (simp [*]; done)), (by first | rfl | (simp; done) | (simp [*]; done)), H', ⟨Nat.le_refl _⟩, ⟨by first | exact Kd.R_nil _ _ _ _ _ | exact Kd.N_nil _ _ _ _ _ | exact Kd.V_nil _ _ _ _ _ | exact Kd.Q_nil _ _ _ _ _ | exact Kd.S_nil _ _ _ _ _⟩, ⟨by repeat (with_reducible first | exact HB.out | apply yc_ | apply ya_ | apply yb_)⟩⟩
    case round =>
     clear H'
     try clear p2
     try clear c4
     try clear c4b0
     try clear p4
     try clear q4
     try clear hx4
     try clear c5
     try clear c5b0
     try clear c6
     try clear c6b0
     try clear p6
     try clear c7
     try clear c7b0
     try clear c7b1
     try clear c8
     try clear c8b0
     try clear c8b1
     try clear c9
     try clear c9b0
     try clear c9b1
     try clear hx459_0
     try clear hx459_1
     try clear hx460_0
     try clear hx460_1
     try clear hx461_0
     try clear hx461_1
     try clear p2
     try clear p459
     try clear p460
     try clear p461
     try clear q459
     try clear q460
     try clear q461
     obtain ⟨x10_2, x11_2, x12_2, x13_2, rfl, rfl, rfl, HA, HK2, HO_12, HB⟩ := hrel
     cases gk with
     | zero => exact absurd HA.out (by simp [yg_.l1])
     | succ k2 =>
      have H := HA.out
      clear HA
      simp only [yg_.l1] at H
      by_cases c10 : x13_2 < a2
      ·rw [if_pos c10] at H
       have c10b0 : decide (x13_2 < a2) = true := decide_eq_true c10
       clear c10
       by_cases c11 : 0 ≤ x13_2
       ·rw [if_pos c11] at H
        have c11b0 : decide (0 ≤ x13_2) = true := decide_eq_true c11
        clear c11
        by_cases c12 : x13_2 < (l0.length : Int)
        ·rw [if_pos c12] at H
         have c12b0 : decide (x13_2 < (l0.length : Int)) = true := decide_eq_true c12
         clear c12
         by_cases c13 : ((rd_T75 l0 x13_2).f0) = 43
         ·rw [if_pos c13] at H
          have c13b0 : (((rd_T75 l0 x13_2).f0) == 43) = true := beq_iff_eq.mpr c13
          have c13b1 : (((rd_T75 l0 x13_2).f0) != 43) = false := bne_eq_false_iff_eq.mpr c13
          clear c13
          by_cases c14 : ((rd_T75 l0 x13_2).f0) = 45
          ·rw [if_pos c14] at H
           have c14b0 : (((rd_T75 l0 x13_2).f0) == 45) = true := beq_iff_eq.mpr c14
           have c14b1 : (((rd_T75 l0 x13_2).f0) != 45) = false := bne_eq_false_iff_eq.mpr c14
           clear c14
           replace H := Option.bind_eq_some_iff.mp H
           obtain ⟨t465, A150, H⟩ := H
           replace H : (if x12_2.length + t465.size < 140737488355328 then (yg_.l1 k2 l0 a2 x7_1 x8_1 x10_2 x11_2 (x12_2 ++ bytesOf t465) (wrap64 (x13_2 + 1))) else (none)) = some r := H
           have A15 := Aside0.mk A150
           clear A150
           by_cases c16 : x12_2.length + t465.size < 140737488355328
           ·rw [if_pos c16] at H
            have LMc16 := Aside0.mk c16
            clear c16
            obtain ⟨y466, hy466⟩ : ∃ y_ : List Int, y_ = (x12_2 ++ bytesOf t465) := ⟨_, rfl⟩
            replace H : (yg_.l1 k2 l0 a2 x7_1 x8_1 x10_2 x11_2 y466 (wrap64 (x13_2 + 1))) = some r := by first | (rw [hy466]; with_reducible exact H) | (have H2_ := (Option.bind_some _ _).symm.trans H; rw [hy466]; with_reducible exact H2_) | (have H2_ := (Option.bind_some _ _).symm.trans H; with_reducible exact H2_) | with_reducible exact H | (rw [hy466]; exact H) | exact H
            have Ny466 := Aside0.mk hy466
            clear hy466
            have H' := Aside0.mk H
            clear H
            have p462 : 0 ≤ (x13_2 : Int) := of_decide_eq_true (by assumption)
            have q462 : x13_2 < (l0.length : Int) := of_decide_eq_true (by assumption)
            obtain ⟨ad462, e462, hx462_0, hx462_1⟩ := at_T75 HR0.out x13_2 p462 q462
            cases e462
            replace hx462_0 := (HB.out.cell (World.block_lt_of_cell? w _ hx462_0)).trans hx462_0
            replace hx462_1 := (HB.out.cell (World.block_lt_of_cell? w _ hx462_1)).trans hx462_1
            replace p462 := eq_true p462
            replace q462 := eq_true q462
            have p463 : 0 ≤ (x13_2 : Int) := of_decide_eq_true (by assumption)
            have q463 : x13_2 < (l0.length : Int) := of_decide_eq_true (by assumption)
            obtain ⟨ad463, e463, hx463_0, hx463_1⟩ := at_T75 HR0.out x13_2 p463 q463
            obtain rfl : ad462 = ad463 := (by injection e463)
            replace hx463_0 := (HB.out.cell (World.block_lt_of_cell? w _ hx463_0)).trans hx463_0
            replace hx463_1 := (HB.out.cell (World.block_lt_of_cell? w _ hx463_1)).trans hx463_1
            replace p463 := eq_true p463
            replace q463 := eq_true q463
            have p464 : 0 ≤ (x13_2 : Int) := of_decide_eq_true (by assumption)
            have q464 : x13_2 < (l0.length : Int) := of_decide_eq_true (by assumption)
            obtain ⟨ad464, e464, hx464_0, hx464_1⟩ := at_T75 HR0.out x13_2 p464 q464
            obtain rfl : ad462 = ad464 := (by injection e464)
            replace hx464_0 := (HB.out.cell (World.block_lt_of_cell? w _ hx464_0)).trans hx464_0
            replace hx464_1 := (HB.out.cell (World.block_lt_of_cell? w _ hx464_1)).trans hx464_1
            replace p464 := eq_true p464
            replace q464 := eq_true q464
            go_wp2_with (first | ((with_reducible refine ys_ (f := 66) rfl ?_); refine goesL_ (some 62) rfl rfl Tryd.func66 (by kernel_rfl) rfl #[.agg #[.int .u8 ((rd_T75 l0 x13_2).f0), .string ((rd_T75 l0 x13_2).f1)]] rfl (by (try simp only [List.map_toArray, List.map_cons, List.map_nil]); first | done | rfl | (simp only [List.length_drop, List.length_take]; rfl)) ?_; (with_reducible refine (yE_.calls ((rd_T75 l0 x13_2).f0) ((rd_T75 l0 x13_2).f1) t465 _ A15.out).mono ?_); rintro e w17 ⟨rfl, hb⟩; refine ⟨_, rfl, ?_⟩; have n0_ := Aside0.mk (Kd.yM_ (by (with_reducible repeat (first | apply Kd.yh_ | apply Kd.yi_ | apply Kd.R_drew)); exact HO_12.out) hb); have n1_ := Aside0.mk (ym_ (by repeat (with_reducible first | exact HB.out | apply yc_ | apply ya_ | apply yb_)) hb); clear HO_12; clear HB; have HO_12 := n0_; have HB := n1_; clear n0_ n1_; (try clear hb); (try clear hb2); (try clear hk); (try clear hi)) | (at_builtin; refine ynb_ (w0 := w) w.heap.size rfl (.tmp 57) _ 32 9 5 rfl Tryd.underlying32 Tryd.underlying9 info5 u12 x12_2 t465 rfl rfl ?aO ?aB ?aS ?aL ?_; (case aB => exact (by repeat (with_reducible first | exact HB.out | apply yc_ | apply ya_ | apply yb_))); (case aO => exact (Kd.yeb_ (by (with_reducible repeat (first | apply Kd.yh_ | apply Kd.yi_ | apply Kd.R_drew)); exact HO_12.out))); (case aS => exact (yk_ (by repeat (with_reducible first | exact HB.out | apply yc_ | apply ya_ | apply yb_)))); (case aL => have := LMc16.out; omega); intro v467 w18 ho0 hb hg; have ho := Kd.yPb_ (h1 := fun _ => rfl) (ok := fun _ => True) ho0 (fun _ _ => trivial); clear ho0; have hat := True.intro; rw [← Ny466.out] at ho; change Kd.R (Kd.int .u8) 5 w18 w.heap.size (fun _ => True) v467 y466 at ho; have n0_ := Aside0.mk (hb); have n1_ := Aside0.mk (ho); clear HB; clear HO_12; have HB := n0_; have HO468 := n1_; clear n0_ n1_; clear ho hb hg hat))
            go_roundg k2
            case measure => have := HK1.out; have := HK2.out; omega
            case rel => exact ⟨(x10_2), (x11_2), (y466), (wrap64 (x13_2 + 1)), (by first | rfl | (simp; done) | (simp [*]; done)), (by first | rfl | (simp; done) | (simp [*]; done)), (by first | rfl | (simp; done) | (simp [*]; done)), H', ⟨by have := HK1.out; have := HK2.out; omega⟩, ⟨by (with_reducible repeat (first | apply Kd.yh_ | apply Kd.yi_ | apply Kd.R_drew)); exact HO468.out⟩, ⟨by repeat (with_reducible first | exact HB.out | apply yc_ | apply ya_ | apply yb_)⟩⟩
           ·rw [if_neg c16] at H
            exact absurd H (by simp)
          ·rw [if_neg c14] at H
           have c14b0 : (((rd_T75 l0 x13_2).f0) == 45) = false := beq_eq_false_iff_ne.mpr c14
           have c14b1 : (((rd_T75 l0 x13_2).f0) != 45) = true := bne_iff_ne.mpr c14
           replace H := Option.bind_eq_some_iff.mp H
           obtain ⟨t470, A190, H⟩ := H
           replace H : (if x12_2.length + t470.size < 140737488355328 then (yg_.l1 k2 l0 a2 x7_1 x8_1 x10_2 (wrap64 (x11_2 + 1)) (x12_2 ++ bytesOf t470) (wrap64 (x13_2 + 1))) else (none)) = some r := H
           have A19 := Aside0.mk A190
           clear A190
           by_cases c20 : x12_2.length + t470.size < 140737488355328
           ·rw [if_pos c20] at H
            have LMc20 := Aside0.mk c20
            clear c20
            obtain ⟨y471, hy471⟩ : ∃ y_ : List Int, y_ = (x12_2 ++ bytesOf t470) := ⟨_, rfl⟩
            replace H : (yg_.l1 k2 l0 a2 x7_1 x8_1 x10_2 (wrap64 (x11_2 + 1)) y471 (wrap64 (x13_2 + 1))) = some r := by first | (rw [hy471]; with_reducible exact H) | (have H2_ := (Option.bind_some _ _).symm.trans H; rw [hy471]; with_reducible exact H2_) | (have H2_ := (Option.bind_some _ _).symm.trans H; with_reducible exact H2_) | with_reducible exact H | (rw [hy471]; exact H) | exact H
            have Ny471 := Aside0.mk hy471
            clear hy471
            have H' := Aside0.mk H
            clear H
            have p462 : 0 ≤ (x13_2 : Int) := of_decide_eq_true (by assumption)
            have q462 : x13_2 < (l0.length : Int) := of_decide_eq_true (by assumption)
            obtain ⟨ad462, e462, hx462_0, hx462_1⟩ := at_T75 HR0.out x13_2 p462 q462
            cases e462
            replace hx462_0 := (HB.out.cell (World.block_lt_of_cell? w _ hx462_0)).trans hx462_0
            replace hx462_1 := (HB.out.cell (World.block_lt_of_cell? w _ hx462_1)).trans hx462_1
            replace p462 := eq_true p462
            replace q462 := eq_true q462
            have p463 : 0 ≤ (x13_2 : Int) := of_decide_eq_true (by assumption)
            have q463 : x13_2 < (l0.length : Int) := of_decide_eq_true (by assumption)
            obtain ⟨ad463, e463, hx463_0, hx463_1⟩ := at_T75 HR0.out x13_2 p463 q463
            obtain rfl : ad462 = ad463 := (by injection e463)
            replace hx463_0 := (HB.out.cell (World.block_lt_of_cell? w _ hx463_0)).trans hx463_0
            replace hx463_1 := (HB.out.cell (World.block_lt_of_cell? w _ hx463_1)).trans hx463_1
            replace p463 := eq_true p463
            replace q463 := eq_true q463
            have p469 : 0 ≤ (x13_2 : Int) := of_decide_eq_true (by assumption)
            have q469 : x13_2 < (l0.length : Int) := of_decide_eq_true (by assumption)
            obtain ⟨ad469, e469, hx469_0, hx469_1⟩ := at_T75 HR0.out x13_2 p469 q469
            obtain rfl : ad462 = ad469 := (by injection e469)
            replace hx469_0 := (HB.out.cell (World.block_lt_of_cell? w _ hx469_0)).trans hx469_0
            replace hx469_1 := (HB.out.cell (World.block_lt_of_cell? w _ hx469_1)).trans hx469_1
            replace p469 := eq_true p469
            replace q469 := eq_true q469
            go_wp2_with (first | ((with_reducible refine ys_ (f := 66) rfl ?_); refine goesL_ (some 62) rfl rfl Tryd.func66 (by kernel_rfl) rfl #[.agg #[.int .u8 ((rd_T75 l0 x13_2).f0), .string ((rd_T75 l0 x13_2).f1)]] rfl (by (try simp only [List.map_toArray, List.map_cons, List.map_nil]); first | done | rfl | (simp only [List.length_drop, List.length_take]; rfl)) ?_; (with_reducible refine (yE_.calls ((rd_T75 l0 x13_2).f0) ((rd_T75 l0 x13_2).f1) t470 _ A19.out).mono ?_); rintro e w21 ⟨rfl, hb⟩; refine ⟨_, rfl, ?_⟩; have n0_ := Aside0.mk (Kd.yM_ (by (with_reducible repeat (first | apply Kd.yh_ | apply Kd.yi_ | apply Kd.R_drew)); exact HO_12.out) hb); have n1_ := Aside0.mk (ym_ (by repeat (with_reducible first | exact HB.out | apply yc_ | apply ya_ | apply yb_)) hb); clear HO_12; clear HB; have HO_12 := n0_; have HB := n1_; clear n0_ n1_; (try clear hb); (try clear hb2); (try clear hk); (try clear hi)) | (at_builtin; refine ynb_ (w0 := w) w.heap.size rfl (.tmp 57) _ 32 9 5 rfl Tryd.underlying32 Tryd.underlying9 info5 u12 x12_2 t470 rfl rfl ?aO ?aB ?aS ?aL ?_; (case aB => exact (by repeat (with_reducible first | exact HB.out | apply yc_ | apply ya_ | apply yb_))); (case aO => exact (Kd.yeb_ (by (with_reducible repeat (first | apply Kd.yh_ | apply Kd.yi_ | apply Kd.R_drew)); exact HO_12.out))); (case aS => exact (yk_ (by repeat (with_reducible first | exact HB.out | apply yc_ | apply ya_ | apply yb_)))); (case aL => have := LMc20.out; omega); intro v472 w22 ho0 hb hg; have ho := Kd.yPb_ (h1 := fun _ => rfl) (ok := fun _ => True) ho0 (fun _ _ => trivial); clear ho0; have hat := True.intro; rw [← Ny471.out] at ho; change Kd.R (Kd.int .u8) 5 w22 w.heap.size (fun _ => True) v472 y471 at ho; have n0_ := Aside0.mk (hb); have n1_ := Aside0.mk (ho); clear HB; clear HO_12; have HB := n0_; have HO473 := n1_; clear n0_ n1_; clear ho hb hg hat))
            go_roundg k2
            case measure => have := HK1.out; have := HK2.out; omega
            case rel => exact ⟨(x10_2), (wrap64 (x11_2 + 1)), (y471), (wrap64 (x13_2 + 1)), (by first | rfl | (simp; done) | (simp [*]; done)), (by first | rfl | (simp; done) | (simp [*]; done)), (by first | rfl | (simp; done) | (simp [*]; done)), H', ⟨by have := HK1.out; have := HK2.out; omega⟩, ⟨by (with_reducible repeat (first | apply Kd.yh_ | apply Kd.yi_ | apply Kd.R_drew)); exact HO473.out⟩, ⟨by repeat (with_reducible first | exact HB.out | apply yc_ | apply ya_ | apply yb_)⟩⟩
           ·rw [if_neg c20] at H
            exact absurd H (by simp)
         ·rw [if_neg c13] at H
          have c13b0 : (((rd_T75 l0 x13_2).f0) == 43) = false := beq_eq_false_iff_ne.mpr c13
          have c13b1 : (((rd_T75 l0 x13_2).f0) != 43) = true := bne_iff_ne.mpr c13
          by_cases c23 : ((rd_T75 l0 x13_2).f0) = 45
          ·rw [if_pos c23] at H
           have c23b0 : (((rd_T75 l0 x13_2).f0) == 45) = true := beq_iff_eq.mpr c23
           have c23b1 : (((rd_T75 l0 x13_2).f0) != 45) = false := bne_eq_false_iff_eq.mpr c23
           clear c23
           replace H := Option.bind_eq_some_iff.mp H
           obtain ⟨t476, A240, H⟩ := H
           replace H : (if x12_2.length + t476.size < 140737488355328 then (yg_.l1 k2 l0 a2 x7_1 x8_1 (wrap64 (x10_2 + 1)) x11_2 (x12_2 ++ bytesOf t476) (wrap64 (x13_2 + 1))) else (none)) = some r := H
           have A24 := Aside0.mk A240
           clear A240
           by_cases c25 : x12_2.length + t476.size < 140737488355328
           ·rw [if_pos c25] at H
            have LMc25 := Aside0.mk c25
            clear c25
            obtain ⟨y477, hy477⟩ : ∃ y_ : List Int, y_ = (x12_2 ++ bytesOf t476) := ⟨_, rfl⟩
            replace H : (yg_.l1 k2 l0 a2 x7_1 x8_1 (wrap64 (x10_2 + 1)) x11_2 y477 (wrap64 (x13_2 + 1))) = some r := by first | (rw [hy477]; with_reducible exact H) | (have H2_ := (Option.bind_some _ _).symm.trans H; rw [hy477]; with_reducible exact H2_) | (have H2_ := (Option.bind_some _ _).symm.trans H; with_reducible exact H2_) | with_reducible exact H | (rw [hy477]; exact H) | exact H
            have Ny477 := Aside0.mk hy477
            clear hy477
            have H' := Aside0.mk H
            clear H
            have p462 : 0 ≤ (x13_2 : Int) := of_decide_eq_true (by assumption)
            have q462 : x13_2 < (l0.length : Int) := of_decide_eq_true (by assumption)
            obtain ⟨ad462, e462, hx462_0, hx462_1⟩ := at_T75 HR0.out x13_2 p462 q462
            cases e462
            replace hx462_0 := (HB.out.cell (World.block_lt_of_cell? w _ hx462_0)).trans hx462_0
            replace hx462_1 := (HB.out.cell (World.block_lt_of_cell? w _ hx462_1)).trans hx462_1
            replace p462 := eq_true p462
            replace q462 := eq_true q462
            have p474 : 0 ≤ (x13_2 : Int) := of_decide_eq_true (by assumption)
            have q474 : x13_2 < (l0.length : Int) := of_decide_eq_true (by assumption)
            obtain ⟨ad474, e474, hx474_0, hx474_1⟩ := at_T75 HR0.out x13_2 p474 q474
            obtain rfl : ad462 = ad474 := (by injection e474)
            replace hx474_0 := (HB.out.cell (World.block_lt_of_cell? w _ hx474_0)).trans hx474_0
            replace hx474_1 := (HB.out.cell (World.block_lt_of_cell? w _ hx474_1)).trans hx474_1
            replace p474 := eq_true p474
            replace q474 := eq_true q474
            have p475 : 0 ≤ (x13_2 : Int) := of_decide_eq_true (by assumption)
            have q475 : x13_2 < (l0.length : Int) := of_decide_eq_true (by assumption)
            obtain ⟨ad475, e475, hx475_0, hx475_1⟩ := at_T75 HR0.out x13_2 p475 q475
            obtain rfl : ad462 = ad475 := (by injection e475)
            replace hx475_0 := (HB.out.cell (World.block_lt_of_cell? w _ hx475_0)).trans hx475_0
            replace hx475_1 := (HB.out.cell (World.block_lt_of_cell? w _ hx475_1)).trans hx475_1
            replace p475 := eq_true p475
            replace q475 := eq_true q475
            go_wp2_with (first | ((with_reducible refine ys_ (f := 66) rfl ?_); refine goesL_ (some 62) rfl rfl Tryd.func66 (by kernel_rfl) rfl #[.agg #[.int .u8 ((rd_T75 l0 x13_2).f0), .string ((rd_T75 l0 x13_2).f1)]] rfl (by (try simp only [List.map_toArray, List.map_cons, List.map_nil]); first | done | rfl | (simp only [List.length_drop, List.length_take]; rfl)) ?_; (with_reducible refine (yE_.calls ((rd_T75 l0 x13_2).f0) ((rd_T75 l0 x13_2).f1) t476 _ A24.out).mono ?_); rintro e w26 ⟨rfl, hb⟩; refine ⟨_, rfl, ?_⟩; have n0_ := Aside0.mk (Kd.yM_ (by (with_reducible repeat (first | apply Kd.yh_ | apply Kd.yi_ | apply Kd.R_drew)); exact HO_12.out) hb); have n1_ := Aside0.mk (ym_ (by repeat (with_reducible first | exact HB.out | apply yc_ | apply ya_ | apply yb_)) hb); clear HO_12; clear HB; have HO_12 := n0_; have HB := n1_; clear n0_ n1_; (try clear hb); (try clear hb2); (try clear hk); (try clear hi)) | (at_builtin; refine ynb_ (w0 := w) w.heap.size rfl (.tmp 57) _ 32 9 5 rfl Tryd.underlying32 Tryd.underlying9 info5 u12 x12_2 t476 rfl rfl ?aO ?aB ?aS ?aL ?_; (case aB => exact (by repeat (with_reducible first | exact HB.out | apply yc_ | apply ya_ | apply yb_))); (case aO => exact (Kd.yeb_ (by (with_reducible repeat (first | apply Kd.yh_ | apply Kd.yi_ | apply Kd.R_drew)); exact HO_12.out))); (case aS => exact (yk_ (by repeat (with_reducible first | exact HB.out | apply yc_ | apply ya_ | apply yb_)))); (case aL => have := LMc25.out; omega); intro v478 w27 ho0 hb hg; have ho := Kd.yPb_ (h1 := fun _ => rfl) (ok := fun _ => True) ho0 (fun _ _ => trivial); clear ho0; have hat := True.intro; rw [← Ny477.out] at ho; change Kd.R (Kd.int .u8) 5 w27 w.heap.size (fun _ => True) v478 y477 at ho; have n0_ := Aside0.mk (hb); have n1_ := Aside0.mk (ho); clear HB; clear HO_12; have HB := n0_; have HO479 := n1_; clear n0_ n1_; clear ho hb hg hat))
            go_roundg k2
            case measure => have := HK1.out; have := HK2.out; omega
            case rel => exact ⟨(wrap64 (x10_2 + 1)), (x11_2), (y477), (wrap64 (x13_2 + 1)), (by first | rfl | (simp; done) | (simp [*]; done)), (by first | rfl | (simp; done) | (simp [*]; done)), (by first | rfl | (simp; done) | (simp [*]; done)), H', ⟨by have := HK1.out; have := HK2.out; omega⟩, ⟨by (with_reducible repeat (first | apply Kd.yh_ | apply Kd.yi_ | apply Kd.R_drew)); exact HO479.out⟩, ⟨by repeat (with_reducible first | exact HB.out | apply yc_ | apply ya_ | apply yb_)⟩⟩
           ·rw [if_neg c25] at H
            exact absurd H (by simp)
          ·rw [if_neg c23] at H
           have c23b0 : (((rd_T75 l0 x13_2).f0) == 45) = false := beq_eq_false_iff_ne.mpr c23
           have c23b1 : (((rd_T75 l0 x13_2).f0) != 45) = true := bne_iff_ne.mpr c23
           replace H := Option.bind_eq_some_iff.mp H
           obtain ⟨t481, A280, H⟩ := H
           replace H : (if x12_2.length + t481.size < 140737488355328 then (yg_.l1 k2 l0 a2 x7_1 x8_1 (wrap64 (x10_2 + 1)) (wrap64 (x11_2 + 1)) (x12_2 ++ bytesOf t481) (wrap64 (x13_2 + 1))) else (none)) = some r := H
           have A28 := Aside0.mk A280
           clear A280
           by_cases c29 : x12_2.length + t481.size < 140737488355328
           ·rw [if_pos c29] at H
            have LMc29 := Aside0.mk c29
            clear c29
            obtain ⟨y482, hy482⟩ : ∃ y_ : List Int, y_ = (x12_2 ++ bytesOf t481) := ⟨_, rfl⟩
            replace H : (yg_.l1 k2 l0 a2 x7_1 x8_1 (wrap64 (x10_2 + 1)) (wrap64 (x11_2 + 1)) y482 (wrap64 (x13_2 + 1))) = some r := by first | (rw [hy482]; with_reducible exact H) | (have H2_ := (Option.bind_some _ _).symm.trans H; rw [hy482]; with_reducible exact H2_) | (have H2_ := (Option.bind_some _ _).symm.trans H; with_reducible exact H2_) | with_reducible exact H | (rw [hy482]; exact H) | exact H
            have Ny482 := Aside0.mk hy482
            clear hy482
            have H' := Aside0.mk H
            clear H
            have p462 : 0 ≤ (x13_2 : Int) := of_decide_eq_true (by assumption)
            have q462 : x13_2 < (l0.length : Int) := of_decide_eq_true (by assumption)
            obtain ⟨ad462, e462, hx462_0, hx462_1⟩ := at_T75 HR0.out x13_2 p462 q462
            cases e462
            replace hx462_0 := (HB.out.cell (World.block_lt_of_cell? w _ hx462_0)).trans hx462_0
            replace hx462_1 := (HB.out.cell (World.block_lt_of_cell? w _ hx462_1)).trans hx462_1
            replace p462 := eq_true p462
            replace q462 := eq_true q462
            have p474 : 0 ≤ (x13_2 : Int) := of_decide_eq_true (by assumption)
            have q474 : x13_2 < (l0.length : Int) := of_decide_eq_true (by assumption)
            obtain ⟨ad474, e474, hx474_0, hx474_1⟩ := at_T75 HR0.out x13_2 p474 q474
            obtain rfl : ad462 = ad474 := (by injection e474)
            replace hx474_0 := (HB.out.cell (World.block_lt_of_cell? w _ hx474_0)).trans hx474_0
            replace hx474_1 := (HB.out.cell (World.block_lt_of_cell? w _ hx474_1)).trans hx474_1
            replace p474 := eq_true p474
            replace q474 := eq_true q474
            have p480 : 0 ≤ (x13_2 : Int) := of_decide_eq_true (by assumption)
            have q480 : x13_2 < (l0.length : Int) := of_decide_eq_true (by assumption)
            obtain ⟨ad480, e480, hx480_0, hx480_1⟩ := at_T75 HR0.out x13_2 p480 q480
            obtain rfl : ad462 = ad480 := (by injection e480)
            replace hx480_0 := (HB.out.cell (World.block_lt_of_cell? w _ hx480_0)).trans hx480_0
            replace hx480_1 := (HB.out.cell (World.block_lt_of_cell? w _ hx480_1)).trans hx480_1
            replace p480 := eq_true p480
            replace q480 := eq_true q480
            go_wp2_with (first | ((with_reducible refine ys_ (f := 66) rfl ?_); refine goesL_ (some 62) rfl rfl Tryd.func66 (by kernel_rfl) rfl #[.agg #[.int .u8 ((rd_T75 l0 x13_2).f0), .string ((rd_T75 l0 x13_2).f1)]] rfl (by (try simp only [List.map_toArray, List.map_cons, List.map_nil]); first | done | rfl | (simp only [List.length_drop, List.length_take]; rfl)) ?_; (with_reducible refine (yE_.calls ((rd_T75 l0 x13_2).f0) ((rd_T75 l0 x13_2).f1) t481 _ A28.out).mono ?_); rintro e w30 ⟨rfl, hb⟩; refine ⟨_, rfl, ?_⟩; have n0_ := Aside0.mk (Kd.yM_ (by (with_reducible repeat (first | apply Kd.yh_ | apply Kd.yi_ | apply Kd.R_drew)); exact HO_12.out) hb); have n1_ := Aside0.mk (ym_ (by repeat (with_reducible first | exact HB.out | apply yc_ | apply ya_ | apply yb_)) hb); clear HO_12; clear HB; have HO_12 := n0_; have HB := n1_; clear n0_ n1_; (try clear hb); (try clear hb2); (try clear hk); (try clear hi)) | (at_builtin; refine ynb_ (w0 := w) w.heap.size rfl (.tmp 57) _ 32 9 5 rfl Tryd.underlying32 Tryd.underlying9 info5 u12 x12_2 t481 rfl rfl ?aO ?aB ?aS ?aL ?_; (case aB => exact (by repeat (with_reducible first | exact HB.out | apply yc_ | apply ya_ | apply yb_))); (case aO => exact (Kd.yeb_ (by (with_reducible repeat (first | apply Kd.yh_ | apply Kd.yi_ | apply Kd.R_drew)); exact HO_12.out))); (case aS => exact (yk_ (by repeat (with_reducible first | exact HB.out | apply yc_ | apply ya_ | apply yb_)))); (case aL => have := LMc29.out; omega); intro v483 w31 ho0 hb hg; have ho := Kd.yPb_ (h1 := fun _ => rfl) (ok := fun _ => True) ho0 (fun _ _ => trivial); clear ho0; have hat := True.intro; rw [← Ny482.out] at ho; change Kd.R (Kd.int .u8) 5 w31 w.heap.size (fun _ => True) v483 y482 at ho; have n0_ := Aside0.mk (hb); have n1_ := Aside0.mk (ho); clear HB; clear HO_12; have HB := n0_; have HO484 := n1_; clear n0_ n1_; clear ho hb hg hat))
            go_roundg k2
            case measure => have := HK1.out; have := HK2.out; omega
            case rel => exact ⟨(wrap64 (x10_2 + 1)), (wrap64 (x11_2 + 1)), (y482), (wrap64 (x13_2 + 1)), (by first | rfl | (simp; done) | (simp [*]; done)), (by first | rfl | (simp; done) | (simp [*]; done)), (by first | rfl | (simp; done) | (simp [*]; done)), H', ⟨by have := HK1.out; have := HK2.out; omega⟩, ⟨by (with_reducible repeat (first | apply Kd.yh_ | apply Kd.yi_ | apply Kd.R_drew)); exact HO484.out⟩, ⟨by repeat (with_reducible first | exact HB.out | apply yc_ | apply ya_ | apply yb_)⟩⟩
           ·rw [if_neg c29] at H
            exact absurd H (by simp)
        ·rw [if_neg c12] at H
         exact absurd H (by simp)
       ·rw [if_neg c11] at H
        exact absurd H (by simp)
      ·rw [if_neg c10] at H
       have c10b0 : decide (x13_2 < a2) = false := decide_eq_false c10
       clear c10
       have HC32 := Aside0.mk H
       clear H
       go_upto_if 65 with (fail)
       go_cut [7] (fun v7 wc => ∃ (kq : Nat) (x7_31 : Int), v7 = .int .i64 x7_31 ∧ Aside0 (yg_.j2 kq x7_31 x8_1 x10_2 x11_2 x12_2 = some r) ∧ Aside0 (kq ≤ k2) ∧ Aside0 (Kd.R (Kd.int .u8) 5 wc w.heap.size (fun _ => True) u12 x12_2) ∧ Aside0 (Below w.heap.size w wc))
       case first =>
        have H := HC32.out
        clear HC32
        by_cases c33 : x10_2 > 0
        ·rw [if_pos c33] at H
         have c33b0 : decide (0 < x10_2) = true := decide_eq_true c33
         clear c33
         (first | rw [c33b0] | (simp only [i64_w, i32_w]; rw [c33b0]) | skip)
         have H' := Aside0.mk H
         clear H
         go_wp2
         go_meet
         case rel => exact ⟨_, (wrap64 (x7_1 + 1)), (by first | rfl | (simp; done) | (simp [*]; done)), H', ⟨by have := HK1.out; have := HK2.out; first | omega | exact Nat.le_refl _⟩, ⟨by (with_reducible repeat (first | apply Kd.yh_ | apply Kd.yi_ | apply Kd.R_drew)); exact HO_12.out⟩, ⟨by repeat (with_reducible first | exact HB.out | apply yc_ | apply ya_ | apply yb_)⟩⟩
        ·rw [if_neg c33] at H
         have c33b0 : decide (0 < x10_2) = false := decide_eq_false c33
         clear c33
         (first | rw [c33b0] | (simp only [i64_w, i32_w]; rw [c33b0]) | skip)
         have H' := Aside0.mk H
         clear H
         go_wp2
         go_meet
         case rel => exact ⟨_, (x7_1), (by first | rfl | (simp; done) | (simp [*]; done)), H', ⟨by have := HK1.out; have := HK2.out; first | omega | exact Nat.le_refl _⟩, ⟨by (with_reducible repeat (first | apply Kd.yh_ | apply Kd.yi_ | apply Kd.R_drew)); exact HO_12.out⟩, ⟨by repeat (with_reducible first | exact HB.out | apply yc_ | apply ya_ | apply yb_)⟩⟩
       case rest =>
        clear HC32
        try clear c1
        try clear c2
        try clear p2
        try clear c3
        try clear c4
        try clear c4b0
        try clear p4
        try clear q4
        try clear hx4
        try clear c5
        try clear c5b0
        try clear c6
        try clear c6b0
        try clear p6
        try clear c7
        try clear c7b0
        try clear c7b1
        try clear c8
        try clear c8b0
        try clear c8b1
        try clear c9
        try clear c9b0
        try clear c9b1
        try clear c10
        try clear c10b0
        try clear c11
        try clear c11b0
        try clear c12
        try clear c12b0
        try clear c13
        try clear c13b0
        try clear c13b1
        try clear c14
        try clear c14b0
        try clear c14b1
        try clear c16
        try clear c20
        try clear c23
        try clear c23b0
        try clear c23b1
        try clear c25
        try clear c29
        try clear c33
        try clear c33b0
        try clear hx459_0
        try clear hx459_1
        try clear hx460_0
        try clear hx460_1
        try clear hx461_0
        try clear hx461_1
        try clear hx462_0
        try clear hx462_1
        try clear hx463_0
        try clear hx463_1
        try clear hx464_0
        try clear hx464_1
        try clear hx469_0
        try clear hx469_1
        try clear hx474_0
        try clear hx474_1
        try clear hx475_0
        try clear hx475_1
        try clear hx480_0
        try clear hx480_1
        try clear p2
        try clear p4
        try clear p459
        try clear p460
        try clear p461
        try clear p462
        try clear p463
        try clear p464
        try clear p469
        try clear p474
        try clear p475
        try clear p480
        try clear p6
        try clear q4
        try clear q459
        try clear q460
        try clear q461
        try clear q462
        try clear q463
        try clear q464
        try clear q469
        try clear q474
        try clear q475
        try clear q480
        obtain ⟨kq, x7_31, rfl, HA, HJ31, HO_12, HB⟩ := hcut
        cases kq with
        | zero => exact absurd HA.out (by simp [yg_.j2])
        | succ kj31 =>
         have H := HA.out
         clear HA
         simp only [yg_.j2] at H
         have HC34 := Aside0.mk H
         clear H
         go_upto_if 69 with (fail)
         go_cut [8] (fun v8 wc => ∃ (kq : Nat) (x8_33 : Int), v8 = .int .i64 x8_33 ∧ Aside0 (yg_.j3 kq x7_31 x8_33 x10_2 x11_2 x12_2 = some r) ∧ Aside0 (kq ≤ kj31) ∧ Aside0 (Kd.R (Kd.int .u8) 5 wc w.heap.size (fun _ => True) u12 x12_2) ∧ Aside0 (Below w.heap.size w wc))
         case first =>
          have H := HC34.out
          clear HC34
          by_cases c35 : x11_2 > 0
          ·rw [if_pos c35] at H
           have c35b0 : decide (0 < x11_2) = true := decide_eq_true c35
           clear c35
           (first | rw [c35b0] | (simp only [i64_w, i32_w]; rw [c35b0]) | skip)
           have H' := Aside0.mk H
           clear H
           go_wp2
           go_meet
           case rel => exact ⟨_, (wrap64 (x8_1 + 1)), (by first | rfl | (simp; done) | (simp [*]; done)), H', ⟨by have := HK1.out; have := HK2.out; have := HJ31.out; first | omega | exact Nat.le_refl _⟩, ⟨by (with_reducible repeat (first | apply Kd.yh_ | apply Kd.yi_ | apply Kd.R_drew)); exact HO_12.out⟩, ⟨by repeat (with_reducible first | exact HB.out | apply yc_ | apply ya_ | apply yb_)⟩⟩
          ·rw [if_neg c35] at H
           have c35b0 : decide (0 < x11_2) = false := decide_eq_false c35
           clear c35
           (first | rw [c35b0] | (simp only [i64_w, i32_w]; rw [c35b0]) | skip)
           have H' := Aside0.mk H
           clear H
           go_wp2
           go_meet
           case rel => exact ⟨_, (x8_1), (by first | rfl | (simp; done) | (simp [*]; done)), H', ⟨by have := HK1.out; have := HK2.out; have := HJ31.out; first | omega | exact Nat.le_refl _⟩, ⟨by (with_reducible repeat (first | apply Kd.yh_ | apply Kd.yi_ | apply Kd.R_drew)); exact HO_12.out⟩, ⟨by repeat (with_reducible first | exact HB.out | apply yc_ | apply ya_ | apply yb_)⟩⟩
         case rest =>
          clear HC34
          try clear c1
          try clear c2
          try clear p2
          try clear c3
          try clear c4
          try clear c4b0
          try clear p4
          try clear q4
          try clear hx4
          try clear c5
          try clear c5b0
          try clear c6
          try clear c6b0
          try clear p6
          try clear c7
          try clear c7b0
          try clear c7b1
          try clear c8
          try clear c8b0
          try clear c8b1
          try clear c9
          try clear c9b0
          try clear c9b1
          try clear c10
          try clear c10b0
          try clear c11
          try clear c11b0
          try clear c12
          try clear c12b0
          try clear c13
          try clear c13b0
          try clear c13b1
          try clear c14
          try clear c14b0
          try clear c14b1
          try clear c16
          try clear c20
          try clear c23
          try clear c23b0
          try clear c23b1
          try clear c25
          try clear c29
          try clear c33
          try clear c33b0
          try clear c35
          try clear c35b0
          try clear hx459_0
          try clear hx459_1
          try clear hx460_0
          try clear hx460_1
          try clear hx461_0
          try clear hx461_1
          try clear hx462_0
          try clear hx462_1
          try clear hx463_0
          try clear hx463_1
          try clear hx464_0
          try clear hx464_1
          try clear hx469_0
          try clear hx469_1
          try clear hx474_0
          try clear hx474_1
          try clear hx475_0
          try clear hx475_1
          try clear hx480_0
          try clear hx480_1
          try clear p2
          try clear p4
          try clear p459
          try clear p460
          try clear p461
          try clear p462
          try clear p463
          try clear p464
          try clear p469
          try clear p474
          try clear p475
          try clear p480
          try clear p6
          try clear q4
          try clear q459
          try clear q460
          try clear q461
          try clear q462
          try clear q463
          try clear q464
          try clear q469
          try clear q474
          try clear q475
          try clear q480
          obtain ⟨kq, x8_33, rfl, HA, HJ33, HO_12, HB⟩ := hcut
          cases kq with
          | zero => exact absurd HA.out (by simp [yg_.j3])
          | succ kj33 =>
           have H := HA.out
           clear HA
           simp only [yg_.j3] at H
           replace H := Option.bind_eq_some_iff.mp H
           obtain ⟨t485, A360, H⟩ := H
           replace H : (if 3 + t485.size ≤ 9223372036854775807 then (if ((⟨#[64, 64, 32]⟩ : ByteArray) ++ t485).size + 1 ≤ 9223372036854775807 then ((yn_.f kj33 x10_2).bind fun t486 => (if (((⟨#[64, 64, 32]⟩ : ByteArray) ++ t485) ++ (⟨#[44]⟩ : ByteArray)).size + t486.size ≤ 9223372036854775807 then (if ((((⟨#[64, 64, 32]⟩ : ByteArray) ++ t485) ++ (⟨#[44]⟩ : ByteArray)) ++ t486).size + 1 ≤ 9223372036854775807 then ((yn_.f kj33 x8_33).bind fun t487 => (if (((((⟨#[64, 64, 32]⟩ : ByteArray) ++ t485) ++ (⟨#[44]⟩ : ByteArray)) ++ t486) ++ (⟨#[32]⟩ : ByteArray)).size + t487.size ≤ 9223372036854775807 then (if ((((((⟨#[64, 64, 32]⟩ : ByteArray) ++ t485) ++ (⟨#[44]⟩ : ByteArray)) ++ t486) ++ (⟨#[32]⟩ : ByteArray)) ++ t487).size + 1 ≤ 9223372036854775807 then ((yn_.f kj33 x11_2).bind fun t488 => (if (((((((⟨#[64, 64, 32]⟩ : ByteArray) ++ t485) ++ (⟨#[44]⟩ : ByteArray)) ++ t486) ++ (⟨#[32]⟩ : ByteArray)) ++ t487) ++ (⟨#[44]⟩ : ByteArray)).size + t488.size ≤ 9223372036854775807 then (if ((((((((⟨#[64, 64, 32]⟩ : ByteArray) ++ t485) ++ (⟨#[44]⟩ : ByteArray)) ++ t486) ++ (⟨#[32]⟩ : ByteArray)) ++ t487) ++ (⟨#[44]⟩ : ByteArray)) ++ t488).size + 4 ≤ 9223372036854775807 then (if (((((((((⟨#[64, 64, 32]⟩ : ByteArray) ++ t485) ++ (⟨#[44]⟩ : ByteArray)) ++ t486) ++ (⟨#[32]⟩ : ByteArray)) ++ t487) ++ (⟨#[44]⟩ : ByteArray)) ++ t488) ++ (⟨#[32, 64, 64, 10]⟩ : ByteArray)).size + (strOfNums x12_2).size ≤ 9223372036854775807 then (some ((((((((((⟨#[64, 64, 32]⟩ : ByteArray) ++ t485) ++ (⟨#[44]⟩ : ByteArray)) ++ t486) ++ (⟨#[32]⟩ : ByteArray)) ++ t487) ++ (⟨#[44]⟩ : ByteArray)) ++ t488) ++ (⟨#[32, 64, 64, 10]⟩ : ByteArray)) ++ (strOfNums x12_2))) else (none)) else (none)) else (none))) else (none)) else (none))) else (none)) else (none))) else (none)) else (none)) = some r := H
           have A36 := Aside0.mk A360
           clear A360
           by_cases c37 : 3 + t485.size ≤ 9223372036854775807
           ·rw [if_pos c37] at H
            have c37b0 := eq_true c37
            have c37b1 : decide (3 + t485.size ≤ 9223372036854775807) = true := decide_eq_true c37
            try have c37b2 : (9223372036854775807 < 3 + t485.size) = False := eq_false (Nat.not_lt.2 c37)
            by_cases c38 : ((⟨#[64, 64, 32]⟩ : ByteArray) ++ t485).size + 1 ≤ 9223372036854775807
            ·rw [if_pos c38] at H
             have c38b0 := eq_true c38
             have c38b1 : decide (((⟨#[64, 64, 32]⟩ : ByteArray) ++ t485).size + 1 ≤ 9223372036854775807) = true := decide_eq_true c38
             try have c38b2 : (9223372036854775807 < ((⟨#[64, 64, 32]⟩ : ByteArray) ++ t485).size + 1) = False := eq_false (Nat.not_lt.2 c38)
             replace H := Option.bind_eq_some_iff.mp H
             obtain ⟨t486, A390, H⟩ := H
             replace H : (if (((⟨#[64, 64, 32]⟩ : ByteArray) ++ t485) ++ (⟨#[44]⟩ : ByteArray)).size + t486.size ≤ 9223372036854775807 then (if ((((⟨#[64, 64, 32]⟩ : ByteArray) ++ t485) ++ (⟨#[44]⟩ : ByteArray)) ++ t486).size + 1 ≤ 9223372036854775807 then ((yn_.f kj33 x8_33).bind fun t487 => (if (((((⟨#[64, 64, 32]⟩ : ByteArray) ++ t485) ++ (⟨#[44]⟩ : ByteArray)) ++ t486) ++ (⟨#[32]⟩ : ByteArray)).size + t487.size ≤ 9223372036854775807 then (if ((((((⟨#[64, 64, 32]⟩ : ByteArray) ++ t485) ++ (⟨#[44]⟩ : ByteArray)) ++ t486) ++ (⟨#[32]⟩ : ByteArray)) ++ t487).size + 1 ≤ 9223372036854775807 then ((yn_.f kj33 x11_2).bind fun t488 => (if (((((((⟨#[64, 64, 32]⟩ : ByteArray) ++ t485) ++ (⟨#[44]⟩ : ByteArray)) ++ t486) ++ (⟨#[32]⟩ : ByteArray)) ++ t487) ++ (⟨#[44]⟩ : ByteArray)).size + t488.size ≤ 9223372036854775807 then (if ((((((((⟨#[64, 64, 32]⟩ : ByteArray) ++ t485) ++ (⟨#[44]⟩ : ByteArray)) ++ t486) ++ (⟨#[32]⟩ : ByteArray)) ++ t487) ++ (⟨#[44]⟩ : ByteArray)) ++ t488).size + 4 ≤ 9223372036854775807 then (if (((((((((⟨#[64, 64, 32]⟩ : ByteArray) ++ t485) ++ (⟨#[44]⟩ : ByteArray)) ++ t486) ++ (⟨#[32]⟩ : ByteArray)) ++ t487) ++ (⟨#[44]⟩ : ByteArray)) ++ t488) ++ (⟨#[32, 64, 64, 10]⟩ : ByteArray)).size + (strOfNums x12_2).size ≤ 9223372036854775807 then (some ((((((((((⟨#[64, 64, 32]⟩ : ByteArray) ++ t485) ++ (⟨#[44]⟩ : ByteArray)) ++ t486) ++ (⟨#[32]⟩ : ByteArray)) ++ t487) ++ (⟨#[44]⟩ : ByteArray)) ++ t488) ++ (⟨#[32, 64, 64, 10]⟩ : ByteArray)) ++ (strOfNums x12_2))) else (none)) else (none)) else (none))) else (none)) else (none))) else (none)) else (none)) = some r := H
             have A39 := Aside0.mk A390
             clear A390
             by_cases c40 : (((⟨#[64, 64, 32]⟩ : ByteArray) ++ t485) ++ (⟨#[44]⟩ : ByteArray)).size + t486.size ≤ 9223372036854775807
             ·rw [if_pos c40] at H
              have c40b0 := eq_true c40
              have c40b1 : decide ((((⟨#[64, 64, 32]⟩ : ByteArray) ++ t485) ++ (⟨#[44]⟩ : ByteArray)).size + t486.size ≤ 9223372036854775807) = true := decide_eq_true c40
              try have c40b2 : (9223372036854775807 < (((⟨#[64, 64, 32]⟩ : ByteArray) ++ t485) ++ (⟨#[44]⟩ : ByteArray)).size + t486.size) = False := eq_false (Nat.not_lt.2 c40)
              by_cases c41 : ((((⟨#[64, 64, 32]⟩ : ByteArray) ++ t485) ++ (⟨#[44]⟩ : ByteArray)) ++ t486).size + 1 ≤ 9223372036854775807
              ·rw [if_pos c41] at H
               have c41b0 := eq_true c41
               have c41b1 : decide (((((⟨#[64, 64, 32]⟩ : ByteArray) ++ t485) ++ (⟨#[44]⟩ : ByteArray)) ++ t486).size + 1 ≤ 9223372036854775807) = true := decide_eq_true c41
               try have c41b2 : (9223372036854775807 < ((((⟨#[64, 64, 32]⟩ : ByteArray) ++ t485) ++ (⟨#[44]⟩ : ByteArray)) ++ t486).size + 1) = False := eq_false (Nat.not_lt.2 c41)
               replace H := Option.bind_eq_some_iff.mp H
               obtain ⟨t487, A420, H⟩ := H
               replace H : (if (((((⟨#[64, 64, 32]⟩ : ByteArray) ++ t485) ++ (⟨#[44]⟩ : ByteArray)) ++ t486) ++ (⟨#[32]⟩ : ByteArray)).size + t487.size ≤ 9223372036854775807 then (if ((((((⟨#[64, 64, 32]⟩ : ByteArray) ++ t485) ++ (⟨#[44]⟩ : ByteArray)) ++ t486) ++ (⟨#[32]⟩ : ByteArray)) ++ t487).size + 1 ≤ 9223372036854775807 then ((yn_.f kj33 x11_2).bind fun t488 => (if (((((((⟨#[64, 64, 32]⟩ : ByteArray) ++ t485) ++ (⟨#[44]⟩ : ByteArray)) ++ t486) ++ (⟨#[32]⟩ : ByteArray)) ++ t487) ++ (⟨#[44]⟩ : ByteArray)).size + t488.size ≤ 9223372036854775807 then (if ((((((((⟨#[64, 64, 32]⟩ : ByteArray) ++ t485) ++ (⟨#[44]⟩ : ByteArray)) ++ t486) ++ (⟨#[32]⟩ : ByteArray)) ++ t487) ++ (⟨#[44]⟩ : ByteArray)) ++ t488).size + 4 ≤ 9223372036854775807 then (if (((((((((⟨#[64, 64, 32]⟩ : ByteArray) ++ t485) ++ (⟨#[44]⟩ : ByteArray)) ++ t486) ++ (⟨#[32]⟩ : ByteArray)) ++ t487) ++ (⟨#[44]⟩ : ByteArray)) ++ t488) ++ (⟨#[32, 64, 64, 10]⟩ : ByteArray)).size + (strOfNums x12_2).size ≤ 9223372036854775807 then (some ((((((((((⟨#[64, 64, 32]⟩ : ByteArray) ++ t485) ++ (⟨#[44]⟩ : ByteArray)) ++ t486) ++ (⟨#[32]⟩ : ByteArray)) ++ t487) ++ (⟨#[44]⟩ : ByteArray)) ++ t488) ++ (⟨#[32, 64, 64, 10]⟩ : ByteArray)) ++ (strOfNums x12_2))) else (none)) else (none)) else (none))) else (none)) else (none)) = some r := H
               have A42 := Aside0.mk A420
               clear A420
               by_cases c43 : (((((⟨#[64, 64, 32]⟩ : ByteArray) ++ t485) ++ (⟨#[44]⟩ : ByteArray)) ++ t486) ++ (⟨#[32]⟩ : ByteArray)).size + t487.size ≤ 9223372036854775807
               ·rw [if_pos c43] at H
                have c43b0 := eq_true c43
                have c43b1 : decide ((((((⟨#[64, 64, 32]⟩ : ByteArray) ++ t485) ++ (⟨#[44]⟩ : ByteArray)) ++ t486) ++ (⟨#[32]⟩ : ByteArray)).size + t487.size ≤ 9223372036854775807) = true := decide_eq_true c43
                try have c43b2 : (9223372036854775807 < (((((⟨#[64, 64, 32]⟩ : ByteArray) ++ t485) ++ (⟨#[44]⟩ : ByteArray)) ++ t486) ++ (⟨#[32]⟩ : ByteArray)).size + t487.size) = False := eq_false (Nat.not_lt.2 c43)
                by_cases c44 : ((((((⟨#[64, 64, 32]⟩ : ByteArray) ++ t485) ++ (⟨#[44]⟩ : ByteArray)) ++ t486) ++ (⟨#[32]⟩ : ByteArray)) ++ t487).size + 1 ≤ 9223372036854775807
                ·rw [if_pos c44] at H
                 have c44b0 := eq_true c44
                 have c44b1 : decide (((((((⟨#[64, 64, 32]⟩ : ByteArray) ++ t485) ++ (⟨#[44]⟩ : ByteArray)) ++ t486) ++ (⟨#[32]⟩ : ByteArray)) ++ t487).size + 1 ≤ 9223372036854775807) = true := decide_eq_true c44
                 try have c44b2 : (9223372036854775807 < ((((((⟨#[64, 64, 32]⟩ : ByteArray) ++ t485) ++ (⟨#[44]⟩ : ByteArray)) ++ t486) ++ (⟨#[32]⟩ : ByteArray)) ++ t487).size + 1) = False := eq_false (Nat.not_lt.2 c44)
                 replace H := Option.bind_eq_some_iff.mp H
                 obtain ⟨t488, A450, H⟩ := H
                 replace H : (if (((((((⟨#[64, 64, 32]⟩ : ByteArray) ++ t485) ++ (⟨#[44]⟩ : ByteArray)) ++ t486) ++ (⟨#[32]⟩ : ByteArray)) ++ t487) ++ (⟨#[44]⟩ : ByteArray)).size + t488.size ≤ 9223372036854775807 then (if ((((((((⟨#[64, 64, 32]⟩ : ByteArray) ++ t485) ++ (⟨#[44]⟩ : ByteArray)) ++ t486) ++ (⟨#[32]⟩ : ByteArray)) ++ t487) ++ (⟨#[44]⟩ : ByteArray)) ++ t488).size + 4 ≤ 9223372036854775807 then (if (((((((((⟨#[64, 64, 32]⟩ : ByteArray) ++ t485) ++ (⟨#[44]⟩ : ByteArray)) ++ t486) ++ (⟨#[32]⟩ : ByteArray)) ++ t487) ++ (⟨#[44]⟩ : ByteArray)) ++ t488) ++ (⟨#[32, 64, 64, 10]⟩ : ByteArray)).size + (strOfNums x12_2).size ≤ 9223372036854775807 then (some ((((((((((⟨#[64, 64, 32]⟩ : ByteArray) ++ t485) ++ (⟨#[44]⟩ : ByteArray)) ++ t486) ++ (⟨#[32]⟩ : ByteArray)) ++ t487) ++ (⟨#[44]⟩ : ByteArray)) ++ t488) ++ (⟨#[32, 64, 64, 10]⟩ : ByteArray)) ++ (strOfNums x12_2))) else (none)) else (none)) else (none)) = some r := H
                 have A45 := Aside0.mk A450
                 clear A450
                 by_cases c46 : (((((((⟨#[64, 64, 32]⟩ : ByteArray) ++ t485) ++ (⟨#[44]⟩ : ByteArray)) ++ t486) ++ (⟨#[32]⟩ : ByteArray)) ++ t487) ++ (⟨#[44]⟩ : ByteArray)).size + t488.size ≤ 9223372036854775807
                 ·rw [if_pos c46] at H
                  have c46b0 := eq_true c46
                  have c46b1 : decide ((((((((⟨#[64, 64, 32]⟩ : ByteArray) ++ t485) ++ (⟨#[44]⟩ : ByteArray)) ++ t486) ++ (⟨#[32]⟩ : ByteArray)) ++ t487) ++ (⟨#[44]⟩ : ByteArray)).size + t488.size ≤ 9223372036854775807) = true := decide_eq_true c46
                  try have c46b2 : (9223372036854775807 < (((((((⟨#[64, 64, 32]⟩ : ByteArray) ++ t485) ++ (⟨#[44]⟩ : ByteArray)) ++ t486) ++ (⟨#[32]⟩ : ByteArray)) ++ t487) ++ (⟨#[44]⟩ : ByteArray)).size + t488.size) = False := eq_false (Nat.not_lt.2 c46)
                  by_cases c47 : ((((((((⟨#[64, 64, 32]⟩ : ByteArray) ++ t485) ++ (⟨#[44]⟩ : ByteArray)) ++ t486) ++ (⟨#[32]⟩ : ByteArray)) ++ t487) ++ (⟨#[44]⟩ : ByteArray)) ++ t488).size + 4 ≤ 9223372036854775807
                  ·rw [if_pos c47] at H
                   have c47b0 := eq_true c47
                   have c47b1 : decide (((((((((⟨#[64, 64, 32]⟩ : ByteArray) ++ t485) ++ (⟨#[44]⟩ : ByteArray)) ++ t486) ++ (⟨#[32]⟩ : ByteArray)) ++ t487) ++ (⟨#[44]⟩ : ByteArray)) ++ t488).size + 4 ≤ 9223372036854775807) = true := decide_eq_true c47
                   try have c47b2 : (9223372036854775807 < ((((((((⟨#[64, 64, 32]⟩ : ByteArray) ++ t485) ++ (⟨#[44]⟩ : ByteArray)) ++ t486) ++ (⟨#[32]⟩ : ByteArray)) ++ t487) ++ (⟨#[44]⟩ : ByteArray)) ++ t488).size + 4) = False := eq_false (Nat.not_lt.2 c47)
                   by_cases c48 : (((((((((⟨#[64, 64, 32]⟩ : ByteArray) ++ t485) ++ (⟨#[44]⟩ : ByteArray)) ++ t486) ++ (⟨#[32]⟩ : ByteArray)) ++ t487) ++ (⟨#[44]⟩ : ByteArray)) ++ t488) ++ (⟨#[32, 64, 64, 10]⟩ : ByteArray)).size + (strOfNums x12_2).size ≤ 9223372036854775807
                   ·rw [if_pos c48] at H
                    have c48b0 := eq_true c48
                    have c48b1 : decide ((((((((((⟨#[64, 64, 32]⟩ : ByteArray) ++ t485) ++ (⟨#[44]⟩ : ByteArray)) ++ t486) ++ (⟨#[32]⟩ : ByteArray)) ++ t487) ++ (⟨#[44]⟩ : ByteArray)) ++ t488) ++ (⟨#[32, 64, 64, 10]⟩ : ByteArray)).size + (strOfNums x12_2).size ≤ 9223372036854775807) = true := decide_eq_true c48
                    try have c48b2 : (9223372036854775807 < (((((((((⟨#[64, 64, 32]⟩ : ByteArray) ++ t485) ++ (⟨#[44]⟩ : ByteArray)) ++ t486) ++ (⟨#[32]⟩ : ByteArray)) ++ t487) ++ (⟨#[44]⟩ : ByteArray)) ++ t488) ++ (⟨#[32, 64, 64, 10]⟩ : ByteArray)).size + (strOfNums x12_2).size) = False := eq_false (Nat.not_lt.2 c48)
                    obtain rfl := Option.some.inj H
                    try go_wp2
                    have n0_ := Aside0.mk (Kd.R_drew HO_12.out)
                    have n1_ := Aside0.mk (yb_ HB.out)
                    clear HO_12
                    clear HB
                    have HO_12 := n0_
                    have HB := n1_
                    clear n0_ n1_
                    have hz_ := of_eq_true c48b0
                    simp only [ByteArray.size_append, show (⟨#[64, 64, 32]⟩ : ByteArray).size = 3 from rfl, show (⟨#[44]⟩ : ByteArray).size = 1 from rfl, show (⟨#[32]⟩ : ByteArray).size = 1 from rfl, show (⟨#[32, 64, 64, 10]⟩ : ByteArray).size = 4 from rfl] at hz_
                    have hz0a_ : (9223372036854775807 < 3 + t485.size) = False := eq_false (by omega)
                    have hz0b_ : (9223372036854775807 < 3 + t485.size + 1) = False := eq_false (by omega)
                    have hz1a_ : (9223372036854775807 < 3 + t485.size + 1 + t486.size) = False := eq_false (by omega)
                    have hz1b_ : (9223372036854775807 < 3 + t485.size + 1 + t486.size + 1) = False := eq_false (by omega)
                    have hz2a_ : (9223372036854775807 < 3 + t485.size + 1 + t486.size + 1 + t487.size) = False := eq_false (by omega)
                    have hz2b_ : (9223372036854775807 < 3 + t485.size + 1 + t486.size + 1 + t487.size + 1) = False := eq_false (by omega)
                    have hz3a_ : (9223372036854775807 < 3 + t485.size + 1 + t486.size + 1 + t487.size + 1 + t488.size) = False := eq_false (by omega)
                    have hz3b_ : (9223372036854775807 < 3 + t485.size + 1 + t486.size + 1 + t487.size + 1 + t488.size + 4) = False := eq_false (by omega)
                    have hzz_ : (9223372036854775807 < 3 + t485.size + 1 + t486.size + 1 + t487.size + 1 + t488.size + 4 + (strOfNums x12_2).size) = False := eq_false (by omega)
                    refine start_ (n := 20) (S := fun w' => (convert 32 9 u12).run Tryd.prog w' = .ok (.string (strOfNums x12_2)) w') (ds := []) (bA 20 0) (by kernel_rfl) rfl rfl (ymb_ (P := Tryd.prog) Tryd.underlying32 Tryd.underlying5 Tryd.underlying9 (Kd.yeb_ HO_12.out)) (fun hHeld => ?_); refine y9_ yg_.tab23 yg_.bits23 (fun HT_ HW_ => ?_)
                    generalize wc.drew = w49 at HO_12 HB hHeld ⊢
                    refine pu_ 0 72 (bA 20 1) HT_ ?_
                    refine pu_ 4 76 (bA 20 17) HT_ ?_
                    refine pu_ 8 80 (bA 20 273) HT_ ?_
                    refine pu_ 12 84 (bA 20 4369) HT_ ?_
                    refine pu_ 16 88 (bA 20 69905) HT_ ?_
                    refine take_ (i := 17) (N := some 89) (v := ?_) (a' := ?_) (bA 20 200977) rfl rfl (yQb_ HT_.out HW_.out (by kernel_rfl)) (fun _ _ _ h => h) (Or.inl ⟨by rfl, ?_⟩) hHeld ?_ ?_
                    rotate_left
                    ·intro w' s0
                     go_simp
                     first | rfl | (rw [s0]; rfl)
                    rotate_left; (· simp only [Act.put, q1_, q2_, q3_, i64_w, i32_w]; rfl)
                    refine one_ (i := 1) (N := some 73) (bA 20 200979) rfl rfl (one_of HT_.out (by kernel_rfl)) (by decide) (fun K hK => ?_)
                    refine goes_ Tryd.func67 (by kernel_rfl) rfl #[.int .i64 x7_31] (by rfl) rfl rfl (by (try simp only [List.map_toArray, List.map_cons, List.map_nil]); first | done | rfl | (simp only [List.length_drop, List.length_take]; rfl)) ?_
                    with_reducible refine (yn_.calls kj33 x7_31 t485 _ A36.out).mono ?_
                    rintro e w50 ⟨rfl, hb⟩
                    refine ⟨_, rfl, ?_⟩
                    have n0_ := Aside0.mk (Kd.yM_ (by (with_reducible repeat (first | apply Kd.yh_ | apply Kd.yi_ | apply Kd.R_drew)); exact HO_12.out) hb)
                    have n1_ := Aside0.mk (ym_ (by repeat (with_reducible first | exact HB.out | apply yc_ | apply ya_ | apply yb_)) hb)
                    clear HO_12
                    clear HB
                    have HO_12 := n0_
                    have HB := n1_
                    clear n0_ n1_
                    (try clear hb)
                    (try clear hb2)
                    (try clear hk)
                    (try clear hi)
                    refine hK.out _ _ (ymb_ (P := Tryd.prog) Tryd.underlying32 Tryd.underlying5 Tryd.underlying9 (Kd.yeb_ HO_12.out)) (fun hHeld => ?_)
                    clear hK K
                    refine norm_ (a' := ?_) ?_ ?_
                    rotate_left
                    ·show Act.put _ (some 73) _ = _
                     simp only [Act.put, q1_, q2_, q3_, i64_w, i32_w]
                     rfl
                    refine pu_ 2 74 (bA 20 200983) HT_ ?_
                    refine pu_ 3 75 (bA 20 200991) HT_ ?_
                    refine one_ (i := 5) (N := some 77) (bA 20 201023) rfl rfl (one_of HT_.out (by kernel_rfl)) (by decide) (fun K hK => ?_)
                    refine goes_ Tryd.func67 (by kernel_rfl) rfl #[.int .i64 x10_2] (by rfl) rfl rfl (by (try simp only [List.map_toArray, List.map_cons, List.map_nil]); first | done | rfl | (simp only [List.length_drop, List.length_take]; rfl)) ?_
                    with_reducible refine (yn_.calls kj33 x10_2 t486 _ A39.out).mono ?_
                    rintro e w51 ⟨rfl, hb⟩
                    refine ⟨_, rfl, ?_⟩
                    have n0_ := Aside0.mk (Kd.yM_ (by (with_reducible repeat (first | apply Kd.yh_ | apply Kd.yi_ | apply Kd.R_drew)); exact HO_12.out) hb)
                    have n1_ := Aside0.mk (ym_ (by repeat (with_reducible first | exact HB.out | apply yc_ | apply ya_ | apply yb_)) hb)
                    clear HO_12
                    clear HB
                    have HO_12 := n0_
                    have HB := n1_
                    clear n0_ n1_
                    (try clear hb)
                    (try clear hb2)
                    (try clear hk)
                    (try clear hi)
                    refine hK.out _ _ (ymb_ (P := Tryd.prog) Tryd.underlying32 Tryd.underlying5 Tryd.underlying9 (Kd.yeb_ HO_12.out)) (fun hHeld => ?_)
                    clear hK K
                    refine norm_ (a' := ?_) ?_ ?_
                    rotate_left
                    ·show Act.put _ (some 77) _ = _
                     simp only [Act.put, q1_, q2_, q3_, i64_w, i32_w]
                     rfl
                    refine pu_ 6 78 (bA 20 201087) HT_ ?_
                    refine pu_ 7 79 (bA 20 201215) HT_ ?_
                    refine one_ (i := 9) (N := some 81) (bA 20 201727) rfl rfl (one_of HT_.out (by kernel_rfl)) (by decide) (fun K hK => ?_)
                    refine goes_ Tryd.func67 (by kernel_rfl) rfl #[.int .i64 x8_33] (by rfl) rfl rfl (by (try simp only [List.map_toArray, List.map_cons, List.map_nil]); first | done | rfl | (simp only [List.length_drop, List.length_take]; rfl)) ?_
                    with_reducible refine (yn_.calls kj33 x8_33 t487 _ A42.out).mono ?_
                    rintro e w52 ⟨rfl, hb⟩
                    refine ⟨_, rfl, ?_⟩
                    have n0_ := Aside0.mk (Kd.yM_ (by (with_reducible repeat (first | apply Kd.yh_ | apply Kd.yi_ | apply Kd.R_drew)); exact HO_12.out) hb)
                    have n1_ := Aside0.mk (ym_ (by repeat (with_reducible first | exact HB.out | apply yc_ | apply ya_ | apply yb_)) hb)
                    clear HO_12
                    clear HB
                    have HO_12 := n0_
                    have HB := n1_
                    clear n0_ n1_
                    (try clear hb)
                    (try clear hb2)
                    (try clear hk)
                    (try clear hi)
                    refine hK.out _ _ (ymb_ (P := Tryd.prog) Tryd.underlying32 Tryd.underlying5 Tryd.underlying9 (Kd.yeb_ HO_12.out)) (fun hHeld => ?_)
                    clear hK K
                    refine norm_ (a' := ?_) ?_ ?_
                    rotate_left
                    ·show Act.put _ (some 81) _ = _
                     simp only [Act.put, q1_, q2_, q3_, i64_w, i32_w]
                     rfl
                    refine pu_ 10 82 (bA 20 202751) HT_ ?_
                    refine pu_ 11 83 (bA 20 204799) HT_ ?_
                    refine one_ (i := 13) (N := some 85) (bA 20 212991) rfl rfl (one_of HT_.out (by kernel_rfl)) (by decide) (fun K hK => ?_)
                    refine goes_ Tryd.func67 (by kernel_rfl) rfl #[.int .i64 x11_2] (by rfl) rfl rfl (by (try simp only [List.map_toArray, List.map_cons, List.map_nil]); first | done | rfl | (simp only [List.length_drop, List.length_take]; rfl)) ?_
                    with_reducible refine (yn_.calls kj33 x11_2 t488 _ A45.out).mono ?_
                    rintro e w53 ⟨rfl, hb⟩
                    refine ⟨_, rfl, ?_⟩
                    have n0_ := Aside0.mk (Kd.yM_ (by (with_reducible repeat (first | apply Kd.yh_ | apply Kd.yi_ | apply Kd.R_drew)); exact HO_12.out) hb)
                    have n1_ := Aside0.mk (ym_ (by repeat (with_reducible first | exact HB.out | apply yc_ | apply ya_ | apply yb_)) hb)
                    clear HO_12
                    clear HB
                    have HO_12 := n0_
                    have HB := n1_
                    clear n0_ n1_
                    (try clear hb)
                    (try clear hb2)
                    (try clear hk)
                    (try clear hi)

                    refine hK.out _ _ (ymb_ (P := Tryd.prog) Tryd.underlying32 Tryd.underlying5 Tryd.underlying9 (Kd.yeb_ HO_12.out)) (fun hHeld => ?_)
                    clear hK K
                    refine norm_ (a' := ?_) ?_ ?_
                    rotate_left
                    ·show Act.put _ (some 85) _ = _
                     simp only [Act.put, q1_, q2_, q3_, i64_w, i32_w]
                     rfl
                    refine pu_ 14 86 (bA 20 229375) HT_ ?_
                    refine pu_ 15 87 (bA 20 262143) HT_ ?_
                    refine pu_ 18 90 (bA 20 524287) HT_ ?_
                    refine pu_ 19 6 (bA 20 1048575) HT_ ?_
                    refine done_ (yqb_ HT_.out (by kernel_rfl)) ?_
                    try go_wp2
                    go_ret
                    exact ⟨by first | rfl | (simp [yu_, yv_] <;> rfl) | (simp [*, yu_, yv_] <;> rfl), by repeat (with_reducible first | exact HB.out | apply yc_ | apply ya_ | apply yb_)⟩
                   ·rw [if_neg c48] at H
                    exact absurd H (by simp)
                  ·rw [if_neg c47] at H
                   exact absurd H (by simp)
                 ·rw [if_neg c46] at H
                  exact absurd H (by simp)
                ·rw [if_neg c44] at H
                 exact absurd H (by simp)
               ·rw [if_neg c43] at H
                exact absurd H (by simp)
              ·rw [if_neg c41] at H
               exact absurd H (by simp)
             ·rw [if_neg c40] at H
              exact absurd H (by simp)
            ·rw [if_neg c38] at H
             exact absurd H (by simp)
           ·rw [if_neg c37] at H
            exact absurd H (by simp)

end Go.Proofs.YthimblhfjfngiaaDoor.PText

-- mended25

namespace Go.Proofs.YthimblhfjfngiaaDoor.PText
open Go.RowKit Go.Proofs.YthimblhfjfngiaaDoorW.PrintWords Go.Proofs.YthimblhfjfngiaaDoorW.PrintLast Go.Proofs.YthimblhfjfngiaaDoorW.PrintMore
attribute [local go_sem] y1_ y2_ ycb_ ydb_ yV_ yW_ y3_ y4_   -- for this text's walks alone
set_option linter.unusedVariables false
set_option linter.unusedSimpArgs false

mutual
def ye_.j0 : Nat → Int → List ByteArray → List ByteArray → Bool → Option (ByteArray × Int)
 | 0, _, _, _, _ => none
 | k + 1, x2, x8, x9, x39 => if x39 = true then (some ((⟨#[]⟩ : ByteArray), 2)) else (if x2 < 0 then (ye_.j1 k x2 x8 x9 true) else (ye_.j1 k x2 x8 x9 (decide (x2 > 20))))
def ye_.j1 : Nat → Int → List ByteArray → List ByteArray → Bool → Option (ByteArray × Int)
 | 0, _, _, _, _ => none
 | k + 1, x2, x8, x9, x45 => if x45 = true then (some ((⟨#[]⟩ : ByteArray), 1)) else ((yd_.f k x8 x9).bind fun t495 => (ye_.l0 k x2 t495 ([] : List Int) 0))
def ye_.l0 : Nat → Int → List (S75) → List Int → Int → Option (ByteArray × Int)
 | 0, _, _, _, _ => none
 | k + 1, x2, x10, x11, x12 => if x12 < (x10.length : Int) then (if 0 ≤ x12 then (if ((rd_T75 x10 x12).f0) = 32 then (ye_.l0 k x2 x10 x11 (wrap64 (x12 + 1))) else (if (wrap64 (x12 - x2)) < 0 then (ye_.j3 k x2 x10 x11 x12 0) else (ye_.j3 k x2 x10 x11 x12 (wrap64 (x12 - x2))))) else (none)) else (some (strOfNums x11, 0))
def ye_.j3 : Nat → Int → List (S75) → List Int → Int → Int → Option (ByteArray × Int)
 | 0, _, _, _, _, _ => none
 | k + 1, x2, x10, x11, x12, x13 => ye_.l1 k x2 x10 x11 x13 x12 0 (wrap64 (x12 + 1))
def ye_.l1 : Nat → Int → List (S75) → List Int → Int → Int → Int → Int → Option (ByteArray × Int)
 | 0, _, _, _, _, _, _, _ => none
 | k + 1, x2, x10, x11, x13, x14, x15, x16 => if x16 < (x10.length : Int) then (ye_.j5 k x2 x10 x11 x13 x14 x15 x16 (decide (x15 ≤ (wrap64 (2 * x2))))) else (ye_.j5 k x2 x10 x11 x13 x14 x15 x16 false)
def ye_.j5 : Nat → Int → List (S75) → List Int → Int → Int → Int → Int → Bool → Option (ByteArray × Int)
 | 0, _, _, _, _, _, _, _, _ => none
 | k + 1, x2, x10, x11, x13, x14, x15, x16, x78 => if x78 = true then (if 0 ≤ x16 then (if x16 < (x10.length : Int) then (if ((rd_T75 x10 x16).f0) = 32 then (ye_.l1 k x2 x10 x11 x13 x14 (wrap64 (x15 + 1)) (wrap64 (x16 + 1))) else (ye_.l1 k x2 x10 x11 x13 x16 0 (wrap64 (x16 + 1)))) else (none)) else (none)) else (if (wrap64 ((wrap64 (x14 + 1)) + x2)) > (x10.length : Int) then ((yg_.f k x10 x13 (x10.length : Int)).bind fun t500 => (if x11.length + t500.size < 140737488355328 then (ye_.l0 k x2 x10 (x11 ++ bytesOf t500) (wrap64 (x14 + 1))) else (none))) else ((yg_.f k x10 x13 (wrap64 ((wrap64 (x14 + 1)) + x2))).bind fun t504 => (if x11.length + t504.size < 140737488355328 then (ye_.l0 k x2 x10 (x11 ++ bytesOf t504) (wrap64 (x14 + 1))) else (none))))
end
def ye_.f (k : Nat) (a0 : ByteArray) (a1 : ByteArray) (a2 : Int) : Option (ByteArray × Int) := (yt_.f k a0).bind fun t489 => ((yt_.f k a1).bind fun t492 => (if (a0.size : Int) > 200000 then (ye_.j0 k a2 t489 t492 true) else (if (a1.size : Int) > 200000 then (ye_.j0 k a2 t489 t492 true) else (if (t489.length : Int) > 2000 then (ye_.j0 k a2 t489 t492 true) else (ye_.j0 k a2 t489 t492 (decide ((t492.length : Int) > 2000)))))))
set_option maxHeartbeats 8000000 in
set_option maxRecDepth 100000 in
theorem ye_.calls (k : Nat) (a0 : ByteArray) (a1 : ByteArray) (a2 : Int) (r1 : ByteArray) (r2 : Int) (w : World) (h : ye_.f k a0 a1 a2 = some (r1, r2)) :
  Calls Tryd.prog 20 #[.string a0, .string a1, .int .i64 a2] w fun e w' => e = .returned (.tuple #[.string r1, .int .i64 r2]) ∧ Below w.heap.size w w' := by
 have HB := Aside0.mk (Below.refl w.heap.size w)
 have H : ((yt_.f k a0).bind fun t489 => ((yt_.f k a1).bind fun t492 => (if (a0.size : Int) > 200000 then (ye_.j0 k a2 t489 t492 true) else (if (a1.size : Int) > 200000 then (ye_.j0 k a2 t489 t492 true) else (if (t489.length : Int) > 2000 then (ye_.j0 k a2 t489 t492 true) else (ye_.j0 k a2 t489 t492 (decide ((t492.length : Int) > 2000)))))))) = some (r1, r2) := h
 clear h
 replace H := Option.bind_eq_some_iff.mp H
 obtain ⟨t489, A40, H⟩ := H
 replace H : ((yt_.f k a1).bind fun t492 => (if (a0.size : Int) > 200000 then (ye_.j0 k a2 t489 t492 true) else (if (a1.size : Int) > 200000 then (ye_.j0 k a2 t489 t492 true) else (if (t489.length : Int) > 2000 then (ye_.j0 k a2 t489 t492 true) else (ye_.j0 k a2 t489 t492 (decide ((t492.length : Int) > 2000))))))) = some (r1, r2) := H
 have A4 := Aside0.mk A40
 clear A40
 replace H := Option.bind_eq_some_iff.mp H
 obtain ⟨t492, A50, H⟩ := H
 replace H : (if (a0.size : Int) > 200000 then (ye_.j0 k a2 t489 t492 true) else (if (a1.size : Int) > 200000 then (ye_.j0 k a2 t489 t492 true) else (if (t489.length : Int) > 2000 then (ye_.j0 k a2 t489 t492 true) else (ye_.j0 k a2 t489 t492 (decide ((t492.length : Int) > 2000)))))) = some (r1, r2) := H
 have A5 := Aside0.mk A50
 clear A50
 have HC6 := Aside0.mk H
 clear H
 go_enter Tryd.func20, Tryd.ntmps20
 go_upto_region 2 with (first | ((with_reducible refine ys_ (f := 31) rfl ?_); refine goesL_ (some 19) rfl rfl Tryd.func31 (by kernel_rfl) rfl #[.string a0] rfl (by (try simp only [List.map_toArray, List.map_cons, List.map_nil]); first | done | rfl | (simp only [List.length_drop, List.length_take]; rfl)) ?_; (with_reducible refine (yt_.calls k a0 t489 _ A4.out).mono ?_); rintro e w7 ⟨v490, rfl, ho0, hb⟩; refine ⟨_, rfl, ?_⟩; have n0_ := Aside0.mk (Kd.yY_ ho0 (yk_ (by repeat (with_reducible first | exact HB.out | apply yc_ | apply ya_ | apply yb_)))); have n1_ := Aside0.mk (ym_ (by repeat (with_reducible first | exact HB.out | apply yc_ | apply ya_ | apply yb_)) hb); clear HB; have HO491 := n0_; have HB := n1_; clear n0_ n1_; (try clear hb); (try clear hb2); (try clear hk); (try clear hi); (try clear ho0)) | ((with_reducible refine ys_ (f := 31) rfl ?_); refine goesL_ (some 21) rfl rfl Tryd.func31 (by kernel_rfl) rfl #[.string a1] rfl (by (try simp only [List.map_toArray, List.map_cons, List.map_nil]); first | done | rfl | (simp only [List.length_drop, List.length_take]; rfl)) ?_; (with_reducible refine (yt_.calls k a1 t492 _ A5.out).mono ?_); rintro e w8 ⟨v493, rfl, ho0, hb⟩; refine ⟨_, rfl, ?_⟩; have n0_ := Aside0.mk (Kd.yXb_ (by (with_reducible repeat (first | apply Kd.yh_ | apply Kd.yi_ | apply Kd.R_drew)); exact HO491.out) (Kd.R_base ho0) hb); have n1_ := Aside0.mk (Kd.yY_ (Kd.R_new' ho0 (Kd.R_lt (by (with_reducible repeat (first | apply Kd.yh_ | apply Kd.yi_ | apply Kd.R_drew)); exact HO491.out))) (yk_ (by repeat (with_reducible first | exact HB.out | apply yc_ | apply ya_ | apply yb_)))); have n2_ := Aside0.mk (ym_ (by repeat (with_reducible first | exact HB.out | apply yc_ | apply ya_ | apply yb_)) hb); clear HO491; clear HB; have HO491 := n0_; have HO494 := n1_; have HB := n2_; clear n0_ n1_ n2_; (try clear hb); (try clear hb2); (try clear hk); (try clear hi); (try clear ho0)))
 (try simp only [Act.put, q1_, q2_, q3_])
 go_cut [39] (fun v39 wc => ∃ (kq : Nat) (x39_5 : Bool), v39 = .bool x39_5 ∧ Aside0 (ye_.j0 kq a2 t489 t492 x39_5 = some (r1, r2)) ∧ Aside0 (kq ≤ k) ∧ Aside0 (Kd.R Kd.string 9 wc w.heap.size (fun k_ => some k_ ≠ (v493 : Value).ownBlock) v490 t489) ∧ Aside0 (Kd.R Kd.string 9 wc w.heap.size (fun k_ => some k_ ≠ (v490 : Value).ownBlock) v493 t492) ∧ Aside0 (Below w.heap.size w wc))
 case first =>
  have H := HC6.out
  clear HC6
  by_cases c9 : (a0.size : Int) > 200000
  ·rw [if_pos c9] at H
   have c9b0 : decide (200000 < (a0.size : Int)) = true := decide_eq_true c9
   have c9b1 : decide (200000 < a0.size) = true := decide_eq_true (by omega)
   clear c9
   (first | rw [c9b0] | (simp only [i64_w, i32_w]; rw [c9b0]) | skip)
   have H' := Aside0.mk H
   clear H
   go_wp2
   go_meet
   case rel => exact ⟨_, (true), (by first | rfl | (simp; done) | (simp [*]; done)), H', ⟨by first | omega | exact Nat.le_refl _⟩, ⟨by (with_reducible repeat (first | apply Kd.yh_ | apply Kd.yi_ | apply Kd.R_drew)); exact Kd.R_mono HO491.out (fun _ hk => hk.2)⟩, ⟨by (with_reducible repeat (first | apply Kd.yh_ | apply Kd.yi_ | apply Kd.R_drew)); exact Kd.R_mono HO494.out (fun _ hk => hk.2)⟩, ⟨by repeat (with_reducible first | exact HB.out | apply yc_ | apply ya_ | apply yb_)⟩⟩
  ·rw [if_neg c9] at H
   have c9b0 : decide (200000 < (a0.size : Int)) = false := decide_eq_false c9
   have c9b1 : decide (200000 < a0.size) = false := decide_eq_false (by omega)
   clear c9
   (first | rw [c9b0] | (simp only [i64_w, i32_w]; rw [c9b0]) | skip)
   by_cases c10 : (a1.size : Int) > 200000
   ·rw [if_pos c10] at H
    have c10b0 : decide (200000 < (a1.size : Int)) = true := decide_eq_true c10
    have c10b1 : decide (200000 < a1.size) = true := decide_eq_true (by omega)
    clear c10
    have H' := Aside0.mk H
    clear H
    go_wp2
    go_meet
    case rel => exact ⟨_, (true), (by first | rfl | (simp; done) | (simp [*]; done)), H', ⟨by first | omega | exact Nat.le_refl _⟩, ⟨by (with_reducible repeat (first | apply Kd.yh_ | apply Kd.yi_ | apply Kd.R_drew)); exact Kd.R_mono HO491.out (fun _ hk => hk.2)⟩, ⟨by (with_reducible repeat (first | apply Kd.yh_ | apply Kd.yi_ | apply Kd.R_drew)); exact Kd.R_mono HO494.out (fun _ hk => hk.2)⟩, ⟨by repeat (with_reducible first | exact HB.out | apply yc_ | apply ya_ | apply yb_)⟩⟩
   ·rw [if_neg c10] at H
    have c10b0 : decide (200000 < (a1.size : Int)) = false := decide_eq_false c10
    have c10b1 : decide (200000 < a1.size) = false := decide_eq_false (by omega)
    clear c10
    by_cases c11 : (t489.length : Int) > 2000
    ·rw [if_pos c11] at H
     have c11b0 : decide (2000 < (t489.length : Int)) = true := decide_eq_true c11
     have c11b1 : decide (2000 < t489.length) = true := decide_eq_true (by omega)
     clear c11
     have H' := Aside0.mk H
     clear H
     obtain ⟨Ao12, co12, eo12⟩ := Kd.yC_ HO491.out
     subst eo12
     go_wp2
     go_meet
     case rel => exact ⟨_, (true), (by first | rfl | (simp; done) | (simp [*]; done)), H', ⟨by first | omega | exact Nat.le_refl _⟩, ⟨by (with_reducible repeat (first | apply Kd.yh_ | apply Kd.yi_ | apply Kd.R_drew)); exact Kd.R_mono HO491.out (fun _ hk => hk.2)⟩, ⟨by (with_reducible repeat (first | apply Kd.yh_ | apply Kd.yi_ | apply Kd.R_drew)); exact Kd.R_mono HO494.out (fun _ hk => hk.2)⟩, ⟨by repeat (with_reducible first | exact HB.out | apply yc_ | apply ya_ | apply yb_)⟩⟩
    ·rw [if_neg c11] at H
     have c11b0 : decide (2000 < (t489.length : Int)) = false := decide_eq_false c11
     have c11b1 : decide (2000 < t489.length) = false := decide_eq_false (by omega)
     clear c11
     have H' := Aside0.mk H
     clear H
     obtain ⟨Ao13, co13, eo13⟩ := Kd.yC_ HO491.out
     subst eo13
     obtain ⟨Ao14, co14, eo14⟩ := Kd.yC_ HO494.out
     subst eo14
     go_wp2
     go_meet
     case rel => exact ⟨_, (decide ((t492.length : Int) > 2000)), (by first | rfl | (simp; done) | (simp [*]; done)), H', ⟨by first | omega | exact Nat.le_refl _⟩, ⟨by (with_reducible repeat (first | apply Kd.yh_ | apply Kd.yi_ | apply Kd.R_drew)); exact Kd.R_mono HO491.out (fun _ hk => hk.2)⟩, ⟨by (with_reducible repeat (first | apply Kd.yh_ | apply Kd.yi_ | apply Kd.R_drew)); exact Kd.R_mono HO494.out (fun _ hk => hk.2)⟩, ⟨by repeat (with_reducible first | exact HB.out | apply yc_ | apply ya_ | apply yb_)⟩⟩
 case rest =>
  clear HC6
  try clear c1
  try clear c2
  try clear p2
  try clear c3
  try clear c9
  try clear c9b0
  try clear c9b1
  try clear c10
  try clear c10b0
  try clear c10b1
  try clear c11
  try clear c11b0
  try clear c11b1
  obtain ⟨kq, x39_5, rfl, HA, HJ5, HO_8, HO_9, HB⟩ := hcut
  cases kq with
  | zero => exact absurd HA.out (by simp [ye_.j0])
  | succ kj5 =>
   have H := HA.out
   clear HA
   simp only [ye_.j0] at H
   by_cases c15 : x39_5 = true
   ·subst c15
    have H1 : (some ((⟨#[]⟩ : ByteArray), 2)) = some (r1, r2) := by rw [if_pos rfl] at H; exact H
    clear H
    have H := H1
    clear H1
    simp only [Option.some.injEq, Prod.mk.injEq] at H
    obtain ⟨rfl, rfl⟩ := H
    go_wp2
    go_ret2
    exact ⟨by first | rfl | (simp [yu_, yv_] <;> rfl) | (simp [*, yu_, yv_] <;> rfl), by repeat (with_reducible first | exact HB.out | apply yc_ | apply ya_ | apply yb_)⟩
   ·replace c15 := Bool.eq_false_iff.mpr c15
    subst c15
    have H1 : (if a2 < 0 then (ye_.j1 kj5 a2 t489 t492 true) else (ye_.j1 kj5 a2 t489 t492 (decide (a2 > 20)))) = some (r1, r2) := by rw [if_neg (show ¬ (false = true) by decide)] at H; exact H
    clear H
    have H := H1
    clear H1
    have HC16 := Aside0.mk H
    clear H
    go_upto_region 4 with (fail)
    go_cut [45] (fun v45 wc => ∃ (kq : Nat) (x45_15 : Bool), v45 = .bool x45_15 ∧ Aside0 (ye_.j1 kq a2 t489 t492 x45_15 = some (r1, r2)) ∧ Aside0 (kq ≤ kj5) ∧ Aside0 (Kd.R Kd.string 9 wc w.heap.size (fun k_ => some k_ ≠ (v493 : Value).ownBlock) v490 t489) ∧ Aside0 (Kd.R Kd.string 9 wc w.heap.size (fun k_ => some k_ ≠ (v490 : Value).ownBlock) v493 t492) ∧ Aside0 (Below w.heap.size w wc))
    case first =>
     have H := HC16.out
     clear HC16
     by_cases c17 : a2 < 0
     ·rw [if_pos c17] at H
      have c17b0 : decide (a2 < 0) = true := decide_eq_true c17
      clear c17
      (first | rw [c17b0] | (simp only [i64_w, i32_w]; rw [c17b0]) | skip)
      have H' := Aside0.mk H
      clear H
      go_wp2
      go_meet
      case rel => exact ⟨_, (true), (by first | rfl | (simp; done) | (simp [*]; done)), H', ⟨by have := HJ5.out; first | omega | exact Nat.le_refl _⟩, ⟨by (with_reducible repeat (first | apply Kd.yh_ | apply Kd.yi_ | apply Kd.R_drew)); exact HO_8.out⟩, ⟨by (with_reducible repeat (first | apply Kd.yh_ | apply Kd.yi_ | apply Kd.R_drew)); exact HO_9.out⟩, ⟨by repeat (with_reducible first | exact HB.out | apply yc_ | apply ya_ | apply yb_)⟩⟩
     ·rw [if_neg c17] at H
      have c17b0 : decide (a2 < 0) = false := decide_eq_false c17
      clear c17
      (first | rw [c17b0] | (simp only [i64_w, i32_w]; rw [c17b0]) | skip)
      have H' := Aside0.mk H
      clear H
      go_wp2
      go_meet
      case rel => exact ⟨_, (decide (a2 > 20)), (by first | rfl | (simp; done) | (simp [*]; done)), H', ⟨by have := HJ5.out; first | omega | exact Nat.le_refl _⟩, ⟨by (with_reducible repeat (first | apply Kd.yh_ | apply Kd.yi_ | apply Kd.R_drew)); exact HO_8.out⟩, ⟨by (with_reducible repeat (first | apply Kd.yh_ | apply Kd.yi_ | apply Kd.R_drew)); exact HO_9.out⟩, ⟨by repeat (with_reducible first | exact HB.out | apply yc_ | apply ya_ | apply yb_)⟩⟩
    case rest =>
     clear HC16
     try clear c1
     try clear c2
     try clear p2
     try clear c3
     try clear c9
     try clear c9b0
     try clear c9b1
     try clear c10
     try clear c10b0
     try clear c10b1
     try clear c11
     try clear c11b0
     try clear c11b1
     try clear c15
     try clear c17
     try clear c17b0
     try clear p2
     obtain ⟨kq, x45_15, rfl, HA, HJ15, HO_8, HO_9, HB⟩ := hcut
     cases kq with
     | zero => exact absurd HA.out (by simp [ye_.j1])
     | succ kj15 =>
      have H := HA.out
      clear HA
      simp only [ye_.j1] at H
      by_cases c18 : x45_15 = true
      ·subst c18
       have H1 : (some ((⟨#[]⟩ : ByteArray), 1)) = some (r1, r2) := by rw [if_pos rfl] at H; exact H
       clear H
       have H := H1
       clear H1
       simp only [Option.some.injEq, Prod.mk.injEq] at H
       obtain ⟨rfl, rfl⟩ := H
       go_wp2
       go_ret2
       exact ⟨by first | rfl | (simp [yu_, yv_] <;> rfl) | (simp [*, yu_, yv_] <;> rfl), by repeat (with_reducible first | exact HB.out | apply yc_ | apply ya_ | apply yb_)⟩
      ·replace c18 := Bool.eq_false_iff.mpr c18
       subst c18
       have H1 : ((yd_.f kj15 t489 t492).bind fun t495 => (ye_.l0 kj15 a2 t495 ([] : List Int) 0)) = some (r1, r2) := by rw [if_neg (show ¬ (false = true) by decide)] at H; exact H
       clear H
       have H := H1
       clear H1
       replace H := Option.bind_eq_some_iff.mp H
       obtain ⟨t495, A190, H⟩ := H
       replace H : (ye_.l0 kj15 a2 t495 ([] : List Int) 0) = some (r1, r2) := H
       have A19 := Aside0.mk A190
       clear A190
       have H' := Aside0.mk H
       clear H
       obtain ⟨Ao20, co20, eo20⟩ := Kd.yC_ HO_8.out
       subst eo20
       obtain ⟨Ao21, co21, eo21⟩ := Kd.yC_ HO_9.out
       subst eo21
       go_wp2_with (first | ((with_reducible refine ys_ (f := 46) rfl ?_); refine goesL_ (some 48) rfl rfl Tryd.func46 (by kernel_rfl) rfl #[.slice Ao20 t489.length co20, .slice Ao21 t492.length co21] rfl (by (try simp only [List.map_toArray, List.map_cons, List.map_nil]); first | done | rfl | (simp only [List.length_drop, List.length_take]; rfl)) ?_; (with_reducible refine (yd_.calls kj15 _ _ t489 _ _ t492 t495 _ ?side1 ?side2 ?side3 ?side4 A19.out).mono ?_); (case side1 => repeat (first | exact (Kd.yo_ HO_8.out).2.2 | (with_reducible refine Kd.yK_ ?_ _) | (with_reducible refine Kd.yR_ ?_ _) | (with_reducible refine Kd.C_drew ?_))); (case side2 => exact (Kd.yo_ HO_8.out).2.1); (case side3 => repeat (first | exact (Kd.yo_ HO_9.out).2.2 | (with_reducible refine Kd.yK_ ?_ _) | (with_reducible refine Kd.yR_ ?_ _) | (with_reducible refine Kd.C_drew ?_))); (case side4 => exact (Kd.yo_ HO_9.out).2.1); rintro e w22 ⟨v496, rfl, ho0, hb⟩; refine ⟨_, rfl, ?_⟩; have n0_ := Aside0.mk (Kd.yM_ (by (with_reducible repeat (first | apply Kd.yh_ | apply Kd.yi_ | apply Kd.R_drew)); exact HO_8.out) hb); have n1_ := Aside0.mk (Kd.yM_ (by (with_reducible repeat (first | apply Kd.yh_ | apply Kd.yi_ | apply Kd.R_drew)); exact HO_9.out) hb); have n2_ := Aside0.mk (Kd.yY_ ho0 (yk_ (by repeat (with_reducible first | exact HB.out | apply yc_ | apply ya_ | apply yb_)))); have n3_ := Aside0.mk (ym_ (by repeat (with_reducible first | exact HB.out | apply yc_ | apply ya_ | apply yb_)) hb); clear HO_8; clear HO_9; clear HB; have HO_8 := n0_; have HO_9 := n1_; have HO497 := n2_; have HB := n3_; clear n0_ n1_ n2_ n3_; (try clear hb); (try clear hb2); (try clear hk); (try clear hi); (try clear ho0)))
       try simp only [Act.put, List.setIfInBounds_toArray, List.set_cons_succ, List.set_cons_zero]
       go_loopg [11, 12] kj15 (fun kq v11 v12 w' => ∃ (x11_3 : List Int) (x12_3 : Int), v12 = .int .i64 x12_3 ∧ Aside0 (ye_.l0 kq a2 t495 x11_3 x12_3 = some (r1, r2)) ∧ Aside0 (kq ≤ kj15) ∧ Aside0 (Kd.R k75 75 w' w.heap.size (fun _ => True) v496 t495) ∧ Aside0 (Kd.R (Kd.int .u8) 5 w' w.heap.size (fun _ => True) v11 x11_3) ∧ Aside0 (Below w.heap.size w w'))
       case atStart => exact ⟨(([] : List Int)), (0), (by first | rfl | (simp; done) | (simp [*]; done)), H', ⟨Nat.le_refl _⟩, ⟨by (with_reducible repeat (first | apply Kd.yh_ | apply Kd.yi_ | apply Kd.R_drew)); exact HO497.out⟩, ⟨by first | exact Kd.R_nil _ _ _ _ _ | exact Kd.N_nil _ _ _ _ _ | exact Kd.V_nil _ _ _ _ _ | exact Kd.Q_nil _ _ _ _ _ | exact Kd.S_nil _ _ _ _ _⟩, ⟨by repeat (with_reducible first | exact HB.out | apply yc_ | apply ya_ | apply yb_)⟩⟩
       case round =>
        clear H'
        try clear c1
        try clear c2
        try clear p2
        try clear c3
        try clear c4
        try clear c9
        try clear c9b0
        try clear c9b1
        try clear c10
        try clear c10b0
        try clear c10b1
        try clear c11
        try clear c11b0
        try clear c11b1
        try clear c15
        try clear c17
        try clear c17b0
        try clear c18
        try clear c20
        try clear p2
        obtain ⟨x11_3, x12_3, rfl, HA, HK3, HO_10, HO_11, HB⟩ := hrel
        cases gk with
        | zero => exact absurd HA.out (by simp [ye_.l0])
        | succ k3 =>
         have H := HA.out
         clear HA
         simp only [ye_.l0] at H
         by_cases c23 : x12_3 < (t495.length : Int)
         ·rw [if_pos c23] at H
          have c23b0 : decide (x12_3 < (t495.length : Int)) = true := decide_eq_true c23
          clear c23
          by_cases c24 : 0 ≤ x12_3
          ·rw [if_pos c24] at H
           have c24b0 : decide (0 ≤ x12_3) = true := decide_eq_true c24
           clear c24
           by_cases c25 : ((rd_T75 t495 x12_3).f0) = 32
           ·rw [if_pos c25] at H
            have c25b0 : (((rd_T75 t495 x12_3).f0) == 32) = true := beq_iff_eq.mpr c25
            have c25b1 : (((rd_T75 t495 x12_3).f0) != 32) = false := bne_eq_false_iff_eq.mpr c25
            clear c25
            have H' := Aside0.mk H
            clear H
            obtain ⟨Ao26, co26, eo26⟩ := Kd.yC_ HO_10.out
            subst eo26
            have p498 : 0 ≤ (x12_3 : Int) := of_decide_eq_true (by assumption)
            have q498 : x12_3 < (t495.length : Int) := of_decide_eq_true (by assumption)
            obtain ⟨ad498, e498, hx498_0, hx498_1⟩ := at_T75 (Kd.yo_ HO_10.out).2.2 x12_3 p498 q498
            cases e498
            replace p498 := eq_true p498
            replace q498 := eq_true q498
            go_wp2
            go_roundg k3
            case measure => have := HJ5.out; have := HJ15.out; have := HK3.out; omega
            case rel => exact ⟨(x11_3), (wrap64 (x12_3 + 1)), (by first | rfl | (simp; done) | (simp [*]; done)), H', ⟨by have := HJ5.out; have := HJ15.out; have := HK3.out; omega⟩, ⟨by (with_reducible repeat (first | apply Kd.yh_ | apply Kd.yi_ | apply Kd.R_drew)); exact HO_10.out⟩, ⟨by (with_reducible repeat (first | apply Kd.yh_ | apply Kd.yi_ | apply Kd.R_drew)); exact HO_11.out⟩, ⟨by repeat (with_reducible first | exact HB.out | apply yc_ | apply ya_ | apply yb_)⟩⟩
           ·rw [if_neg c25] at H
            have c25b0 : (((rd_T75 t495 x12_3).f0) == 32) = false := beq_eq_false_iff_ne.mpr c25
            have c25b1 : (((rd_T75 t495 x12_3).f0) != 32) = true := bne_iff_ne.mpr c25
            have HC27 := Aside0.mk H
            clear H
            obtain ⟨Ao28, co28, eo28⟩ := Kd.yC_ HO_10.out
            subst eo28
            have p498 : 0 ≤ (x12_3 : Int) := of_decide_eq_true (by assumption)
            have q498 : x12_3 < (t495.length : Int) := of_decide_eq_true (by assumption)
            obtain ⟨ad498, e498, hx498_0, hx498_1⟩ := at_T75 (Kd.yo_ HO_10.out).2.2 x12_3 p498 q498
            cases e498
            replace p498 := eq_true p498
            replace q498 := eq_true q498
            go_upto_if 65 with (fail)
            go_cut [13] (fun v13 wc => ∃ (kq : Nat) (x13_26 : Int), v13 = .int .i64 x13_26 ∧ Aside0 (ye_.j3 kq a2 t495 x11_3 x12_3 x13_26 = some (r1, r2)) ∧ Aside0 (kq ≤ k3) ∧ Aside0 (Kd.R k75 75 wc w.heap.size (fun _ => True) (.slice (some ad498) t495.length co28) t495) ∧ Aside0 (Kd.R (Kd.int .u8) 5 wc w.heap.size (fun _ => True) u11 x11_3) ∧ Aside0 (Below w.heap.size w wc))
            case first =>
             have H := HC27.out
             clear HC27
             by_cases c29 : (wrap64 (x12_3 - a2)) < 0
             ·rw [if_pos c29] at H
              have c29b0 : decide ((wrap64 (x12_3 - a2)) < 0) = true := decide_eq_true c29
              clear c29
              (first | rw [c29b0] | (simp only [i64_w, i32_w]; rw [c29b0]) | skip)
              have H' := Aside0.mk H
              clear H
              go_wp2
              go_meet
              case rel => exact ⟨_, (0), (by first | rfl | (simp; done) | (simp [*]; done)), H', ⟨by have := HJ5.out; have := HJ15.out; have := HK3.out; first | omega | exact Nat.le_refl _⟩, ⟨by (with_reducible repeat (first | apply Kd.yh_ | apply Kd.yi_ | apply Kd.R_drew)); exact HO_10.out⟩, ⟨by (with_reducible repeat (first | apply Kd.yh_ | apply Kd.yi_ | apply Kd.R_drew)); exact HO_11.out⟩, ⟨by repeat (with_reducible first | exact HB.out | apply yc_ | apply ya_ | apply yb_)⟩⟩
             ·rw [if_neg c29] at H
              have c29b0 : decide ((wrap64 (x12_3 - a2)) < 0) = false := decide_eq_false c29
              clear c29
              (first | rw [c29b0] | (simp only [i64_w, i32_w]; rw [c29b0]) | skip)
              have H' := Aside0.mk H
              clear H
              go_wp2
              go_meet
              case rel => exact ⟨_, (wrap64 (x12_3 - a2)), (by first | rfl | (simp; done) | (simp [*]; done)), H', ⟨by have := HJ5.out; have := HJ15.out; have := HK3.out; first | omega | exact Nat.le_refl _⟩, ⟨by (with_reducible repeat (first | apply Kd.yh_ | apply Kd.yi_ | apply Kd.R_drew)); exact HO_10.out⟩, ⟨by (with_reducible repeat (first | apply Kd.yh_ | apply Kd.yi_ | apply Kd.R_drew)); exact HO_11.out⟩, ⟨by repeat (with_reducible first | exact HB.out | apply yc_ | apply ya_ | apply yb_)⟩⟩
            case rest =>
             clear HC27
             try clear c1
             try clear c2
             try clear p2
             try clear c3
             try clear c4
             try clear p4
             try clear q4
             try clear hx4
             try clear p6
             try clear c9
             try clear c9b0
             try clear c9b1
             try clear c10
             try clear c10b0
             try clear c10b1
             try clear c11
             try clear c11b0
             try clear c11b1
             try clear c15
             try clear c17
             try clear c17b0
             try clear c18
             try clear c20
             try clear c23
             try clear c23b0
             try clear c24
             try clear c24b0
             try clear c25
             try clear c25b0
             try clear c25b1
             try clear c29
             try clear c29b0
             try clear hx498_0
             try clear hx498_1
             try clear p2
             try clear p498
             try clear q498
             obtain ⟨kq, x13_26, rfl, HA, HJ26, HO_10, HO_11, HB⟩ := hcut
             cases kq with
             | zero => exact absurd HA.out (by simp [ye_.j3])
             | succ kj26 =>
              have H := HA.out
              clear HA
              simp only [ye_.j3] at H
              have H' := Aside0.mk H
              clear H
              go_wp2
              try simp only [Act.put, List.setIfInBounds_toArray, List.set_cons_succ, List.set_cons_zero]
              go_loopg [14, 15, 16] kj26 (fun kq v14 v15 v16 w' => ∃ (x14_5 : Int) (x15_5 : Int) (x16_5 : Int), v14 = .int .i64 x14_5 ∧ v15 = .int .i64 x15_5 ∧ v16 = .int .i64 x16_5 ∧ Aside0 (ye_.l1 kq a2 t495 x11_3 x13_26 x14_5 x15_5 x16_5 = some (r1, r2)) ∧ Aside0 (kq ≤ kj26) ∧ Aside0 (Kd.R k75 75 w' w.heap.size (fun _ => True) (.slice (some ad498) t495.length co28) t495) ∧ Aside0 (Kd.R (Kd.int .u8) 5 w' w.heap.size (fun _ => True) u11 x11_3) ∧ Aside0 (Below w.heap.size w w'))
              case atStart => exact ⟨(x12_3), (0), (wrap64 (x12_3 + 1)), (by first | rfl | (simp; done) | (simp [*]; done)), (by first | rfl | (simp; done) | (simp [*]; done)), (by first | rfl | (simp; done) | (simp [*]; done)), H', ⟨Nat.le_refl _⟩, ⟨by (with_reducible repeat (first | apply Kd.yh_ | apply Kd.yi_ | apply Kd.R_drew)); exact HO_10.out⟩, ⟨by (with_reducible repeat (first | apply Kd.yh_ | apply Kd.yi_ | apply Kd.R_drew)); exact HO_11.out⟩, ⟨by repeat (with_reducible first | exact HB.out | apply yc_ | apply ya_ | apply yb_)⟩⟩
              case round =>
               clear H'
               try clear c1
               try clear c2
               try clear p2
               try clear c3
               try clear c4
               try clear p4
               try clear q4
               try clear hx4
               try clear p6
               try clear c9
               try clear c9b0
               try clear c9b1
               try clear c10
               try clear c10b0
               try clear c10b1
               try clear c11
               try clear c11b0
               try clear c11b1
               try clear c15
               try clear c17
               try clear c17b0
               try clear c18
               try clear c20
               try clear c23
               try clear c23b0
               try clear c24
               try clear c24b0
               try clear c25
               try clear c25b0
               try clear c25b1
               try clear c29
               try clear c29b0
               try clear hx498_0
               try clear hx498_1
               try clear p2
               try clear p4
               try clear p498
               try clear p6
               try clear q4
               try clear q498
               obtain ⟨x14_5, x15_5, x16_5, rfl, rfl, rfl, HA, HK5, HO_10, HO_11, HB⟩ := hrel
               cases gk with
               | zero => exact absurd HA.out (by simp [ye_.l1])
               | succ k5 =>
                have H := HA.out
                clear HA
                simp only [ye_.l1] at H
                have HC30 := Aside0.mk H
                clear H
                go_upto_region 17 with (fail)
                go_cut [78] (fun v78 wc => ∃ (kq : Nat) (x78_29 : Bool), v78 = .bool x78_29 ∧ Aside0 (ye_.j5 kq a2 t495 x11_3 x13_26 x14_5 x15_5 x16_5 x78_29 = some (r1, r2)) ∧ Aside0 (kq ≤ k5) ∧ Aside0 (Kd.R k75 75 wc w.heap.size (fun _ => True) (.slice (some ad498) t495.length co28) t495) ∧ Aside0 (Kd.R (Kd.int .u8) 5 wc w.heap.size (fun _ => True) u11 x11_3) ∧ Aside0 (Below w.heap.size w wc))
                case first =>
                 have H := HC30.out
                 clear HC30
                 by_cases c31 : x16_5 < (t495.length : Int)
                 ·rw [if_pos c31] at H
                  have c31b0 : decide (x16_5 < (t495.length : Int)) = true := decide_eq_true c31
                  clear c31
                  (first | rw [c31b0] | (simp only [i64_w, i32_w]; rw [c31b0]) | skip)
                  have H' := Aside0.mk H
                  clear H
                  go_wp2
                  go_meet
                  case rel => exact ⟨_, (decide (x15_5 ≤ (wrap64 (2 * a2)))), (by first | rfl | (simp; done) | (simp [*]; done)), H', ⟨by have := HJ5.out; have := HJ15.out; have := HK3.out; have := HJ26.out; have := HK5.out; first | omega | exact Nat.le_refl _⟩, ⟨by (with_reducible repeat (first | apply Kd.yh_ | apply Kd.yi_ | apply Kd.R_drew)); exact HO_10.out⟩, ⟨by (with_reducible repeat (first | apply Kd.yh_ | apply Kd.yi_ | apply Kd.R_drew)); exact HO_11.out⟩, ⟨by repeat (with_reducible first | exact HB.out | apply yc_ | apply ya_ | apply yb_)⟩⟩
                 ·rw [if_neg c31] at H
                  have c31b0 : decide (x16_5 < (t495.length : Int)) = false := decide_eq_false c31
                  clear c31
                  (first | rw [c31b0] | (simp only [i64_w, i32_w]; rw [c31b0]) | skip)
                  have H' := Aside0.mk H
                  clear H
                  go_wp2
                  go_meet
                  case rel => exact ⟨_, (false), (by first | rfl | (simp; done) | (simp [*]; done)), H', ⟨by have := HJ5.out; have := HJ15.out; have := HK3.out; have := HJ26.out; have := HK5.out; first | omega | exact Nat.le_refl _⟩, ⟨by (with_reducible repeat (first | apply Kd.yh_ | apply Kd.yi_ | apply Kd.R_drew)); exact HO_10.out⟩, ⟨by (with_reducible repeat (first | apply Kd.yh_ | apply Kd.yi_ | apply Kd.R_drew)); exact HO_11.out⟩, ⟨by repeat (with_reducible first | exact HB.out | apply yc_ | apply ya_ | apply yb_)⟩⟩
                case rest =>
                 clear HC30
                 try clear c1
                 try clear c2
                 try clear p2
                 try clear c3
                 try clear c4
                 try clear p4
                 try clear q4
                 try clear hx4
                 try clear p6
                 try clear c9
                 try clear c9b0
                 try clear c9b1
                 try clear c10
                 try clear c10b0
                 try clear c10b1
                 try clear c11
                 try clear c11b0
                 try clear c11b1
                 try clear c15
                 try clear c17
                 try clear c17b0
                 try clear c18
                 try clear c20
                 try clear c23
                 try clear c23b0
                 try clear c24
                 try clear c24b0
                 try clear c25
                 try clear c25b0
                 try clear c25b1
                 try clear c29
                 try clear c29b0
                 try clear c31
                 try clear c31b0
                 try clear hx498_0
                 try clear hx498_1
                 try clear p2
                 try clear p4
                 try clear p498
                 try clear p6
                 try clear q4
                 try clear q498
                 obtain ⟨kq, x78_29, rfl, HA, HJ29, HO_10, HO_11, HB⟩ := hcut
                 cases kq with
                 | zero => exact absurd HA.out (by simp [ye_.j5])
                 | succ kj29 =>
                  have H := HA.out
                  clear HA
                  simp only [ye_.j5] at H
                  by_cases c32 : x78_29 = true
                  ·subst c32
                   have H1 : (if 0 ≤ x16_5 then (if x16_5 < (t495.length : Int) then (if ((rd_T75 t495 x16_5).f0) = 32 then (ye_.l1 kj29 a2 t495 x11_3 x13_26 x14_5 (wrap64 (x15_5 + 1)) (wrap64 (x16_5 + 1))) else (ye_.l1 kj29 a2 t495 x11_3 x13_26 x16_5 0 (wrap64 (x16_5 + 1)))) else (none)) else (none)) = some (r1, r2) := by rw [if_pos rfl] at H; exact H
                   clear H
                   have H := H1
                   clear H1
                   by_cases c33 : 0 ≤ x16_5
                   ·rw [if_pos c33] at H
                    have c33b0 : decide (0 ≤ x16_5) = true := decide_eq_true c33
                    clear c33
                    by_cases c34 : x16_5 < (t495.length : Int)
                    ·rw [if_pos c34] at H
                     have c34b0 : decide (x16_5 < (t495.length : Int)) = true := decide_eq_true c34
                     clear c34
                     by_cases c35 : ((rd_T75 t495 x16_5).f0) = 32
                     ·rw [if_pos c35] at H
                      have c35b0 : (((rd_T75 t495 x16_5).f0) == 32) = true := beq_iff_eq.mpr c35
                      have c35b1 : (((rd_T75 t495 x16_5).f0) != 32) = false := bne_eq_false_iff_eq.mpr c35
                      clear c35
                      have H' := Aside0.mk H
                      clear H
                      have p499 : 0 ≤ (x16_5 : Int) := of_decide_eq_true (by assumption)
                      have q499 : x16_5 < (t495.length : Int) := of_decide_eq_true (by assumption)
                      obtain ⟨ad499, e499, hx499_0, hx499_1⟩ := at_T75 (Kd.yo_ HO_10.out).2.2 x16_5 p499 q499
                      obtain rfl : ad498 = ad499 := (by injection e499)
                      replace p499 := eq_true p499
                      replace q499 := eq_true q499
                      go_wp2
                      go_roundg kj29
                      case measure => have := HJ5.out; have := HJ15.out; have := HK3.out; have := HJ26.out; have := HK5.out; have := HJ29.out; omega
                      case rel => exact ⟨(x14_5), (wrap64 (x15_5 + 1)), (wrap64 (x16_5 + 1)), (by first | rfl | (simp; done) | (simp [*]; done)), (by first | rfl | (simp; done) | (simp [*]; done)), (by first | rfl | (simp; done) | (simp [*]; done)), H', ⟨by have := HJ5.out; have := HJ15.out; have := HK3.out; have := HJ26.out; have := HK5.out; have := HJ29.out; omega⟩, ⟨by (with_reducible repeat (first | apply Kd.yh_ | apply Kd.yi_ | apply Kd.R_drew)); exact HO_10.out⟩, ⟨by (with_reducible repeat (first | apply Kd.yh_ | apply Kd.yi_ | apply Kd.R_drew)); exact HO_11.out⟩, ⟨by repeat (with_reducible first | exact HB.out | apply yc_ | apply ya_ | apply yb_)⟩⟩
                     ·rw [if_neg c35] at H
                      have c35b0 : (((rd_T75 t495 x16_5).f0) == 32) = false := beq_eq_false_iff_ne.mpr c35
                      have c35b1 : (((rd_T75 t495 x16_5).f0) != 32) = true := bne_iff_ne.mpr c35
                      have H' := Aside0.mk H
                      clear H
                      have p499 : 0 ≤ (x16_5 : Int) := of_decide_eq_true (by assumption)
                      have q499 : x16_5 < (t495.length : Int) := of_decide_eq_true (by assumption)
                      obtain ⟨ad499, e499, hx499_0, hx499_1⟩ := at_T75 (Kd.yo_ HO_10.out).2.2 x16_5 p499 q499
                      obtain rfl : ad498 = ad499 := (by injection e499)
                      replace p499 := eq_true p499
                      replace q499 := eq_true q499
                      go_wp2
                      go_roundg kj29
                      case measure => have := HJ5.out; have := HJ15.out; have := HK3.out; have := HJ26.out; have := HK5.out; have := HJ29.out; omega
                      case rel => exact ⟨(x16_5), (0), (wrap64 (x16_5 + 1)), (by first | rfl | (simp; done) | (simp [*]; done)), (by first | rfl | (simp; done) | (simp [*]; done)), (by first | rfl | (simp; done) | (simp [*]; done)), H', ⟨by have := HJ5.out; have := HJ15.out; have := HK3.out; have := HJ26.out; have := HK5.out; have := HJ29.out; omega⟩, ⟨by (with_reducible repeat (first | apply Kd.yh_ | apply Kd.yi_ | apply Kd.R_drew)); exact HO_10.out⟩, ⟨by (with_reducible repeat (first | apply Kd.yh_ | apply Kd.yi_ | apply Kd.R_drew)); exact HO_11.out⟩, ⟨by repeat (with_reducible first | exact HB.out | apply yc_ | apply ya_ | apply yb_)⟩⟩
                    ·rw [if_neg c34] at H
                     exact absurd H (by simp)
                   ·rw [if_neg c33] at H
                    exact absurd H (by simp)
                  ·replace c32 := Bool.eq_false_iff.mpr c32
                   subst c32
                   have H1 : (if (wrap64 ((wrap64 (x14_5 + 1)) + a2)) > (t495.length : Int) then ((yg_.f kj29 t495 x13_26 (t495.length : Int)).bind fun t500 => (if x11_3.length + t500.size < 140737488355328 then (ye_.l0 kj29 a2 t495 (x11_3 ++ bytesOf t500) (wrap64 (x14_5 + 1))) else (none))) else ((yg_.f kj29 t495 x13_26 (wrap64 ((wrap64 (x14_5 + 1)) + a2))).bind fun t504 => (if x11_3.length + t504.size < 140737488355328 then (ye_.l0 kj29 a2 t495 (x11_3 ++ bytesOf t504) (wrap64 (x14_5 + 1))) else (none)))) = some (r1, r2) := by rw [if_neg (show ¬ (false = true) by decide)] at H; exact H
                   clear H
                   have H := H1
                   clear H1
                   by_cases c36 : (wrap64 ((wrap64 (x14_5 + 1)) + a2)) > (t495.length : Int)
                   ·rw [if_pos c36] at H
                    have c36b0 : decide ((t495.length : Int) < (wrap64 ((wrap64 (x14_5 + 1)) + a2))) = true := decide_eq_true c36
                    clear c36
                    replace H := Option.bind_eq_some_iff.mp H
                    obtain ⟨t500, A370, H⟩ := H
                    replace H : (if x11_3.length + t500.size < 140737488355328 then (ye_.l0 kj29 a2 t495 (x11_3 ++ bytesOf t500) (wrap64 (x14_5 + 1))) else (none)) = some (r1, r2) := H
                    have A37 := Aside0.mk A370
                    clear A370
                    by_cases c38 : x11_3.length + t500.size < 140737488355328
                    ·rw [if_pos c38] at H
                     have LMc38 := Aside0.mk c38
                     clear c38
                     obtain ⟨y501, hy501⟩ : ∃ y_ : List Int, y_ = (x11_3 ++ bytesOf t500) := ⟨_, rfl⟩
                     replace H : (ye_.l0 kj29 a2 t495 y501 (wrap64 (x14_5 + 1))) = some (r1, r2) := by first | (rw [hy501]; with_reducible exact H) | (have H2_ := (Option.bind_some _ _).symm.trans H; rw [hy501]; with_reducible exact H2_) | (have H2_ := (Option.bind_some _ _).symm.trans H; with_reducible exact H2_) | with_reducible exact H | (rw [hy501]; exact H) | exact H
                     have Ny501 := Aside0.mk hy501
                     clear hy501
                     have H' := Aside0.mk H
                     clear H
                     go_wp2_with (first | ((with_reducible refine ys_ (f := 47) rfl ?_); refine goesL_ (some 104) rfl rfl Tryd.func47 (by kernel_rfl) rfl #[.slice (some ad498) t495.length co28, .int .i64 x13_26, .int .i64 (t495.length : Int)] rfl (by (try simp only [List.map_toArray, List.map_cons, List.map_nil]); first | done | rfl | (simp only [List.length_drop, List.length_take]; rfl)) ?_; (with_reducible refine (yg_.calls kj29 _ _ t495 x13_26 (t495.length : Int) t500 _ ?side1 ?side2 A37.out).mono ?_); (case side1 => repeat (first | exact (Kd.yo_ HO_10.out).2.2 | (with_reducible refine Kd.yK_ ?_ _) | (with_reducible refine Kd.yR_ ?_ _) | (with_reducible refine Kd.C_drew ?_))); (case side2 => exact (Kd.yo_ HO_10.out).2.1); rintro e w39 ⟨rfl, hb⟩; refine ⟨_, rfl, ?_⟩; have n0_ := Aside0.mk (Kd.yM_ (by (with_reducible repeat (first | apply Kd.yh_ | apply Kd.yi_ | apply Kd.R_drew)); exact HO_10.out) hb); have n1_ := Aside0.mk (Kd.yM_ (by (with_reducible repeat (first | apply Kd.yh_ | apply Kd.yi_ | apply Kd.R_drew)); exact HO_11.out) hb); have n2_ := Aside0.mk (ym_ (by repeat (with_reducible first | exact HB.out | apply yc_ | apply ya_ | apply yb_)) hb); clear HO_10; clear HO_11; clear HB; have HO_10 := n0_; have HO_11 := n1_; have HB := n2_; clear n0_ n1_ n2_; (try clear hb); (try clear hb2); (try clear hk); (try clear hi)) | (at_builtin; refine ynb_ (w0 := w) w.heap.size rfl (.tmp 100) _ 32 9 5 rfl Tryd.underlying32 Tryd.underlying9 info5 u11 x11_3 t500 rfl rfl ?aO ?aB ?aS ?aL ?_; (case aB => exact (by repeat (with_reducible first | exact HB.out | apply yc_ | apply ya_ | apply yb_))); (case aO => exact (Kd.yeb_ (by (with_reducible repeat (first | apply Kd.yh_ | apply Kd.yi_ | apply Kd.R_drew)); exact HO_11.out))); (case aS => exact (yk_ (by repeat (with_reducible first | exact HB.out | apply yc_ | apply ya_ | apply yb_)))); (case aL => have := LMc38.out; omega); intro v502 w40 ho0 hb hg; have ho := Kd.yPb_ (h1 := fun _ => rfl) (ok := fun _ => True) ho0 (fun _ _ => trivial); clear ho0; have hat := True.intro; rw [← Ny501.out] at ho; change Kd.R (Kd.int .u8) 5 w40 w.heap.size (fun _ => True) v502 y501 at ho; have n0_ := Aside0.mk (Kd.yhb_ (by (with_reducible repeat (first | apply Kd.yh_ | apply Kd.yi_ | apply Kd.R_drew)); exact HO_10.out) (Kd.yU_ (by (with_reducible repeat (first | apply Kd.yh_ | apply Kd.yi_ | apply Kd.R_drew)); exact HO_11.out)) (by decide) hg); have n1_ := Aside0.mk (hb); have n2_ := Aside0.mk (ho); clear HO_10; clear HB; clear HO_11; have HO_10 := n0_; have HB := n1_; have HO503 := n2_; clear n0_ n1_ n2_; clear ho hb hg hat))
                     go_roundg kj29
                     case measure => have := HJ5.out; have := HJ15.out; have := HK3.out; have := HJ26.out; have := HK5.out; have := HJ29.out; omega
                     case rel => exact ⟨(y501), (wrap64 (x14_5 + 1)), (by first | rfl | (simp; done) | (simp [*]; done)), H', ⟨by have := HJ5.out; have := HJ15.out; have := HK3.out; have := HJ26.out; have := HK5.out; have := HJ29.out; omega⟩, ⟨by (with_reducible repeat (first | apply Kd.yh_ | apply Kd.yi_ | apply Kd.R_drew)); exact HO_10.out⟩, ⟨by (with_reducible repeat (first | apply Kd.yh_ | apply Kd.yi_ | apply Kd.R_drew)); exact HO503.out⟩, ⟨by repeat (with_reducible first | exact HB.out | apply yc_ | apply ya_ | apply yb_)⟩⟩
                    ·rw [if_neg c38] at H
                     exact absurd H (by simp)
                   ·rw [if_neg c36] at H
                    have c36b0 : decide ((t495.length : Int) < (wrap64 ((wrap64 (x14_5 + 1)) + a2))) = false := decide_eq_false c36
                    clear c36
                    replace H := Option.bind_eq_some_iff.mp H
                    obtain ⟨t504, A410, H⟩ := H
                    replace H : (if x11_3.length + t504.size < 140737488355328 then (ye_.l0 kj29 a2 t495 (x11_3 ++ bytesOf t504) (wrap64 (x14_5 + 1))) else (none)) = some (r1, r2) := H
                    have A41 := Aside0.mk A410
                    clear A410
                    by_cases c42 : x11_3.length + t504.size < 140737488355328
                    ·rw [if_pos c42] at H
                     have LMc42 := Aside0.mk c42
                     clear c42
                     obtain ⟨y505, hy505⟩ : ∃ y_ : List Int, y_ = (x11_3 ++ bytesOf t504) := ⟨_, rfl⟩
                     replace H : (ye_.l0 kj29 a2 t495 y505 (wrap64 (x14_5 + 1))) = some (r1, r2) := by first | (rw [hy505]; with_reducible exact H) | (have H2_ := (Option.bind_some _ _).symm.trans H; rw [hy505]; with_reducible exact H2_) | (have H2_ := (Option.bind_some _ _).symm.trans H; with_reducible exact H2_) | with_reducible exact H | (rw [hy505]; exact H) | exact H
                     have Ny505 := Aside0.mk hy505
                     clear hy505
                     have H' := Aside0.mk H
                     clear H
                     go_wp2_with (first | ((with_reducible refine ys_ (f := 47) rfl ?_); refine goesL_ (some 104) rfl rfl Tryd.func47 (by kernel_rfl) rfl #[.slice (some ad498) t495.length co28, .int .i64 x13_26, .int .i64 (wrap64 ((wrap64 (x14_5 + 1)) + a2))] rfl (by (try simp only [List.map_toArray, List.map_cons, List.map_nil]); first | done | rfl | (simp only [List.length_drop, List.length_take]; rfl)) ?_; (with_reducible refine (yg_.calls kj29 _ _ t495 x13_26 (wrap64 ((wrap64 (x14_5 + 1)) + a2)) t504 _ ?side1 ?side2 A41.out).mono ?_); (case side1 => repeat (first | exact (Kd.yo_ HO_10.out).2.2 | (with_reducible refine Kd.yK_ ?_ _) | (with_reducible refine Kd.yR_ ?_ _) | (with_reducible refine Kd.C_drew ?_))); (case side2 => exact (Kd.yo_ HO_10.out).2.1); rintro e w43 ⟨rfl, hb⟩; refine ⟨_, rfl, ?_⟩; have n0_ := Aside0.mk (Kd.yM_ (by (with_reducible repeat (first | apply Kd.yh_ | apply Kd.yi_ | apply Kd.R_drew)); exact HO_10.out) hb); have n1_ := Aside0.mk (Kd.yM_ (by (with_reducible repeat (first | apply Kd.yh_ | apply Kd.yi_ | apply Kd.R_drew)); exact HO_11.out) hb); have n2_ := Aside0.mk (ym_ (by repeat (with_reducible first | exact HB.out | apply yc_ | apply ya_ | apply yb_)) hb); clear HO_10; clear HO_11; clear HB; have HO_10 := n0_; have HO_11 := n1_; have HB := n2_; clear n0_ n1_ n2_; (try clear hb); (try clear hb2); (try clear hk); (try clear hi)) | (at_builtin; refine ynb_ (w0 := w) w.heap.size rfl (.tmp 100) _ 32 9 5 rfl Tryd.underlying32 Tryd.underlying9 info5 u11 x11_3 t504 rfl rfl ?aO ?aB ?aS ?aL ?_; (case aB => exact (by repeat (with_reducible first | exact HB.out | apply yc_ | apply ya_ | apply yb_))); (case aO => exact (Kd.yeb_ (by (with_reducible repeat (first | apply Kd.yh_ | apply Kd.yi_ | apply Kd.R_drew)); exact HO_11.out))); (case aS => exact (yk_ (by repeat (with_reducible first | exact HB.out | apply yc_ | apply ya_ | apply yb_)))); (case aL => have := LMc42.out; omega); intro v506 w44 ho0 hb hg; have ho := Kd.yPb_ (h1 := fun _ => rfl) (ok := fun _ => True) ho0 (fun _ _ => trivial); clear ho0; have hat := True.intro; rw [← Ny505.out] at ho; change Kd.R (Kd.int .u8) 5 w44 w.heap.size (fun _ => True) v506 y505 at ho; have n0_ := Aside0.mk (Kd.yhb_ (by (with_reducible repeat (first | apply Kd.yh_ | apply Kd.yi_ | apply Kd.R_drew)); exact HO_10.out) (Kd.yU_ (by (with_reducible repeat (first | apply Kd.yh_ | apply Kd.yi_ | apply Kd.R_drew)); exact HO_11.out)) (by decide) hg); have n1_ := Aside0.mk (hb); have n2_ := Aside0.mk (ho); clear HO_10; clear HB; clear HO_11; have HO_10 := n0_; have HB := n1_; have HO507 := n2_; clear n0_ n1_ n2_; clear ho hb hg hat))
                     go_roundg kj29
                     case measure => have := HJ5.out; have := HJ15.out; have := HK3.out; have := HJ26.out; have := HK5.out; have := HJ29.out; omega
                     case rel => exact ⟨(y505), (wrap64 (x14_5 + 1)), (by first | rfl | (simp; done) | (simp [*]; done)), H', ⟨by have := HJ5.out; have := HJ15.out; have := HK3.out; have := HJ26.out; have := HK5.out; have := HJ29.out; omega⟩, ⟨by (with_reducible repeat (first | apply Kd.yh_ | apply Kd.yi_ | apply Kd.R_drew)); exact HO_10.out⟩, ⟨by (with_reducible repeat (first | apply Kd.yh_ | apply Kd.yi_ | apply Kd.R_drew)); exact HO507.out⟩, ⟨by repeat (with_reducible first | exact HB.out | apply yc_ | apply ya_ | apply yb_)⟩⟩
                    ·rw [if_neg c42] at H
                     exact absurd H (by simp)
          ·rw [if_neg c24] at H
           exact absurd H (by simp)
         ·rw [if_neg c23] at H
          have c23b0 : decide (x12_3 < (t495.length : Int)) = false := decide_eq_false c23
          clear c23
          simp only [Option.some.injEq, Prod.mk.injEq] at H
          obtain ⟨rfl, rfl⟩ := H
          obtain ⟨Ao45, co45, eo45⟩ := Kd.yC_ HO_10.out
          subst eo45
          have hcv46 := ymb_ (P := Tryd.prog) Tryd.underlying32 Tryd.underlying5 Tryd.underlying9 (Kd.yeb_ HO_11.out)
          go_wp2
          go_ret2
          exact ⟨by first | rfl | (simp [yu_, yv_] <;> rfl) | (simp [*, yu_, yv_] <;> rfl), by repeat (with_reducible first | exact HB.out | apply yc_ | apply ya_ | apply yb_)⟩

end Go.Proofs.YthimblhfjfngiaaDoor.PText

namespace Go.Proofs.YthimblhfjfngiaaDoor.PText
open Go.RowKit Go.Proofs.YthimblhfjfngiaaDoorW.PrintWords Go.Proofs.YthimblhfjfngiaaDoorW.PrintLast Go.Proofs.YthimblhfjfngiaaDoorW.PrintMore
attribute [local go_sem] y1_ y2_ ycb_ ydb_ yV_ yW_ y3_ y4_   -- for this text's walks alone
set_option linter.unusedVariables false
set_option linter.unusedSimpArgs false

mutual
def yf_.j0 : Nat → List ByteArray → List ByteArray → Bool → Option ((List (S34)) × Int)
 | 0, _, _, _ => none
 | k + 1, x6, x7, x34 => if x34 = true then (some (([] : List (S34)), 2)) else ((yd_.f k x6 x7).bind fun t527 => (yf_.l0 k t527 ([] : List (S34)) 0 0))
def yf_.l0 : Nat → List (S75) → List (S34) → Int → Int → Option ((List (S34)) × Int)
 | 0, _, _, _, _ => none
 | k + 1, x8, x9, x10, x11 => if x11 < (x8.length : Int) then (if 0 ≤ x11 then (if ((rd_T75 x8 x11).f0) = 32 then (yf_.l0 k x8 x9 (wrap64 (x10 + (((rd_T75 x8 x11).f1).size : Int))) (wrap64 (x11 + 1))) else (yf_.l1 k x8 x9 x11 x10 x10 (⟨#[]⟩ : ByteArray))) else (none)) else (some (x9, 0))
def yf_.l1 : Nat → List (S75) → List (S34) → Int → Int → Int → ByteArray → Option ((List (S34)) × Int)
 | 0, _, _, _, _, _, _ => none
 | k + 1, x8, x9, x11, x533000, x533001, x533002 => if x11 < (x8.length : Int) then (if 0 ≤ x11 then (yf_.j3 k x8 x9 x11 (((rd_T75 x8 x11).f0) != 32) x533000 x533001 x533002) else (none)) else (yf_.j3 k x8 x9 x11 false x533000 x533001 x533002)
def yf_.j3 : Nat → List (S75) → List (S34) → Int → Bool → Int → Int → ByteArray → Option ((List (S34)) × Int)
 | 0, _, _, _, _, _, _, _ => none
 | k + 1, x8, x9, x11, x72, x533000, x533001, x533002 => if x72 = true then (if 0 ≤ x11 then (if x11 < (x8.length : Int) then (if ((rd_T75 x8 x11).f0) = 45 then (yf_.l1 k x8 x9 (wrap64 (x11 + 1)) x533000 (wrap64 (x533001 + (((rd_T75 x8 x11).f1).size : Int))) x533002) else (if x533002.size + ((rd_T75 x8 x11).f1).size ≤ 9223372036854775807 then (yf_.l1 k x8 x9 (wrap64 (x11 + 1)) x533000 x533001 (x533002 ++ ((rd_T75 x8 x11).f1))) else (none))) else (none)) else (none)) else (if x9.length < 4398046511104 then (yf_.l0 k x8 (x9 ++ [(⟨x533000, x533001, x533002⟩ : S34)]) x533001 x11) else (none))
end
def yf_.f (k : Nat) (a0 : ByteArray) (a1 : ByteArray) : Option ((List (S34)) × Int) := (yt_.f k a0).bind fun t521 => ((yt_.f k a1).bind fun t524 => (if (a0.size : Int) > 200000 then (yf_.j0 k t521 t524 true) else (if (a1.size : Int) > 200000 then (yf_.j0 k t521 t524 true) else (if (t521.length : Int) > 2000 then (yf_.j0 k t521 t524 true) else (yf_.j0 k t521 t524 (decide ((t524.length : Int) > 2000)))))))
def yf_.T15 : Bool × List (List Nat × List Nat) := (true, [([], []), ([0], [0]), ([], []), ([], []), ([2, 3], [2, 3]), ([4], [4]), ([5], [5]), ([6], [6]), ([1, 7], [1, 7]), ([0, 1, 2, 3, 4, 5, 6, 7, 8], []), ([9, 8, 0, 1, 2, 3, 4, 5, 6, 7, 8], [8, 9])])
def yf_.B15 : List Nat := [0, 1, 0, 0, 12, 28, 60, 124, 255, 511, 1023]
theorem yf_.tab15 : rtab .any (opsOf Tryd.f22 15) = yf_.T15 := by kernel_rfl
theorem yf_.bits15 : waitsOk yf_.T15.2 yf_.B15 = true := by kernel_rfl
def yf_.T16 : Bool × List (List Nat × List Nat) := (true, [([], []), ([0], [0]), ([], []), ([], []), ([2, 3], [2, 3]), ([4], [4]), ([5], [5]), ([1, 6], [1, 6]), ([0, 1, 2, 3, 4, 5, 6, 7], []), ([8, 7, 0, 1, 2, 3, 4, 5, 6, 7], [7, 8])])
def yf_.B16 : List Nat := [0, 1, 0, 0, 12, 28, 60, 127, 255, 511]
theorem yf_.tab16 : rtab .any (opsOf Tryd.f22 16) = yf_.T16 := by kernel_rfl
theorem yf_.bits16 : waitsOk yf_.T16.2 yf_.B16 = true := by kernel_rfl
set_option maxHeartbeats 8000000 in
set_option maxRecDepth 100000 in
theorem yf_.calls (k : Nat) (a0 : ByteArray) (a1 : ByteArray) (r1 : List (S34)) (r2 : Int) (w : World) (h : yf_.f k a0 a1 = some (r1, r2)) :
  Calls Tryd.prog 22 #[.string a0, .string a1] w fun e w' => ∃ v0_ : Value, e = .returned (.tuple #[v0_, .int .i64 r2]) ∧ Kd.R k34 34 w' w.heap.size (fun _ => True) v0_ r1 ∧ Below w.heap.size w w' := by
 have hu34 := Tryd.underlying34
 have HB := Aside0.mk (Below.refl w.heap.size w)
 have H : ((yt_.f k a0).bind fun t521 => ((yt_.f k a1).bind fun t524 => (if (a0.size : Int) > 200000 then (yf_.j0 k t521 t524 true) else (if (a1.size : Int) > 200000 then (yf_.j0 k t521 t524 true) else (if (t521.length : Int) > 2000 then (yf_.j0 k t521 t524 true) else (yf_.j0 k t521 t524 (decide ((t524.length : Int) > 2000)))))))) = some (r1, r2) := h
 clear h
 replace H := Option.bind_eq_some_iff.mp H
 obtain ⟨t521, A30, H⟩ := H
 replace H : ((yt_.f k a1).bind fun t524 => (if (a0.size : Int) > 200000 then (yf_.j0 k t521 t524 true) else (if (a1.size : Int) > 200000 then (yf_.j0 k t521 t524 true) else (if (t521.length : Int) > 2000 then (yf_.j0 k t521 t524 true) else (yf_.j0 k t521 t524 (decide ((t524.length : Int) > 2000))))))) = some (r1, r2) := H
 have A3 := Aside0.mk A30
 clear A30
 replace H := Option.bind_eq_some_iff.mp H
 obtain ⟨t524, A40, H⟩ := H
 replace H : (if (a0.size : Int) > 200000 then (yf_.j0 k t521 t524 true) else (if (a1.size : Int) > 200000 then (yf_.j0 k t521 t524 true) else (if (t521.length : Int) > 2000 then (yf_.j0 k t521 t524 true) else (yf_.j0 k t521 t524 (decide ((t524.length : Int) > 2000)))))) = some (r1, r2) := H
 have A4 := Aside0.mk A40
 clear A40
 have HC5 := Aside0.mk H
 clear H
 go_enter Tryd.func22, Tryd.ntmps22
 go_upto_region 2 with (first | ((with_reducible refine ys_ (f := 31) rfl ?_); refine goesL_ (some 14) rfl rfl Tryd.func31 (by kernel_rfl) rfl #[.string a0] rfl (by (try simp only [List.map_toArray, List.map_cons, List.map_nil]); first | done | rfl | (simp only [List.length_drop, List.length_take]; rfl)) ?_; (with_reducible refine (yt_.calls k a0 t521 _ A3.out).mono ?_); rintro e w6 ⟨v522, rfl, ho0, hb⟩; refine ⟨_, rfl, ?_⟩; have n0_ := Aside0.mk (Kd.yY_ ho0 (yk_ (by repeat (with_reducible first | exact HB.out | apply yc_ | apply ya_ | apply yb_)))); have n1_ := Aside0.mk (ym_ (by repeat (with_reducible first | exact HB.out | apply yc_ | apply ya_ | apply yb_)) hb); clear HB; have HO523 := n0_; have HB := n1_; clear n0_ n1_; (try clear hb); (try clear hb2); (try clear hk); (try clear hi); (try clear ho0)) | ((with_reducible refine ys_ (f := 31) rfl ?_); refine goesL_ (some 16) rfl rfl Tryd.func31 (by kernel_rfl) rfl #[.string a1] rfl (by (try simp only [List.map_toArray, List.map_cons, List.map_nil]); first | done | rfl | (simp only [List.length_drop, List.length_take]; rfl)) ?_; (with_reducible refine (yt_.calls k a1 t524 _ A4.out).mono ?_); rintro e w7 ⟨v525, rfl, ho0, hb⟩; refine ⟨_, rfl, ?_⟩; have n0_ := Aside0.mk (Kd.yXb_ (by (with_reducible repeat (first | apply Kd.yh_ | apply Kd.yi_ | apply Kd.R_drew)); exact HO523.out) (Kd.R_base ho0) hb); have n1_ := Aside0.mk (Kd.yY_ (Kd.R_new' ho0 (Kd.R_lt (by (with_reducible repeat (first | apply Kd.yh_ | apply Kd.yi_ | apply Kd.R_drew)); exact HO523.out))) (yk_ (by repeat (with_reducible first | exact HB.out | apply yc_ | apply ya_ | apply yb_)))); have n2_ := Aside0.mk (ym_ (by repeat (with_reducible first | exact HB.out | apply yc_ | apply ya_ | apply yb_)) hb); clear HO523; clear HB; have HO523 := n0_; have HO526 := n1_; have HB := n2_; clear n0_ n1_ n2_; (try clear hb); (try clear hb2); (try clear hk); (try clear hi); (try clear ho0)))
 (try simp only [Act.put, q1_, q2_, q3_])
 go_cut [34] (fun v34 wc => ∃ (kq : Nat) (x34_4 : Bool), v34 = .bool x34_4 ∧ Aside0 (yf_.j0 kq t521 t524 x34_4 = some (r1, r2)) ∧ Aside0 (kq ≤ k) ∧ Aside0 (Kd.R Kd.string 9 wc w.heap.size (fun k_ => some k_ ≠ (v525 : Value).ownBlock) v522 t521) ∧ Aside0 (Kd.R Kd.string 9 wc w.heap.size (fun k_ => some k_ ≠ (v522 : Value).ownBlock) v525 t524) ∧ Aside0 (Below w.heap.size w wc))
 case first =>
  have H := HC5.out
  clear HC5
  by_cases c8 : (a0.size : Int) > 200000
  ·rw [if_pos c8] at H
   have c8b0 : decide (200000 < (a0.size : Int)) = true := decide_eq_true c8
   have c8b1 : decide (200000 < a0.size) = true := decide_eq_true (by omega)
   clear c8
   (first | rw [c8b0] | (simp only [i64_w, i32_w]; rw [c8b0]) | skip)
   have H' := Aside0.mk H
   clear H
   go_wp2
   go_meet
   case rel => exact ⟨_, (true), (by first | rfl | (simp; done) | (simp [*]; done)), H', ⟨by first | omega | exact Nat.le_refl _⟩, ⟨by (with_reducible repeat (first | apply Kd.yh_ | apply Kd.yi_ | apply Kd.R_drew)); exact Kd.R_mono HO523.out (fun _ hk => hk.2)⟩, ⟨by (with_reducible repeat (first | apply Kd.yh_ | apply Kd.yi_ | apply Kd.R_drew)); exact Kd.R_mono HO526.out (fun _ hk => hk.2)⟩, ⟨by repeat (with_reducible first | exact HB.out | apply yc_ | apply ya_ | apply yb_)⟩⟩
  ·rw [if_neg c8] at H
   have c8b0 : decide (200000 < (a0.size : Int)) = false := decide_eq_false c8
   have c8b1 : decide (200000 < a0.size) = false := decide_eq_false (by omega)
   clear c8
   (first | rw [c8b0] | (simp only [i64_w, i32_w]; rw [c8b0]) | skip)
   by_cases c9 : (a1.size : Int) > 200000
   ·rw [if_pos c9] at H
    have c9b0 : decide (200000 < (a1.size : Int)) = true := decide_eq_true c9
    have c9b1 : decide (200000 < a1.size) = true := decide_eq_true (by omega)
    clear c9
    have H' := Aside0.mk H
    clear H
    go_wp2
    go_meet
    case rel => exact ⟨_, (true), (by first | rfl | (simp; done) | (simp [*]; done)), H', ⟨by first | omega | exact Nat.le_refl _⟩, ⟨by (with_reducible repeat (first | apply Kd.yh_ | apply Kd.yi_ | apply Kd.R_drew)); exact Kd.R_mono HO523.out (fun _ hk => hk.2)⟩, ⟨by (with_reducible repeat (first | apply Kd.yh_ | apply Kd.yi_ | apply Kd.R_drew)); exact Kd.R_mono HO526.out (fun _ hk => hk.2)⟩, ⟨by repeat (with_reducible first | exact HB.out | apply yc_ | apply ya_ | apply yb_)⟩⟩
   ·rw [if_neg c9] at H
    have c9b0 : decide (200000 < (a1.size : Int)) = false := decide_eq_false c9
    have c9b1 : decide (200000 < a1.size) = false := decide_eq_false (by omega)
    clear c9
    by_cases c10 : (t521.length : Int) > 2000
    ·rw [if_pos c10] at H
     have c10b0 : decide (2000 < (t521.length : Int)) = true := decide_eq_true c10
     have c10b1 : decide (2000 < t521.length) = true := decide_eq_true (by omega)
     clear c10
     have H' := Aside0.mk H
     clear H
     obtain ⟨Ao11, co11, eo11⟩ := Kd.yC_ HO523.out
     subst eo11
     go_wp2
     go_meet
     case rel => exact ⟨_, (true), (by first | rfl | (simp; done) | (simp [*]; done)), H', ⟨by first | omega | exact Nat.le_refl _⟩, ⟨by (with_reducible repeat (first | apply Kd.yh_ | apply Kd.yi_ | apply Kd.R_drew)); exact Kd.R_mono HO523.out (fun _ hk => hk.2)⟩, ⟨by (with_reducible repeat (first | apply Kd.yh_ | apply Kd.yi_ | apply Kd.R_drew)); exact Kd.R_mono HO526.out (fun _ hk => hk.2)⟩, ⟨by repeat (with_reducible first | exact HB.out | apply yc_ | apply ya_ | apply yb_)⟩⟩
    ·rw [if_neg c10] at H
     have c10b0 : decide (2000 < (t521.length : Int)) = false := decide_eq_false c10
     have c10b1 : decide (2000 < t521.length) = false := decide_eq_false (by omega)
     clear c10
     have H' := Aside0.mk H
     clear H
     obtain ⟨Ao12, co12, eo12⟩ := Kd.yC_ HO523.out
     subst eo12
     obtain ⟨Ao13, co13, eo13⟩ := Kd.yC_ HO526.out
     subst eo13
     go_wp2
     go_meet
     case rel => exact ⟨_, (decide ((t524.length : Int) > 2000)), (by first | rfl | (simp; done) | (simp [*]; done)), H', ⟨by first | omega | exact Nat.le_refl _⟩, ⟨by (with_reducible repeat (first | apply Kd.yh_ | apply Kd.yi_ | apply Kd.R_drew)); exact Kd.R_mono HO523.out (fun _ hk => hk.2)⟩, ⟨by (with_reducible repeat (first | apply Kd.yh_ | apply Kd.yi_ | apply Kd.R_drew)); exact Kd.R_mono HO526.out (fun _ hk => hk.2)⟩, ⟨by repeat (with_reducible first | exact HB.out | apply yc_ | apply ya_ | apply yb_)⟩⟩
 case rest =>
  clear HC5
  try clear c1
  try clear c2
  try clear p2
  try clear c3
  try clear c8
  try clear c8b0
  try clear c8b1
  try clear c9
  try clear c9b0
  try clear c9b1
  try clear c10
  try clear c10b0
  try clear c10b1
  obtain ⟨kq, x34_4, rfl, HA, HJ4, HO_6, HO_7, HB⟩ := hcut
  cases kq with
  | zero => exact absurd HA.out (by simp [yf_.j0])
  | succ kj4 =>
   have H := HA.out
   clear HA
   simp only [yf_.j0] at H
   by_cases c14 : x34_4 = true
   ·subst c14
    have H1 : (some (([] : List (S34)), 2)) = some (r1, r2) := by rw [if_pos rfl] at H; exact H
    clear H
    have H := H1
    clear H1
    simp only [Option.some.injEq, Prod.mk.injEq] at H
    obtain ⟨rfl, rfl⟩ := H
    go_wp2
    go_ret2
    exact ⟨_, by first | rfl | (simp [yu_, yv_] <;> rfl) | (simp [*, yu_, yv_] <;> rfl), by first | exact Kd.R_nil _ _ _ _ _ | exact Kd.N_nil _ _ _ _ _ | exact Kd.V_nil _ _ _ _ _ | exact Kd.Q_nil _ _ _ _ _ | exact Kd.S_nil _ _ _ _ _, by repeat (with_reducible first | exact HB.out | apply yc_ | apply ya_ | apply yb_)⟩
   ·replace c14 := Bool.eq_false_iff.mpr c14
    subst c14
    have H1 : ((yd_.f kj4 t521 t524).bind fun t527 => (yf_.l0 kj4 t527 ([] : List (S34)) 0 0)) = some (r1, r2) := by rw [if_neg (show ¬ (false = true) by decide)] at H; exact H
    clear H
    have H := H1
    clear H1
    replace H := Option.bind_eq_some_iff.mp H
    obtain ⟨t527, A150, H⟩ := H
    replace H : (yf_.l0 kj4 t527 ([] : List (S34)) 0 0) = some (r1, r2) := H
    have A15 := Aside0.mk A150
    clear A150
    have H' := Aside0.mk H
    clear H
    obtain ⟨Ao16, co16, eo16⟩ := Kd.yC_ HO_6.out
    subst eo16
    obtain ⟨Ao17, co17, eo17⟩ := Kd.yC_ HO_7.out
    subst eo17
    go_wp2_with (first | ((with_reducible refine ys_ (f := 46) rfl ?_); refine goesL_ (some 37) rfl rfl Tryd.func46 (by kernel_rfl) rfl #[.slice Ao16 t521.length co16, .slice Ao17 t524.length co17] rfl (by (try simp only [List.map_toArray, List.map_cons, List.map_nil]); first | done | rfl | (simp only [List.length_drop, List.length_take]; rfl)) ?_; (with_reducible refine (yd_.calls kj4 _ _ t521 _ _ t524 t527 _ ?side1 ?side2 ?side3 ?side4 A15.out).mono ?_); (case side1 => repeat (first | exact (Kd.yo_ HO_6.out).2.2 | (with_reducible refine Kd.yK_ ?_ _) | (with_reducible refine Kd.yR_ ?_ _) | (with_reducible refine Kd.C_drew ?_))); (case side2 => exact (Kd.yo_ HO_6.out).2.1); (case side3 => repeat (first | exact (Kd.yo_ HO_7.out).2.2 | (with_reducible refine Kd.yK_ ?_ _) | (with_reducible refine Kd.yR_ ?_ _) | (with_reducible refine Kd.C_drew ?_))); (case side4 => exact (Kd.yo_ HO_7.out).2.1); rintro e w18 ⟨v528, rfl, ho0, hb⟩; refine ⟨_, rfl, ?_⟩; have n0_ := Aside0.mk (Kd.yM_ (by (with_reducible repeat (first | apply Kd.yh_ | apply Kd.yi_ | apply Kd.R_drew)); exact HO_6.out) hb); have n1_ := Aside0.mk (Kd.yM_ (by (with_reducible repeat (first | apply Kd.yh_ | apply Kd.yi_ | apply Kd.R_drew)); exact HO_7.out) hb); have n2_ := Aside0.mk (Kd.yY_ ho0 (yk_ (by repeat (with_reducible first | exact HB.out | apply yc_ | apply ya_ | apply yb_)))); have n3_ := Aside0.mk (ym_ (by repeat (with_reducible first | exact HB.out | apply yc_ | apply ya_ | apply yb_)) hb); clear HO_6; clear HO_7; clear HB; have HO_6 := n0_; have HO_7 := n1_; have HO529 := n2_; have HB := n3_; clear n0_ n1_ n2_ n3_; (try clear hb); (try clear hb2); (try clear hk); (try clear hi); (try clear ho0)))
    try simp only [Act.put, List.setIfInBounds_toArray, List.set_cons_succ, List.set_cons_zero]
    go_loopg [9, 10, 11] kj4 (fun kq v9 v10 v11 w' => ∃ (x9_2 : List (S34)) (x10_2 : Int) (x11_2 : Int), v10 = .int .i64 x10_2 ∧ v11 = .int .i64 x11_2 ∧ Aside0 (yf_.l0 kq t527 x9_2 x10_2 x11_2 = some (r1, r2)) ∧ Aside0 (kq ≤ kj4) ∧ Aside0 (Kd.R k75 75 w' w.heap.size (fun _ => True) v528 t527) ∧ Aside0 (Kd.R k34 34 w' w.heap.size (fun _ => True) v9 x9_2) ∧ Aside0 (Below w.heap.size w w'))
    case atStart => exact ⟨(([] : List (S34))), (0), (0), (by first | rfl | (simp; done) | (simp [*]; done)), (by first | rfl | (simp; done) | (simp [*]; done)), H', ⟨Nat.le_refl _⟩, ⟨by (with_reducible repeat (first | apply Kd.yh_ | apply Kd.yi_ | apply Kd.R_drew)); exact HO529.out⟩, ⟨by first | exact Kd.R_nil _ _ _ _ _ | exact Kd.N_nil _ _ _ _ _ | exact Kd.V_nil _ _ _ _ _ | exact Kd.Q_nil _ _ _ _ _ | exact Kd.S_nil _ _ _ _ _⟩, ⟨by repeat (with_reducible first | exact HB.out | apply yc_ | apply ya_ | apply yb_)⟩⟩
    case round =>
     clear H'
     try clear c1
     try clear c2
     try clear p2
     try clear c3
     try clear c4
     try clear c8
     try clear c8b0
     try clear c8b1
     try clear c9
     try clear c9b0
     try clear c9b1
     try clear c10
     try clear c10b0
     try clear c10b1
     try clear c14
     try clear p2
     obtain ⟨x9_2, x10_2, x11_2, rfl, rfl, HA, HK2, HO_8, HO_9, HB⟩ := hrel
     cases gk with
     | zero => exact absurd HA.out (by simp [yf_.l0])
     | succ k2 =>
      have H := HA.out
      clear HA
      simp only [yf_.l0] at H
      by_cases c19 : x11_2 < (t527.length : Int)
      ·rw [if_pos c19] at H
       have c19b0 : decide (x11_2 < (t527.length : Int)) = true := decide_eq_true c19
       clear c19
       by_cases c20 : 0 ≤ x11_2
       ·rw [if_pos c20] at H
        have c20b0 : decide (0 ≤ x11_2) = true := decide_eq_true c20
        clear c20
        by_cases c21 : ((rd_T75 t527 x11_2).f0) = 32
        ·rw [if_pos c21] at H
         have c21b0 : (((rd_T75 t527 x11_2).f0) == 32) = true := beq_iff_eq.mpr c21
         have c21b1 : (((rd_T75 t527 x11_2).f0) != 32) = false := bne_eq_false_iff_eq.mpr c21
         clear c21
         have H' := Aside0.mk H
         clear H
         obtain ⟨Ao22, co22, eo22⟩ := Kd.yC_ HO_8.out
         subst eo22
         have p530 : 0 ≤ (x11_2 : Int) := of_decide_eq_true (by assumption)
         have q530 : x11_2 < (t527.length : Int) := of_decide_eq_true (by assumption)
         obtain ⟨ad530, e530, hx530_0, hx530_1⟩ := at_T75 (Kd.yo_ HO_8.out).2.2 x11_2 p530 q530
         cases e530
         replace p530 := eq_true p530
         replace q530 := eq_true q530
         have p531 : 0 ≤ (x11_2 : Int) := of_decide_eq_true (by assumption)
         have q531 : x11_2 < (t527.length : Int) := of_decide_eq_true (by assumption)
         obtain ⟨ad531, e531, hx531_0, hx531_1⟩ := at_T75 (Kd.yo_ HO_8.out).2.2 x11_2 p531 q531
         obtain rfl : ad530 = ad531 := (by injection e531)
         replace p531 := eq_true p531
         replace q531 := eq_true q531
         go_wp2
         go_roundg k2
         case measure => have := HJ4.out; have := HK2.out; omega
         case rel => exact ⟨(x9_2), (wrap64 (x10_2 + (((rd_T75 t527 x11_2).f1).size : Int))), (wrap64 (x11_2 + 1)), (by first | rfl | (simp; done) | (simp [*]; done)), (by first | rfl | (simp; done) | (simp [*]; done)), H', ⟨by have := HJ4.out; have := HK2.out; omega⟩, ⟨by (with_reducible repeat (first | apply Kd.yh_ | apply Kd.yi_ | apply Kd.R_drew)); exact HO_8.out⟩, ⟨by (with_reducible repeat (first | apply Kd.yh_ | apply Kd.yi_ | apply Kd.R_drew)); exact HO_9.out⟩, ⟨by repeat (with_reducible first | exact HB.out | apply yc_ | apply ya_ | apply yb_)⟩⟩
        ·rw [if_neg c21] at H
         have c21b0 : (((rd_T75 t527 x11_2).f0) == 32) = false := beq_eq_false_iff_ne.mpr c21
         have c21b1 : (((rd_T75 t527 x11_2).f0) != 32) = true := bne_iff_ne.mpr c21
         have H' := Aside0.mk H
         clear H
         obtain ⟨Ao23, co23, eo23⟩ := Kd.yC_ HO_8.out
         subst eo23
         have p530 : 0 ≤ (x11_2 : Int) := of_decide_eq_true (by assumption)
         have q530 : x11_2 < (t527.length : Int) := of_decide_eq_true (by assumption)
         obtain ⟨ad530, e530, hx530_0, hx530_1⟩ := at_T75 (Kd.yo_ HO_8.out).2.2 x11_2 p530 q530
         cases e530
         replace p530 := eq_true p530
         replace q530 := eq_true q530
         go_wp2_with (first | ((with_reducible refine yS_ (N := 12) rfl ?_); (try (refine yAb_ (by rfl) ?_; dsimp only)); refine ykb_ ?hg (N := 12) ?hd (cs := #[.int .i64 0, .int .i64 0, .string (⟨#[]⟩ : ByteArray)]) (t := 34) ?hr ?_; (case hd => rfl); (case hg => rfl); (case hr => first | (go_simp; done) | (go_simp; rfl)); intro gb532 hg w24 hbox hb; have n0_ := Aside0.mk (Kd.yM_ (by (with_reducible repeat (first | apply Kd.yh_ | apply Kd.yi_ | apply Kd.R_drew)); exact HO_8.out) hb); have n1_ := Aside0.mk (Kd.yM_ (Kd.R_elderB (by (with_reducible repeat (first | apply Kd.yh_ | apply Kd.yi_ | apply Kd.R_drew)); exact HO_9.out) gb532 (Nat.le_of_eq hg.symm)) hb); have n2_ := Aside0.mk (ym_ (by repeat (with_reducible first | exact HB.out | apply yc_ | apply ya_ | apply yb_)) hb); have n3_ := Aside0.mk (hbox); have n4_ := Aside0.mk ((by rw [hg]; exact (yk_ (by repeat (with_reducible first | exact HB.out | apply yc_ | apply ya_ | apply yb_))) : w.heap.size ≤ gb532)); have n5_ := Aside0.mk ((by rw [hg]; exact (yk_ (by repeat (with_reducible first | exact HB.out | apply yc_ | apply ya_ | apply yb_))) : w.heap.size ≤ gb532)); clear HO_8; clear HO_9; clear HB; have HO_8 := n0_; have HO_9 := n1_; have HB := n2_; have BK532 := n3_; have GW532 := n4_; have GE532 := n5_; clear n0_ n1_ n2_ n3_ n4_ n5_; clear hb hbox hg; have hcz25_0 : w24.cell? ⟨gb532, 0, none⟩ = some (.int .i64 0) := (yl_ BK532.out 0).trans rfl; have hcz25_1 : w24.cell? ⟨gb532, 1, none⟩ = some (.int .i64 0) := (yl_ BK532.out 1).trans rfl; have hcz25_2 : w24.cell? ⟨gb532, 2, none⟩ = some (.string (⟨#[]⟩ : ByteArray)) := (yl_ BK532.out 2).trans rfl; have hfz25_0 := yw_ BK532.out 0; have hfz25_1 := yw_ BK532.out 1; have hfz25_2 := yw_ BK532.out 2))
         try simp only [Act.put, List.setIfInBounds_toArray, List.set_cons_succ, List.set_cons_zero]
         go_loopg [11] k2 (fun kq v11 w' => ∃ (x11_3 : Int) (x533001_3 : Int) (x533002_3 : ByteArray), v11 = .int .i64 x11_3 ∧ Aside0 (yf_.l1 kq t527 x9_2 x11_3 x10_2 x533001_3 x533002_3 = some (r1, r2)) ∧ Aside0 (kq ≤ k2) ∧ Aside0 (Kd.R k75 75 w' w.heap.size (fun _ => True) (.slice (some ad530) t527.length co23) t527) ∧ Aside0 (Kd.R k34 34 w' w.heap.size (fun k_ => k_ ≠ gb532) u9 x9_2) ∧ Aside0 (w'.heap[gb532]? = some (.cells #[.int .i64 x10_2, .int .i64 x533001_3, .string x533002_3] 34 (0, 0))) ∧ Aside0 (Below w.heap.size w w'))
         case atStart => exact ⟨(x11_2), (x10_2), ((⟨#[]⟩ : ByteArray)), (by first | rfl | (simp; done) | (simp [*]; done)), H', ⟨Nat.le_refl _⟩, ⟨by (with_reducible repeat (first | apply Kd.yh_ | apply Kd.yi_ | apply Kd.R_drew)); exact Kd.R_mono (Kd.R_far (p := ⟨gb532, 2, none⟩) (Kd.R_far (p := ⟨gb532, 1, none⟩) (Kd.R_far (p := ⟨gb532, 0, none⟩) (Kd.yHb_ HO_8.out BK532.out (by decide)) (fun _ hk => hk.2) (.int .i64 x10_2)) (fun _ hk => hk.2) (.int .i64 x10_2)) (fun _ hk => hk.2) (.string (⟨#[]⟩ : ByteArray))) (fun _ hk => trivial)⟩, ⟨by (with_reducible repeat (first | apply Kd.yh_ | apply Kd.yi_ | apply Kd.R_drew)); exact Kd.R_mono (Kd.R_far (p := ⟨gb532, 2, none⟩) (Kd.R_far (p := ⟨gb532, 1, none⟩) (Kd.R_far (p := ⟨gb532, 0, none⟩) (Kd.R_mono HO_9.out (fun k_ hk => (⟨hk, hk.2⟩ : _ ∧ k_ ≠ gb532))) (fun _ hk => hk.2) (.int .i64 x10_2)) (fun _ hk => hk.2) (.int .i64 x10_2)) (fun _ hk => hk.2) (.string (⟨#[]⟩ : ByteArray))) (fun _ hk => hk.1.2)⟩, ⟨by (with_reducible repeat (first | refine yA_ ?_ _ | refine yB_ ?_ | refine yz_ ?_ _)); refine ylb_ (cs := #[.int .i64 x10_2, .int .i64 x10_2, .string (⟨#[]⟩ : ByteArray)]) ?_ 2 _ rfl; (with_reducible repeat (first | refine yA_ ?_ _ | refine yB_ ?_ | refine yz_ ?_ _)); refine ylb_ (cs := #[.int .i64 x10_2, .int .i64 0, .string (⟨#[]⟩ : ByteArray)]) ?_ 1 _ rfl; (with_reducible repeat (first | refine yA_ ?_ _ | refine yB_ ?_ | refine yz_ ?_ _)); refine ylb_ (cs := #[.int .i64 0, .int .i64 0, .string (⟨#[]⟩ : ByteArray)]) ?_ 0 _ rfl; (with_reducible repeat (first | refine yA_ ?_ _ | refine yB_ ?_ | refine yz_ ?_ _)); exact BK532.out⟩, ⟨by repeat (with_reducible first | exact HB.out | apply yc_ | apply ya_ | apply yb_ | refine yr_ ?_ GE532.out)⟩⟩
         case round =>
          clear H'
          try clear c1
          try clear c2
          try clear p2
          try clear c3
          try clear c4
          try clear p5
          try clear q5
          try clear hx5
          try clear p6
          try clear c8
          try clear c8b0
          try clear c8b1
          try clear c9
          try clear c9b0
          try clear c9b1
          try clear c10
          try clear c10b0
          try clear c10b1
          try clear c14
          try clear c19
          try clear c19b0
          try clear c20
          try clear c20b0
          try clear c21
          try clear c21b0
          try clear c21b1
          try clear c22
          try clear hcz25_0
          try clear hcz25_1
          try clear hcz25_2
          try clear hfz25_0
          try clear hfz25_1
          try clear hfz25_2
          try clear hx530_0
          try clear hx530_1
          try clear hx531_0
          try clear hx531_1
          try clear p2
          try clear p530
          try clear p531
          try clear q530
          try clear q531
          obtain ⟨x11_3, x533001_3, x533002_3, rfl, HA, HK3, HO_8, HO_9, BK532, HB⟩ := hrel
          cases gk with
          | zero => exact absurd HA.out (by simp [yf_.l1])
          | succ k3 =>
           have H := HA.out
           clear HA
           simp only [yf_.l1] at H
           have HC26 := Aside0.mk H
           clear H
           go_upto_region 13 with (fail)
           go_cut [72] (fun v72 wc => ∃ (kq : Nat) (x72_25 : Bool), v72 = .bool x72_25 ∧ Aside0 (yf_.j3 kq t527 x9_2 x11_3 x72_25 x10_2 x533001_3 x533002_3 = some (r1, r2)) ∧ Aside0 (kq ≤ k3) ∧ Aside0 (Kd.R k75 75 wc w.heap.size (fun _ => True) (.slice (some ad530) t527.length co23) t527) ∧ Aside0 (Kd.R k34 34 wc w.heap.size (fun k_ => k_ ≠ gb532) u9 x9_2) ∧ Aside0 (wc.heap[gb532]? = some (.cells #[.int .i64 x10_2, .int .i64 x533001_3, .string x533002_3] 34 (0, 0))) ∧ Aside0 (Below w.heap.size w wc))
           case first =>
            have H := HC26.out
            clear HC26
            by_cases c27 : x11_3 < (t527.length : Int)
            ·rw [if_pos c27] at H
             have c27b0 : decide (x11_3 < (t527.length : Int)) = true := decide_eq_true c27
             clear c27
             (first | rw [c27b0] | (simp only [i64_w, i32_w]; rw [c27b0]) | skip)
             by_cases c28 : 0 ≤ x11_3
             ·rw [if_pos c28] at H
              have c28b0 : decide (0 ≤ x11_3) = true := decide_eq_true c28
              clear c28
              have H' := Aside0.mk H
              clear H
              have p533 : 0 ≤ (x11_3 : Int) := of_decide_eq_true (by assumption)
              have q533 : x11_3 < (t527.length : Int) := of_decide_eq_true (by assumption)
              obtain ⟨ad533, e533, hx533_0, hx533_1⟩ := at_T75 (Kd.yo_ HO_8.out).2.2 x11_3 p533 q533
              obtain rfl : ad530 = ad533 := (by injection e533)
              replace p533 := eq_true p533
              replace q533 := eq_true q533
              go_wp2
              go_meet
              case rel => exact ⟨_, ((((rd_T75 t527 x11_3).f0) != 32)), (by first | rfl | (simp; done) | (simp [*]; done)), H', ⟨by have := HJ4.out; have := HK2.out; have := HK3.out; first | omega | exact Nat.le_refl _⟩, ⟨by (with_reducible repeat (first | apply Kd.yh_ | apply Kd.yi_ | apply Kd.R_drew)); exact HO_8.out⟩, ⟨by (with_reducible repeat (first | apply Kd.yh_ | apply Kd.yi_ | apply Kd.R_drew)); exact HO_9.out⟩, ⟨by (with_reducible repeat (first | refine yA_ ?_ _ | refine yB_ ?_ | refine yz_ ?_ _)); exact BK532.out⟩, ⟨by repeat (with_reducible first | exact HB.out | apply yc_ | apply ya_ | apply yb_ | refine yr_ ?_ GE532.out)⟩⟩
             ·rw [if_neg c28] at H
              exact absurd H (by simp)
            ·rw [if_neg c27] at H
             have c27b0 : decide (x11_3 < (t527.length : Int)) = false := decide_eq_false c27
             clear c27
             (first | rw [c27b0] | (simp only [i64_w, i32_w]; rw [c27b0]) | skip)
             have H' := Aside0.mk H
             clear H
             go_wp2
             go_meet
             case rel => exact ⟨_, (false), (by first | rfl | (simp; done) | (simp [*]; done)), H', ⟨by have := HJ4.out; have := HK2.out; have := HK3.out; first | omega | exact Nat.le_refl _⟩, ⟨by (with_reducible repeat (first | apply Kd.yh_ | apply Kd.yi_ | apply Kd.R_drew)); exact HO_8.out⟩, ⟨by (with_reducible repeat (first | apply Kd.yh_ | apply Kd.yi_ | apply Kd.R_drew)); exact HO_9.out⟩, ⟨by (with_reducible repeat (first | refine yA_ ?_ _ | refine yB_ ?_ | refine yz_ ?_ _)); exact BK532.out⟩, ⟨by repeat (with_reducible first | exact HB.out | apply yc_ | apply ya_ | apply yb_ | refine yr_ ?_ GE532.out)⟩⟩
           case rest =>
            clear HC26
            try clear c1
            try clear c2
            try clear p2
            try clear c3
            try clear c4
            try clear p5
            try clear q5
            try clear hx5
            try clear p6
            try clear c8
            try clear c8b0
            try clear c8b1
            try clear c9
            try clear c9b0
            try clear c9b1
            try clear c10
            try clear c10b0
            try clear c10b1
            try clear c14
            try clear c19
            try clear c19b0
            try clear c20
            try clear c20b0
            try clear c21
            try clear c21b0
            try clear c21b1
            try clear c22
            try clear c27
            try clear c27b0
            try clear c28
            try clear c28b0
            try clear hcz25_0
            try clear hcz25_1
            try clear hcz25_2
            try clear hfz25_0
            try clear hfz25_1
            try clear hfz25_2
            try clear hx530_0
            try clear hx530_1
            try clear hx531_0
            try clear hx531_1
            try clear hx533_0
            try clear hx533_1
            try clear p2
            try clear p5
            try clear p530
            try clear p531
            try clear p533
            try clear p6
            try clear q5
            try clear q530
            try clear q531
            try clear q533
            obtain ⟨kq, x72_25, rfl, HA, HJ25, HO_8, HO_9, BK532, HB⟩ := hcut
            cases kq with
            | zero => exact absurd HA.out (by simp [yf_.j3])
            | succ kj25 =>
             have H := HA.out
             clear HA
             simp only [yf_.j3] at H
             by_cases c29 : x72_25 = true
             ·subst c29
              have H1 : (if 0 ≤ x11_3 then (if x11_3 < (t527.length : Int) then (if ((rd_T75 t527 x11_3).f0) = 45 then (yf_.l1 kj25 t527 x9_2 (wrap64 (x11_3 + 1)) x10_2 (wrap64 (x533001_3 + (((rd_T75 t527 x11_3).f1).size : Int))) x533002_3) else (if x533002_3.size + ((rd_T75 t527 x11_3).f1).size ≤ 9223372036854775807 then (yf_.l1 kj25 t527 x9_2 (wrap64 (x11_3 + 1)) x10_2 x533001_3 (x533002_3 ++ ((rd_T75 t527 x11_3).f1))) else (none))) else (none)) else (none)) = some (r1, r2) := by rw [if_pos rfl] at H; exact H
              clear H
              have H := H1
              clear H1
              by_cases c30 : 0 ≤ x11_3
              ·rw [if_pos c30] at H
               have c30b0 : decide (0 ≤ x11_3) = true := decide_eq_true c30
               clear c30
               by_cases c31 : x11_3 < (t527.length : Int)
               ·rw [if_pos c31] at H
                have c31b0 : decide (x11_3 < (t527.length : Int)) = true := decide_eq_true c31
                clear c31
                by_cases c32 : ((rd_T75 t527 x11_3).f0) = 45
                ·rw [if_pos c32] at H
                 have c32b0 : (((rd_T75 t527 x11_3).f0) == 45) = true := beq_iff_eq.mpr c32
                 have c32b1 : (((rd_T75 t527 x11_3).f0) != 45) = false := bne_eq_false_iff_eq.mpr c32
                 clear c32
                 have H' := Aside0.mk H
                 clear H
                 have p534 : 0 ≤ (x11_3 : Int) := of_decide_eq_true (by assumption)
                 have q534 : x11_3 < (t527.length : Int) := of_decide_eq_true (by assumption)
                 obtain ⟨ad534, e534, hx534_0, hx534_1⟩ := at_T75 (Kd.yo_ HO_8.out).2.2 x11_3 p534 q534
                 obtain rfl : ad530 = ad534 := (by injection e534)
                 replace p534 := eq_true p534
                 replace q534 := eq_true q534
                 try go_wp2
                 have n0_ := Aside0.mk (Kd.R_drew HO_8.out)
                 have n1_ := Aside0.mk (Kd.R_drew HO_9.out)
                 have n2_ := Aside0.mk (yB_ BK532.out)
                 have n3_ := Aside0.mk (yb_ HB.out)
                 clear HO_8
                 clear HO_9
                 clear BK532
                 clear HB
                 have HO_8 := n0_
                 have HO_9 := n1_
                 have BK532 := n2_
                 have HB := n3_
                 clear n0_ n1_ n2_ n3_
                 have p535 : 0 ≤ (x11_3 : Int) := of_decide_eq_true (by assumption)
                 have q535 : x11_3 < (t527.length : Int) := of_decide_eq_true (by assumption)
                 obtain ⟨ad535, e535, hx535_0, hx535_1⟩ := at_T75 (Kd.yo_ HO_8.out).2.2 x11_3 p535 q535
                 obtain rfl : ad530 = ad535 := (by injection e535)
                 replace p535 := eq_true p535
                 replace q535 := eq_true q535
                 refine start_ (n := 11) (S := fun w' => w'.cell? ⟨gb532, 0, none⟩ = some (.int .i64 x10_2) ∧ w'.cell? ⟨gb532, 1, none⟩ = some (.int .i64 x533001_3) ∧ w'.cell? ⟨gb532, 2, none⟩ = some (.string x533002_3) ∧ w'.cell? (ad530.add ((x11_3).toNat * 2)) = some (.int .u8 ((rd_T75 t527 x11_3).f0)) ∧ w'.cell? ⟨(ad530.add ((x11_3).toNat * 2)).block, (ad530.add ((x11_3).toNat * 2)).off + 1, none⟩ = some (.string ((rd_T75 t527 x11_3).f1))) (ds := [10]) (bA 11 0) (by kernel_rfl) rfl rfl ⟨(yl_ BK532.out 0).trans rfl, (yl_ BK532.out 1).trans rfl, (yl_ BK532.out 2).trans rfl, hx535_0, hx535_1⟩ (fun hHeld => ?_); refine y9_ yf_.tab15 yf_.bits15 (fun HT_ HW_ => ?_)
                 generalize wc.drew = w33 at HO_8 HO_9 BK532 HB hx535_0 hx535_1 hHeld ⊢
                 refine pu_ 0 79 (bA 11 1) HT_ ?_
                 refine pu_ 2 81 (bA 11 5) HT_ ?_
                 refine pu_ 3 82 (bA 11 13) HT_ ?_
                 refine pu_ 4 83 (bA 11 29) HT_ ?_
                 refine pu_ 5 84 (bA 11 61) HT_ ?_
                 refine tk_ 1 80 (bA 11 63) rfl HT_ HW_ hHeld (by rintro w' ⟨s0, s1, s2, s3, s4⟩; go_simp; with_reducible rfl) ?_
                 refine tk_ 6 85 (bA 11 127) rfl HT_ HW_ hHeld (by rintro w' ⟨s0, s1, s2, s3, s4⟩; go_simp; with_reducible rfl) ?_
                 refine pu_ 7 86 (bA 11 255) HT_ ?_
                 refine pu_ 8 87 (bA 11 511) HT_ ?_
                 refine pu_ 9 88 (bA 11 1023) HT_ ?_
                 refine last_ (i := 10) (N := none) (bA 11 2047) rfl rfl (one_of HT_.out (by kernel_rfl)) (by decide) (fun K hK => ?_)
                 have hs34 : w33.cell? ⟨gb532, 1, none⟩ = some (.int .i64 x533001_3) := (yl_ BK532.out 1).trans rfl
                 have hfs34 := yw_ BK532.out 1
                 refine skip_ (w1 := ?_) (by rfl) rfl ?_ ?_
                 rotate_left
                 ·go_simp
                  rfl
                 refine hK.out _ _ ?_
                 clear hK K
                 refine done_ (yqb_ HT_.out (by kernel_rfl)) ?_
                 try go_wp2
                 go_roundg kj25
                 case measure => have := HJ4.out; have := HK2.out; have := HK3.out; have := HJ25.out; omega
                 case rel => exact ⟨(wrap64 (x11_3 + 1)), (wrap64 (x533001_3 + (((rd_T75 t527 x11_3).f1).size : Int))), (x533002_3), (by first | rfl | (simp; done) | (simp [*]; done)), H', ⟨by have := HJ4.out; have := HK2.out; have := HK3.out; have := HJ25.out; omega⟩, ⟨by (with_reducible repeat (first | apply Kd.yh_ | apply Kd.yi_ | apply Kd.R_drew)); exact Kd.R_mono (Kd.R_far (p := ⟨gb532, 1, none⟩) (Kd.yHb_ HO_8.out BK532.out (by decide)) (fun _ hk => hk.2) (.int .i64 (wrap64 (x533001_3 + (((rd_T75 t527 x11_3).f1).size : Int))))) (fun _ hk => trivial)⟩, ⟨by (with_reducible repeat (first | apply Kd.yh_ | apply Kd.yi_ | apply Kd.R_drew)); exact Kd.R_mono (Kd.R_far (p := ⟨gb532, 1, none⟩) (Kd.R_mono HO_9.out (fun k_ hk => (⟨hk, hk⟩ : _ ∧ k_ ≠ gb532))) (fun _ hk => hk.2) (.int .i64 (wrap64 (x533001_3 + (((rd_T75 t527 x11_3).f1).size : Int))))) (fun _ hk => hk.1)⟩, ⟨by (with_reducible repeat (first | refine yA_ ?_ _ | refine yB_ ?_ | refine yz_ ?_ _)); refine ylb_ (cs := #[.int .i64 x10_2, .int .i64 x533001_3, .string x533002_3]) ?_ 1 _ rfl; (with_reducible repeat (first | refine yA_ ?_ _ | refine yB_ ?_ | refine yz_ ?_ _)); exact BK532.out⟩, ⟨by repeat (with_reducible first | exact HB.out | apply yc_ | apply ya_ | apply yb_ | refine yr_ ?_ GE532.out)⟩⟩
                ·rw [if_neg c32] at H
                 have c32b0 : (((rd_T75 t527 x11_3).f0) == 45) = false := beq_eq_false_iff_ne.mpr c32
                 have c32b1 : (((rd_T75 t527 x11_3).f0) != 45) = true := bne_iff_ne.mpr c32
                 by_cases c35 : x533002_3.size + ((rd_T75 t527 x11_3).f1).size ≤ 9223372036854775807
                 ·rw [if_pos c35] at H
                  have c35b0 := eq_true c35
                  have c35b1 : decide (x533002_3.size + ((rd_T75 t527 x11_3).f1).size ≤ 9223372036854775807) = true := decide_eq_true c35
                  try have c35b2 : (9223372036854775807 < x533002_3.size + ((rd_T75 t527 x11_3).f1).size) = False := eq_false (Nat.not_lt.2 c35)
                  have H' := Aside0.mk H
                  clear H
                  have p534 : 0 ≤ (x11_3 : Int) := of_decide_eq_true (by assumption)
                  have q534 : x11_3 < (t527.length : Int) := of_decide_eq_true (by assumption)
                  obtain ⟨ad534, e534, hx534_0, hx534_1⟩ := at_T75 (Kd.yo_ HO_8.out).2.2 x11_3 p534 q534
                  obtain rfl : ad530 = ad534 := (by injection e534)
                  replace p534 := eq_true p534
                  replace q534 := eq_true q534
                  try go_wp2
                  have n0_ := Aside0.mk (Kd.R_drew HO_8.out)
                  have n1_ := Aside0.mk (Kd.R_drew HO_9.out)
                  have n2_ := Aside0.mk (yB_ BK532.out)
                  have n3_ := Aside0.mk (yb_ HB.out)
                  clear HO_8
                  clear HO_9
                  clear BK532
                  clear HB
                  have HO_8 := n0_
                  have HO_9 := n1_
                  have BK532 := n2_
                  have HB := n3_
                  clear n0_ n1_ n2_ n3_
                  have p536 : 0 ≤ (x11_3 : Int) := of_decide_eq_true (by assumption)
                  have q536 : x11_3 < (t527.length : Int) := of_decide_eq_true (by assumption)
                  obtain ⟨ad536, e536, hx536_0, hx536_1⟩ := at_T75 (Kd.yo_ HO_8.out).2.2 x11_3 p536 q536
                  obtain rfl : ad530 = ad536 := (by injection e536)
                  replace p536 := eq_true p536
                  replace q536 := eq_true q536
                  refine start_ (n := 10) (S := fun w' => w'.cell? ⟨gb532, 0, none⟩ = some (.int .i64 x10_2) ∧ w'.cell? ⟨gb532, 1, none⟩ = some (.int .i64 x533001_3) ∧ w'.cell? ⟨gb532, 2, none⟩ = some (.string x533002_3) ∧ w'.cell? (ad530.add ((x11_3).toNat * 2)) = some (.int .u8 ((rd_T75 t527 x11_3).f0)) ∧ w'.cell? ⟨(ad530.add ((x11_3).toNat * 2)).block, (ad530.add ((x11_3).toNat * 2)).off + 1, none⟩ = some (.string ((rd_T75 t527 x11_3).f1))) (ds := [9]) (bA 10 0) (by kernel_rfl) rfl rfl ⟨(yl_ BK532.out 0).trans rfl, (yl_ BK532.out 1).trans rfl, (yl_ BK532.out 2).trans rfl, hx536_0, hx536_1⟩ (fun hHeld => ?_); refine y9_ yf_.tab16 yf_.bits16 (fun HT_ HW_ => ?_)
                  generalize wc.drew = w36 at HO_8 HO_9 BK532 HB hx536_0 hx536_1 hHeld ⊢
                  refine pu_ 0 89 (bA 10 1) HT_ ?_
                  refine pu_ 2 91 (bA 10 5) HT_ ?_
                  refine pu_ 3 92 (bA 10 13) HT_ ?_
                  refine pu_ 4 93 (bA 10 29) HT_ ?_
                  refine pu_ 5 94 (bA 10 61) HT_ ?_
                  refine tk_ 1 90 (bA 10 63) rfl HT_ HW_ hHeld (by rintro w' ⟨s0, s1, s2, s3, s4⟩; go_simp; with_reducible rfl) ?_
                  refine tk_ 6 95 (bA 10 127) rfl HT_ HW_ hHeld (by rintro w' ⟨s0, s1, s2, s3, s4⟩; go_simp; with_reducible rfl) ?_
                  refine pu_ 7 96 (bA 10 255) HT_ ?_
                  refine pu_ 8 97 (bA 10 511) HT_ ?_
                  refine last_ (i := 9) (N := none) (bA 10 1023) rfl rfl (one_of HT_.out (by kernel_rfl)) (by decide) (fun K hK => ?_)
                  have hs37 : w36.cell? ⟨gb532, 2, none⟩ = some (.string x533002_3) := (yl_ BK532.out 2).trans rfl
                  have hfs37 := yw_ BK532.out 2
                  refine skip_ (w1 := ?_) (by rfl) rfl ?_ ?_
                  rotate_left
                  ·go_simp
                   rfl
                  refine hK.out _ _ ?_
                  clear hK K
                  refine done_ (yqb_ HT_.out (by kernel_rfl)) ?_
                  try go_wp2
                  go_roundg kj25
                  case measure => have := HJ4.out; have := HK2.out; have := HK3.out; have := HJ25.out; omega
                  case rel => exact ⟨(wrap64 (x11_3 + 1)), (x533001_3), (x533002_3 ++ ((rd_T75 t527 x11_3).f1)), (by first | rfl | (simp; done) | (simp [*]; done)), H', ⟨by have := HJ4.out; have := HK2.out; have := HK3.out; have := HJ25.out; omega⟩, ⟨by (with_reducible repeat (first | apply Kd.yh_ | apply Kd.yi_ | apply Kd.R_drew)); exact Kd.R_mono (Kd.R_far (p := ⟨gb532, 2, none⟩) (Kd.yHb_ HO_8.out BK532.out (by decide)) (fun _ hk => hk.2) (.string (x533002_3 ++ ((rd_T75 t527 x11_3).f1)))) (fun _ hk => trivial)⟩, ⟨by (with_reducible repeat (first | apply Kd.yh_ | apply Kd.yi_ | apply Kd.R_drew)); exact Kd.R_mono (Kd.R_far (p := ⟨gb532, 2, none⟩) (Kd.R_mono HO_9.out (fun k_ hk => (⟨hk, hk⟩ : _ ∧ k_ ≠ gb532))) (fun _ hk => hk.2) (.string (x533002_3 ++ ((rd_T75 t527 x11_3).f1)))) (fun _ hk => hk.1)⟩, ⟨by (with_reducible repeat (first | refine yA_ ?_ _ | refine yB_ ?_ | refine yz_ ?_ _)); refine ylb_ (cs := #[.int .i64 x10_2, .int .i64 x533001_3, .string x533002_3]) ?_ 2 _ rfl; (with_reducible repeat (first | refine yA_ ?_ _ | refine yB_ ?_ | refine yz_ ?_ _)); exact BK532.out⟩, ⟨by repeat (with_reducible first | exact HB.out | apply yc_ | apply ya_ | apply yb_ | refine yr_ ?_ GE532.out)⟩⟩
                 ·rw [if_neg c35] at H
                  exact absurd H (by simp)
               ·rw [if_neg c31] at H
                exact absurd H (by simp)
              ·rw [if_neg c30] at H
               exact absurd H (by simp)
             ·replace c29 := Bool.eq_false_iff.mpr c29
              subst c29
              have H1 : (if x9_2.length < 4398046511104 then (yf_.l0 kj25 t527 (x9_2 ++ [(⟨x10_2, x533001_3, x533002_3⟩ : S34)]) x533001_3 x11_3) else (none)) = some (r1, r2) := by rw [if_neg (show ¬ (false = true) by decide)] at H; exact H
              clear H
              have H := H1
              clear H1
              by_cases c38 : x9_2.length < 4398046511104
              ·rw [if_pos c38] at H
               have LMc38 := Aside0.mk c38
               clear c38
               obtain ⟨y537, hy537⟩ : ∃ y_ : List (S34), y_ = (x9_2 ++ [(⟨x10_2, x533001_3, x533002_3⟩ : S34)]) := ⟨_, rfl⟩
               replace H : (yf_.l0 kj25 t527 y537 x533001_3 x11_3) = some (r1, r2) := by first | (rw [hy537]; with_reducible exact H) | (have H2_ := (Option.bind_some _ _).symm.trans H; rw [hy537]; with_reducible exact H2_) | (have H2_ := (Option.bind_some _ _).symm.trans H; with_reducible exact H2_) | with_reducible exact H | (rw [hy537]; exact H) | exact H
               have Ny537 := Aside0.mk hy537
               clear hy537
               have H' := Aside0.mk H
               clear H
               have hcz39_0 : wc.cell? ⟨gb532, 0, none⟩ = some (.int .i64 x10_2) := (yl_ BK532.out 0).trans rfl
               have hcz39_1 : wc.cell? ⟨gb532, 1, none⟩ = some (.int .i64 x533001_3) := (yl_ BK532.out 1).trans rfl
               have hcz39_2 : wc.cell? ⟨gb532, 2, none⟩ = some (.string x533002_3) := (yl_ BK532.out 2).trans rfl
               have hfz39_0 := yw_ BK532.out 0
               have hfz39_1 := yw_ BK532.out 1
               have hfz39_2 := yw_ BK532.out 2
               go_wp2_with (first | ((with_reducible refine yD_ (b := .append) (xs := #[.tmp 102, .tmp 104]) rfl ?_); (try (refine yAb_ (by rfl) ?_; dsimp only)); at_builtin; refine Kd.y0_ k34 (w0 := w) w.heap.size rfl (.tmp 102) (.tmp 104) 22 34 (.agg #[(.int .i64 0), (.int .i64 0), (.string ⟨#[]⟩)]) 32 rfl Tryd.underlying22 info34 rfl (by decide) (by omega) u9 x9_2 (⟨x10_2, x533001_3, x533002_3⟩ : S34) [.int .i64 x10_2, .int .i64 x533001_3, .string x533002_3] (fun k_ => k_ ≠ gb532) (fun _ => False) rfl rfl ?aP (fun _ hk => hk.elim) ?aF ?aO ?aB ?aS ?aL ?_; (case aP => exact yJb_ _ _ _ (⟨x10_2, x533001_3, x533002_3⟩ : S34)); (case aB => exact (by repeat (with_reducible first | exact HB.out | apply yc_ | apply ya_ | apply yb_ | refine yr_ ?_ GE532.out))); (case aF => exact (fun k_ hk => Kd.freshB (g := gb532) (o := .cells #[.int .i64 x10_2, .int .i64 x533001_3, .string x533002_3] 34 (0, 0)) (by (with_reducible repeat (first | refine yA_ ?_ _ | refine yB_ ?_ | refine yz_ ?_ _)); exact BK532.out) k_ hk)); (case aO => exact (by (with_reducible repeat (first | apply Kd.yh_ | apply Kd.yi_ | apply Kd.R_drew)); exact HO_9.out)); (case aS => exact (yk_ (by repeat (with_reducible first | exact HB.out | apply yc_ | apply ya_ | apply yb_ | refine yr_ ?_ GE532.out)))); (case aL => have := LMc38.out; omega); intro v538 w40 ho hb hg hat; rw [← Ny537.out] at ho; have n0_ := Aside0.mk (Kd.yhb_ (by (with_reducible repeat (first | apply Kd.yh_ | apply Kd.yi_ | apply Kd.R_drew)); exact HO_8.out) (Kd.yU_ (by (with_reducible repeat (first | apply Kd.yh_ | apply Kd.yi_ | apply Kd.R_drew)); exact HO_9.out)) (by decide) hg); have n1_ := Aside0.mk (y1b_ (g := gb532) (o := .cells #[.int .i64 x10_2, .int .i64 x533001_3, .string x533002_3] 34 (0, 0)) (by (with_reducible repeat (first | refine yA_ ?_ _ | refine yB_ ?_ | refine yz_ ?_ _)); exact BK532.out) hg (Kd.R_away HO_9.out (fun _ hk => hk))); have n2_ := Aside0.mk (hb); have n3_ := Aside0.mk (ho); clear HO_8; clear BK532; clear HB; clear HO_9; have HO_8 := n0_; have BK532 := n1_; have HB := n2_; have HO539 := n3_; clear n0_ n1_ n2_ n3_; clear ho hb hg hat))
               go_roundg kj25
               case measure => have := HJ4.out; have := HK2.out; have := HK3.out; have := HJ25.out; omega
               case rel => exact ⟨(y537), (x533001_3), (x11_3), (by first | rfl | (simp; done) | (simp [*]; done)), (by first | rfl | (simp; done) | (simp [*]; done)), H', ⟨by have := HJ4.out; have := HK2.out; have := HK3.out; have := HJ25.out; omega⟩, ⟨by (with_reducible repeat (first | apply Kd.yh_ | apply Kd.yi_ | apply Kd.R_drew)); exact HO_8.out⟩, ⟨by (with_reducible repeat (first | apply Kd.yh_ | apply Kd.yi_ | apply Kd.R_drew)); exact Kd.R_mono HO539.out (fun _ hk => trivial)⟩, ⟨by repeat (with_reducible first | exact HB.out | apply yc_ | apply ya_ | apply yb_ | refine yr_ ?_ GE532.out)⟩⟩
              ·rw [if_neg c38] at H
               exact absurd H (by simp)
       ·rw [if_neg c20] at H
        exact absurd H (by simp)
      ·rw [if_neg c19] at H
       have c19b0 : decide (x11_2 < (t527.length : Int)) = false := decide_eq_false c19
       clear c19
       simp only [Option.some.injEq, Prod.mk.injEq] at H
       obtain ⟨rfl, rfl⟩ := H
       obtain ⟨Ao41, co41, eo41⟩ := Kd.yC_ HO_8.out
       subst eo41
       go_wp2
       go_ret2
       exact ⟨_, by first | rfl | (simp [yu_, yv_] <;> rfl) | (simp [*, yu_, yv_] <;> rfl), by (with_reducible repeat (first | apply Kd.yh_ | apply Kd.yi_ | apply Kd.R_drew)); exact HO_9.out, by repeat (with_reducible first | exact HB.out | apply yc_ | apply ya_ | apply yb_)⟩

end Go.Proofs.YthimblhfjfngiaaDoor.PText

