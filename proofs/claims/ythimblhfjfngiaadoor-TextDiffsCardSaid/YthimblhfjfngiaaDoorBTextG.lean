/- Chapter 01: what the claims share. Part 7 of 24. -/
import Derived.Test.YthimblhfjfngiaaDoorBTextF
namespace Go.Proofs.YthimblhfjfngiaaDoor.PText
open Go.RowKit Go.Proofs.YthimblhfjfngiaaDoorW.PrintWords Go.Proofs.YthimblhfjfngiaaDoorW.PrintLast Go.Proofs.YthimblhfjfngiaaDoorW.PrintMore
attribute [local go_sem] y1_ y2_ ycb_ ydb_ yV_ yW_ y3_ y4_   -- for this text's walks alone
set_option linter.unusedVariables false
set_option linter.unusedSimpArgs false

mutual
def yj_.l0 : Nat → List ByteArray → List ByteArray → Int → List Int → Int → Option ((List (S78)))
 | 0, _, _, _, _, _ => none
 | k + 1, x0, x1, x5, x6, x7 => if x7 ≥ 0 then (yj_.l1 k x0 x1 x5 x6 x7 (wrap64 ((x1.length : Int) - 1))) else (yj_.l2 k x0 x1 x5 x6 ([] : List (S78)) 0 0)
def yj_.l1 : Nat → List ByteArray → List ByteArray → Int → List Int → Int → Int → Option ((List (S78)))
 | 0, _, _, _, _, _, _ => none
 | k + 1, x0, x1, x5, x6, x7, x8 => if x8 ≥ 0 then (if 0 ≤ x7 then (if x7 < (x0.length : Int) then (if 0 ≤ x8 then (if x8 < (x1.length : Int) then (if (rdOf ByteArray.empty x0 x7).toList = (rdOf ByteArray.empty x1 x8).toList then (if 0 ≤ (wrap64 ((wrap64 ((wrap64 ((wrap64 (x7 + 1)) * x5)) + x8)) + 1)) then (if (wrap64 ((wrap64 ((wrap64 ((wrap64 (x7 + 1)) * x5)) + x8)) + 1)) < (x6.length : Int) then (if 0 ≤ (wrap64 ((wrap64 (x7 * x5)) + x8)) then (if (wrap64 ((wrap64 (x7 * x5)) + x8)) < (x6.length : Int) then (yj_.l1 k x0 x1 x5 (x6.set ((wrap64 ((wrap64 (x7 * x5)) + x8)) : Int).toNat (wrap64 ((rd x6 (wrap64 ((wrap64 ((wrap64 ((wrap64 (x7 + 1)) * x5)) + x8)) + 1))) + 1))) x7 (wrap64 (x8 - 1))) else (none)) else (none)) else (none)) else (none)) else (if 0 ≤ (wrap64 ((wrap64 ((wrap64 (x7 + 1)) * x5)) + x8)) then (if (wrap64 ((wrap64 ((wrap64 (x7 + 1)) * x5)) + x8)) < (x6.length : Int) then (if 0 ≤ (wrap64 ((wrap64 ((wrap64 (x7 * x5)) + x8)) + 1)) then (if (wrap64 ((wrap64 ((wrap64 (x7 * x5)) + x8)) + 1)) < (x6.length : Int) then (if 0 ≤ (wrap64 ((wrap64 (x7 * x5)) + x8)) then (if (wrap64 ((wrap64 (x7 * x5)) + x8)) < (x6.length : Int) then (yj_.l1 k x0 x1 x5 (x6.set ((wrap64 ((wrap64 (x7 * x5)) + x8)) : Int).toNat (mx (rd x6 (wrap64 ((wrap64 ((wrap64 (x7 + 1)) * x5)) + x8))) (rd x6 (wrap64 ((wrap64 ((wrap64 (x7 * x5)) + x8)) + 1))))) x7 (wrap64 (x8 - 1))) else (none)) else (none)) else (none)) else (none)) else (none)) else (none))) else (none)) else (none)) else (none)) else (none)) else (yj_.l0 k x0 x1 x5 x6 (wrap64 (x7 - 1)))
def yj_.l2 : Nat → List ByteArray → List ByteArray → Int → List Int → List (S78) → Int → Int → Option ((List (S78)))
 | 0, _, _, _, _, _, _, _ => none
 | k + 1, x0, x1, x5, x6, x9, x10, x11 => if x10 < (x0.length : Int) then (yj_.j3 k x0 x1 x5 x6 x9 x10 x11 true) else (yj_.j3 k x0 x1 x5 x6 x9 x10 x11 (decide (x11 < (x1.length : Int))))
def yj_.j3 : Nat → List ByteArray → List ByteArray → Int → List Int → List (S78) → Int → Int → Bool → Option ((List (S78)))
 | 0, _, _, _, _, _, _, _, _ => none
 | k + 1, x0, x1, x5, x6, x9, x10, x11, x97 => if x97 = true then (if x10 < (x0.length : Int) then (if x11 < (x1.length : Int) then (if 0 ≤ x10 then (if 0 ≤ x11 then (yj_.j4 k x0 x1 x5 x6 x9 x10 x11 ((rdOf ByteArray.empty x0 x10).toList == (rdOf ByteArray.empty x1 x11).toList)) else (none)) else (none)) else (yj_.j4 k x0 x1 x5 x6 x9 x10 x11 false)) else (yj_.j4 k x0 x1 x5 x6 x9 x10 x11 false)) else (some x9)
def yj_.j4 : Nat → List ByteArray → List ByteArray → Int → List Int → List (S78) → Int → Int → Bool → Option ((List (S78)))
 | 0, _, _, _, _, _, _, _, _ => none
 | k + 1, x0, x1, x5, x6, x9, x10, x11, x108 => if x108 = true then (if 0 ≤ x10 then (if x10 < (x0.length : Int) then (if x9.length < 5864062014805 then (yj_.l2 k x0 x1 x5 x6 (x9 ++ [(⟨32, rdOf ByteArray.empty x0 x10⟩ : S78)]) (wrap64 (x10 + 1)) (wrap64 (x11 + 1))) else (none)) else (none)) else (none)) else (if x10 < (x0.length : Int) then (if x11 = (x1.length : Int) then (if 0 ≤ x10 then (if x9.length < 5864062014805 then (yj_.l2 k x0 x1 x5 x6 (x9 ++ [(⟨45, rdOf ByteArray.empty x0 x10⟩ : S78)]) (wrap64 (x10 + 1)) x11) else (none)) else (none)) else (if 0 ≤ (wrap64 ((wrap64 ((wrap64 (x10 + 1)) * x5)) + x11)) then (if (wrap64 ((wrap64 ((wrap64 (x10 + 1)) * x5)) + x11)) < (x6.length : Int) then (if 0 ≤ (wrap64 ((wrap64 ((wrap64 (x10 * x5)) + x11)) + 1)) then (if (wrap64 ((wrap64 ((wrap64 (x10 * x5)) + x11)) + 1)) < (x6.length : Int) then (if (rd x6 (wrap64 ((wrap64 ((wrap64 (x10 + 1)) * x5)) + x11))) ≥ (rd x6 (wrap64 ((wrap64 ((wrap64 (x10 * x5)) + x11)) + 1))) then (if 0 ≤ x10 then (if x9.length < 5864062014805 then (yj_.l2 k x0 x1 x5 x6 (x9 ++ [(⟨45, rdOf ByteArray.empty x0 x10⟩ : S78)]) (wrap64 (x10 + 1)) x11) else (none)) else (none)) else (if 0 ≤ x11 then (if x11 < (x1.length : Int) then (if x9.length < 5864062014805 then (yj_.l2 k x0 x1 x5 x6 (x9 ++ [(⟨43, rdOf ByteArray.empty x1 x11⟩ : S78)]) x10 (wrap64 (x11 + 1))) else (none)) else (none)) else (none))) else (none)) else (none)) else (none)) else (none))) else (if 0 ≤ x11 then (if x11 < (x1.length : Int) then (if x9.length < 5864062014805 then (yj_.l2 k x0 x1 x5 x6 (x9 ++ [(⟨43, rdOf ByteArray.empty x1 x11⟩ : S78)]) x10 (wrap64 (x11 + 1))) else (none)) else (none)) else (none)))
end
def yj_.f (k : Nat) (l0 : List ByteArray) (l1 : List ByteArray) : Option ((List (S78))) := if 0 ≤ (wrap64 ((wrap64 ((l0.length : Int) + 1)) * (wrap64 ((l1.length : Int) + 1)))) then (if (wrap64 ((wrap64 ((l0.length : Int) + 1)) * (wrap64 ((l1.length : Int) + 1))) : Int).toNat ≤ 35184372088832 then (yj_.l0 k l0 l1 (wrap64 ((l1.length : Int) + 1)) (List.replicate (wrap64 ((wrap64 ((l0.length : Int) + 1)) * (wrap64 ((l1.length : Int) + 1))) : Int).toNat 0) (wrap64 ((l0.length : Int) - 1))) else (none)) else (none)
def yj_.T9 : Bool × List (List Nat × List Nat) := (true, [([], []), ([], []), ([0, 1], [0, 1]), ([2], [2]), ([], []), ([], []), ([4, 5], [4, 5]), ([6], [6]), ([3, 7], [3, 7])])
def yj_.B9 : List Nat := [0, 0, 3, 7, 0, 0, 48, 112, 255]
theorem yj_.tab9 : rtab .any (opsOf Tryd.f61 9) = yj_.T9 := by kernel_rfl
theorem yj_.bits9 : waitsOk yj_.T9.2 yj_.B9 = true := by kernel_rfl
def yj_.T11 : Bool × List (List Nat × List Nat) := (true, [([], []), ([], []), ([], []), ([1, 2], [1, 2]), ([], []), ([3, 4], [3, 4]), ([], []), ([], []), ([7], [7]), ([], []), ([8, 9], [8, 9]), ([], []), ([10, 11], [10, 11]), ([6, 12], [6, 12]), ([13], [13]), ([], []), ([], []), ([], []), ([16, 17], [16, 17]), ([], []), ([18, 19], [18, 19]), ([20], [20]), ([15, 21], [15, 21]), ([22], [22]), ([14, 23], [14, 23]), ([0, 5, 0, 1, 2, 3, 4, 5, 6, 7, 8, 9, 10, 11, 12, 13, 14, 15, 16, 17, 18, 19, 20, 21, 22, 23, 24], [0, 5]), ([25, 24, 0, 1, 2, 3, 4, 5, 6, 7, 8, 9, 10, 11, 12, 13, 14, 15, 16, 17, 18, 19, 20, 21, 22, 23, 24], [24, 25])])
def yj_.B11 : List Nat := [0, 0, 0, 6, 0, 30, 0, 0, 128, 0, 896, 0, 3968, 8128, 16320, 0, 0, 0, 196608, 0, 983040, 2031616, 4161536, 8355840, 16777152, 33554431, 67108863]
theorem yj_.tab11 : rtab .any (opsOf Tryd.f61 11) = yj_.T11 := by kernel_rfl
theorem yj_.bits11 : waitsOk yj_.T11.2 yj_.B11 = true := by kernel_rfl
def yj_.T17 : Bool × List (List Nat × List Nat) := (true, [([], []), ([], []), ([1], [1]), ([0, 2], [0, 2]), ([3], [3]), ([4], [4]), ([4], [4]), ([6, 4], [4, 6]), ([5, 7, 4], [4, 5, 7]), ([4, 8], [4, 8]), ([9, 4], [9]), ([10], [10]), ([10], [10]), ([11, 12, 10], [10, 11, 12]), ([13, 10], [10, 13]), ([10], [10]), ([10], [10]), ([15, 16, 10], [10, 15, 16]), ([17, 10], [10, 17]), ([14, 18, 10], [10, 14, 18]), ([10, 19], [10, 19]), ([20, 10], [20])])
def yj_.B17 : List Nat := [0, 0, 2, 7, 15, 31, 31, 95, 255, 511, 1023, 2047, 2047, 8191, 16383, 2047, 2047, 100351, 231423, 524287, 1048575, 2097151]
theorem yj_.tab17 : rtab .any (opsOf Tryd.f61 17) = yj_.T17 := by kernel_rfl
theorem yj_.bits17 : waitsOk yj_.T17.2 yj_.B17 = true := by kernel_rfl
def yj_.T21 : Bool × List (List Nat × List Nat) := (true, [([], []), ([], []), ([1], [1]), ([0, 2], [0, 2]), ([3], [3]), ([4], [4]), ([4], [4]), ([6, 4], [4, 6]), ([5, 7, 4], [4, 5, 7]), ([8, 4, 4], [4, 8]), ([9], [9]), ([9], [9]), ([11, 9], [9, 11]), ([9], [9]), ([12, 13, 9], [9, 12, 13]), ([9], [9]), ([14, 15, 9], [9, 14, 15]), ([10, 16, 9], [9, 10, 16]), ([17, 9], [9, 17]), ([9], [9]), ([9], [9]), ([9], [9]), ([20, 21, 9], [9, 20, 21]), ([9], [9]), ([22, 23, 9], [9, 22, 23]), ([24, 9], [9, 24]), ([19, 25, 9], [9, 19, 25]), ([26, 9], [9, 26]), ([18, 27, 9], [9, 18, 27]), ([9, 28, 4], [4, 9, 28]), ([4, 29], [4, 29]), ([30, 9], [30])])
def yj_.B21 : List Nat := [0, 0, 2, 7, 15, 31, 31, 95, 255, 511, 1023, 1023, 3071, 1023, 15359, 1023, 64511, 131071, 262143, 1023, 1023, 1023, 3146751, 1023, 15729663, 32506879, 66585599, 133694463, 268435455, 536870911, 1073741823, 2147483647]
theorem yj_.tab21 : rtab .any (opsOf Tryd.f61 21) = yj_.T21 := by kernel_rfl
theorem yj_.bits21 : waitsOk yj_.T21.2 yj_.B21 = true := by kernel_rfl
set_option maxHeartbeats 8000000 in
set_option maxRecDepth 100000 in
theorem yj_.calls (k : Nat) (A0 : Option Addr) (c0 : Nat) (l0 : List ByteArray) (A1 : Option Addr) (c1 : Nat) (l1 : List ByteArray) (r : List (S78)) (w : World) (hr0 : Kd.C Kd.string w A0 l0.length l0) (hc0 : l0.length ≤ c0) (hr1 : Kd.C Kd.string w A1 l1.length l1) (hc1 : l1.length ≤ c1) (h : yj_.f k l0 l1 = some r) :
  Calls Tryd.prog 61 #[.slice A0 l0.length c0, .slice A1 l1.length c1] w fun e w' => ∃ v0_ : Value, e = .returned (v0_) ∧ Kd.R k78 78 w' w.heap.size (fun _ => True) v0_ r ∧ Below w.heap.size w w' := by
 have hu78 := Tryd.underlying78
 have HR0 := Aside0.mk hr0
 have HC0 := Aside0.mk hc0
 clear hr0 hc0
 have HR1 := Aside0.mk hr1
 have HC1 := Aside0.mk hc1
 clear hr1 hc1
 have HB := Aside0.mk (Below.refl w.heap.size w)
 have H : (if 0 ≤ (wrap64 ((wrap64 ((l0.length : Int) + 1)) * (wrap64 ((l1.length : Int) + 1)))) then (if (wrap64 ((wrap64 ((l0.length : Int) + 1)) * (wrap64 ((l1.length : Int) + 1))) : Int).toNat ≤ 35184372088832 then (yj_.l0 k l0 l1 (wrap64 ((l1.length : Int) + 1)) (List.replicate (wrap64 ((wrap64 ((l0.length : Int) + 1)) * (wrap64 ((l1.length : Int) + 1))) : Int).toNat 0) (wrap64 ((l0.length : Int) - 1))) else (none)) else (none)) = some r := h
 clear h
 obtain ⟨ji3, hji3⟩ : ∃ j_ : Int, (wrap64 ((wrap64 ((l0.length : Int) + 1)) * (wrap64 ((l1.length : Int) + 1)))) = j_ := ⟨_, rfl⟩
 replace H : (if 0 ≤ (ji3) then (if (ji3 : Int).toNat ≤ 35184372088832 then (yj_.l0 k l0 l1 (wrap64 ((l1.length : Int) + 1)) (List.replicate (ji3 : Int).toNat 0) (wrap64 ((l0.length : Int) - 1))) else (none)) else (none)) = some r := by first | (rw [hji3] at H; exact H) | (simp only [hji3] at H ⊢; exact H)
 have hji3w : (IntKind.i64.wrap ((wrap64 ((l0.length : Int) + 1)) * (wrap64 ((l1.length : Int) + 1)))) = ji3 := (i64_w _).trans hji3
 by_cases c4 : 0 ≤ (ji3)
 ·rw [if_pos c4] at H
  have c4b0 := eq_true c4
  have c4b1 : decide (0 ≤ (ji3)) = true := decide_eq_true c4
  clear c4
  by_cases c5 : (ji3 : Int).toNat ≤ 35184372088832
  ·rw [if_pos c5] at H
   have c5b0 := eq_true c5
   have c5b1 : decide ((ji3 : Int).toNat ≤ 35184372088832) = true := decide_eq_true c5
   clear c5
   obtain ⟨y251, hy251⟩ : ∃ y_ : List Int, y_ = (List.replicate (ji3 : Int).toNat 0) := ⟨_, rfl⟩
   replace H : (yj_.l0 k l0 l1 (wrap64 ((l1.length : Int) + 1)) y251 (wrap64 ((l0.length : Int) - 1))) = some r := by first | (rw [hy251]; with_reducible exact H) | (have H2_ := (Option.bind_some _ _).symm.trans H; rw [hy251]; with_reducible exact H2_) | (have H2_ := (Option.bind_some _ _).symm.trans H; with_reducible exact H2_) | with_reducible exact H | (rw [hy251]; exact H) | exact H
   have Ny251 := Aside0.mk hy251
   clear hy251
   have H' := Aside0.mk H
   clear H
   go_enter Tryd.func61, Tryd.ntmps61
   go_wp2_with (first | ((with_reducible refine yS_ (N := 20) rfl ?_); (try (refine yAb_ (by rfl) ?_; dsimp only)); refine Kd.R_make (Kd.int .i64) _ 3 rfl (N := 20) rfl 100 _ _ rfl ji3 rfl rfl Tryd.underlying100 (.int .i64 0) 8 info3 rfl (by decide) (by omega) 0 (ok := fun _ => True) (okp := fun _ => True) rfl (fun _ hk => hk) trivial (of_decide_eq_true (by first | (with_reducible assumption) | assumption)) (Nat.le_trans (Nat.mul_le_mul_right _ (of_decide_eq_true (by first | (with_reducible assumption) | assumption) : ji3.toNat ≤ 35184372088832)) (by omega)) (Below.refl _ _) (Nat.le_refl _) ?_; intro v252 w6 ho7 hb hg_ hnew_; clear hg_ hnew_; (first | rw [← Ny251.out] at ho7 | (simp only [Int.reduceToNat] at ho7; rw [← Ny251.out] at ho7)); have n0_ := Aside0.mk (Kd.yY_ ho7 (yk_ (by repeat (first | (with_reducible first | exact HB.out | apply yc_ | apply ya_ | apply yb_) | exact HB.out)))); have n1_ := Aside0.mk (ym_ (by repeat (first | (with_reducible first | exact HB.out | apply yc_ | apply ya_ | apply yb_) | exact HB.out)) hb); clear HB; have HO253 := n0_; have HB := n1_; clear n0_ n1_; clear hb ho7))
   try simp only [Act.put, List.setIfInBounds_toArray, List.set_cons_succ, List.set_cons_zero]
   go_loopg [7] k (fun kq v7 w' => ∃ (x6_1 : List Int) (x7_1 : Int), v7 = .int .i64 x7_1 ∧ Aside0 (yj_.l0 kq l0 l1 (wrap64 ((l1.length : Int) + 1)) x6_1 x7_1 = some r) ∧ Aside0 (kq ≤ k) ∧ Aside0 (Kd.R (Kd.int .i64) 3 w' w.heap.size (fun _ => True) v252 x6_1) ∧ Aside0 (Below w.heap.size w w'))
   case atStart => exact ⟨(y251), (wrap64 ((l0.length : Int) - 1)), (by first | rfl | (simp; done) | (simp [*]; done)), H', ⟨Nat.le_refl _⟩, ⟨by (with_reducible repeat (first | apply Kd.yh_ | apply Kd.yi_ | apply Kd.R_drew)); exact HO253.out⟩, ⟨by repeat (first | (with_reducible first | exact HB.out | apply yc_ | apply ya_ | apply yb_) | exact HB.out)⟩⟩
   case round =>
    clear H'
    try clear c1
    try clear p2
    try clear c4
    try clear c4b0
    try clear c4b1
    try clear c5
    try clear c5b0
    try clear c5b1
    try clear c6
    try clear p6
    obtain ⟨x6_1, x7_1, rfl, HA, HK1, HO_6, HB⟩ := hrel
    cases gk with
    | zero => exact absurd HA.out (by simp [yj_.l0])
    | succ k1 =>
     have H := HA.out
     clear HA
     simp only [yj_.l0] at H
     by_cases c8 : x7_1 ≥ 0
     ·rw [if_pos c8] at H
      have c8b0 : decide (0 ≤ x7_1) = true := decide_eq_true c8
      clear c8
      have H' := Aside0.mk H
      clear H
      go_wp2
      try simp only [Act.put, List.setIfInBounds_toArray, List.set_cons_succ, List.set_cons_zero]
      go_loopg [8] k1 (fun kq v8 w' => ∃ (x6_2 : List Int) (x8_2 : Int), v8 = .int .i64 x8_2 ∧ Aside0 (yj_.l1 kq l0 l1 (wrap64 ((l1.length : Int) + 1)) x6_2 x7_1 x8_2 = some r) ∧ Aside0 (kq ≤ k1) ∧ Aside0 (Kd.R (Kd.int .i64) 3 w' w.heap.size (fun _ => True) v252 x6_2) ∧ Aside0 (Below w.heap.size w w'))
      case atStart => exact ⟨(x6_1), (wrap64 ((l1.length : Int) - 1)), (by first | rfl | (simp; done) | (simp [*]; done)), H', ⟨Nat.le_refl _⟩, ⟨by (with_reducible repeat (first | apply Kd.yh_ | apply Kd.yi_ | apply Kd.R_drew)); exact HO_6.out⟩, ⟨by repeat (first | (with_reducible first | exact HB.out | apply yc_ | apply ya_ | apply yb_) | exact HB.out)⟩⟩
      case round =>
       clear H'
       try clear c1
       try clear p2
       try clear c4
       try clear c4b0
       try clear c4b1
       try clear c5
       try clear c5b0
       try clear c5b1
       try clear c6
       try clear p6
       try clear c8
       try clear c8b0
       try clear p2
       try clear p6
       obtain ⟨x6_2, x8_2, rfl, HA, HK2, HO_6, HB⟩ := hrel
       cases gk with
       | zero => exact absurd HA.out (by simp [yj_.l1])
       | succ k2 =>
        have H := HA.out
        clear HA
        simp only [yj_.l1] at H
        by_cases c9 : x8_2 ≥ 0
        ·rw [if_pos c9] at H
         have c9b0 : decide (0 ≤ x8_2) = true := decide_eq_true c9
         clear c9
         by_cases c10 : 0 ≤ x7_1
         ·rw [if_pos c10] at H
          have c10b0 : decide (0 ≤ x7_1) = true := decide_eq_true c10
          clear c10
          by_cases c11 : x7_1 < (l0.length : Int)
          ·rw [if_pos c11] at H
           have c11b0 : decide (x7_1 < (l0.length : Int)) = true := decide_eq_true c11
           clear c11
           by_cases c12 : 0 ≤ x8_2
           ·rw [if_pos c12] at H
            have c12b0 : decide (0 ≤ x8_2) = true := decide_eq_true c12
            clear c12
            by_cases c13 : x8_2 < (l1.length : Int)
            ·rw [if_pos c13] at H
             have c13b0 : decide (x8_2 < (l1.length : Int)) = true := decide_eq_true c13
             clear c13
             by_cases c14 : (rdOf ByteArray.empty l0 x7_1).toList = (rdOf ByteArray.empty l1 x8_2).toList
             ·rw [if_pos c14] at H
              have c14b0 : ((rdOf ByteArray.empty l0 x7_1).toList == (rdOf ByteArray.empty l1 x8_2).toList) = true := beq_iff_eq.mpr c14
              have c14b1 : ((rdOf ByteArray.empty l0 x7_1).toList != (rdOf ByteArray.empty l1 x8_2).toList) = false := bne_eq_false_iff_eq.mpr c14
              clear c14
              obtain ⟨ji15, hji15⟩ : ∃ j_ : Int, (wrap64 ((wrap64 ((wrap64 ((wrap64 (x7_1 + 1)) * (wrap64 ((l1.length : Int) + 1)))) + x8_2)) + 1)) = j_ := ⟨_, rfl⟩
              replace H : (if 0 ≤ (ji15) then (if (ji15) < (x6_2.length : Int) then (if 0 ≤ (wrap64 ((wrap64 (x7_1 * (wrap64 ((l1.length : Int) + 1)))) + x8_2)) then (if (wrap64 ((wrap64 (x7_1 * (wrap64 ((l1.length : Int) + 1)))) + x8_2)) < (x6_2.length : Int) then (yj_.l1 k2 l0 l1 (wrap64 ((l1.length : Int) + 1)) (x6_2.set ((wrap64 ((wrap64 (x7_1 * (wrap64 ((l1.length : Int) + 1)))) + x8_2)) : Int).toNat (wrap64 ((rd x6_2 (ji15)) + 1))) x7_1 (wrap64 (x8_2 - 1))) else (none)) else (none)) else (none)) else (none)) = some r := by first | (rw [hji15] at H; exact H) | (simp only [hji15] at H ⊢; exact H)
              have hji15w : (IntKind.i64.wrap ((wrap64 ((wrap64 ((wrap64 (x7_1 + 1)) * (wrap64 ((l1.length : Int) + 1)))) + x8_2)) + 1)) = ji15 := (i64_w _).trans hji15
              by_cases c16 : 0 ≤ (ji15)
              ·rw [if_pos c16] at H
               have c16b0 : decide (0 ≤ (ji15)) = true := decide_eq_true c16
               clear c16
               by_cases c17 : (ji15) < (x6_2.length : Int)
               ·rw [if_pos c17] at H
                have c17b0 : decide ((ji15) < (x6_2.length : Int)) = true := decide_eq_true c17
                clear c17
                obtain ⟨ji18, hji18⟩ : ∃ j_ : Int, (wrap64 ((wrap64 (x7_1 * (wrap64 ((l1.length : Int) + 1)))) + x8_2)) = j_ := ⟨_, rfl⟩
                replace H : (if 0 ≤ (ji18) then (if (ji18) < (x6_2.length : Int) then (yj_.l1 k2 l0 l1 (wrap64 ((l1.length : Int) + 1)) (x6_2.set ((ji18) : Int).toNat (wrap64 ((rd x6_2 (ji15)) + 1))) x7_1 (wrap64 (x8_2 - 1))) else (none)) else (none)) = some r := by first | (rw [hji18] at H; exact H) | (simp only [hji18] at H ⊢; exact H)
                have hji18w : (IntKind.i64.wrap ((wrap64 (x7_1 * (wrap64 ((l1.length : Int) + 1)))) + x8_2)) = ji18 := (i64_w _).trans hji18
                by_cases c19 : 0 ≤ (ji18)
                ·rw [if_pos c19] at H
                 have c19b0 : decide (0 ≤ (ji18)) = true := decide_eq_true c19
                 clear c19
                 by_cases c20 : (ji18) < (x6_2.length : Int)
                 ·rw [if_pos c20] at H
                  have c20b0 : decide ((ji18) < (x6_2.length : Int)) = true := decide_eq_true c20
                  clear c20
                  obtain ⟨y257, hy257⟩ : ∃ y_ : List Int, y_ = (x6_2.set ((ji18) : Int).toNat (wrap64 ((rd x6_2 (ji15)) + 1))) := ⟨_, rfl⟩
                  replace H : (yj_.l1 k2 l0 l1 (wrap64 ((l1.length : Int) + 1)) y257 x7_1 (wrap64 (x8_2 - 1))) = some r := by first | (rw [hy257]; with_reducible exact H) | (have H2_ := (Option.bind_some _ _).symm.trans H; rw [hy257]; with_reducible exact H2_) | (have H2_ := (Option.bind_some _ _).symm.trans H; with_reducible exact H2_) | with_reducible exact H | (rw [hy257]; exact H) | exact H
                  have Ny257 := Aside0.mk hy257
                  clear hy257
                  have H' := Aside0.mk H
                  clear H
                  try go_wp2
                  have n0_ := Aside0.mk (Kd.R_drew HO_6.out)
                  have n1_ := Aside0.mk (yb_ HB.out)
                  clear HO_6
                  clear HB
                  have HO_6 := n0_
                  have HB := n1_
                  clear n0_ n1_
                  have p254 : 0 ≤ (x7_1 : Int) := of_decide_eq_true (by first | (with_reducible assumption) | assumption)
                  have q254 : x7_1 < (l0.length : Int) := of_decide_eq_true (by first | (with_reducible assumption) | assumption)
                  obtain ⟨ad254, e254, hx254_0⟩ := Kd.yL_ HR0.out x7_1 p254 q254
                  have hw254_0 := hx254_0
                  cases e254
                  replace hx254_0 := (HB.out.cell (World.block_lt_of_cell? w _ hx254_0)).trans hx254_0
                  replace p254 := eq_true p254
                  replace q254 := eq_true q254
                  have p255 : 0 ≤ (x8_2 : Int) := of_decide_eq_true (by first | (with_reducible assumption) | assumption)
                  have q255 : x8_2 < (l1.length : Int) := of_decide_eq_true (by first | (with_reducible assumption) | assumption)
                  obtain ⟨ad255, e255, hx255_0⟩ := Kd.yL_ HR1.out x8_2 p255 q255
                  have hw255_0 := hx255_0
                  cases e255
                  replace hx255_0 := (HB.out.cell (World.block_lt_of_cell? w _ hx255_0)).trans hx255_0
                  replace p255 := eq_true p255
                  replace q255 := eq_true q255
                  refine start_ (n := 9) (S := fun w' => w'.cell? (ad254.add (x7_1).toNat) = some (.string (rdOf ByteArray.empty l0 x7_1)) ∧ w'.cell? (ad255.add (x8_2).toNat) = some (.string (rdOf ByteArray.empty l1 x8_2))) (ds := []) #[false, false, false, false, false, false, false, false, false] (by kernel_rfl) rfl rfl ⟨((HB.out.cell (World.block_lt_of_cell? w _ hw254_0)).trans hw254_0), ((HB.out.cell (World.block_lt_of_cell? w _ hw255_0)).trans hw255_0)⟩ (fun hHeld => ?_); refine y9_ yj_.tab9 yj_.bits9 (fun HT_ HW_ => ?_)
                  generalize wr.drew = w22 at HO_6 HB hx254_0 hx255_0 hHeld ⊢
                  refine pu_ 0 35 #[true, false, false, false, false, false, false, false, false] HT_ ?_
                  refine pu_ 1 36 #[true, true, false, false, false, false, false, false, false] HT_ ?_
                  refine pu_ 2 37 #[true, true, true, false, false, false, false, false, false] HT_ ?_
                  refine pu_ 4 39 #[true, true, true, false, true, false, false, false, false] HT_ ?_
                  refine pu_ 5 40 #[true, true, true, false, true, true, false, false, false] HT_ ?_
                  refine pu_ 6 41 #[true, true, true, false, true, true, true, false, false] HT_ ?_
                  refine tk_ 3 38 #[true, true, true, true, true, true, true, false, false] rfl HT_ HW_ hHeld (by rintro w' ⟨s0, s1⟩; go_simp; with_reducible rfl) ?_
                  refine tk_ 7 42 #[true, true, true, true, true, true, true, true, false] rfl HT_ HW_ hHeld (by rintro w' ⟨s0, s1⟩; go_simp; with_reducible rfl) ?_
                  refine pu_ 8 43 #[true, true, true, true, true, true, true, true, true] HT_ ?_
                  refine done_ (yqb_ HT_.out (by kernel_rfl)) ?_
                  obtain ⟨Ao23, co23, eo23⟩ := Kd.yC_ HO_6.out
                  subst eo23
                  have p256 : 0 ≤ ((ji15) : Int) := of_decide_eq_true (by first | (with_reducible assumption) | assumption)
                  have q256 : (ji15) < (x6_2.length : Int) := of_decide_eq_true (by first | (with_reducible assumption) | assumption)
                  obtain ⟨ad256, e256, hx256_0⟩ := Kd.at_int (Kd.yo_ HO_6.out).2.2 (ji15) p256 q256
                  cases e256
                  replace p256 := eq_true p256
                  replace q256 := eq_true q256
                  have p21 : 0 ≤ ((ji18) : Int) := of_decide_eq_true (by first | (with_reducible assumption) | assumption)
                  have q21 : ((ji18) : Int) < ((x6_2.length : Int) : Int) := of_decide_eq_true (by first | (with_reducible assumption) | assumption)
                  obtain ⟨go21, co21, eo21, gb21, gl21, cl21, HG21⟩ := Kd.R_form HO_6.out (by omega)
                  (first | cases eo21 | (injection eo21 with ea_ en_ ec_; (first | subst ea_ | (injection ea_ with ea_; subst ea_)); subst ec_; clear en_))
                  have GB21 := Aside0.mk gb21
                  have GG21 := Aside0.mk HG21
                  clear gb21 gl21 HG21
                  (first | simp only [add_plain] at hx256_0 | skip)
                  obtain ⟨hx21_0, hf21_0⟩ := Kd.yab_ 0 HO_6.out ((ji18) : Int) p21 q21
                  replace p21 := eq_true p21
                  replace q21 := eq_true q21
                  obtain ⟨hy24_, hz24_⟩ := Kd.yab_ 0 HO_6.out ((ji18) : Int) (of_decide_eq_true (by first | (with_reducible assumption) | assumption)) (of_decide_eq_true (by first | (with_reducible assumption) | assumption))
                  have HP24 := Kd.R_putg HO_6.out ((ji18) : Int) (wrap64 ((rd x6_2 (ji15)) + 1))
                  try go_wp2_with (first | ((with_reducible refine yQ_ (t := 3) (p := 61) rfl ?_); refine yG_ (t := 3) (p := 61) (v := ?vo_w25) (w1 := (w22.setCell ⟨go21, ((ji18) : Int).toNat, none⟩ (.int .i64 (wrap64 ((rd x6_2 (ji15)) + 1))))) ?hg ?ho ?hn ?hr ?_; (case ho => rfl); (case hg => rfl); (case hn => rfl); (case hr => first | (go_simp; done) | (go_simp; rfl)); intro w25 hw; have hg : w22.grownBy w25 (some go21) := (by rw [hw]; exact HP24.2); have hp_ : Kd.R (Kd.int .i64) 3 w25 w.heap.size (fun _ => True) (.slice (some ⟨go21, 0, none⟩) x6_2.length co23) y257 := (by rw [hw, Ny257.out]; exact HP24.1); clear HP24; have n0_ := Aside0.mk (hp_); have n1_ := Aside0.mk ((by rw [hw]; exact yr_ (HB.out) GB21.out : Below w.heap.size w w25)); clear HO_6; clear HB; have HO_6 := n0_; have HB := n1_; clear n0_ n1_; clear hg hw hp_))
                  go_roundg k2
                  case measure => have := HK1.out; have := HK2.out; omega
                  case rel => exact ⟨(y257), (wrap64 (x8_2 - 1)), (by first | rfl | (simp; done) | (simp [*]; done)), H', ⟨by have := HK1.out; have := HK2.out; omega⟩, ⟨by (with_reducible repeat (first | apply Kd.yh_ | apply Kd.yi_ | apply Kd.R_drew)); exact HO_6.out⟩, ⟨by repeat (first | (with_reducible first | exact HB.out | apply yc_ | apply ya_ | apply yb_) | exact HB.out)⟩⟩
                 ·rw [if_neg c20] at H
                  exact absurd H (by simp)
                ·rw [if_neg c19] at H
                 exact absurd H (by simp)
               ·rw [if_neg c17] at H
                exact absurd H (by simp)
              ·rw [if_neg c16] at H
               exact absurd H (by simp)
             ·rw [if_neg c14] at H
              have c14b0 : ((rdOf ByteArray.empty l0 x7_1).toList == (rdOf ByteArray.empty l1 x8_2).toList) = false := beq_eq_false_iff_ne.mpr c14
              have c14b1 : ((rdOf ByteArray.empty l0 x7_1).toList != (rdOf ByteArray.empty l1 x8_2).toList) = true := bne_iff_ne.mpr c14
              obtain ⟨ji26, hji26⟩ : ∃ j_ : Int, (wrap64 ((wrap64 ((wrap64 (x7_1 + 1)) * (wrap64 ((l1.length : Int) + 1)))) + x8_2)) = j_ := ⟨_, rfl⟩
              replace H : (if 0 ≤ (ji26) then (if (ji26) < (x6_2.length : Int) then (if 0 ≤ (wrap64 ((wrap64 ((wrap64 (x7_1 * (wrap64 ((l1.length : Int) + 1)))) + x8_2)) + 1)) then (if (wrap64 ((wrap64 ((wrap64 (x7_1 * (wrap64 ((l1.length : Int) + 1)))) + x8_2)) + 1)) < (x6_2.length : Int) then (if 0 ≤ (wrap64 ((wrap64 (x7_1 * (wrap64 ((l1.length : Int) + 1)))) + x8_2)) then (if (wrap64 ((wrap64 (x7_1 * (wrap64 ((l1.length : Int) + 1)))) + x8_2)) < (x6_2.length : Int) then (yj_.l1 k2 l0 l1 (wrap64 ((l1.length : Int) + 1)) (x6_2.set ((wrap64 ((wrap64 (x7_1 * (wrap64 ((l1.length : Int) + 1)))) + x8_2)) : Int).toNat (mx (rd x6_2 (ji26)) (rd x6_2 (wrap64 ((wrap64 ((wrap64 (x7_1 * (wrap64 ((l1.length : Int) + 1)))) + x8_2)) + 1))))) x7_1 (wrap64 (x8_2 - 1))) else (none)) else (none)) else (none)) else (none)) else (none)) else (none)) = some r := by first | (rw [hji26] at H; exact H) | (simp only [hji26] at H ⊢; exact H)
              have hji26w : (IntKind.i64.wrap ((wrap64 ((wrap64 (x7_1 + 1)) * (wrap64 ((l1.length : Int) + 1)))) + x8_2)) = ji26 := (i64_w _).trans hji26
              by_cases c27 : 0 ≤ (ji26)
              ·rw [if_pos c27] at H
               have c27b0 : decide (0 ≤ (ji26)) = true := decide_eq_true c27
               clear c27
               by_cases c28 : (ji26) < (x6_2.length : Int)
               ·rw [if_pos c28] at H
                have c28b0 : decide ((ji26) < (x6_2.length : Int)) = true := decide_eq_true c28
                clear c28
                obtain ⟨ji29, hji29⟩ : ∃ j_ : Int, (wrap64 ((wrap64 ((wrap64 (x7_1 * (wrap64 ((l1.length : Int) + 1)))) + x8_2)) + 1)) = j_ := ⟨_, rfl⟩
                replace H : (if 0 ≤ (ji29) then (if (ji29) < (x6_2.length : Int) then (if 0 ≤ (wrap64 ((wrap64 (x7_1 * (wrap64 ((l1.length : Int) + 1)))) + x8_2)) then (if (wrap64 ((wrap64 (x7_1 * (wrap64 ((l1.length : Int) + 1)))) + x8_2)) < (x6_2.length : Int) then (yj_.l1 k2 l0 l1 (wrap64 ((l1.length : Int) + 1)) (x6_2.set ((wrap64 ((wrap64 (x7_1 * (wrap64 ((l1.length : Int) + 1)))) + x8_2)) : Int).toNat (mx (rd x6_2 (ji26)) (rd x6_2 (ji29)))) x7_1 (wrap64 (x8_2 - 1))) else (none)) else (none)) else (none)) else (none)) = some r := by first | (rw [hji29] at H; exact H) | (simp only [hji29] at H ⊢; exact H)
                have hji29w : (IntKind.i64.wrap ((wrap64 ((wrap64 (x7_1 * (wrap64 ((l1.length : Int) + 1)))) + x8_2)) + 1)) = ji29 := (i64_w _).trans hji29
                by_cases c30 : 0 ≤ (ji29)
                ·rw [if_pos c30] at H
                 have c30b0 : decide (0 ≤ (ji29)) = true := decide_eq_true c30
                 clear c30
                 by_cases c31 : (ji29) < (x6_2.length : Int)
                 ·rw [if_pos c31] at H
                  have c31b0 : decide ((ji29) < (x6_2.length : Int)) = true := decide_eq_true c31
                  clear c31
                  obtain ⟨ji32, hji32⟩ : ∃ j_ : Int, (mx (rd x6_2 (ji26)) (rd x6_2 (ji29))) = j_ := ⟨_, rfl⟩
                  replace H : (if 0 ≤ (wrap64 ((wrap64 (x7_1 * (wrap64 ((l1.length : Int) + 1)))) + x8_2)) then (if (wrap64 ((wrap64 (x7_1 * (wrap64 ((l1.length : Int) + 1)))) + x8_2)) < (x6_2.length : Int) then (yj_.l1 k2 l0 l1 (wrap64 ((l1.length : Int) + 1)) (x6_2.set ((wrap64 ((wrap64 (x7_1 * (wrap64 ((l1.length : Int) + 1)))) + x8_2)) : Int).toNat (ji32)) x7_1 (wrap64 (x8_2 - 1))) else (none)) else (none)) = some r := by first | (rw [hji32] at H; exact H) | (simp only [hji32] at H ⊢; exact H)
                  have hji32_ : (if (rd x6_2 (ji26)) < (rd x6_2 (ji29)) then (rd x6_2 (ji29)) else (rd x6_2 (ji26))) = ji32 := hji32
                  obtain ⟨ji33, hji33⟩ : ∃ j_ : Int, (wrap64 ((wrap64 (x7_1 * (wrap64 ((l1.length : Int) + 1)))) + x8_2)) = j_ := ⟨_, rfl⟩
                  have hqji33 : wrap64 (ji33 + 1) = ji29 := by rw [← hji33]; exact hji29
                  have hqji33w : IntKind.i64.wrap (ji33 + 1) = ji29 := (i64_w _).trans hqji33
                  replace H : (if 0 ≤ (ji33) then (if (ji33) < (x6_2.length : Int) then (yj_.l1 k2 l0 l1 (wrap64 ((l1.length : Int) + 1)) (x6_2.set ((ji33) : Int).toNat (ji32)) x7_1 (wrap64 (x8_2 - 1))) else (none)) else (none)) = some r := by first | (rw [hji33] at H; exact H) | (simp only [hji33] at H ⊢; exact H)
                  have hji33w : (IntKind.i64.wrap ((wrap64 (x7_1 * (wrap64 ((l1.length : Int) + 1)))) + x8_2)) = ji33 := (i64_w _).trans hji33
                  by_cases c34 : 0 ≤ (ji33)
                  ·rw [if_pos c34] at H
                   have c34b0 : decide (0 ≤ (ji33)) = true := decide_eq_true c34
                   clear c34
                   by_cases c35 : (ji33) < (x6_2.length : Int)
                   ·rw [if_pos c35] at H
                    have c35b0 : decide ((ji33) < (x6_2.length : Int)) = true := decide_eq_true c35
                    clear c35
                    obtain ⟨y260, hy260⟩ : ∃ y_ : List Int, y_ = (x6_2.set ((ji33) : Int).toNat (ji32)) := ⟨_, rfl⟩
                    replace H : (yj_.l1 k2 l0 l1 (wrap64 ((l1.length : Int) + 1)) y260 x7_1 (wrap64 (x8_2 - 1))) = some r := by first | (rw [hy260]; with_reducible exact H) | (have H2_ := (Option.bind_some _ _).symm.trans H; rw [hy260]; with_reducible exact H2_) | (have H2_ := (Option.bind_some _ _).symm.trans H; with_reducible exact H2_) | with_reducible exact H | (rw [hy260]; exact H) | exact H
                    have Ny260 := Aside0.mk hy260
                    clear hy260
                    have H' := Aside0.mk H
                    clear H
                    try go_wp2
                    have n0_ := Aside0.mk (Kd.R_drew HO_6.out)
                    have n1_ := Aside0.mk (yb_ HB.out)
                    clear HO_6
                    clear HB
                    have HO_6 := n0_
                    have HB := n1_
                    clear n0_ n1_
                    have p254 : 0 ≤ (x7_1 : Int) := of_decide_eq_true (by first | (with_reducible assumption) | assumption)
                    have q254 : x7_1 < (l0.length : Int) := of_decide_eq_true (by first | (with_reducible assumption) | assumption)
                    obtain ⟨ad254, e254, hx254_0⟩ := Kd.yL_ HR0.out x7_1 p254 q254
                    have hw254_0 := hx254_0
                    cases e254
                    replace hx254_0 := (HB.out.cell (World.block_lt_of_cell? w _ hx254_0)).trans hx254_0
                    replace p254 := eq_true p254
                    replace q254 := eq_true q254
                    have p255 : 0 ≤ (x8_2 : Int) := of_decide_eq_true (by first | (with_reducible assumption) | assumption)
                    have q255 : x8_2 < (l1.length : Int) := of_decide_eq_true (by first | (with_reducible assumption) | assumption)
                    obtain ⟨ad255, e255, hx255_0⟩ := Kd.yL_ HR1.out x8_2 p255 q255
                    have hw255_0 := hx255_0
                    cases e255
                    replace hx255_0 := (HB.out.cell (World.block_lt_of_cell? w _ hx255_0)).trans hx255_0
                    replace p255 := eq_true p255
                    replace q255 := eq_true q255
                    refine start_ (n := 9) (S := fun w' => w'.cell? (ad254.add (x7_1).toNat) = some (.string (rdOf ByteArray.empty l0 x7_1)) ∧ w'.cell? (ad255.add (x8_2).toNat) = some (.string (rdOf ByteArray.empty l1 x8_2))) (ds := []) #[false, false, false, false, false, false, false, false, false] (by kernel_rfl) rfl rfl ⟨((HB.out.cell (World.block_lt_of_cell? w _ hw254_0)).trans hw254_0), ((HB.out.cell (World.block_lt_of_cell? w _ hw255_0)).trans hw255_0)⟩ (fun hHeld => ?_); refine y9_ yj_.tab9 yj_.bits9 (fun HT_ HW_ => ?_)
                    generalize wr.drew = w37 at HO_6 HB hx254_0 hx255_0 hHeld ⊢
                    refine pu_ 0 35 #[true, false, false, false, false, false, false, false, false] HT_ ?_
                    refine pu_ 1 36 #[true, true, false, false, false, false, false, false, false] HT_ ?_
                    refine pu_ 2 37 #[true, true, true, false, false, false, false, false, false] HT_ ?_
                    refine pu_ 4 39 #[true, true, true, false, true, false, false, false, false] HT_ ?_
                    refine pu_ 5 40 #[true, true, true, false, true, true, false, false, false] HT_ ?_
                    refine pu_ 6 41 #[true, true, true, false, true, true, true, false, false] HT_ ?_
                    refine tk_ 3 38 #[true, true, true, true, true, true, true, false, false] rfl HT_ HW_ hHeld (by rintro w' ⟨s0, s1⟩; go_simp; with_reducible rfl) ?_
                    refine tk_ 7 42 #[true, true, true, true, true, true, true, true, false] rfl HT_ HW_ hHeld (by rintro w' ⟨s0, s1⟩; go_simp; with_reducible rfl) ?_
                    refine pu_ 8 43 #[true, true, true, true, true, true, true, true, true] HT_ ?_
                    refine done_ (yqb_ HT_.out (by kernel_rfl)) ?_
                    try go_wp2
                    have n0_ := Aside0.mk (Kd.R_drew HO_6.out)
                    have n1_ := Aside0.mk (yb_ HB.out)
                    clear HO_6
                    clear HB
                    have HO_6 := n0_
                    have HB := n1_
                    clear n0_ n1_
                    obtain ⟨Ao39, co39, eo39⟩ := Kd.yC_ HO_6.out
                    (first | subst eo39 | (injection eo39 with f1_ f2_ f3_; have f4_ := f1_.symm; have f5_ := f3_.symm; clear f1_ f2_ f3_; subst f4_; subst f5_))
                    have p258 : 0 ≤ ((ji26) : Int) := of_decide_eq_true (by first | (with_reducible assumption) | assumption)
                    have q258 : (ji26) < (x6_2.length : Int) := of_decide_eq_true (by first | (with_reducible assumption) | assumption)
                    obtain ⟨ad258, e258, hx258_0⟩ := Kd.at_int (Kd.yo_ HO_6.out).2.2 (ji26) p258 q258
                    cases e258
                    replace p258 := eq_true p258
                    replace q258 := eq_true q258
                    have p259 : 0 ≤ ((ji29) : Int) := of_decide_eq_true (by first | (with_reducible assumption) | assumption)
                    have q259 : (ji29) < (x6_2.length : Int) := of_decide_eq_true (by first | (with_reducible assumption) | assumption)
                    obtain ⟨ad259, e259, hx259_0⟩ := Kd.at_int (Kd.yo_ HO_6.out).2.2 (ji29) p259 q259
                    obtain rfl : ad258 = ad259 := (by injection e259)
                    replace p259 := eq_true p259
                    replace q259 := eq_true q259
                    have p36 : 0 ≤ ((ji33) : Int) := of_decide_eq_true (by first | (with_reducible assumption) | assumption)
                    have q36 : ((ji33) : Int) < ((x6_2.length : Int) : Int) := of_decide_eq_true (by first | (with_reducible assumption) | assumption)
                    obtain ⟨go36, co36, eo36, gb36, gl36, cl36, HG36⟩ := Kd.R_form HO_6.out (by omega)
                    (first | cases eo36 | (injection eo36 with ea_ en_ ec_; (first | subst ea_ | (injection ea_ with ea_; subst ea_)); subst ec_; clear en_))
                    have GB36 := Aside0.mk gb36
                    have GG36 := Aside0.mk HG36
                    clear gb36 gl36 HG36
                    (first | simp only [add_plain] at hx258_0 | skip)
                    (first | simp only [add_plain] at hx259_0 | skip)
                    obtain ⟨hx36_0, hf36_0⟩ := Kd.yab_ 0 HO_6.out ((ji33) : Int) p36 q36
                    replace p36 := eq_true p36
                    replace q36 := eq_true q36
                    have HP40 := Kd.R_putn HO_6.out ((ji33) : Int) ji32
                    rw [← Ny260.out] at HP40
                    have HQ40 := Aside0.mk HP40
                    clear HP40
                    refine start_ (n := 27) (S := fun w' => w'.cell? ⟨go36, ((ji26)).toNat, none⟩ = some (.int .i64 (rd x6_2 (ji26))) ∧ w'.cell? ⟨go36, ((ji29)).toNat, none⟩ = some (.int .i64 (rd x6_2 (ji29)))) (ds := [26]) #[false, false, false, false, false, false, false, false, false, false, false, false, false, false, false, false, false, false, false, false, false, false, false, false, false, false, false] (by kernel_rfl) rfl rfl ⟨hx258_0, hx259_0⟩ (fun hHeld => ?_); refine y9_ yj_.tab11 yj_.bits11 (fun HT_ HW_ => ?_)
                    generalize w37.drew = w38 at HO_6 HB GG36 HQ40 hf36_0 hx258_0 hx259_0 hx36_0 hHeld ⊢
                    refine pu_ 0 62 #[true, false, false, false, false, false, false, false, false, false, false, false, false, false, false, false, false, false, false, false, false, false, false, false, false, false, false] HT_ ?_
                    refine pu_ 1 63 #[true, true, false, false, false, false, false, false, false, false, false, false, false, false, false, false, false, false, false, false, false, false, false, false, false, false, false] HT_ ?_
                    refine pu_ 2 64 #[true, true, true, false, false, false, false, false, false, false, false, false, false, false, false, false, false, false, false, false, false, false, false, false, false, false, false] HT_ ?_
                    refine pu_ 3 65 #[true, true, true, true, false, false, false, false, false, false, false, false, false, false, false, false, false, false, false, false, false, false, false, false, false, false, false] HT_ ?_
                    refine pu_ 4 66 #[true, true, true, true, true, false, false, false, false, false, false, false, false, false, false, false, false, false, false, false, false, false, false, false, false, false, false] HT_ ?_
                    refine pu_ 5 67 #[true, true, true, true, true, true, false, false, false, false, false, false, false, false, false, false, false, false, false, false, false, false, false, false, false, false, false] HT_ ?_
                    refine pu_ 6 68 #[true, true, true, true, true, true, true, false, false, false, false, false, false, false, false, false, false, false, false, false, false, false, false, false, false, false, false] HT_ ?_
                    refine pu_ 7 69 #[true, true, true, true, true, true, true, true, false, false, false, false, false, false, false, false, false, false, false, false, false, false, false, false, false, false, false] HT_ ?_
                    refine pu_ 8 70 #[true, true, true, true, true, true, true, true, true, false, false, false, false, false, false, false, false, false, false, false, false, false, false, false, false, false, false] HT_ ?_
                    refine pu_ 9 71 #[true, true, true, true, true, true, true, true, true, true, false, false, false, false, false, false, false, false, false, false, false, false, false, false, false, false, false] HT_ ?_
                    refine pu_ 10 72 #[true, true, true, true, true, true, true, true, true, true, true, false, false, false, false, false, false, false, false, false, false, false, false, false, false, false, false] HT_ ?_
                    refine pu_ 11 73 #[true, true, true, true, true, true, true, true, true, true, true, true, false, false, false, false, false, false, false, false, false, false, false, false, false, false, false] HT_ ?_
                    refine pu_ 12 74 #[true, true, true, true, true, true, true, true, true, true, true, true, true, false, false, false, false, false, false, false, false, false, false, false, false, false, false] HT_ ?_
                    refine pu_ 13 75 #[true, true, true, true, true, true, true, true, true, true, true, true, true, true, false, false, false, false, false, false, false, false, false, false, false, false, false] HT_ ?_
                    refine pu_ 15 77 #[true, true, true, true, true, true, true, true, true, true, true, true, true, true, false, true, false, false, false, false, false, false, false, false, false, false, false] HT_ ?_
                    refine pu_ 16 78 #[true, true, true, true, true, true, true, true, true, true, true, true, true, true, false, true, true, false, false, false, false, false, false, false, false, false, false] HT_ ?_
                    refine pu_ 17 79 #[true, true, true, true, true, true, true, true, true, true, true, true, true, true, false, true, true, true, false, false, false, false, false, false, false, false, false] HT_ ?_
                    refine pu_ 18 80 #[true, true, true, true, true, true, true, true, true, true, true, true, true, true, false, true, true, true, true, false, false, false, false, false, false, false, false] HT_ ?_
                    refine pu_ 19 81 #[true, true, true, true, true, true, true, true, true, true, true, true, true, true, false, true, true, true, true, true, false, false, false, false, false, false, false] HT_ ?_
                    refine pu_ 20 82 #[true, true, true, true, true, true, true, true, true, true, true, true, true, true, false, true, true, true, true, true, true, false, false, false, false, false, false] HT_ ?_
                    refine pu_ 21 83 #[true, true, true, true, true, true, true, true, true, true, true, true, true, true, false, true, true, true, true, true, true, true, false, false, false, false, false] HT_ ?_
                    refine pu_ 22 84 #[true, true, true, true, true, true, true, true, true, true, true, true, true, true, false, true, true, true, true, true, true, true, true, false, false, false, false] HT_ ?_
                    refine tk_ 14 76 #[true, true, true, true, true, true, true, true, true, true, true, true, true, true, true, true, true, true, true, true, true, true, true, false, false, false, false] rfl HT_ HW_ hHeld (by rintro w' ⟨s0, s1⟩; go_simp; with_reducible rfl) ?_
                    refine tk_ 23 85 #[true, true, true, true, true, true, true, true, true, true, true, true, true, true, true, true, true, true, true, true, true, true, true, true, false, false, false] rfl HT_ HW_ hHeld (by rintro w' ⟨s0, s1⟩; go_simp; with_reducible rfl) ?_
                    refine pu_ 24 86 #[true, true, true, true, true, true, true, true, true, true, true, true, true, true, true, true, true, true, true, true, true, true, true, true, true, false, false] HT_ ?_
                    refine pu_ 25 87 #[true, true, true, true, true, true, true, true, true, true, true, true, true, true, true, true, true, true, true, true, true, true, true, true, true, true, false] HT_ ?_
                    refine last_ (i := 26) (N := none) #[true, true, true, true, true, true, true, true, true, true, true, true, true, true, true, true, true, true, true, true, true, true, true, true, true, true, true] rfl rfl (one_of HT_.out (by kernel_rfl)) (by decide) (fun K hK => ?_)
                    refine skip_ (w1 := ?_) (by rfl) rfl ?_ ?_
                    rotate_left
                    ·go_simp
                     rfl
                    refine hK.out _ _ ?_
                    clear hK K
                    refine done_ (yqb_ HT_.out (by kernel_rfl)) ?_
                    try go_wp2
                    go_roundg k2
                    case measure => have := HK1.out; have := HK2.out; omega
                    case rel => exact ⟨(y260), (wrap64 (x8_2 - 1)), (by first | rfl | (simp; done) | (simp [*]; done)), H', ⟨by have := HK1.out; have := HK2.out; omega⟩, ⟨by (with_reducible repeat (first | apply Kd.yh_ | apply Kd.yi_ | apply Kd.R_drew)); exact HQ40.out⟩, ⟨by repeat (first | (with_reducible first | exact HB.out | apply yc_ | apply ya_ | apply yb_ | refine yr_ ?_ GB36.out) | exact HB.out)⟩⟩
                   ·rw [if_neg c35] at H
                    exact absurd H (by simp)
                  ·rw [if_neg c34] at H
                   exact absurd H (by simp)
                 ·rw [if_neg c31] at H
                  exact absurd H (by simp)
                ·rw [if_neg c30] at H
                 exact absurd H (by simp)
               ·rw [if_neg c28] at H
                exact absurd H (by simp)
              ·rw [if_neg c27] at H
               exact absurd H (by simp)
            ·rw [if_neg c13] at H
             exact absurd H (by simp)
           ·rw [if_neg c12] at H
            exact absurd H (by simp)
          ·rw [if_neg c11] at H
           exact absurd H (by simp)
         ·rw [if_neg c10] at H
          exact absurd H (by simp)
        ·rw [if_neg c9] at H
         have c9b0 : decide (0 ≤ x8_2) = false := decide_eq_false c9
         clear c9
         have H' := Aside0.mk H
         clear H
         go_wp2
         go_roundg k2
         case measure => have := HK1.out; have := HK2.out; omega
         case rel => exact ⟨(x6_2), (wrap64 (x7_1 - 1)), (by first | rfl | (simp; done) | (simp [*]; done)), H', ⟨by have := HK1.out; have := HK2.out; omega⟩, ⟨by (with_reducible repeat (first | apply Kd.yh_ | apply Kd.yi_ | apply Kd.R_drew)); exact HO_6.out⟩, ⟨by repeat (first | (with_reducible first | exact HB.out | apply yc_ | apply ya_ | apply yb_) | exact HB.out)⟩⟩
     ·rw [if_neg c8] at H
      have c8b0 : decide (0 ≤ x7_1) = false := decide_eq_false c8
      clear c8
      have H' := Aside0.mk H
      clear H
      go_wp2
      try simp only [Act.put, List.setIfInBounds_toArray, List.set_cons_succ, List.set_cons_zero]
      go_loopg [9, 10, 11] k1 (fun kq v9 v10 v11 w' => ∃ (x9_2 : List (S78)) (x10_2 : Int) (x11_2 : Int), v10 = .int .i64 x10_2 ∧ v11 = .int .i64 x11_2 ∧ Aside0 (yj_.l2 kq l0 l1 (wrap64 ((l1.length : Int) + 1)) x6_1 x9_2 x10_2 x11_2 = some r) ∧ Aside0 (kq ≤ k1) ∧ Aside0 (Kd.R (Kd.int .i64) 3 w' w.heap.size (fun _ => True) v252 x6_1) ∧ Aside0 (Kd.R k78 78 w' w.heap.size (fun _ => True) v9 x9_2) ∧ Aside0 (Below w.heap.size w w'))
      case atStart => exact ⟨(([] : List (S78))), (0), (0), (by first | rfl | (simp; done) | (simp [*]; done)), (by first | rfl | (simp; done) | (simp [*]; done)), H', ⟨Nat.le_refl _⟩, ⟨by (with_reducible repeat (first | apply Kd.yh_ | apply Kd.yi_ | apply Kd.R_drew)); exact HO_6.out⟩, ⟨by first | exact Kd.R_nil _ _ _ _ _ | exact Kd.N_nil _ _ _ _ _ | exact Kd.V_nil _ _ _ _ _ | exact Kd.Q_nil _ _ _ _ _ | exact Kd.S_nil _ _ _ _ _⟩, ⟨by repeat (first | (with_reducible first | exact HB.out | apply yc_ | apply ya_ | apply yb_) | exact HB.out)⟩⟩
      case round =>
       clear H'
       try clear c1
       try clear c2
       try clear p2
       try clear q2
       try clear hx2
       try clear hf2
       try clear c3
       try clear p3
       try clear q3
       try clear hx3
       try clear hf3
       try clear p6
       try clear c8
       try clear c8b0
       try clear c9
       try clear c9b0
       try clear c10
       try clear c11
       try clear c12
       try clear c13
       try clear c14
       try clear c14b0
       try clear c14b1
       try clear c16
       try clear c16b0
       try clear c17
       try clear c17b0
       try clear c19
       try clear c19b0
       try clear c20
       try clear c20b0
       try clear p21
       try clear q21
       try clear hx21
       try clear hf21
       try clear p25
       try clear q25
       try clear hx25
       try clear c27
       try clear c27b0
       try clear c28
       try clear c28b0
       try clear c30
       try clear c30b0
       try clear c31
       try clear c31b0
       try clear c34
       try clear c34b0
       try clear c35
       try clear c35b0
       try clear p36
       try clear q36
       try clear hx36
       try clear hf36
       try clear hx21_0
       try clear hx254_0
       try clear hx255_0
       try clear hx256_0
       try clear hx258_0
       try clear hx259_0
       try clear hx36_0
       try clear p21
       try clear p254
       try clear p255
       try clear p256
       try clear p258
       try clear p259
       try clear p36
       try clear q21
       try clear q254
       try clear q255
       try clear q256
       try clear q258
       try clear q259
       try clear q36
       obtain ⟨x9_2, x10_2, x11_2, rfl, rfl, HA, HK2, HO_6, HO_9, HB⟩ := hrel
       cases gk with
       | zero => exact absurd HA.out (by simp [yj_.l2])
       | succ k2 =>
        have H := HA.out
        clear HA
        simp only [yj_.l2] at H
        have HC41 := Aside0.mk H
        clear H
        go_upto_region 14 with (fail)
        go_cut [97] (fun v97 wc => ∃ (kq : Nat) (x97_40 : Bool), v97 = .bool x97_40 ∧ Aside0 (yj_.j3 kq l0 l1 (wrap64 ((l1.length : Int) + 1)) x6_1 x9_2 x10_2 x11_2 x97_40 = some r) ∧ Aside0 (kq ≤ k2) ∧ Aside0 (Kd.R (Kd.int .i64) 3 wc w.heap.size (fun _ => True) v252 x6_1) ∧ Aside0 (Kd.R k78 78 wc w.heap.size (fun _ => True) u9 x9_2) ∧ Aside0 (Below w.heap.size w wc))
        case first =>
         have H := HC41.out
         clear HC41
         by_cases c42 : x10_2 < (l0.length : Int)
         ·rw [if_pos c42] at H
          have c42b0 : decide (x10_2 < (l0.length : Int)) = true := decide_eq_true c42
          clear c42
          (first | rw [c42b0] | (simp only [i64_w, i32_w]; rw [c42b0]) | skip)
          have H' := Aside0.mk H
          clear H
          go_wp2
          go_meet
          case rel => exact ⟨_, (true), (by first | rfl | (simp; done) | (simp [*]; done)), H', ⟨by have := HK1.out; have := HK2.out; first | omega | exact Nat.le_refl _⟩, ⟨by (with_reducible repeat (first | apply Kd.yh_ | apply Kd.yi_ | apply Kd.R_drew)); exact HO_6.out⟩, ⟨by (with_reducible repeat (first | apply Kd.yh_ | apply Kd.yi_ | apply Kd.R_drew)); exact HO_9.out⟩, ⟨by repeat (first | (with_reducible first | exact HB.out | apply yc_ | apply ya_ | apply yb_) | exact HB.out)⟩⟩
         ·rw [if_neg c42] at H
          have c42b0 : decide (x10_2 < (l0.length : Int)) = false := decide_eq_false c42
          clear c42
          (first | rw [c42b0] | (simp only [i64_w, i32_w]; rw [c42b0]) | skip)
          have H' := Aside0.mk H
          clear H
          go_wp2
          go_meet
          case rel => exact ⟨_, (decide (x11_2 < (l1.length : Int))), (by first | rfl | (simp; done) | (simp [*]; done)), H', ⟨by have := HK1.out; have := HK2.out; first | omega | exact Nat.le_refl _⟩, ⟨by (with_reducible repeat (first | apply Kd.yh_ | apply Kd.yi_ | apply Kd.R_drew)); exact HO_6.out⟩, ⟨by (with_reducible repeat (first | apply Kd.yh_ | apply Kd.yi_ | apply Kd.R_drew)); exact HO_9.out⟩, ⟨by repeat (first | (with_reducible first | exact HB.out | apply yc_ | apply ya_ | apply yb_) | exact HB.out)⟩⟩
        case rest =>
         clear HC41
         try clear c1
         try clear c2
         try clear p2
         try clear q2
         try clear hx2
         try clear hf2
         try clear c3
         try clear p3
         try clear q3
         try clear hx3
         try clear hf3
         try clear c4
         try clear p6
         try clear c8
         try clear c8b0
         try clear c9
         try clear c9b0
         try clear c10
         try clear c11
         try clear c12
         try clear c13
         try clear c14
         try clear c14b0
         try clear c14b1
         try clear c16
         try clear c16b0
         try clear c17
         try clear c17b0
         try clear c19
         try clear c19b0
         try clear c20
         try clear c20b0
         try clear p21
         try clear q21
         try clear hx21
         try clear hf21
         try clear p25
         try clear q25
         try clear hx25
         try clear c27
         try clear c27b0
         try clear c28
         try clear c28b0
         try clear c30
         try clear c30b0
         try clear c31
         try clear c31b0
         try clear c34
         try clear c34b0
         try clear c35
         try clear c35b0
         try clear p36
         try clear q36
         try clear hx36
         try clear hf36
         try clear c42
         try clear c42b0
         try clear hx21_0
         try clear hx254_0
         try clear hx255_0
         try clear hx256_0
         try clear hx258_0
         try clear hx259_0
         try clear hx36_0
         try clear p2
         try clear p21
         try clear p25
         try clear p254
         try clear p255
         try clear p256
         try clear p258
         try clear p259
         try clear p3
         try clear p36
         try clear p6
         try clear q2
         try clear q21
         try clear q25
         try clear q254
         try clear q255
         try clear q256
         try clear q258
         try clear q259
         try clear q3
         try clear q36
         obtain ⟨kq, x97_40, rfl, HA, HJ40, HO_6, HO_9, HB⟩ := hcut
         cases kq with
         | zero => exact absurd HA.out (by simp [yj_.j3])
         | succ kj40 =>
          have H := HA.out
          clear HA
          simp only [yj_.j3] at H
          by_cases c43 : x97_40 = true
          ·subst c43
           have H1 : (if x10_2 < (l0.length : Int) then (if x11_2 < (l1.length : Int) then (if 0 ≤ x10_2 then (if 0 ≤ x11_2 then (yj_.j4 kj40 l0 l1 (wrap64 ((l1.length : Int) + 1)) x6_1 x9_2 x10_2 x11_2 ((rdOf ByteArray.empty l0 x10_2).toList == (rdOf ByteArray.empty l1 x11_2).toList)) else (none)) else (none)) else (yj_.j4 kj40 l0 l1 (wrap64 ((l1.length : Int) + 1)) x6_1 x9_2 x10_2 x11_2 false)) else (yj_.j4 kj40 l0 l1 (wrap64 ((l1.length : Int) + 1)) x6_1 x9_2 x10_2 x11_2 false)) = some r := by rw [if_pos rfl] at H; exact H
           clear H
           have H := H1
           clear H1
           have HC44 := Aside0.mk H
           clear H
           go_upto_region 17 with (fail)
           go_cut [108] (fun v108 wc => ∃ (kq : Nat) (x108_43 : Bool), v108 = .bool x108_43 ∧ Aside0 (yj_.j4 kq l0 l1 (wrap64 ((l1.length : Int) + 1)) x6_1 x9_2 x10_2 x11_2 x108_43 = some r) ∧ Aside0 (kq ≤ kj40) ∧ Aside0 (Kd.R (Kd.int .i64) 3 wc w.heap.size (fun _ => True) v252 x6_1) ∧ Aside0 (Kd.R k78 78 wc w.heap.size (fun _ => True) u9 x9_2) ∧ Aside0 (Below w.heap.size w wc))
           case first =>
            have H := HC44.out
            clear HC44
            by_cases c45 : x10_2 < (l0.length : Int)
            ·rw [if_pos c45] at H
             have c45b0 : decide (x10_2 < (l0.length : Int)) = true := decide_eq_true c45
             clear c45
             (first | rw [c45b0] | (simp only [i64_w, i32_w]; rw [c45b0]) | skip)
             by_cases c46 : x11_2 < (l1.length : Int)
             ·rw [if_pos c46] at H
              have c46b0 : decide (x11_2 < (l1.length : Int)) = true := decide_eq_true c46
              clear c46
              by_cases c47 : 0 ≤ x10_2
              ·rw [if_pos c47] at H
               have c47b0 : decide (0 ≤ x10_2) = true := decide_eq_true c47
               clear c47
               by_cases c48 : 0 ≤ x11_2
               ·rw [if_pos c48] at H
                have c48b0 : decide (0 ≤ x11_2) = true := decide_eq_true c48
                clear c48
                have H' := Aside0.mk H
                clear H
                try go_wp2
                have n0_ := Aside0.mk (Kd.R_drew HO_6.out)
                have n1_ := Aside0.mk (Kd.R_drew HO_9.out)
                have n2_ := Aside0.mk (yb_ HB.out)
                clear HO_6
                clear HO_9
                clear HB
                have HO_6 := n0_
                have HO_9 := n1_
                have HB := n2_
                clear n0_ n1_ n2_
                have p261 : 0 ≤ (x10_2 : Int) := of_decide_eq_true (by first | (with_reducible assumption) | assumption)
                have q261 : x10_2 < (l0.length : Int) := of_decide_eq_true (by first | (with_reducible assumption) | assumption)
                obtain ⟨ad261, e261, hx261_0⟩ := Kd.yL_ HR0.out x10_2 p261 q261
                have hw261_0 := hx261_0
                cases e261
                replace hx261_0 := (HB.out.cell (World.block_lt_of_cell? w _ hx261_0)).trans hx261_0
                replace p261 := eq_true p261
                replace q261 := eq_true q261
                have p262 : 0 ≤ (x11_2 : Int) := of_decide_eq_true (by first | (with_reducible assumption) | assumption)
                have q262 : x11_2 < (l1.length : Int) := of_decide_eq_true (by first | (with_reducible assumption) | assumption)
                obtain ⟨ad262, e262, hx262_0⟩ := Kd.yL_ HR1.out x11_2 p262 q262
                have hw262_0 := hx262_0
                cases e262
                replace hx262_0 := (HB.out.cell (World.block_lt_of_cell? w _ hx262_0)).trans hx262_0
                replace p262 := eq_true p262
                replace q262 := eq_true q262
                refine start_ (n := 22) (S := fun w' => w'.cell? (ad261.add (x10_2).toNat) = some (.string (rdOf ByteArray.empty l0 x10_2)) ∧ w'.cell? (ad262.add (x11_2).toNat) = some (.string (rdOf ByteArray.empty l1 x11_2))) (ds := []) #[false, false, false, false, false, false, false, false, false, false, false, false, false, false, false, false, false, false, false, false, false, false] (by kernel_rfl) rfl rfl ⟨((HB.out.cell (World.block_lt_of_cell? w _ hw261_0)).trans hw261_0), ((HB.out.cell (World.block_lt_of_cell? w _ hw262_0)).trans hw262_0)⟩ (fun hHeld => ?_); refine y9_ yj_.tab17 yj_.bits17 (fun HT_ HW_ => ?_)
                generalize wc.drew = w49 at HO_6 HO_9 HB hx261_0 hx262_0 hHeld ⊢
                refine pu_ 0 109 #[true, false, false, false, false, false, false, false, false, false, false, false, false, false, false, false, false, false, false, false, false, false] HT_ ?_
                refine pu_ 1 110 #[true, true, false, false, false, false, false, false, false, false, false, false, false, false, false, false, false, false, false, false, false, false] HT_ ?_
                refine pu_ 2 111 #[true, true, true, false, false, false, false, false, false, false, false, false, false, false, false, false, false, false, false, false, false, false] HT_ ?_
                refine pu_ 3 112 #[true, true, true, true, false, false, false, false, false, false, false, false, false, false, false, false, false, false, false, false, false, false] HT_ ?_
                refine pu_ 4 113 #[true, true, true, true, true, false, false, false, false, false, false, false, false, false, false, false, false, false, false, false, false, false] HT_ ?_
                refine pu_ 5 114 #[true, true, true, true, true, true, false, false, false, false, false, false, false, false, false, false, false, false, false, false, false, false] HT_ ?_
                refine pu_ 6 115 #[true, true, true, true, true, true, true, false, false, false, false, false, false, false, false, false, false, false, false, false, false, false] HT_ ?_
                refine pu_ 7 116 #[true, true, true, true, true, true, true, true, false, false, false, false, false, false, false, false, false, false, false, false, false, false] HT_ ?_
                refine pu_ 8 117 #[true, true, true, true, true, true, true, true, true, false, false, false, false, false, false, false, false, false, false, false, false, false] HT_ ?_
                refine pu_ 9 118 #[true, true, true, true, true, true, true, true, true, true, false, false, false, false, false, false, false, false, false, false, false, false] HT_ ?_
                refine pu_ 10 119 #[true, true, true, true, true, true, true, true, true, true, true, false, false, false, false, false, false, false, false, false, false, false] HT_ ?_
                refine pu_ 11 120 #[true, true, true, true, true, true, true, true, true, true, true, true, false, false, false, false, false, false, false, false, false, false] HT_ ?_
                refine pu_ 12 121 #[true, true, true, true, true, true, true, true, true, true, true, true, true, false, false, false, false, false, false, false, false, false] HT_ ?_
                refine pu_ 13 122 #[true, true, true, true, true, true, true, true, true, true, true, true, true, true, false, false, false, false, false, false, false, false] HT_ ?_
                refine pu_ 15 124 #[true, true, true, true, true, true, true, true, true, true, true, true, true, true, false, true, false, false, false, false, false, false] HT_ ?_
                refine pu_ 16 125 #[true, true, true, true, true, true, true, true, true, true, true, true, true, true, false, true, true, false, false, false, false, false] HT_ ?_
                refine pu_ 17 126 #[true, true, true, true, true, true, true, true, true, true, true, true, true, true, false, true, true, true, false, false, false, false] HT_ ?_
                refine tk_ 14 123 #[true, true, true, true, true, true, true, true, true, true, true, true, true, true, true, true, true, true, false, false, false, false] rfl HT_ HW_ hHeld (by rintro w' ⟨s0, s1⟩; go_simp; with_reducible rfl) ?_
                refine tk_ 18 127 #[true, true, true, true, true, true, true, true, true, true, true, true, true, true, true, true, true, true, true, false, false, false] rfl HT_ HW_ hHeld (by rintro w' ⟨s0, s1⟩; go_simp; with_reducible rfl) ?_
                refine pu_ 19 128 #[true, true, true, true, true, true, true, true, true, true, true, true, true, true, true, true, true, true, true, true, false, false] HT_ ?_
                refine pu_ 20 129 #[true, true, true, true, true, true, true, true, true, true, true, true, true, true, true, true, true, true, true, true, true, false] HT_ ?_
                refine pu_ 21 108 #[true, true, true, true, true, true, true, true, true, true, true, true, true, true, true, true, true, true, true, true, true, true] HT_ ?_
                refine done_ (yqb_ HT_.out (by kernel_rfl)) ?_
                try go_wp2
                go_meet
                case rel => exact ⟨_, (((rdOf ByteArray.empty l0 x10_2).toList == (rdOf ByteArray.empty l1 x11_2).toList)), (by first | rfl | (simp; done) | (simp [*]; done)), H', ⟨by have := HK1.out; have := HK2.out; have := HJ40.out; first | omega | exact Nat.le_refl _⟩, ⟨by (with_reducible repeat (first | apply Kd.yh_ | apply Kd.yi_ | apply Kd.R_drew)); exact HO_6.out⟩, ⟨by (with_reducible repeat (first | apply Kd.yh_ | apply Kd.yi_ | apply Kd.R_drew)); exact HO_9.out⟩, ⟨by repeat (first | (with_reducible first | exact HB.out | apply yc_ | apply ya_ | apply yb_) | exact HB.out)⟩⟩
               ·rw [if_neg c48] at H
                exact absurd H (by simp)
              ·rw [if_neg c47] at H
               exact absurd H (by simp)
             ·rw [if_neg c46] at H
              have c46b0 : decide (x11_2 < (l1.length : Int)) = false := decide_eq_false c46
              clear c46
              have H' := Aside0.mk H
              clear H
              try go_wp2
              have n0_ := Aside0.mk (Kd.R_drew HO_6.out)
              have n1_ := Aside0.mk (Kd.R_drew HO_9.out)
              have n2_ := Aside0.mk (yb_ HB.out)
              clear HO_6
              clear HO_9
              clear HB
              have HO_6 := n0_
              have HO_9 := n1_
              have HB := n2_
              clear n0_ n1_ n2_
              refine start_ (n := 22) (S := fun w' => True) (ds := []) #[false, false, false, false, false, false, false, false, false, false, false, false, false, false, false, false, false, false, false, false, false, false] (by kernel_rfl) rfl rfl trivial (fun hHeld => ?_); refine y9_ yj_.tab17 yj_.bits17 (fun HT_ HW_ => ?_)
              generalize wc.drew = w50 at HO_6 HO_9 HB hHeld ⊢
              refine pu_ 0 109 #[true, false, false, false, false, false, false, false, false, false, false, false, false, false, false, false, false, false, false, false, false, false] HT_ ?_
              refine pu_ 1 110 #[true, true, false, false, false, false, false, false, false, false, false, false, false, false, false, false, false, false, false, false, false, false] HT_ ?_
              refine pu_ 2 111 #[true, true, true, false, false, false, false, false, false, false, false, false, false, false, false, false, false, false, false, false, false, false] HT_ ?_
              refine pu_ 3 112 #[true, true, true, true, false, false, false, false, false, false, false, false, false, false, false, false, false, false, false, false, false, false] HT_ ?_
              refine pu_ 4 113 #[true, true, true, true, true, false, false, false, false, false, false, false, false, false, false, false, false, false, false, false, false, false] HT_ ?_
              refine pu_ 5 114 #[true, true, true, true, true, true, false, false, false, false, false, false, false, false, false, false, false, false, false, false, false, false] HT_ ?_
              refine pu_ 6 115 #[true, true, true, true, true, true, true, false, false, false, false, false, false, false, false, false, false, false, false, false, false, false] HT_ ?_
              refine pu_ 7 116 #[true, true, true, true, true, true, true, true, false, false, false, false, false, false, false, false, false, false, false, false, false, false] HT_ ?_
              refine pu_ 8 117 #[true, true, true, true, true, true, true, true, true, false, false, false, false, false, false, false, false, false, false, false, false, false] HT_ ?_
              refine pu_ 9 118 #[true, true, true, true, true, true, true, true, true, true, false, false, false, false, false, false, false, false, false, false, false, false] HT_ ?_
              refine pu_ 10 119 #[true, true, true, true, true, true, true, true, true, true, true, false, false, false, false, false, false, false, false, false, false, false] HT_ ?_
              refine pz_ 11 120 #[true, true, true, true, true, true, true, true, true, true, true, true, false, false, false, false, false, false, false, false, false, false] HT_ ?_
              refine pz_ 12 121 #[true, true, true, true, true, true, true, true, true, true, true, true, true, false, false, false, false, false, false, false, false, false] HT_ ?_
              refine pz_ 13 122 #[true, true, true, true, true, true, true, true, true, true, true, true, true, true, false, false, false, false, false, false, false, false] HT_ ?_
              refine pz_ 14 123 #[true, true, true, true, true, true, true, true, true, true, true, true, true, true, true, false, false, false, false, false, false, false] HT_ ?_
              refine pz_ 15 124 #[true, true, true, true, true, true, true, true, true, true, true, true, true, true, true, true, false, false, false, false, false, false] HT_ ?_
              refine pz_ 16 125 #[true, true, true, true, true, true, true, true, true, true, true, true, true, true, true, true, true, false, false, false, false, false] HT_ ?_
              refine pz_ 17 126 #[true, true, true, true, true, true, true, true, true, true, true, true, true, true, true, true, true, true, false, false, false, false] HT_ ?_
              refine pz_ 18 127 #[true, true, true, true, true, true, true, true, true, true, true, true, true, true, true, true, true, true, true, false, false, false] HT_ ?_
              refine pz_ 19 128 #[true, true, true, true, true, true, true, true, true, true, true, true, true, true, true, true, true, true, true, true, false, false] HT_ ?_
              refine pu_ 20 129 #[true, true, true, true, true, true, true, true, true, true, true, true, true, true, true, true, true, true, true, true, true, false] HT_ ?_
              refine pu_ 21 108 #[true, true, true, true, true, true, true, true, true, true, true, true, true, true, true, true, true, true, true, true, true, true] HT_ ?_
              refine done_ (yqb_ HT_.out (by kernel_rfl)) ?_
              try go_wp2
              go_meet
              case rel => exact ⟨_, (false), (by first | rfl | (simp; done) | (simp [*]; done)), H', ⟨by have := HK1.out; have := HK2.out; have := HJ40.out; first | omega | exact Nat.le_refl _⟩, ⟨by (with_reducible repeat (first | apply Kd.yh_ | apply Kd.yi_ | apply Kd.R_drew)); exact HO_6.out⟩, ⟨by (with_reducible repeat (first | apply Kd.yh_ | apply Kd.yi_ | apply Kd.R_drew)); exact HO_9.out⟩, ⟨by repeat (first | (with_reducible first | exact HB.out | apply yc_ | apply ya_ | apply yb_) | exact HB.out)⟩⟩
            ·rw [if_neg c45] at H
             have c45b0 : decide (x10_2 < (l0.length : Int)) = false := decide_eq_false c45
             clear c45
             (first | rw [c45b0] | (simp only [i64_w, i32_w]; rw [c45b0]) | skip)
             have H' := Aside0.mk H
             clear H
             try go_wp2
             have n0_ := Aside0.mk (Kd.R_drew HO_6.out)
             have n1_ := Aside0.mk (Kd.R_drew HO_9.out)
             have n2_ := Aside0.mk (yb_ HB.out)
             clear HO_6
             clear HO_9
             clear HB
             have HO_6 := n0_
             have HO_9 := n1_
             have HB := n2_
             clear n0_ n1_ n2_
             refine start_ (n := 22) (S := fun w' => True) (ds := []) #[false, false, false, false, false, false, false, false, false, false, false, false, false, false, false, false, false, false, false, false, false, false] (by kernel_rfl) rfl rfl trivial (fun hHeld => ?_); refine y9_ yj_.tab17 yj_.bits17 (fun HT_ HW_ => ?_)
             generalize wc.drew = w51 at HO_6 HO_9 HB hHeld ⊢
             refine pu_ 0 109 #[true, false, false, false, false, false, false, false, false, false, false, false, false, false, false, false, false, false, false, false, false, false] HT_ ?_
             refine pu_ 1 110 #[true, true, false, false, false, false, false, false, false, false, false, false, false, false, false, false, false, false, false, false, false, false] HT_ ?_
             refine pu_ 2 111 #[true, true, true, false, false, false, false, false, false, false, false, false, false, false, false, false, false, false, false, false, false, false] HT_ ?_
             refine pu_ 3 112 #[true, true, true, true, false, false, false, false, false, false, false, false, false, false, false, false, false, false, false, false, false, false] HT_ ?_
             refine pu_ 4 113 #[true, true, true, true, true, false, false, false, false, false, false, false, false, false, false, false, false, false, false, false, false, false] HT_ ?_
             refine pz_ 5 114 #[true, true, true, true, true, true, false, false, false, false, false, false, false, false, false, false, false, false, false, false, false, false] HT_ ?_
             refine pz_ 6 115 #[true, true, true, true, true, true, true, false, false, false, false, false, false, false, false, false, false, false, false, false, false, false] HT_ ?_
             refine pz_ 7 116 #[true, true, true, true, true, true, true, true, false, false, false, false, false, false, false, false, false, false, false, false, false, false] HT_ ?_
             refine pz_ 8 117 #[true, true, true, true, true, true, true, true, true, false, false, false, false, false, false, false, false, false, false, false, false, false] HT_ ?_
             refine pu_ 9 118 #[true, true, true, true, true, true, true, true, true, true, false, false, false, false, false, false, false, false, false, false, false, false] HT_ ?_
             refine pu_ 10 119 #[true, true, true, true, true, true, true, true, true, true, true, false, false, false, false, false, false, false, false, false, false, false] HT_ ?_
             refine pz_ 11 120 #[true, true, true, true, true, true, true, true, true, true, true, true, false, false, false, false, false, false, false, false, false, false] HT_ ?_
             refine pz_ 12 121 #[true, true, true, true, true, true, true, true, true, true, true, true, true, false, false, false, false, false, false, false, false, false] HT_ ?_
             refine pz_ 13 122 #[true, true, true, true, true, true, true, true, true, true, true, true, true, true, false, false, false, false, false, false, false, false] HT_ ?_
             refine pz_ 14 123 #[true, true, true, true, true, true, true, true, true, true, true, true, true, true, true, false, false, false, false, false, false, false] HT_ ?_
             refine pz_ 15 124 #[true, true, true, true, true, true, true, true, true, true, true, true, true, true, true, true, false, false, false, false, false, false] HT_ ?_
             refine pz_ 16 125 #[true, true, true, true, true, true, true, true, true, true, true, true, true, true, true, true, true, false, false, false, false, false] HT_ ?_
             refine pz_ 17 126 #[true, true, true, true, true, true, true, true, true, true, true, true, true, true, true, true, true, true, false, false, false, false] HT_ ?_
             refine pz_ 18 127 #[true, true, true, true, true, true, true, true, true, true, true, true, true, true, true, true, true, true, true, false, false, false] HT_ ?_
             refine pz_ 19 128 #[true, true, true, true, true, true, true, true, true, true, true, true, true, true, true, true, true, true, true, true, false, false] HT_ ?_
             refine pu_ 20 129 #[true, true, true, true, true, true, true, true, true, true, true, true, true, true, true, true, true, true, true, true, true, false] HT_ ?_
             refine pu_ 21 108 #[true, true, true, true, true, true, true, true, true, true, true, true, true, true, true, true, true, true, true, true, true, true] HT_ ?_
             refine done_ (yqb_ HT_.out (by kernel_rfl)) ?_
             try go_wp2
             go_meet
             case rel => exact ⟨_, (false), (by first | rfl | (simp; done) | (simp [*]; done)), H', ⟨by have := HK1.out; have := HK2.out; have := HJ40.out; first | omega | exact Nat.le_refl _⟩, ⟨by (with_reducible repeat (first | apply Kd.yh_ | apply Kd.yi_ | apply Kd.R_drew)); exact HO_6.out⟩, ⟨by (with_reducible repeat (first | apply Kd.yh_ | apply Kd.yi_ | apply Kd.R_drew)); exact HO_9.out⟩, ⟨by repeat (first | (with_reducible first | exact HB.out | apply yc_ | apply ya_ | apply yb_) | exact HB.out)⟩⟩
           case rest =>
            clear HC44
            try clear p2
            try clear q2
            try clear hx2
            try clear c3
            try clear p3
            try clear q3
            try clear hx3
            try clear hf3
            try clear c4
            try clear p6
            try clear p21
            try clear q21
            try clear hx21
            try clear p25
            try clear q25
            try clear hx25
            try clear p26
            try clear q26
            try clear hx26
            try clear c34
            try clear c34b0
            try clear c35
            try clear c35b0
            try clear p36
            try clear q36
            try clear hx36
            try clear hf36
            try clear c42
            try clear c42b0
            try clear c43
            try clear c45
            try clear c45b0
            try clear c46
            try clear c46b0
            try clear c47
            try clear c47b0
            try clear c48
            try clear c48b0
            try clear hx21_0
            try clear hx254_0
            try clear hx255_0
            try clear hx256_0
            try clear hx258_0
            try clear hx259_0
            try clear hx261_0
            try clear hx262_0
            try clear hx36_0
            try clear p2
            try clear p21
            try clear p25
            try clear p254
            try clear p255
            try clear p256
            try clear p258
            try clear p259
            try clear p261
            try clear p262
            try clear p3
            try clear p36
            try clear p6
            try clear q2
            try clear q21
            try clear q25
            try clear q254
            try clear q255
            try clear q256
            try clear q258
            try clear q259
            try clear q261
            try clear q262
            try clear q3
            try clear q36
            obtain ⟨kq, x108_43, rfl, HA, HJ43, HO_6, HO_9, HB⟩ := hcut
            cases kq with
            | zero => exact absurd HA.out (by simp [yj_.j4])
            | succ kj43 =>
             have H := HA.out
             clear HA
             simp only [yj_.j4] at H
             by_cases c52 : x108_43 = true
             ·subst c52
              have H1 : (if 0 ≤ x10_2 then (if x10_2 < (l0.length : Int) then (if x9_2.length < 5864062014805 then (yj_.l2 kj43 l0 l1 (wrap64 ((l1.length : Int) + 1)) x6_1 (x9_2 ++ [(⟨32, rdOf ByteArray.empty l0 x10_2⟩ : S78)]) (wrap64 (x10_2 + 1)) (wrap64 (x11_2 + 1))) else (none)) else (none)) else (none)) = some r := by rw [if_pos rfl] at H; exact H
              clear H
              have H := H1
              clear H1
              by_cases c53 : 0 ≤ x10_2
              ·rw [if_pos c53] at H
               have c53b0 : decide (0 ≤ x10_2) = true := decide_eq_true c53
               clear c53
               by_cases c54 : x10_2 < (l0.length : Int)
               ·rw [if_pos c54] at H
                have c54b0 : decide (x10_2 < (l0.length : Int)) = true := decide_eq_true c54
                clear c54
                by_cases c55 : x9_2.length < 5864062014805
                ·rw [if_pos c55] at H
                 have LMc55 := Aside0.mk c55
                 clear c55
                 obtain ⟨y264, hy264⟩ : ∃ y_ : List (S78), y_ = (x9_2 ++ [(⟨32, rdOf ByteArray.empty l0 x10_2⟩ : S78)]) := ⟨_, rfl⟩
                 replace H : (yj_.l2 kj43 l0 l1 (wrap64 ((l1.length : Int) + 1)) x6_1 y264 (wrap64 (x10_2 + 1)) (wrap64 (x11_2 + 1))) = some r := by first | (rw [hy264]; with_reducible exact H) | (have H2_ := (Option.bind_some _ _).symm.trans H; rw [hy264]; with_reducible exact H2_) | (have H2_ := (Option.bind_some _ _).symm.trans H; with_reducible exact H2_) | with_reducible exact H | (rw [hy264]; exact H) | exact H
                 have Ny264 := Aside0.mk hy264
                 clear hy264
                 have H' := Aside0.mk H
                 clear H
                 have p263 : 0 ≤ (x10_2 : Int) := of_decide_eq_true (by first | (with_reducible assumption) | assumption)
                 have q263 : x10_2 < (l0.length : Int) := of_decide_eq_true (by first | (with_reducible assumption) | assumption)
                 obtain ⟨ad263, e263, hx263_0⟩ := Kd.yL_ HR0.out x10_2 p263 q263
                 cases e263
                 replace hx263_0 := (HB.out.cell (World.block_lt_of_cell? w _ hx263_0)).trans hx263_0
                 replace p263 := eq_true p263
                 replace q263 := eq_true q263
                 go_wp2_with (first | ((with_reducible refine yD_ (b := .append) (xs := #[.tmp 130, .tmp 136]) rfl ?_); (try (refine yAb_ (by rfl) ?_; dsimp only)); at_builtin; refine Kd.y0_ k78 (w0 := w) w.heap.size rfl (.tmp 130) (.tmp 136) 64 78 (.agg #[(.int .u8 0), (.string ⟨#[]⟩)]) 24 rfl Tryd.underlying64 info78 rfl (by decide) (by omega) u9 x9_2 (⟨32, rdOf ByteArray.empty l0 x10_2⟩ : S78) [.int .u8 32, .string (rdOf ByteArray.empty l0 x10_2)] (fun _ => True) (fun _ => False) rfl rfl ?aP (fun _ hk => hk.elim) ?aF ?aO ?aB ?aS ?aL ?_; (case aP => exact k78_mkM _ _ _ (⟨32, rdOf ByteArray.empty l0 x10_2⟩ : S78)); (case aB => exact (by repeat (first | (with_reducible first | exact HB.out | apply yc_ | apply ya_ | apply yb_) | exact HB.out))); (case aF => exact (fun _ _ => trivial)); (case aO => exact (by (with_reducible repeat (first | apply Kd.yh_ | apply Kd.yi_ | apply Kd.R_drew)); exact HO_9.out)); (case aS => exact (yk_ (by repeat (first | (with_reducible first | exact HB.out | apply yc_ | apply ya_ | apply yb_) | exact HB.out)))); (case aL => have := LMc55.out; omega); intro v265 w56 ho hb hg hat; rw [← Ny264.out] at ho; have n0_ := Aside0.mk (Kd.yhb_ (by (with_reducible repeat (first | apply Kd.yh_ | apply Kd.yi_ | apply Kd.R_drew)); exact HO_6.out) (Kd.yU_ (by (with_reducible repeat (first | apply Kd.yh_ | apply Kd.yi_ | apply Kd.R_drew)); exact HO_9.out)) (by decide) hg); have n1_ := Aside0.mk (hb); have n2_ := Aside0.mk (ho); clear HO_6; clear HB; clear HO_9; have HO_6 := n0_; have HB := n1_; have HO266 := n2_; clear n0_ n1_ n2_; clear ho hb hg hat))
                 go_roundg kj43
                 case measure => have := HK1.out; have := HK2.out; have := HJ40.out; have := HJ43.out; omega
                 case rel => exact ⟨(y264), (wrap64 (x10_2 + 1)), (wrap64 (x11_2 + 1)), (by first | rfl | (simp; done) | (simp [*]; done)), (by first | rfl | (simp; done) | (simp [*]; done)), H', ⟨by have := HK1.out; have := HK2.out; have := HJ40.out; have := HJ43.out; omega⟩, ⟨by (with_reducible repeat (first | apply Kd.yh_ | apply Kd.yi_ | apply Kd.R_drew)); exact HO_6.out⟩, ⟨by (with_reducible repeat (first | apply Kd.yh_ | apply Kd.yi_ | apply Kd.R_drew)); exact HO266.out⟩, ⟨by repeat (first | (with_reducible first | exact HB.out | apply yc_ | apply ya_ | apply yb_) | exact HB.out)⟩⟩
                ·rw [if_neg c55] at H
                 exact absurd H (by simp)
               ·rw [if_neg c54] at H
                exact absurd H (by simp)
              ·rw [if_neg c53] at H
               exact absurd H (by simp)
             ·replace c52 := Bool.eq_false_iff.mpr c52
              subst c52
              have H1 : (if x10_2 < (l0.length : Int) then (if x11_2 = (l1.length : Int) then (if 0 ≤ x10_2 then (if x9_2.length < 5864062014805 then (yj_.l2 kj43 l0 l1 (wrap64 ((l1.length : Int) + 1)) x6_1 (x9_2 ++ [(⟨45, rdOf ByteArray.empty l0 x10_2⟩ : S78)]) (wrap64 (x10_2 + 1)) x11_2) else (none)) else (none)) else (if 0 ≤ (wrap64 ((wrap64 ((wrap64 (x10_2 + 1)) * (wrap64 ((l1.length : Int) + 1)))) + x11_2)) then (if (wrap64 ((wrap64 ((wrap64 (x10_2 + 1)) * (wrap64 ((l1.length : Int) + 1)))) + x11_2)) < (x6_1.length : Int) then (if 0 ≤ (wrap64 ((wrap64 ((wrap64 (x10_2 * (wrap64 ((l1.length : Int) + 1)))) + x11_2)) + 1)) then (if (wrap64 ((wrap64 ((wrap64 (x10_2 * (wrap64 ((l1.length : Int) + 1)))) + x11_2)) + 1)) < (x6_1.length : Int) then (if (rd x6_1 (wrap64 ((wrap64 ((wrap64 (x10_2 + 1)) * (wrap64 ((l1.length : Int) + 1)))) + x11_2))) ≥ (rd x6_1 (wrap64 ((wrap64 ((wrap64 (x10_2 * (wrap64 ((l1.length : Int) + 1)))) + x11_2)) + 1))) then (if 0 ≤ x10_2 then (if x9_2.length < 5864062014805 then (yj_.l2 kj43 l0 l1 (wrap64 ((l1.length : Int) + 1)) x6_1 (x9_2 ++ [(⟨45, rdOf ByteArray.empty l0 x10_2⟩ : S78)]) (wrap64 (x10_2 + 1)) x11_2) else (none)) else (none)) else (if 0 ≤ x11_2 then (if x11_2 < (l1.length : Int) then (if x9_2.length < 5864062014805 then (yj_.l2 kj43 l0 l1 (wrap64 ((l1.length : Int) + 1)) x6_1 (x9_2 ++ [(⟨43, rdOf ByteArray.empty l1 x11_2⟩ : S78)]) x10_2 (wrap64 (x11_2 + 1))) else (none)) else (none)) else (none))) else (none)) else (none)) else (none)) else (none))) else (if 0 ≤ x11_2 then (if x11_2 < (l1.length : Int) then (if x9_2.length < 5864062014805 then (yj_.l2 kj43 l0 l1 (wrap64 ((l1.length : Int) + 1)) x6_1 (x9_2 ++ [(⟨43, rdOf ByteArray.empty l1 x11_2⟩ : S78)]) x10_2 (wrap64 (x11_2 + 1))) else (none)) else (none)) else (none))) = some r := by rw [if_neg (show ¬ (false = true) by decide)] at H; exact H
              clear H
              have H := H1
              clear H1
              by_cases c57 : x10_2 < (l0.length : Int)
              ·rw [if_pos c57] at H
               have c57b0 : decide (x10_2 < (l0.length : Int)) = true := decide_eq_true c57
               clear c57
               by_cases c58 : x11_2 = (l1.length : Int)
               ·rw [if_pos c58] at H
                have c58b0 : (x11_2 == (l1.length : Int)) = true := beq_iff_eq.mpr c58
                have c58b1 : (x11_2 != (l1.length : Int)) = false := bne_eq_false_iff_eq.mpr c58
                clear c58
                by_cases c59 : 0 ≤ x10_2
                ·rw [if_pos c59] at H
                 have c59b0 : decide (0 ≤ x10_2) = true := decide_eq_true c59
                 clear c59
                 by_cases c60 : x9_2.length < 5864062014805
                 ·rw [if_pos c60] at H
                  have LMc60 := Aside0.mk c60
                  clear c60
                  obtain ⟨y268, hy268⟩ : ∃ y_ : List (S78), y_ = (x9_2 ++ [(⟨45, rdOf ByteArray.empty l0 x10_2⟩ : S78)]) := ⟨_, rfl⟩
                  replace H : (yj_.l2 kj43 l0 l1 (wrap64 ((l1.length : Int) + 1)) x6_1 y268 (wrap64 (x10_2 + 1)) x11_2) = some r := by first | (rw [hy268]; with_reducible exact H) | (have H2_ := (Option.bind_some _ _).symm.trans H; rw [hy268]; with_reducible exact H2_) | (have H2_ := (Option.bind_some _ _).symm.trans H; with_reducible exact H2_) | with_reducible exact H | (rw [hy268]; exact H) | exact H
                  have Ny268 := Aside0.mk hy268
                  clear hy268
                  have H' := Aside0.mk H
                  clear H
                  try go_wp2
                  have n0_ := Aside0.mk (Kd.R_drew HO_6.out)
                  have n1_ := Aside0.mk (Kd.R_drew HO_9.out)
                  have n2_ := Aside0.mk (yb_ HB.out)
                  clear HO_6
                  clear HO_9
                  clear HB
                  have HO_6 := n0_
                  have HO_9 := n1_
                  have HB := n2_
                  clear n0_ n1_ n2_
                  refine start_ (n := 32) (S := fun w' => True) (ds := []) #[false, false, false, false, false, false, false, false, false, false, false, false, false, false, false, false, false, false, false, false, false, false, false, false, false, false, false, false, false, false, false, false] (by kernel_rfl) rfl rfl trivial (fun hHeld => ?_); refine y9_ yj_.tab21 yj_.bits21 (fun HT_ HW_ => ?_)
                  generalize wc.drew = w61 at HO_6 HO_9 HB hHeld ⊢
                  refine pu_ 0 143 #[true, false, false, false, false, false, false, false, false, false, false, false, false, false, false, false, false, false, false, false, false, false, false, false, false, false, false, false, false, false, false, false] HT_ ?_
                  refine pu_ 1 144 #[true, true, false, false, false, false, false, false, false, false, false, false, false, false, false, false, false, false, false, false, false, false, false, false, false, false, false, false, false, false, false, false] HT_ ?_
                  refine pu_ 2 145 #[true, true, true, false, false, false, false, false, false, false, false, false, false, false, false, false, false, false, false, false, false, false, false, false, false, false, false, false, false, false, false, false] HT_ ?_
                  refine pu_ 3 146 #[true, true, true, true, false, false, false, false, false, false, false, false, false, false, false, false, false, false, false, false, false, false, false, false, false, false, false, false, false, false, false, false] HT_ ?_
                  refine pu_ 4 147 #[true, true, true, true, true, false, false, false, false, false, false, false, false, false, false, false, false, false, false, false, false, false, false, false, false, false, false, false, false, false, false, false] HT_ ?_
                  refine pu_ 5 148 #[true, true, true, true, true, true, false, false, false, false, false, false, false, false, false, false, false, false, false, false, false, false, false, false, false, false, false, false, false, false, false, false] HT_ ?_
                  refine pu_ 6 149 #[true, true, true, true, true, true, true, false, false, false, false, false, false, false, false, false, false, false, false, false, false, false, false, false, false, false, false, false, false, false, false, false] HT_ ?_
                  refine pu_ 7 150 #[true, true, true, true, true, true, true, true, false, false, false, false, false, false, false, false, false, false, false, false, false, false, false, false, false, false, false, false, false, false, false, false] HT_ ?_
                  refine pu_ 8 151 #[true, true, true, true, true, true, true, true, true, false, false, false, false, false, false, false, false, false, false, false, false, false, false, false, false, false, false, false, false, false, false, false] HT_ ?_
                  refine pu_ 9 152 #[true, true, true, true, true, true, true, true, true, true, false, false, false, false, false, false, false, false, false, false, false, false, false, false, false, false, false, false, false, false, false, false] HT_ ?_
                  refine pz_ 10 153 #[true, true, true, true, true, true, true, true, true, true, true, false, false, false, false, false, false, false, false, false, false, false, false, false, false, false, false, false, false, false, false, false] HT_ ?_
                  refine pz_ 11 154 #[true, true, true, true, true, true, true, true, true, true, true, true, false, false, false, false, false, false, false, false, false, false, false, false, false, false, false, false, false, false, false, false] HT_ ?_
                  refine pz_ 12 155 #[true, true, true, true, true, true, true, true, true, true, true, true, true, false, false, false, false, false, false, false, false, false, false, false, false, false, false, false, false, false, false, false] HT_ ?_
                  refine pz_ 13 156 #[true, true, true, true, true, true, true, true, true, true, true, true, true, true, false, false, false, false, false, false, false, false, false, false, false, false, false, false, false, false, false, false] HT_ ?_
                  refine pz_ 14 157 #[true, true, true, true, true, true, true, true, true, true, true, true, true, true, true, false, false, false, false, false, false, false, false, false, false, false, false, false, false, false, false, false] HT_ ?_
                  refine pz_ 15 158 #[true, true, true, true, true, true, true, true, true, true, true, true, true, true, true, true, false, false, false, false, false, false, false, false, false, false, false, false, false, false, false, false] HT_ ?_
                  refine pz_ 16 159 #[true, true, true, true, true, true, true, true, true, true, true, true, true, true, true, true, true, false, false, false, false, false, false, false, false, false, false, false, false, false, false, false] HT_ ?_
                  refine pz_ 17 160 #[true, true, true, true, true, true, true, true, true, true, true, true, true, true, true, true, true, true, false, false, false, false, false, false, false, false, false, false, false, false, false, false] HT_ ?_
                  refine pz_ 18 161 #[true, true, true, true, true, true, true, true, true, true, true, true, true, true, true, true, true, true, true, false, false, false, false, false, false, false, false, false, false, false, false, false] HT_ ?_
                  refine pz_ 19 162 #[true, true, true, true, true, true, true, true, true, true, true, true, true, true, true, true, true, true, true, true, false, false, false, false, false, false, false, false, false, false, false, false] HT_ ?_
                  refine pz_ 20 163 #[true, true, true, true, true, true, true, true, true, true, true, true, true, true, true, true, true, true, true, true, true, false, false, false, false, false, false, false, false, false, false, false] HT_ ?_
                  refine pz_ 21 164 #[true, true, true, true, true, true, true, true, true, true, true, true, true, true, true, true, true, true, true, true, true, true, false, false, false, false, false, false, false, false, false, false] HT_ ?_
                  refine pz_ 22 165 #[true, true, true, true, true, true, true, true, true, true, true, true, true, true, true, true, true, true, true, true, true, true, true, false, false, false, false, false, false, false, false, false] HT_ ?_
                  refine pz_ 23 166 #[true, true, true, true, true, true, true, true, true, true, true, true, true, true, true, true, true, true, true, true, true, true, true, true, false, false, false, false, false, false, false, false] HT_ ?_
                  refine pz_ 24 167 #[true, true, true, true, true, true, true, true, true, true, true, true, true, true, true, true, true, true, true, true, true, true, true, true, true, false, false, false, false, false, false, false] HT_ ?_
                  refine pz_ 25 168 #[true, true, true, true, true, true, true, true, true, true, true, true, true, true, true, true, true, true, true, true, true, true, true, true, true, true, false, false, false, false, false, false] HT_ ?_
                  refine pz_ 26 169 #[true, true, true, true, true, true, true, true, true, true, true, true, true, true, true, true, true, true, true, true, true, true, true, true, true, true, true, false, false, false, false, false] HT_ ?_
                  refine pz_ 27 170 #[true, true, true, true, true, true, true, true, true, true, true, true, true, true, true, true, true, true, true, true, true, true, true, true, true, true, true, true, false, false, false, false] HT_ ?_
                  refine pz_ 28 171 #[true, true, true, true, true, true, true, true, true, true, true, true, true, true, true, true, true, true, true, true, true, true, true, true, true, true, true, true, true, false, false, false] HT_ ?_
                  refine pu_ 29 172 #[true, true, true, true, true, true, true, true, true, true, true, true, true, true, true, true, true, true, true, true, true, true, true, true, true, true, true, true, true, true, false, false] HT_ ?_
                  refine pu_ 30 173 #[true, true, true, true, true, true, true, true, true, true, true, true, true, true, true, true, true, true, true, true, true, true, true, true, true, true, true, true, true, true, true, false] HT_ ?_
                  refine pu_ 31 142 #[true, true, true, true, true, true, true, true, true, true, true, true, true, true, true, true, true, true, true, true, true, true, true, true, true, true, true, true, true, true, true, true] HT_ ?_
                  refine done_ (yqb_ HT_.out (by kernel_rfl)) ?_
                  have p267 : 0 ≤ (x10_2 : Int) := of_decide_eq_true (by first | (with_reducible assumption) | assumption)
                  have q267 : x10_2 < (l0.length : Int) := of_decide_eq_true (by first | (with_reducible assumption) | assumption)
                  obtain ⟨ad267, e267, hx267_0⟩ := Kd.yL_ HR0.out x10_2 p267 q267
                  cases e267
                  replace hx267_0 := (HB.out.cell (World.block_lt_of_cell? w _ hx267_0)).trans hx267_0
                  replace p267 := eq_true p267
                  replace q267 := eq_true q267
                  try go_wp2_with (first | ((with_reducible refine yD_ (b := .append) (xs := #[.tmp 174, .tmp 180]) rfl ?_); (try (refine yAb_ (by rfl) ?_; dsimp only)); at_builtin; refine Kd.y0_ k78 (w0 := w) w.heap.size rfl (.tmp 174) (.tmp 180) 64 78 (.agg #[(.int .u8 0), (.string ⟨#[]⟩)]) 24 rfl Tryd.underlying64 info78 rfl (by decide) (by omega) u9 x9_2 (⟨45, rdOf ByteArray.empty l0 x10_2⟩ : S78) [.int .u8 45, .string (rdOf ByteArray.empty l0 x10_2)] (fun _ => True) (fun _ => False) rfl rfl ?aP (fun _ hk => hk.elim) ?aF ?aO ?aB ?aS ?aL ?_; (case aP => exact k78_mkM _ _ _ (⟨45, rdOf ByteArray.empty l0 x10_2⟩ : S78)); (case aB => exact (by repeat (first | (with_reducible first | exact HB.out | apply yc_ | apply ya_ | apply yb_) | exact HB.out))); (case aF => exact (fun _ _ => trivial)); (case aO => exact (by (with_reducible repeat (first | apply Kd.yh_ | apply Kd.yi_ | apply Kd.R_drew)); exact HO_9.out)); (case aS => exact (yk_ (by repeat (first | (with_reducible first | exact HB.out | apply yc_ | apply ya_ | apply yb_) | exact HB.out)))); (case aL => have := LMc60.out; omega); intro v269 w62 ho hb hg hat; rw [← Ny268.out] at ho; have n0_ := Aside0.mk (Kd.yhb_ (by (with_reducible repeat (first | apply Kd.yh_ | apply Kd.yi_ | apply Kd.R_drew)); exact HO_6.out) (Kd.yU_ (by (with_reducible repeat (first | apply Kd.yh_ | apply Kd.yi_ | apply Kd.R_drew)); exact HO_9.out)) (by decide) hg); have n1_ := Aside0.mk (hb); have n2_ := Aside0.mk (ho); clear HO_6; clear HB; clear HO_9; have HO_6 := n0_; have HB := n1_; have HO270 := n2_; clear n0_ n1_ n2_; clear ho hb hg hat))
                  go_roundg kj43
                  case measure => have := HK1.out; have := HK2.out; have := HJ40.out; have := HJ43.out; omega
                  case rel => exact ⟨(y268), (wrap64 (x10_2 + 1)), (x11_2), (by first | rfl | (simp; done) | (simp [*]; done)), (by first | rfl | (simp; done) | (simp [*]; done)), H', ⟨by have := HK1.out; have := HK2.out; have := HJ40.out; have := HJ43.out; omega⟩, ⟨by (with_reducible repeat (first | apply Kd.yh_ | apply Kd.yi_ | apply Kd.R_drew)); exact HO_6.out⟩, ⟨by (with_reducible repeat (first | apply Kd.yh_ | apply Kd.yi_ | apply Kd.R_drew)); exact HO270.out⟩, ⟨by repeat (first | (with_reducible first | exact HB.out | apply yc_ | apply ya_ | apply yb_) | exact HB.out)⟩⟩
                 ·rw [if_neg c60] at H
                  exact absurd H (by simp)
                ·rw [if_neg c59] at H
                 exact absurd H (by simp)
               ·rw [if_neg c58] at H
                have c58b0 : (x11_2 == (l1.length : Int)) = false := beq_eq_false_iff_ne.mpr c58
                have c58b1 : (x11_2 != (l1.length : Int)) = true := bne_iff_ne.mpr c58
                obtain ⟨ji63, hji63⟩ : ∃ j_ : Int, (wrap64 ((wrap64 ((wrap64 (x10_2 + 1)) * (wrap64 ((l1.length : Int) + 1)))) + x11_2)) = j_ := ⟨_, rfl⟩
                replace H : (if 0 ≤ (ji63) then (if (ji63) < (x6_1.length : Int) then (if 0 ≤ (wrap64 ((wrap64 ((wrap64 (x10_2 * (wrap64 ((l1.length : Int) + 1)))) + x11_2)) + 1)) then (if (wrap64 ((wrap64 ((wrap64 (x10_2 * (wrap64 ((l1.length : Int) + 1)))) + x11_2)) + 1)) < (x6_1.length : Int) then (if (rd x6_1 (ji63)) ≥ (rd x6_1 (wrap64 ((wrap64 ((wrap64 (x10_2 * (wrap64 ((l1.length : Int) + 1)))) + x11_2)) + 1))) then (if 0 ≤ x10_2 then (if x9_2.length < 5864062014805 then (yj_.l2 kj43 l0 l1 (wrap64 ((l1.length : Int) + 1)) x6_1 (x9_2 ++ [(⟨45, rdOf ByteArray.empty l0 x10_2⟩ : S78)]) (wrap64 (x10_2 + 1)) x11_2) else (none)) else (none)) else (if 0 ≤ x11_2 then (if x11_2 < (l1.length : Int) then (if x9_2.length < 5864062014805 then (yj_.l2 kj43 l0 l1 (wrap64 ((l1.length : Int) + 1)) x6_1 (x9_2 ++ [(⟨43, rdOf ByteArray.empty l1 x11_2⟩ : S78)]) x10_2 (wrap64 (x11_2 + 1))) else (none)) else (none)) else (none))) else (none)) else (none)) else (none)) else (none)) = some r := by first | (rw [hji63] at H; exact H) | (simp only [hji63] at H ⊢; exact H)
                have hji63w : (IntKind.i64.wrap ((wrap64 ((wrap64 (x10_2 + 1)) * (wrap64 ((l1.length : Int) + 1)))) + x11_2)) = ji63 := (i64_w _).trans hji63
                by_cases c64 : 0 ≤ (ji63)
                ·rw [if_pos c64] at H
                 have c64b0 : decide (0 ≤ (ji63)) = true := decide_eq_true c64
                 clear c64
                 by_cases c65 : (ji63) < (x6_1.length : Int)
                 ·rw [if_pos c65] at H
                  have c65b0 : decide ((ji63) < (x6_1.length : Int)) = true := decide_eq_true c65
                  clear c65
                  obtain ⟨ji66, hji66⟩ : ∃ j_ : Int, (wrap64 ((wrap64 ((wrap64 (x10_2 * (wrap64 ((l1.length : Int) + 1)))) + x11_2)) + 1)) = j_ := ⟨_, rfl⟩
                  replace H : (if 0 ≤ (ji66) then (if (ji66) < (x6_1.length : Int) then (if (rd x6_1 (ji63)) ≥ (rd x6_1 (ji66)) then (if 0 ≤ x10_2 then (if x9_2.length < 5864062014805 then (yj_.l2 kj43 l0 l1 (wrap64 ((l1.length : Int) + 1)) x6_1 (x9_2 ++ [(⟨45, rdOf ByteArray.empty l0 x10_2⟩ : S78)]) (wrap64 (x10_2 + 1)) x11_2) else (none)) else (none)) else (if 0 ≤ x11_2 then (if x11_2 < (l1.length : Int) then (if x9_2.length < 5864062014805 then (yj_.l2 kj43 l0 l1 (wrap64 ((l1.length : Int) + 1)) x6_1 (x9_2 ++ [(⟨43, rdOf ByteArray.empty l1 x11_2⟩ : S78)]) x10_2 (wrap64 (x11_2 + 1))) else (none)) else (none)) else (none))) else (none)) else (none)) = some r := by first | (rw [hji66] at H; exact H) | (simp only [hji66] at H ⊢; exact H)
                  have hji66w : (IntKind.i64.wrap ((wrap64 ((wrap64 (x10_2 * (wrap64 ((l1.length : Int) + 1)))) + x11_2)) + 1)) = ji66 := (i64_w _).trans hji66
                  by_cases c67 : 0 ≤ (ji66)
                  ·rw [if_pos c67] at H
                   have c67b0 : decide (0 ≤ (ji66)) = true := decide_eq_true c67
                   clear c67
                   by_cases c68 : (ji66) < (x6_1.length : Int)
                   ·rw [if_pos c68] at H
                    have c68b0 : decide ((ji66) < (x6_1.length : Int)) = true := decide_eq_true c68
                    clear c68
                    by_cases c69 : (rd x6_1 (ji63)) ≥ (rd x6_1 (ji66))
                    ·rw [if_pos c69] at H
                     have c69b0 : decide ((rd x6_1 (ji66)) ≤ (rd x6_1 (ji63))) = true := decide_eq_true c69
                     clear c69
                     by_cases c70 : 0 ≤ x10_2
                     ·rw [if_pos c70] at H
                      have c70b0 : decide (0 ≤ x10_2) = true := decide_eq_true c70
                      clear c70
                      by_cases c71 : x9_2.length < 5864062014805
                      ·rw [if_pos c71] at H
                       have LMc71 := Aside0.mk c71
                       clear c71
                       obtain ⟨y274, hy274⟩ : ∃ y_ : List (S78), y_ = (x9_2 ++ [(⟨45, rdOf ByteArray.empty l0 x10_2⟩ : S78)]) := ⟨_, rfl⟩
                       replace H : (yj_.l2 kj43 l0 l1 (wrap64 ((l1.length : Int) + 1)) x6_1 y274 (wrap64 (x10_2 + 1)) x11_2) = some r := by first | (rw [hy274]; with_reducible exact H) | (have H2_ := (Option.bind_some _ _).symm.trans H; rw [hy274]; with_reducible exact H2_) | (have H2_ := (Option.bind_some _ _).symm.trans H; with_reducible exact H2_) | with_reducible exact H | (rw [hy274]; exact H) | exact H
                       have Ny274 := Aside0.mk hy274
                       clear hy274
                       have H' := Aside0.mk H
                       clear H
                       try go_wp2
                       have n0_ := Aside0.mk (Kd.R_drew HO_6.out)
                       have n1_ := Aside0.mk (Kd.R_drew HO_9.out)
                       have n2_ := Aside0.mk (yb_ HB.out)
                       clear HO_6
                       clear HO_9
                       clear HB
                       have HO_6 := n0_
                       have HO_9 := n1_
                       have HB := n2_
                       clear n0_ n1_ n2_
                       obtain ⟨Ao73, co73, eo73⟩ := Kd.yC_ HO_6.out
                       (first | subst eo73 | (injection eo73 with f1_ f2_ f3_; have f4_ := f1_.symm; have f5_ := f3_.symm; clear f1_ f2_ f3_; subst f4_; subst f5_))
                       have p271 : 0 ≤ ((ji63) : Int) := of_decide_eq_true (by first | (with_reducible assumption) | assumption)
                       have q271 : (ji63) < (x6_1.length : Int) := of_decide_eq_true (by first | (with_reducible assumption) | assumption)
                       obtain ⟨ad271, e271, hx271_0⟩ := Kd.at_int (Kd.yo_ HO_6.out).2.2 (ji63) p271 q271
                       cases e271
                       replace p271 := eq_true p271
                       replace q271 := eq_true q271
                       have p272 : 0 ≤ ((ji66) : Int) := of_decide_eq_true (by first | (with_reducible assumption) | assumption)
                       have q272 : (ji66) < (x6_1.length : Int) := of_decide_eq_true (by first | (with_reducible assumption) | assumption)
                       obtain ⟨ad272, e272, hx272_0⟩ := Kd.at_int (Kd.yo_ HO_6.out).2.2 (ji66) p272 q272
                       obtain rfl : ad271 = ad272 := (by injection e272)
                       replace p272 := eq_true p272
                       replace q272 := eq_true q272
                       refine start_ (n := 32) (S := fun w' => w'.cell? (ad271.add ((ji63)).toNat) = some (.int .i64 (rd x6_1 (ji63))) ∧ w'.cell? (ad271.add ((ji66)).toNat) = some (.int .i64 (rd x6_1 (ji66)))) (ds := []) #[false, false, false, false, false, false, false, false, false, false, false, false, false, false, false, false, false, false, false, false, false, false, false, false, false, false, false, false, false, false, false, false] (by kernel_rfl) rfl rfl ⟨hx271_0, hx272_0⟩ (fun hHeld => ?_); refine y9_ yj_.tab21 yj_.bits21 (fun HT_ HW_ => ?_)
                       generalize wc.drew = w72 at HO_6 HO_9 HB hx271_0 hx272_0 hHeld ⊢
                       refine pu_ 0 143 #[true, false, false, false, false, false, false, false, false, false, false, false, false, false, false, false, false, false, false, false, false, false, false, false, false, false, false, false, false, false, false, false] HT_ ?_
                       refine pu_ 1 144 #[true, true, false, false, false, false, false, false, false, false, false, false, false, false, false, false, false, false, false, false, false, false, false, false, false, false, false, false, false, false, false, false] HT_ ?_
                       refine pu_ 2 145 #[true, true, true, false, false, false, false, false, false, false, false, false, false, false, false, false, false, false, false, false, false, false, false, false, false, false, false, false, false, false, false, false] HT_ ?_
                       refine pu_ 3 146 #[true, true, true, true, false, false, false, false, false, false, false, false, false, false, false, false, false, false, false, false, false, false, false, false, false, false, false, false, false, false, false, false] HT_ ?_
                       refine pu_ 4 147 #[true, true, true, true, true, false, false, false, false, false, false, false, false, false, false, false, false, false, false, false, false, false, false, false, false, false, false, false, false, false, false, false] HT_ ?_
                       refine pu_ 5 148 #[true, true, true, true, true, true, false, false, false, false, false, false, false, false, false, false, false, false, false, false, false, false, false, false, false, false, false, false, false, false, false, false] HT_ ?_
                       refine pu_ 6 149 #[true, true, true, true, true, true, true, false, false, false, false, false, false, false, false, false, false, false, false, false, false, false, false, false, false, false, false, false, false, false, false, false] HT_ ?_
                       refine pu_ 7 150 #[true, true, true, true, true, true, true, true, false, false, false, false, false, false, false, false, false, false, false, false, false, false, false, false, false, false, false, false, false, false, false, false] HT_ ?_
                       refine pu_ 8 151 #[true, true, true, true, true, true, true, true, true, false, false, false, false, false, false, false, false, false, false, false, false, false, false, false, false, false, false, false, false, false, false, false] HT_ ?_
                       refine pu_ 9 152 #[true, true, true, true, true, true, true, true, true, true, false, false, false, false, false, false, false, false, false, false, false, false, false, false, false, false, false, false, false, false, false, false] HT_ ?_
                       refine pu_ 10 153 #[true, true, true, true, true, true, true, true, true, true, true, false, false, false, false, false, false, false, false, false, false, false, false, false, false, false, false, false, false, false, false, false] HT_ ?_
                       refine pu_ 11 154 #[true, true, true, true, true, true, true, true, true, true, true, true, false, false, false, false, false, false, false, false, false, false, false, false, false, false, false, false, false, false, false, false] HT_ ?_
                       refine pu_ 12 155 #[true, true, true, true, true, true, true, true, true, true, true, true, true, false, false, false, false, false, false, false, false, false, false, false, false, false, false, false, false, false, false, false] HT_ ?_
                       refine pu_ 13 156 #[true, true, true, true, true, true, true, true, true, true, true, true, true, true, false, false, false, false, false, false, false, false, false, false, false, false, false, false, false, false, false, false] HT_ ?_
                       refine pu_ 14 157 #[true, true, true, true, true, true, true, true, true, true, true, true, true, true, true, false, false, false, false, false, false, false, false, false, false, false, false, false, false, false, false, false] HT_ ?_
                       refine pu_ 15 158 #[true, true, true, true, true, true, true, true, true, true, true, true, true, true, true, true, false, false, false, false, false, false, false, false, false, false, false, false, false, false, false, false] HT_ ?_
                       refine pu_ 16 159 #[true, true, true, true, true, true, true, true, true, true, true, true, true, true, true, true, true, false, false, false, false, false, false, false, false, false, false, false, false, false, false, false] HT_ ?_
                       refine pu_ 17 160 #[true, true, true, true, true, true, true, true, true, true, true, true, true, true, true, true, true, true, false, false, false, false, false, false, false, false, false, false, false, false, false, false] HT_ ?_
                       refine pu_ 19 162 #[true, true, true, true, true, true, true, true, true, true, true, true, true, true, true, true, true, true, false, true, false, false, false, false, false, false, false, false, false, false, false, false] HT_ ?_
                       refine pu_ 20 163 #[true, true, true, true, true, true, true, true, true, true, true, true, true, true, true, true, true, true, false, true, true, false, false, false, false, false, false, false, false, false, false, false] HT_ ?_
                       refine pu_ 21 164 #[true, true, true, true, true, true, true, true, true, true, true, true, true, true, true, true, true, true, false, true, true, true, false, false, false, false, false, false, false, false, false, false] HT_ ?_
                       refine pu_ 22 165 #[true, true, true, true, true, true, true, true, true, true, true, true, true, true, true, true, true, true, false, true, true, true, true, false, false, false, false, false, false, false, false, false] HT_ ?_
                       refine pu_ 23 166 #[true, true, true, true, true, true, true, true, true, true, true, true, true, true, true, true, true, true, false, true, true, true, true, true, false, false, false, false, false, false, false, false] HT_ ?_
                       refine pu_ 24 167 #[true, true, true, true, true, true, true, true, true, true, true, true, true, true, true, true, true, true, false, true, true, true, true, true, true, false, false, false, false, false, false, false] HT_ ?_
                       refine pu_ 25 168 #[true, true, true, true, true, true, true, true, true, true, true, true, true, true, true, true, true, true, false, true, true, true, true, true, true, true, false, false, false, false, false, false] HT_ ?_
                       refine pu_ 26 169 #[true, true, true, true, true, true, true, true, true, true, true, true, true, true, true, true, true, true, false, true, true, true, true, true, true, true, true, false, false, false, false, false] HT_ ?_
                       refine tk_ 18 161 #[true, true, true, true, true, true, true, true, true, true, true, true, true, true, true, true, true, true, true, true, true, true, true, true, true, true, true, false, false, false, false, false] rfl HT_ HW_ hHeld (by rintro w' ⟨s0, s1⟩; go_simp; with_reducible rfl) ?_
                       refine tk_ 27 170 #[true, true, true, true, true, true, true, true, true, true, true, true, true, true, true, true, true, true, true, true, true, true, true, true, true, true, true, true, false, false, false, false] rfl HT_ HW_ hHeld (by rintro w' ⟨s0, s1⟩; go_simp; with_reducible rfl) ?_
                       refine pu_ 28 171 #[true, true, true, true, true, true, true, true, true, true, true, true, true, true, true, true, true, true, true, true, true, true, true, true, true, true, true, true, true, false, false, false] HT_ ?_
                       refine pu_ 29 172 #[true, true, true, true, true, true, true, true, true, true, true, true, true, true, true, true, true, true, true, true, true, true, true, true, true, true, true, true, true, true, false, false] HT_ ?_
                       refine pu_ 30 173 #[true, true, true, true, true, true, true, true, true, true, true, true, true, true, true, true, true, true, true, true, true, true, true, true, true, true, true, true, true, true, true, false] HT_ ?_
                       refine pu_ 31 142 #[true, true, true, true, true, true, true, true, true, true, true, true, true, true, true, true, true, true, true, true, true, true, true, true, true, true, true, true, true, true, true, true] HT_ ?_
                       refine done_ (yqb_ HT_.out (by kernel_rfl)) ?_
                       have p273 : 0 ≤ (x10_2 : Int) := of_decide_eq_true (by first | (with_reducible assumption) | assumption)
                       have q273 : x10_2 < (l0.length : Int) := of_decide_eq_true (by first | (with_reducible assumption) | assumption)
                       obtain ⟨ad273, e273, hx273_0⟩ := Kd.yL_ HR0.out x10_2 p273 q273
                       cases e273
                       replace hx273_0 := (HB.out.cell (World.block_lt_of_cell? w _ hx273_0)).trans hx273_0
                       replace p273 := eq_true p273
                       replace q273 := eq_true q273
                       try go_wp2_with (first | ((with_reducible refine yD_ (b := .append) (xs := #[.tmp 174, .tmp 180]) rfl ?_); (try (refine yAb_ (by rfl) ?_; dsimp only)); at_builtin; refine Kd.y0_ k78 (w0 := w) w.heap.size rfl (.tmp 174) (.tmp 180) 64 78 (.agg #[(.int .u8 0), (.string ⟨#[]⟩)]) 24 rfl Tryd.underlying64 info78 rfl (by decide) (by omega) u9 x9_2 (⟨45, rdOf ByteArray.empty l0 x10_2⟩ : S78) [.int .u8 45, .string (rdOf ByteArray.empty l0 x10_2)] (fun _ => True) (fun _ => False) rfl rfl ?aP (fun _ hk => hk.elim) ?aF ?aO ?aB ?aS ?aL ?_; (case aP => exact k78_mkM _ _ _ (⟨45, rdOf ByteArray.empty l0 x10_2⟩ : S78)); (case aB => exact (by repeat (first | (with_reducible first | exact HB.out | apply yc_ | apply ya_ | apply yb_) | exact HB.out))); (case aF => exact (fun _ _ => trivial)); (case aO => exact (by (with_reducible repeat (first | apply Kd.yh_ | apply Kd.yi_ | apply Kd.R_drew)); exact HO_9.out)); (case aS => exact (yk_ (by repeat (first | (with_reducible first | exact HB.out | apply yc_ | apply ya_ | apply yb_) | exact HB.out)))); (case aL => have := LMc71.out; omega); intro v275 w74 ho hb hg hat; rw [← Ny274.out] at ho; have n0_ := Aside0.mk (Kd.yhb_ (by (with_reducible repeat (first | apply Kd.yh_ | apply Kd.yi_ | apply Kd.R_drew)); exact HO_6.out) (Kd.yU_ (by (with_reducible repeat (first | apply Kd.yh_ | apply Kd.yi_ | apply Kd.R_drew)); exact HO_9.out)) (by decide) hg); have n1_ := Aside0.mk (hb); have n2_ := Aside0.mk (ho); clear HO_6; clear HB; clear HO_9; have HO_6 := n0_; have HB := n1_; have HO276 := n2_; clear n0_ n1_ n2_; clear ho hb hg hat))
                       go_roundg kj43
                       case measure => have := HK1.out; have := HK2.out; have := HJ40.out; have := HJ43.out; omega
                       case rel => exact ⟨(y274), (wrap64 (x10_2 + 1)), (x11_2), (by first | rfl | (simp; done) | (simp [*]; done)), (by first | rfl | (simp; done) | (simp [*]; done)), H', ⟨by have := HK1.out; have := HK2.out; have := HJ40.out; have := HJ43.out; omega⟩, ⟨by (with_reducible repeat (first | apply Kd.yh_ | apply Kd.yi_ | apply Kd.R_drew)); exact HO_6.out⟩, ⟨by (with_reducible repeat (first | apply Kd.yh_ | apply Kd.yi_ | apply Kd.R_drew)); exact HO276.out⟩, ⟨by repeat (first | (with_reducible first | exact HB.out | apply yc_ | apply ya_ | apply yb_) | exact HB.out)⟩⟩
                      ·rw [if_neg c71] at H
                       exact absurd H (by simp)
                     ·rw [if_neg c70] at H
                      exact absurd H (by simp)
                    ·rw [if_neg c69] at H
                     have c69b0 : decide ((rd x6_1 (ji66)) ≤ (rd x6_1 (ji63))) = false := decide_eq_false c69
                     clear c69
                     by_cases c75 : 0 ≤ x11_2
                     ·rw [if_pos c75] at H
                      have c75b0 : decide (0 ≤ x11_2) = true := decide_eq_true c75
                      clear c75
                      by_cases c76 : x11_2 < (l1.length : Int)
                      ·rw [if_pos c76] at H
                       have c76b0 : decide (x11_2 < (l1.length : Int)) = true := decide_eq_true c76
                       clear c76
                       by_cases c77 : x9_2.length < 5864062014805
                       ·rw [if_pos c77] at H
                        have LMc77 := Aside0.mk c77
                        clear c77
                        obtain ⟨y278, hy278⟩ : ∃ y_ : List (S78), y_ = (x9_2 ++ [(⟨43, rdOf ByteArray.empty l1 x11_2⟩ : S78)]) := ⟨_, rfl⟩
                        replace H : (yj_.l2 kj43 l0 l1 (wrap64 ((l1.length : Int) + 1)) x6_1 y278 x10_2 (wrap64 (x11_2 + 1))) = some r := by first | (rw [hy278]; with_reducible exact H) | (have H2_ := (Option.bind_some _ _).symm.trans H; rw [hy278]; with_reducible exact H2_) | (have H2_ := (Option.bind_some _ _).symm.trans H; with_reducible exact H2_) | with_reducible exact H | (rw [hy278]; exact H) | exact H
                        have Ny278 := Aside0.mk hy278
                        clear hy278
                        have H' := Aside0.mk H
                        clear H
                        try go_wp2
                        have n0_ := Aside0.mk (Kd.R_drew HO_6.out)
                        have n1_ := Aside0.mk (Kd.R_drew HO_9.out)
                        have n2_ := Aside0.mk (yb_ HB.out)
                        clear HO_6
                        clear HO_9
                        clear HB
                        have HO_6 := n0_
                        have HO_9 := n1_
                        have HB := n2_
                        clear n0_ n1_ n2_
                        obtain ⟨Ao79, co79, eo79⟩ := Kd.yC_ HO_6.out
                        (first | subst eo79 | (injection eo79 with f1_ f2_ f3_; have f4_ := f1_.symm; have f5_ := f3_.symm; clear f1_ f2_ f3_; subst f4_; subst f5_))
                        have p271 : 0 ≤ ((ji63) : Int) := of_decide_eq_true (by first | (with_reducible assumption) | assumption)
                        have q271 : (ji63) < (x6_1.length : Int) := of_decide_eq_true (by first | (with_reducible assumption) | assumption)
                        obtain ⟨ad271, e271, hx271_0⟩ := Kd.at_int (Kd.yo_ HO_6.out).2.2 (ji63) p271 q271
                        cases e271
                        replace p271 := eq_true p271
                        replace q271 := eq_true q271
                        have p272 : 0 ≤ ((ji66) : Int) := of_decide_eq_true (by first | (with_reducible assumption) | assumption)
                        have q272 : (ji66) < (x6_1.length : Int) := of_decide_eq_true (by first | (with_reducible assumption) | assumption)
                        obtain ⟨ad272, e272, hx272_0⟩ := Kd.at_int (Kd.yo_ HO_6.out).2.2 (ji66) p272 q272
                        obtain rfl : ad271 = ad272 := (by injection e272)
                        replace p272 := eq_true p272
                        replace q272 := eq_true q272
                        refine start_ (n := 32) (S := fun w' => w'.cell? (ad271.add ((ji63)).toNat) = some (.int .i64 (rd x6_1 (ji63))) ∧ w'.cell? (ad271.add ((ji66)).toNat) = some (.int .i64 (rd x6_1 (ji66)))) (ds := []) #[false, false, false, false, false, false, false, false, false, false, false, false, false, false, false, false, false, false, false, false, false, false, false, false, false, false, false, false, false, false, false, false] (by kernel_rfl) rfl rfl ⟨hx271_0, hx272_0⟩ (fun hHeld => ?_); refine y9_ yj_.tab21 yj_.bits21 (fun HT_ HW_ => ?_)
                        generalize wc.drew = w78 at HO_6 HO_9 HB hx271_0 hx272_0 hHeld ⊢
                        refine pu_ 0 143 #[true, false, false, false, false, false, false, false, false, false, false, false, false, false, false, false, false, false, false, false, false, false, false, false, false, false, false, false, false, false, false, false] HT_ ?_
                        refine pu_ 1 144 #[true, true, false, false, false, false, false, false, false, false, false, false, false, false, false, false, false, false, false, false, false, false, false, false, false, false, false, false, false, false, false, false] HT_ ?_
                        refine pu_ 2 145 #[true, true, true, false, false, false, false, false, false, false, false, false, false, false, false, false, false, false, false, false, false, false, false, false, false, false, false, false, false, false, false, false] HT_ ?_
                        refine pu_ 3 146 #[true, true, true, true, false, false, false, false, false, false, false, false, false, false, false, false, false, false, false, false, false, false, false, false, false, false, false, false, false, false, false, false] HT_ ?_
                        refine pu_ 4 147 #[true, true, true, true, true, false, false, false, false, false, false, false, false, false, false, false, false, false, false, false, false, false, false, false, false, false, false, false, false, false, false, false] HT_ ?_
                        refine pu_ 5 148 #[true, true, true, true, true, true, false, false, false, false, false, false, false, false, false, false, false, false, false, false, false, false, false, false, false, false, false, false, false, false, false, false] HT_ ?_
                        refine pu_ 6 149 #[true, true, true, true, true, true, true, false, false, false, false, false, false, false, false, false, false, false, false, false, false, false, false, false, false, false, false, false, false, false, false, false] HT_ ?_
                        refine pu_ 7 150 #[true, true, true, true, true, true, true, true, false, false, false, false, false, false, false, false, false, false, false, false, false, false, false, false, false, false, false, false, false, false, false, false] HT_ ?_
                        refine pu_ 8 151 #[true, true, true, true, true, true, true, true, true, false, false, false, false, false, false, false, false, false, false, false, false, false, false, false, false, false, false, false, false, false, false, false] HT_ ?_
                        refine pu_ 9 152 #[true, true, true, true, true, true, true, true, true, true, false, false, false, false, false, false, false, false, false, false, false, false, false, false, false, false, false, false, false, false, false, false] HT_ ?_
                        refine pu_ 10 153 #[true, true, true, true, true, true, true, true, true, true, true, false, false, false, false, false, false, false, false, false, false, false, false, false, false, false, false, false, false, false, false, false] HT_ ?_
                        refine pu_ 11 154 #[true, true, true, true, true, true, true, true, true, true, true, true, false, false, false, false, false, false, false, false, false, false, false, false, false, false, false, false, false, false, false, false] HT_ ?_
                        refine pu_ 12 155 #[true, true, true, true, true, true, true, true, true, true, true, true, true, false, false, false, false, false, false, false, false, false, false, false, false, false, false, false, false, false, false, false] HT_ ?_
                        refine pu_ 13 156 #[true, true, true, true, true, true, true, true, true, true, true, true, true, true, false, false, false, false, false, false, false, false, false, false, false, false, false, false, false, false, false, false] HT_ ?_
                        refine pu_ 14 157 #[true, true, true, true, true, true, true, true, true, true, true, true, true, true, true, false, false, false, false, false, false, false, false, false, false, false, false, false, false, false, false, false] HT_ ?_
                        refine pu_ 15 158 #[true, true, true, true, true, true, true, true, true, true, true, true, true, true, true, true, false, false, false, false, false, false, false, false, false, false, false, false, false, false, false, false] HT_ ?_
                        refine pu_ 16 159 #[true, true, true, true, true, true, true, true, true, true, true, true, true, true, true, true, true, false, false, false, false, false, false, false, false, false, false, false, false, false, false, false] HT_ ?_
                        refine pu_ 17 160 #[true, true, true, true, true, true, true, true, true, true, true, true, true, true, true, true, true, true, false, false, false, false, false, false, false, false, false, false, false, false, false, false] HT_ ?_
                        refine pu_ 19 162 #[true, true, true, true, true, true, true, true, true, true, true, true, true, true, true, true, true, true, false, true, false, false, false, false, false, false, false, false, false, false, false, false] HT_ ?_
                        refine pu_ 20 163 #[true, true, true, true, true, true, true, true, true, true, true, true, true, true, true, true, true, true, false, true, true, false, false, false, false, false, false, false, false, false, false, false] HT_ ?_
                        refine pu_ 21 164 #[true, true, true, true, true, true, true, true, true, true, true, true, true, true, true, true, true, true, false, true, true, true, false, false, false, false, false, false, false, false, false, false] HT_ ?_
                        refine pu_ 22 165 #[true, true, true, true, true, true, true, true, true, true, true, true, true, true, true, true, true, true, false, true, true, true, true, false, false, false, false, false, false, false, false, false] HT_ ?_
                        refine pu_ 23 166 #[true, true, true, true, true, true, true, true, true, true, true, true, true, true, true, true, true, true, false, true, true, true, true, true, false, false, false, false, false, false, false, false] HT_ ?_
                        refine pu_ 24 167 #[true, true, true, true, true, true, true, true, true, true, true, true, true, true, true, true, true, true, false, true, true, true, true, true, true, false, false, false, false, false, false, false] HT_ ?_
                        refine pu_ 25 168 #[true, true, true, true, true, true, true, true, true, true, true, true, true, true, true, true, true, true, false, true, true, true, true, true, true, true, false, false, false, false, false, false] HT_ ?_
                        refine pu_ 26 169 #[true, true, true, true, true, true, true, true, true, true, true, true, true, true, true, true, true, true, false, true, true, true, true, true, true, true, true, false, false, false, false, false] HT_ ?_
                        refine tk_ 18 161 #[true, true, true, true, true, true, true, true, true, true, true, true, true, true, true, true, true, true, true, true, true, true, true, true, true, true, true, false, false, false, false, false] rfl HT_ HW_ hHeld (by rintro w' ⟨s0, s1⟩; go_simp; with_reducible rfl) ?_
                        refine tk_ 27 170 #[true, true, true, true, true, true, true, true, true, true, true, true, true, true, true, true, true, true, true, true, true, true, true, true, true, true, true, true, false, false, false, false] rfl HT_ HW_ hHeld (by rintro w' ⟨s0, s1⟩; go_simp; with_reducible rfl) ?_
                        refine pu_ 28 171 #[true, true, true, true, true, true, true, true, true, true, true, true, true, true, true, true, true, true, true, true, true, true, true, true, true, true, true, true, true, false, false, false] HT_ ?_
                        refine pu_ 29 172 #[true, true, true, true, true, true, true, true, true, true, true, true, true, true, true, true, true, true, true, true, true, true, true, true, true, true, true, true, true, true, false, false] HT_ ?_
                        refine pu_ 30 173 #[true, true, true, true, true, true, true, true, true, true, true, true, true, true, true, true, true, true, true, true, true, true, true, true, true, true, true, true, true, true, true, false] HT_ ?_
                        refine pu_ 31 142 #[true, true, true, true, true, true, true, true, true, true, true, true, true, true, true, true, true, true, true, true, true, true, true, true, true, true, true, true, true, true, true, true] HT_ ?_
                        refine done_ (yqb_ HT_.out (by kernel_rfl)) ?_
                        have p277 : 0 ≤ (x11_2 : Int) := of_decide_eq_true (by first | (with_reducible assumption) | assumption)
                        have q277 : x11_2 < (l1.length : Int) := of_decide_eq_true (by first | (with_reducible assumption) | assumption)
                        obtain ⟨ad277, e277, hx277_0⟩ := Kd.yL_ HR1.out x11_2 p277 q277
                        cases e277
                        replace hx277_0 := (HB.out.cell (World.block_lt_of_cell? w _ hx277_0)).trans hx277_0
                        replace p277 := eq_true p277
                        replace q277 := eq_true q277
                        try go_wp2_with (first | ((with_reducible refine yD_ (b := .append) (xs := #[.tmp 98, .tmp 104]) rfl ?_); (try (refine yAb_ (by rfl) ?_; dsimp only)); at_builtin; refine Kd.y0_ k78 (w0 := w) w.heap.size rfl (.tmp 98) (.tmp 104) 64 78 (.agg #[(.int .u8 0), (.string ⟨#[]⟩)]) 24 rfl Tryd.underlying64 info78 rfl (by decide) (by omega) u9 x9_2 (⟨43, rdOf ByteArray.empty l1 x11_2⟩ : S78) [.int .u8 43, .string (rdOf ByteArray.empty l1 x11_2)] (fun _ => True) (fun _ => False) rfl rfl ?aP (fun _ hk => hk.elim) ?aF ?aO ?aB ?aS ?aL ?_; (case aP => exact k78_mkM _ _ _ (⟨43, rdOf ByteArray.empty l1 x11_2⟩ : S78)); (case aB => exact (by repeat (first | (with_reducible first | exact HB.out | apply yc_ | apply ya_ | apply yb_) | exact HB.out))); (case aF => exact (fun _ _ => trivial)); (case aO => exact (by (with_reducible repeat (first | apply Kd.yh_ | apply Kd.yi_ | apply Kd.R_drew)); exact HO_9.out)); (case aS => exact (yk_ (by repeat (first | (with_reducible first | exact HB.out | apply yc_ | apply ya_ | apply yb_) | exact HB.out)))); (case aL => have := LMc77.out; omega); intro v279 w80 ho hb hg hat; rw [← Ny278.out] at ho; have n0_ := Aside0.mk (Kd.yhb_ (by (with_reducible repeat (first | apply Kd.yh_ | apply Kd.yi_ | apply Kd.R_drew)); exact HO_6.out) (Kd.yU_ (by (with_reducible repeat (first | apply Kd.yh_ | apply Kd.yi_ | apply Kd.R_drew)); exact HO_9.out)) (by decide) hg); have n1_ := Aside0.mk (hb); have n2_ := Aside0.mk (ho); clear HO_6; clear HB; clear HO_9; have HO_6 := n0_; have HB := n1_; have HO280 := n2_; clear n0_ n1_ n2_; clear ho hb hg hat))
                        go_roundg kj43
                        case measure => have := HK1.out; have := HK2.out; have := HJ40.out; have := HJ43.out; omega
                        case rel => exact ⟨(y278), (x10_2), (wrap64 (x11_2 + 1)), (by first | rfl | (simp; done) | (simp [*]; done)), (by first | rfl | (simp; done) | (simp [*]; done)), H', ⟨by have := HK1.out; have := HK2.out; have := HJ40.out; have := HJ43.out; omega⟩, ⟨by (with_reducible repeat (first | apply Kd.yh_ | apply Kd.yi_ | apply Kd.R_drew)); exact HO_6.out⟩, ⟨by (with_reducible repeat (first | apply Kd.yh_ | apply Kd.yi_ | apply Kd.R_drew)); exact HO280.out⟩, ⟨by repeat (first | (with_reducible first | exact HB.out | apply yc_ | apply ya_ | apply yb_) | exact HB.out)⟩⟩
                       ·rw [if_neg c77] at H
                        exact absurd H (by simp)
                      ·rw [if_neg c76] at H
                       exact absurd H (by simp)
                     ·rw [if_neg c75] at H
                      exact absurd H (by simp)
                   ·rw [if_neg c68] at H
                    exact absurd H (by simp)
                  ·rw [if_neg c67] at H
                   exact absurd H (by simp)
                 ·rw [if_neg c65] at H
                  exact absurd H (by simp)
                ·rw [if_neg c64] at H
                 exact absurd H (by simp)
              ·rw [if_neg c57] at H
               have c57b0 : decide (x10_2 < (l0.length : Int)) = false := decide_eq_false c57
               clear c57
               by_cases c81 : 0 ≤ x11_2
               ·rw [if_pos c81] at H
                have c81b0 : decide (0 ≤ x11_2) = true := decide_eq_true c81
                clear c81
                by_cases c82 : x11_2 < (l1.length : Int)
                ·rw [if_pos c82] at H
                 have c82b0 : decide (x11_2 < (l1.length : Int)) = true := decide_eq_true c82
                 clear c82
                 by_cases c83 : x9_2.length < 5864062014805
                 ·rw [if_pos c83] at H
                  have LMc83 := Aside0.mk c83
                  clear c83
                  obtain ⟨y282, hy282⟩ : ∃ y_ : List (S78), y_ = (x9_2 ++ [(⟨43, rdOf ByteArray.empty l1 x11_2⟩ : S78)]) := ⟨_, rfl⟩
                  replace H : (yj_.l2 kj43 l0 l1 (wrap64 ((l1.length : Int) + 1)) x6_1 y282 x10_2 (wrap64 (x11_2 + 1))) = some r := by first | (rw [hy282]; with_reducible exact H) | (have H2_ := (Option.bind_some _ _).symm.trans H; rw [hy282]; with_reducible exact H2_) | (have H2_ := (Option.bind_some _ _).symm.trans H; with_reducible exact H2_) | with_reducible exact H | (rw [hy282]; exact H) | exact H
                  have Ny282 := Aside0.mk hy282
                  clear hy282
                  have H' := Aside0.mk H
                  clear H
                  try go_wp2
                  have n0_ := Aside0.mk (Kd.R_drew HO_6.out)
                  have n1_ := Aside0.mk (Kd.R_drew HO_9.out)
                  have n2_ := Aside0.mk (yb_ HB.out)
                  clear HO_6
                  clear HO_9
                  clear HB
                  have HO_6 := n0_
                  have HO_9 := n1_
                  have HB := n2_
                  clear n0_ n1_ n2_
                  refine start_ (n := 32) (S := fun w' => True) (ds := []) #[false, false, false, false, false, false, false, false, false, false, false, false, false, false, false, false, false, false, false, false, false, false, false, false, false, false, false, false, false, false, false, false] (by kernel_rfl) rfl rfl trivial (fun hHeld => ?_); refine y9_ yj_.tab21 yj_.bits21 (fun HT_ HW_ => ?_)
                  generalize wc.drew = w84 at HO_6 HO_9 HB hHeld ⊢
                  refine pu_ 0 143 #[true, false, false, false, false, false, false, false, false, false, false, false, false, false, false, false, false, false, false, false, false, false, false, false, false, false, false, false, false, false, false, false] HT_ ?_
                  refine pu_ 1 144 #[true, true, false, false, false, false, false, false, false, false, false, false, false, false, false, false, false, false, false, false, false, false, false, false, false, false, false, false, false, false, false, false] HT_ ?_
                  refine pu_ 2 145 #[true, true, true, false, false, false, false, false, false, false, false, false, false, false, false, false, false, false, false, false, false, false, false, false, false, false, false, false, false, false, false, false] HT_ ?_
                  refine pu_ 3 146 #[true, true, true, true, false, false, false, false, false, false, false, false, false, false, false, false, false, false, false, false, false, false, false, false, false, false, false, false, false, false, false, false] HT_ ?_
                  refine pu_ 4 147 #[true, true, true, true, true, false, false, false, false, false, false, false, false, false, false, false, false, false, false, false, false, false, false, false, false, false, false, false, false, false, false, false] HT_ ?_
                  refine pz_ 5 148 #[true, true, true, true, true, true, false, false, false, false, false, false, false, false, false, false, false, false, false, false, false, false, false, false, false, false, false, false, false, false, false, false] HT_ ?_
                  refine pz_ 6 149 #[true, true, true, true, true, true, true, false, false, false, false, false, false, false, false, false, false, false, false, false, false, false, false, false, false, false, false, false, false, false, false, false] HT_ ?_
                  refine pz_ 7 150 #[true, true, true, true, true, true, true, true, false, false, false, false, false, false, false, false, false, false, false, false, false, false, false, false, false, false, false, false, false, false, false, false] HT_ ?_
                  refine pz_ 8 151 #[true, true, true, true, true, true, true, true, true, false, false, false, false, false, false, false, false, false, false, false, false, false, false, false, false, false, false, false, false, false, false, false] HT_ ?_
                  refine pz_ 9 152 #[true, true, true, true, true, true, true, true, true, true, false, false, false, false, false, false, false, false, false, false, false, false, false, false, false, false, false, false, false, false, false, false] HT_ ?_
                  refine pz_ 10 153 #[true, true, true, true, true, true, true, true, true, true, true, false, false, false, false, false, false, false, false, false, false, false, false, false, false, false, false, false, false, false, false, false] HT_ ?_
                  refine pz_ 11 154 #[true, true, true, true, true, true, true, true, true, true, true, true, false, false, false, false, false, false, false, false, false, false, false, false, false, false, false, false, false, false, false, false] HT_ ?_
                  refine pz_ 12 155 #[true, true, true, true, true, true, true, true, true, true, true, true, true, false, false, false, false, false, false, false, false, false, false, false, false, false, false, false, false, false, false, false] HT_ ?_
                  refine pz_ 13 156 #[true, true, true, true, true, true, true, true, true, true, true, true, true, true, false, false, false, false, false, false, false, false, false, false, false, false, false, false, false, false, false, false] HT_ ?_
                  refine pz_ 14 157 #[true, true, true, true, true, true, true, true, true, true, true, true, true, true, true, false, false, false, false, false, false, false, false, false, false, false, false, false, false, false, false, false] HT_ ?_
                  refine pz_ 15 158 #[true, true, true, true, true, true, true, true, true, true, true, true, true, true, true, true, false, false, false, false, false, false, false, false, false, false, false, false, false, false, false, false] HT_ ?_
                  refine pz_ 16 159 #[true, true, true, true, true, true, true, true, true, true, true, true, true, true, true, true, true, false, false, false, false, false, false, false, false, false, false, false, false, false, false, false] HT_ ?_
                  refine pz_ 17 160 #[true, true, true, true, true, true, true, true, true, true, true, true, true, true, true, true, true, true, false, false, false, false, false, false, false, false, false, false, false, false, false, false] HT_ ?_
                  refine pz_ 18 161 #[true, true, true, true, true, true, true, true, true, true, true, true, true, true, true, true, true, true, true, false, false, false, false, false, false, false, false, false, false, false, false, false] HT_ ?_
                  refine pz_ 19 162 #[true, true, true, true, true, true, true, true, true, true, true, true, true, true, true, true, true, true, true, true, false, false, false, false, false, false, false, false, false, false, false, false] HT_ ?_
                  refine pz_ 20 163 #[true, true, true, true, true, true, true, true, true, true, true, true, true, true, true, true, true, true, true, true, true, false, false, false, false, false, false, false, false, false, false, false] HT_ ?_
                  refine pz_ 21 164 #[true, true, true, true, true, true, true, true, true, true, true, true, true, true, true, true, true, true, true, true, true, true, false, false, false, false, false, false, false, false, false, false] HT_ ?_
                  refine pz_ 22 165 #[true, true, true, true, true, true, true, true, true, true, true, true, true, true, true, true, true, true, true, true, true, true, true, false, false, false, false, false, false, false, false, false] HT_ ?_
                  refine pz_ 23 166 #[true, true, true, true, true, true, true, true, true, true, true, true, true, true, true, true, true, true, true, true, true, true, true, true, false, false, false, false, false, false, false, false] HT_ ?_
                  refine pz_ 24 167 #[true, true, true, true, true, true, true, true, true, true, true, true, true, true, true, true, true, true, true, true, true, true, true, true, true, false, false, false, false, false, false, false] HT_ ?_
                  refine pz_ 25 168 #[true, true, true, true, true, true, true, true, true, true, true, true, true, true, true, true, true, true, true, true, true, true, true, true, true, true, false, false, false, false, false, false] HT_ ?_
                  refine pz_ 26 169 #[true, true, true, true, true, true, true, true, true, true, true, true, true, true, true, true, true, true, true, true, true, true, true, true, true, true, true, false, false, false, false, false] HT_ ?_
                  refine pz_ 27 170 #[true, true, true, true, true, true, true, true, true, true, true, true, true, true, true, true, true, true, true, true, true, true, true, true, true, true, true, true, false, false, false, false] HT_ ?_
                  refine pz_ 28 171 #[true, true, true, true, true, true, true, true, true, true, true, true, true, true, true, true, true, true, true, true, true, true, true, true, true, true, true, true, true, false, false, false] HT_ ?_
                  refine pz_ 29 172 #[true, true, true, true, true, true, true, true, true, true, true, true, true, true, true, true, true, true, true, true, true, true, true, true, true, true, true, true, true, true, false, false] HT_ ?_
                  refine pu_ 30 173 #[true, true, true, true, true, true, true, true, true, true, true, true, true, true, true, true, true, true, true, true, true, true, true, true, true, true, true, true, true, true, true, false] HT_ ?_
                  refine pu_ 31 142 #[true, true, true, true, true, true, true, true, true, true, true, true, true, true, true, true, true, true, true, true, true, true, true, true, true, true, true, true, true, true, true, true] HT_ ?_
                  refine done_ (yqb_ HT_.out (by kernel_rfl)) ?_
                  have p281 : 0 ≤ (x11_2 : Int) := of_decide_eq_true (by first | (with_reducible assumption) | assumption)
                  have q281 : x11_2 < (l1.length : Int) := of_decide_eq_true (by first | (with_reducible assumption) | assumption)
                  obtain ⟨ad281, e281, hx281_0⟩ := Kd.yL_ HR1.out x11_2 p281 q281
                  cases e281
                  replace hx281_0 := (HB.out.cell (World.block_lt_of_cell? w _ hx281_0)).trans hx281_0
                  replace p281 := eq_true p281
                  replace q281 := eq_true q281
                  try go_wp2_with (first | ((with_reducible refine yD_ (b := .append) (xs := #[.tmp 98, .tmp 104]) rfl ?_); (try (refine yAb_ (by rfl) ?_; dsimp only)); at_builtin; refine Kd.y0_ k78 (w0 := w) w.heap.size rfl (.tmp 98) (.tmp 104) 64 78 (.agg #[(.int .u8 0), (.string ⟨#[]⟩)]) 24 rfl Tryd.underlying64 info78 rfl (by decide) (by omega) u9 x9_2 (⟨43, rdOf ByteArray.empty l1 x11_2⟩ : S78) [.int .u8 43, .string (rdOf ByteArray.empty l1 x11_2)] (fun _ => True) (fun _ => False) rfl rfl ?aP (fun _ hk => hk.elim) ?aF ?aO ?aB ?aS ?aL ?_; (case aP => exact k78_mkM _ _ _ (⟨43, rdOf ByteArray.empty l1 x11_2⟩ : S78)); (case aB => exact (by repeat (first | (with_reducible first | exact HB.out | apply yc_ | apply ya_ | apply yb_) | exact HB.out))); (case aF => exact (fun _ _ => trivial)); (case aO => exact (by (with_reducible repeat (first | apply Kd.yh_ | apply Kd.yi_ | apply Kd.R_drew)); exact HO_9.out)); (case aS => exact (yk_ (by repeat (first | (with_reducible first | exact HB.out | apply yc_ | apply ya_ | apply yb_) | exact HB.out)))); (case aL => have := LMc83.out; omega); intro v283 w85 ho hb hg hat; rw [← Ny282.out] at ho; have n0_ := Aside0.mk (Kd.yhb_ (by (with_reducible repeat (first | apply Kd.yh_ | apply Kd.yi_ | apply Kd.R_drew)); exact HO_6.out) (Kd.yU_ (by (with_reducible repeat (first | apply Kd.yh_ | apply Kd.yi_ | apply Kd.R_drew)); exact HO_9.out)) (by decide) hg); have n1_ := Aside0.mk (hb); have n2_ := Aside0.mk (ho); clear HO_6; clear HB; clear HO_9; have HO_6 := n0_; have HB := n1_; have HO284 := n2_; clear n0_ n1_ n2_; clear ho hb hg hat))
                  go_roundg kj43
                  case measure => have := HK1.out; have := HK2.out; have := HJ40.out; have := HJ43.out; omega
                  case rel => exact ⟨(y282), (x10_2), (wrap64 (x11_2 + 1)), (by first | rfl | (simp; done) | (simp [*]; done)), (by first | rfl | (simp; done) | (simp [*]; done)), H', ⟨by have := HK1.out; have := HK2.out; have := HJ40.out; have := HJ43.out; omega⟩, ⟨by (with_reducible repeat (first | apply Kd.yh_ | apply Kd.yi_ | apply Kd.R_drew)); exact HO_6.out⟩, ⟨by (with_reducible repeat (first | apply Kd.yh_ | apply Kd.yi_ | apply Kd.R_drew)); exact HO284.out⟩, ⟨by repeat (first | (with_reducible first | exact HB.out | apply yc_ | apply ya_ | apply yb_) | exact HB.out)⟩⟩
                 ·rw [if_neg c83] at H
                  exact absurd H (by simp)
                ·rw [if_neg c82] at H
                 exact absurd H (by simp)
               ·rw [if_neg c81] at H
                exact absurd H (by simp)
          ·replace c43 := Bool.eq_false_iff.mpr c43
           subst c43
           have H1 : (some x9_2) = some r := by rw [if_neg (show ¬ (false = true) by decide)] at H; exact H
           clear H
           have H := H1
           clear H1
           obtain rfl := Option.some.inj H
           go_wp2
           go_ret
           exact ⟨_, by first | rfl | (simp [yu_, yv_] <;> rfl) | (simp only [← hji3]; first | rfl | (simp [yu_, yv_] <;> rfl)) | (simp [*, yu_, yv_] <;> rfl), by (with_reducible repeat (first | apply Kd.yh_ | apply Kd.yi_ | apply Kd.R_drew)); exact HO_9.out, by repeat (first | (with_reducible first | exact HB.out | apply yc_ | apply ya_ | apply yb_) | exact HB.out)⟩
  ·rw [if_neg c5] at H
   exact absurd H (by simp)
 ·rw [if_neg c4] at H
  exact absurd H (by simp)

end Go.Proofs.YthimblhfjfngiaaDoor.PText

-- mended25

