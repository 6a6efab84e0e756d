/- Chapter 01: what the claims share. Part 9 of 24. -/
import Derived.Test.YthimblhfjfngiaaDoorBTextH
namespace Go.Proofs.YthimblhfjfngiaaDoor.PText
open Go.RowKit Go.Proofs.YthimblhfjfngiaaDoorW.PrintWords Go.Proofs.YthimblhfjfngiaaDoorW.PrintLast Go.Proofs.YthimblhfjfngiaaDoorW.PrintMore
attribute [local go_sem] y1_ y2_ ycb_ ydb_ yV_ yW_ y3_ y4_   -- for this text's walks alone
set_option linter.unusedVariables false
set_option linter.unusedSimpArgs false

theorem yrb_ {W W' : World} {n : Nat} {a : Addr} {v : Value} (hq : W.drewN n = W') (h : W.cell? a = some v) : W'.cell? a = some v := by subst hq; exact h
mutual
def yd_.l0 : Nat → List ByteArray → List ByteArray → Int → Int → List (List Int) → Int → Option ((List (S75)))
 | 0, _, _, _, _, _, _ => none
 | k + 1, x0, x1, x5, x6, x7, x8 => if x8 ≥ 0 then (if 0 ≤ (wrap64 (x6 + 1)) then (if (wrap64 (x6 + 1) : Int).toNat ≤ 35184372088832 then (if 0 ≤ x8 then (if x8 < (x7.length : Int) then (yd_.l1 k x0 x1 x5 x6 (x7.set (x8 : Int).toNat (List.replicate (wrap64 (x6 + 1) : Int).toNat 0)) x8 x6) else (none)) else (none)) else (none)) else (none)) else (yd_.l2 k x0 x1 x5 x6 x7 ([] : List (S75)) 0 0)
def yd_.l1 : Nat → List ByteArray → List ByteArray → Int → Int → List (List Int) → Int → Int → Option ((List (S75)))
 | 0, _, _, _, _, _, _, _ => none
 | k + 1, x0, x1, x5, x6, x7, x8, x9 => if x9 ≥ 0 then (if x8 = x5 then (yd_.j2 k x0 x1 x5 x6 x7 x8 x9 true) else (yd_.j2 k x0 x1 x5 x6 x7 x8 x9 (x9 == x6))) else (yd_.l0 k x0 x1 x5 x6 x7 (wrap64 (x8 - 1)))
def yd_.j2 : Nat → List ByteArray → List ByteArray → Int → Int → List (List Int) → Int → Int → Bool → Option ((List (S75)))
 | 0, _, _, _, _, _, _, _, _ => none
 | k + 1, x0, x1, x5, x6, x7, x8, x9, x44 => if x44 = true then (yd_.l1 k x0 x1 x5 x6 x7 x8 (wrap64 (x9 - 1))) else (if 0 ≤ (wrap64 (x8 + 1)) then (if (wrap64 (x8 + 1)) < (x7.length : Int) then (if 0 ≤ x9 then (if x9 < ((rd_L5 x7 (wrap64 (x8 + 1))).length : Int) then (if 0 ≤ x8 then (if x8 < (x7.length : Int) then (if 0 ≤ (wrap64 (x9 + 1)) then (if (wrap64 (x9 + 1)) < ((rd_L5 x7 x8).length : Int) then (if (rd (rd_L5 x7 x8) (wrap64 (x9 + 1))) > (rd (rd_L5 x7 (wrap64 (x8 + 1))) x9) then (if x8 < (x0.length : Int) then (if x9 < (x1.length : Int) then (if (rdOf ByteArray.empty x0 x8).toList = (rdOf ByteArray.empty x1 x9).toList then (if (wrap64 (x9 + 1)) < ((rd_L5 x7 (wrap64 (x8 + 1))).length : Int) then (if (wrap64 ((rd (rd_L5 x7 (wrap64 (x8 + 1))) (wrap64 (x9 + 1))) + 1)) > (rd (rd_L5 x7 x8) (wrap64 (x9 + 1))) then (if x9 < ((rd_L5 x7 x8).length : Int) then (yd_.l1 k x0 x1 x5 x6 (x7.set (x8 : Int).toNat ((rd_L5 x7 x8).set (x9 : Int).toNat (wrap64 ((rd (rd_L5 x7 (wrap64 (x8 + 1))) (wrap64 (x9 + 1))) + 1)))) x8 (wrap64 (x9 - 1))) else (none)) else (if x9 < ((rd_L5 x7 x8).length : Int) then (yd_.l1 k x0 x1 x5 x6 (x7.set (x8 : Int).toNat ((rd_L5 x7 x8).set (x9 : Int).toNat (rd (rd_L5 x7 x8) (wrap64 (x9 + 1))))) x8 (wrap64 (x9 - 1))) else (none))) else (none)) else (if x9 < ((rd_L5 x7 x8).length : Int) then (yd_.l1 k x0 x1 x5 x6 (x7.set (x8 : Int).toNat ((rd_L5 x7 x8).set (x9 : Int).toNat (rd (rd_L5 x7 x8) (wrap64 (x9 + 1))))) x8 (wrap64 (x9 - 1))) else (none))) else (none)) else (none)) else (if x8 < (x0.length : Int) then (if x9 < (x1.length : Int) then (if (rdOf ByteArray.empty x0 x8).toList = (rdOf ByteArray.empty x1 x9).toList then (if (wrap64 (x9 + 1)) < ((rd_L5 x7 (wrap64 (x8 + 1))).length : Int) then (if (wrap64 ((rd (rd_L5 x7 (wrap64 (x8 + 1))) (wrap64 (x9 + 1))) + 1)) > (rd (rd_L5 x7 (wrap64 (x8 + 1))) x9) then (if x9 < ((rd_L5 x7 x8).length : Int) then (yd_.l1 k x0 x1 x5 x6 (x7.set (x8 : Int).toNat ((rd_L5 x7 x8).set (x9 : Int).toNat (wrap64 ((rd (rd_L5 x7 (wrap64 (x8 + 1))) (wrap64 (x9 + 1))) + 1)))) x8 (wrap64 (x9 - 1))) else (none)) else (if x9 < ((rd_L5 x7 x8).length : Int) then (yd_.l1 k x0 x1 x5 x6 (x7.set (x8 : Int).toNat ((rd_L5 x7 x8).set (x9 : Int).toNat (rd (rd_L5 x7 (wrap64 (x8 + 1))) x9))) x8 (wrap64 (x9 - 1))) else (none))) else (none)) else (if x9 < ((rd_L5 x7 x8).length : Int) then (yd_.l1 k x0 x1 x5 x6 (x7.set (x8 : Int).toNat ((rd_L5 x7 x8).set (x9 : Int).toNat (rd (rd_L5 x7 (wrap64 (x8 + 1))) x9))) x8 (wrap64 (x9 - 1))) else (none))) else (none)) else (none))) else (none)) else (none)) else (none)) else (none)) else (none)) else (none)) else (none)) else (none))
def yd_.l2 : Nat → List ByteArray → List ByteArray → Int → Int → List (List Int) → List (S75) → Int → Int → Option ((List (S75)))
 | 0, _, _, _, _, _, _, _, _ => none
 | k + 1, x0, x1, x5, x6, x7, x11, x12, x13 => if x12 < x5 then (yd_.j4 k x0 x1 x5 x6 x7 x11 x12 x13 true) else (yd_.j4 k x0 x1 x5 x6 x7 x11 x12 x13 (decide (x13 < x6)))
def yd_.j4 : Nat → List ByteArray → List ByteArray → Int → Int → List (List Int) → List (S75) → Int → Int → Bool → Option ((List (S75)))
 | 0, _, _, _, _, _, _, _, _, _ => none
 | k + 1, x0, x1, x5, x6, x7, x11, x12, x13, x118 => if x118 = true then (if x12 < x5 then (if x13 < x6 then (if 0 ≤ x12 then (if x12 < (x0.length : Int) then (if 0 ≤ x13 then (if x13 < (x1.length : Int) then (yd_.j5 k x0 x1 x5 x6 x7 x11 x12 x13 ((rdOf ByteArray.empty x0 x12).toList == (rdOf ByteArray.empty x1 x13).toList)) else (none)) else (none)) else (none)) else (none)) else (yd_.j5 k x0 x1 x5 x6 x7 x11 x12 x13 false)) else (yd_.j5 k x0 x1 x5 x6 x7 x11 x12 x13 false)) else (some x11)
def yd_.j5 : Nat → List ByteArray → List ByteArray → Int → Int → List (List Int) → List (S75) → Int → Int → Bool → Option ((List (S75)))
 | 0, _, _, _, _, _, _, _, _, _ => none
 | k + 1, x0, x1, x5, x6, x7, x11, x12, x13, x129 => if x129 = true then (if 0 ≤ x12 then (if x12 < (x0.length : Int) then (if x11.length < 5864062014805 then (yd_.l2 k x0 x1 x5 x6 x7 (x11 ++ [(⟨32, rdOf ByteArray.empty x0 x12⟩ : S75)]) (wrap64 (x12 + 1)) (wrap64 (x13 + 1))) else (none)) else (none)) else (none)) else (if x12 < x5 then (if x13 = x6 then (if 0 ≤ x12 then (if x12 < (x0.length : Int) then (if x11.length < 5864062014805 then (yd_.l2 k x0 x1 x5 x6 x7 (x11 ++ [(⟨45, rdOf ByteArray.empty x0 x12⟩ : S75)]) (wrap64 (x12 + 1)) x13) else (none)) else (none)) else (none)) else (if 0 ≤ (wrap64 (x12 + 1)) then (if (wrap64 (x12 + 1)) < (x7.length : Int) then (if 0 ≤ x13 then (if x13 < ((rd_L5 x7 (wrap64 (x12 + 1))).length : Int) then (if 0 ≤ x12 then (if x12 < (x7.length : Int) then (if 0 ≤ (wrap64 (x13 + 1)) then (if (wrap64 (x13 + 1)) < ((rd_L5 x7 x12).length : Int) then (if (rd (rd_L5 x7 (wrap64 (x12 + 1))) x13) ≥ (rd (rd_L5 x7 x12) (wrap64 (x13 + 1))) then (if x12 < (x0.length : Int) then (if x11.length < 5864062014805 then (yd_.l2 k x0 x1 x5 x6 x7 (x11 ++ [(⟨45, rdOf ByteArray.empty x0 x12⟩ : S75)]) (wrap64 (x12 + 1)) x13) else (none)) else (none)) else (if x13 < (x1.length : Int) then (if x11.length < 5864062014805 then (yd_.l2 k x0 x1 x5 x6 x7 (x11 ++ [(⟨43, rdOf ByteArray.empty x1 x13⟩ : S75)]) x12 (wrap64 (x13 + 1))) else (none)) else (none))) else (none)) else (none)) else (none)) else (none)) else (none)) else (none)) else (none)) else (none))) else (if 0 ≤ x13 then (if x13 < (x1.length : Int) then (if x11.length < 5864062014805 then (yd_.l2 k x0 x1 x5 x6 x7 (x11 ++ [(⟨43, rdOf ByteArray.empty x1 x13⟩ : S75)]) x12 (wrap64 (x13 + 1))) else (none)) else (none)) else (none)))
end
def yd_.f (k : Nat) (l0 : List ByteArray) (l1 : List ByteArray) : Option ((List (S75))) := if 0 ≤ (wrap64 ((l0.length : Int) + 1)) then (if (wrap64 ((l0.length : Int) + 1) : Int).toNat ≤ 11728124029610 then (yd_.l0 k l0 l1 (l0.length : Int) (l1.length : Int) (List.replicate (wrap64 ((l0.length : Int) + 1) : Int).toNat []) (l0.length : Int)) else (none)) else (none)
set_option maxHeartbeats 8000000 in
set_option maxRecDepth 100000 in
theorem yd_.calls (k : Nat) (A0 : Option Addr) (c0 : Nat) (l0 : List ByteArray) (A1 : Option Addr) (c1 : Nat) (l1 : List ByteArray) (r : List (S75)) (w : World) (hr0 : Kd.C Kd.string w A0 l0.length l0) (hc0 : l0.length ≤ c0) (hr1 : Kd.C Kd.string w A1 l1.length l1) (hc1 : l1.length ≤ c1) (h : yd_.f k l0 l1 = some r) :
  Calls Tryd.prog 46 #[.slice A0 l0.length c0, .slice A1 l1.length c1] w fun e w' => ∃ v0_ : Value, e = .returned (v0_) ∧ Kd.R k75 75 w' w.heap.size (fun _ => True) v0_ r ∧ Below w.heap.size w w' := by
 have hu75 := Tryd.underlying75
 have HR0 := Aside0.mk hr0
 have HC0 := Aside0.mk hc0
 clear hr0 hc0
 have HR1 := Aside0.mk hr1
 have HC1 := Aside0.mk hc1
 clear hr1 hc1
 have HB := Aside0.mk (Below.refl w.heap.size w)
 have H : (if 0 ≤ (wrap64 ((l0.length : Int) + 1)) then (if (wrap64 ((l0.length : Int) + 1) : Int).toNat ≤ 11728124029610 then (yd_.l0 k l0 l1 (l0.length : Int) (l1.length : Int) (List.replicate (wrap64 ((l0.length : Int) + 1) : Int).toNat []) (l0.length : Int)) else (none)) else (none)) = some r := h
 clear h
 obtain ⟨ji3, hji3⟩ : ∃ j_ : Int, (wrap64 ((l0.length : Int) + 1)) = j_ := ⟨_, rfl⟩
 replace H : (if 0 ≤ (ji3) then (if (ji3 : Int).toNat ≤ 11728124029610 then (yd_.l0 k l0 l1 (l0.length : Int) (l1.length : Int) (List.replicate (ji3 : Int).toNat []) (l0.length : Int)) else (none)) else (none)) = some r := by first | (rw [hji3] at H; exact H) | (simp only [hji3] at H ⊢; exact H)
 have hji3w : (IntKind.i64.wrap ((l0.length : Int) + 1)) = ji3 := (i64_w _).trans hji3
 by_cases c4 : 0 ≤ (ji3)
 ·rw [if_pos c4] at H
  have c4b0 := eq_true c4
  have c4b1 : decide (0 ≤ (ji3)) = true := decide_eq_true c4
  clear c4
  by_cases c5 : (ji3 : Int).toNat ≤ 11728124029610
  ·rw [if_pos c5] at H
   have c5b0 := eq_true c5
   have c5b1 : decide ((ji3 : Int).toNat ≤ 11728124029610) = true := decide_eq_true c5
   clear c5
   obtain ⟨y367, hy367⟩ : ∃ y_ : List (List Int), y_ = (List.replicate (ji3 : Int).toNat []) := ⟨_, rfl⟩
   replace H : (yd_.l0 k l0 l1 (l0.length : Int) (l1.length : Int) y367 (l0.length : Int)) = some r := by first | (rw [hy367]; with_reducible exact H) | (have H2_ := (Option.bind_some _ _).symm.trans H; rw [hy367]; with_reducible exact H2_) | (have H2_ := (Option.bind_some _ _).symm.trans H; with_reducible exact H2_) | with_reducible exact H | (rw [hy367]; exact H) | exact H
   have Ny367 := Aside0.mk hy367
   clear hy367
   have H' := Aside0.mk H
   clear H
   go_enter Tryd.func46, Tryd.ntmps46
   go_wp2_with (first | ((with_reducible refine yS_ (N := 20) rfl ?_); refine Kd.S_make (Kd.slice 3 (Kd.int .i64)) _ 100 rfl (N := 20) rfl 99 _ _ rfl ji3 rfl rfl Tryd.underlying99 (.slice none 0 0) 24 info100 rfl (by decide) (by omega) [] (ok := fun _ => True) (okp := fun _ => True) ⟨_, rfl, Kd.R_nil _ _ _ _ _⟩ (fun _ hk => hk) trivial (of_decide_eq_true (by assumption)) (Nat.le_trans (Nat.mul_le_mul_right _ (of_decide_eq_true (by assumption) : ji3.toNat ≤ 11728124029610)) (by omega)) (Below.refl _ _) (Nat.le_refl _) ?_; intro v368 w6 ho7 hb hg_ hnew_; clear hg_ hnew_; (first | rw [← Ny367.out] at ho7 | (simp only [Int.reduceToNat] at ho7; rw [← Ny367.out] at ho7)); have n0_ := Aside0.mk (Kd.S_lower ho7 (yk_ (by repeat (with_reducible first | exact HB.out | apply yc_ | apply ya_ | apply yb_)))); have n1_ := Aside0.mk (ym_ (by repeat (with_reducible first | exact HB.out | apply yc_ | apply ya_ | apply yb_)) hb); clear HB; have HO369 := n0_; have HB := n1_; clear n0_ n1_; clear hb ho7))
   repeat (go_quiet (first | ((with_reducible refine yS_ (N := 20) rfl ?_); refine Kd.S_make (Kd.slice 3 (Kd.int .i64)) _ 100 rfl (N := 20) rfl 99 _ _ rfl ji3 rfl rfl Tryd.underlying99 (.slice none 0 0) 24 info100 rfl (by decide) (by omega) [] (ok := fun _ => True) (okp := fun _ => True) ⟨_, rfl, Kd.R_nil _ _ _ _ _⟩ (fun _ hk => hk) trivial (of_decide_eq_true (by assumption)) (Nat.le_trans (Nat.mul_le_mul_right _ (of_decide_eq_true (by assumption) : ji3.toNat ≤ 11728124029610)) (by omega)) (Below.refl _ _) (Nat.le_refl _) ?_; intro v368 w6 ho7 hb hg_ hnew_; clear hg_ hnew_; (first | rw [← Ny367.out] at ho7 | (simp only [Int.reduceToNat] at ho7; rw [← Ny367.out] at ho7)); have n0_ := Aside0.mk (Kd.S_lower ho7 (yk_ (by repeat (with_reducible first | exact HB.out | apply yc_ | apply ya_ | apply yb_)))); have n1_ := Aside0.mk (ym_ (by repeat (with_reducible first | exact HB.out | apply yc_ | apply ya_ | apply yb_)) hb); clear HB; have HO369 := n0_; have HB := n1_; clear n0_ n1_; clear hb ho7)); try go_wp2_with (first | ((with_reducible refine yS_ (N := 20) rfl ?_); refine Kd.S_make (Kd.slice 3 (Kd.int .i64)) _ 100 rfl (N := 20) rfl 99 _ _ rfl ji3 rfl rfl Tryd.underlying99 (.slice none 0 0) 24 info100 rfl (by decide) (by omega) [] (ok := fun _ => True) (okp := fun _ => True) ⟨_, rfl, Kd.R_nil _ _ _ _ _⟩ (fun _ hk => hk) trivial (of_decide_eq_true (by assumption)) (Nat.le_trans (Nat.mul_le_mul_right _ (of_decide_eq_true (by assumption) : ji3.toNat ≤ 11728124029610)) (by omega)) (Below.refl _ _) (Nat.le_refl _) ?_; intro v368 w6 ho7 hb hg_ hnew_; clear hg_ hnew_; (first | rw [← Ny367.out] at ho7 | (simp only [Int.reduceToNat] at ho7; rw [← Ny367.out] at ho7)); have n0_ := Aside0.mk (Kd.S_lower ho7 (yk_ (by repeat (with_reducible first | exact HB.out | apply yc_ | apply ya_ | apply yb_)))); have n1_ := Aside0.mk (ym_ (by repeat (with_reducible first | exact HB.out | apply yc_ | apply ya_ | apply yb_)) hb); clear HB; have HO369 := n0_; have HB := n1_; clear n0_ n1_; clear hb ho7)))
   try simp only [Act.put, List.setIfInBounds_toArray, List.set_cons_succ, List.set_cons_zero]
   go_loopg [8] k (fun kq v8 w' => ∃ (x7_1 : List (List Int)) (x8_1 : Int), v8 = .int .i64 x8_1 ∧ Aside0 (yd_.l0 kq l0 l1 (l0.length : Int) (l1.length : Int) x7_1 x8_1 = some r) ∧ Aside0 (kq ≤ k) ∧ Aside0 (Kd.S (Kd.slice 3 (Kd.int .i64)) 100 w' w.heap.size (fun _ => True) v368 x7_1) ∧ Aside0 (Below w.heap.size w w'))
   case atStart => exact ⟨(y367), ((l0.length : Int)), (by first | rfl | (simp; done) | (simp [*]; done)), H', ⟨Nat.le_refl _⟩, ⟨by (with_reducible repeat (first | apply Kd.yO_ | apply Kd.yN_ | apply Kd.S_drew)); exact HO369.out⟩, ⟨by repeat (with_reducible first | exact HB.out | apply yc_ | apply ya_ | apply yb_)⟩⟩
   case round =>
    clear H'
    try clear c1
    try clear p2
    try clear c4
    try clear c4b0
    try clear c4b1
    try clear c5
    try clear c5b0
    try clear c5b1
    try clear p6
    obtain ⟨x7_1, x8_1, rfl, HA, HK1, HO_7, HB⟩ := hrel
    cases gk with
    | zero => exact absurd HA.out (by simp [yd_.l0])
    | succ k1 =>
     have H := HA.out
     clear HA
     simp only [yd_.l0] at H
     by_cases c8 : x8_1 ≥ 0
     ·rw [if_pos c8] at H
      have c8b0 : decide (0 ≤ x8_1) = true := decide_eq_true c8
      clear c8
      obtain ⟨ji9, hji9⟩ : ∃ j_ : Int, (wrap64 ((l1.length : Int) + 1)) = j_ := ⟨_, rfl⟩
      replace H : (if 0 ≤ (ji9) then (if (ji9 : Int).toNat ≤ 35184372088832 then (if 0 ≤ x8_1 then (if x8_1 < (x7_1.length : Int) then (yd_.l1 k1 l0 l1 (l0.length : Int) (l1.length : Int) (x7_1.set (x8_1 : Int).toNat (List.replicate (ji9 : Int).toNat 0)) x8_1 (l1.length : Int)) else (none)) else (none)) else (none)) else (none)) = some r := by first | (rw [hji9] at H; exact H) | (simp only [hji9] at H ⊢; exact H)
      have hji9w : (IntKind.i64.wrap ((l1.length : Int) + 1)) = ji9 := (i64_w _).trans hji9
      by_cases c10 : 0 ≤ (ji9)
      ·rw [if_pos c10] at H
       have c10b0 := eq_true c10
       have c10b1 : decide (0 ≤ (ji9)) = true := decide_eq_true c10
       clear c10
       by_cases c11 : (ji9 : Int).toNat ≤ 35184372088832
       ·rw [if_pos c11] at H
        have c11b0 := eq_true c11
        have c11b1 : decide ((ji9 : Int).toNat ≤ 35184372088832) = true := decide_eq_true c11
        clear c11
        obtain ⟨y370, hy370⟩ : ∃ y_ : List Int, y_ = (List.replicate (ji9 : Int).toNat 0) := ⟨_, rfl⟩
        replace H : (if 0 ≤ x8_1 then (if x8_1 < (x7_1.length : Int) then (yd_.l1 k1 l0 l1 (l0.length : Int) (l1.length : Int) (x7_1.set (x8_1 : Int).toNat y370) x8_1 (l1.length : Int)) else (none)) else (none)) = some r := by first | (rw [hy370]; with_reducible exact H) | (have H2_ := (Option.bind_some _ _).symm.trans H; rw [hy370]; with_reducible exact H2_) | (have H2_ := (Option.bind_some _ _).symm.trans H; with_reducible exact H2_) | with_reducible exact H | (rw [hy370]; exact H) | exact H
        have Ny370 := Aside0.mk hy370
        clear hy370
        by_cases c12 : 0 ≤ x8_1
        ·rw [if_pos c12] at H
         have c12b0 : decide (0 ≤ x8_1) = true := decide_eq_true c12
         clear c12
         by_cases c13 : x8_1 < (x7_1.length : Int)
         ·rw [if_pos c13] at H
          have c13b0 : decide (x8_1 < (x7_1.length : Int)) = true := decide_eq_true c13
          clear c13
          obtain ⟨y373, hy373⟩ : ∃ y_ : List (List Int), y_ = (x7_1.set (x8_1 : Int).toNat y370) := ⟨_, rfl⟩
          replace H : (yd_.l1 k1 l0 l1 (l0.length : Int) (l1.length : Int) y373 x8_1 (l1.length : Int)) = some r := by first | (rw [hy373]; with_reducible exact H) | (have H2_ := (Option.bind_some _ _).symm.trans H; rw [hy373]; with_reducible exact H2_) | (have H2_ := (Option.bind_some _ _).symm.trans H; with_reducible exact H2_) | with_reducible exact H | (rw [hy373]; exact H) | exact H
          have Ny373 := Aside0.mk hy373
          clear hy373
          have H' := Aside0.mk H
          clear H
          go_wp2_with (first | ((with_reducible refine yS_ (N := 30) rfl ?_); refine Kd.R_make (Kd.int .i64) _ 3 rfl (N := 30) rfl 100 _ _ rfl ji9 rfl rfl Tryd.underlying100 (.int .i64 0) 8 info3 rfl (by decide) (by omega) 0 (ok := fun _ => True) (okp := fun _ => True) rfl (fun _ hk => hk) trivial (of_decide_eq_true (by assumption)) (Nat.le_trans (Nat.mul_le_mul_right _ (of_decide_eq_true (by assumption) : ji9.toNat ≤ 35184372088832)) (by omega)) (Below.refl _ _) (Nat.le_refl _) ?_; intro v371 w15 ho16 hb hg_ hnew_; clear hg_ hnew_; (first | rw [← Ny370.out] at ho16 | (simp only [Int.reduceToNat] at ho16; rw [← Ny370.out] at ho16)); have n0_ := Aside0.mk (Kd.S_elder' (by (with_reducible repeat (first | apply Kd.yO_ | apply Kd.yN_ | apply Kd.S_drew)); exact HO_7.out) (Kd.R_base ho16) hb); have n1_ := Aside0.mk (Kd.yY_ ho16 (yk_ (by repeat (with_reducible first | exact HB.out | apply yc_ | apply ya_ | apply yb_)))); have n2_ := Aside0.mk (ym_ (by repeat (with_reducible first | exact HB.out | apply yc_ | apply ya_ | apply yb_)) hb); clear HO_7; clear HB; have HO_7 := n0_; have HO372 := n1_; have HB := n2_; clear n0_ n1_ n2_; clear hb ho16; have p14 : 0 ≤ (x8_1 : Int) := of_decide_eq_true (by assumption); have q14 : (x8_1 : Int) < ((x7_1.length : Int) : Int) := of_decide_eq_true (by assumption); obtain ⟨go14, co14, eo14, gb14, gl14, cl14, HG14⟩ := Kd.S_form HO_7.out (by omega); (first | cases eo14 | (injection eo14 with ea_ en_ ec_; (first | subst ea_ | (injection ea_ with ea_; subst ea_)); subst ec_; clear en_)); have GB14 := Aside0.mk gb14; have GG14 := Aside0.mk HG14; clear gb14 gl14 HG14; obtain ⟨_, ce14, hcl14, hM14, hcc14, hfr14, _, _⟩ := Kd.S_elem HO_7.out [] (x8_1 : Int) p14 q14; obtain ⟨ve14_0, rfl, ge14_0⟩ := hM14; have hx14_0 := hcc14 0 _ rfl; have hf14_0 := hfr14 0; (try simp only [show ((Kd.slice 3 (Kd.int .i64))).sz = 1 from rfl, Nat.mul_one, Nat.add_zero] at hx14_0); (try simp only [show ((Kd.slice 3 (Kd.int .i64))).sz = 1 from rfl, Nat.mul_one, Nat.add_zero] at hf14_0); clear hcl14 hcc14 hfr14; (try clear hM14); replace p14 := eq_true p14; replace q14 := eq_true q14; have n_ := Aside0.mk (Kd.S_mono (ok' := (fun k_ => some k_ ≠ (v371 : Value).ownBlock)) HO_7.out (fun k_ hk => hk.2)); clear HO_7; have HO_7 := n_; clear n_; have HX17 := Aside0.mk (show Kd.S (Kd.slice 3 (Kd.int .i64)) 100 w15 w.heap.size (fun k_ => ((fun _ => True)) k_ ∧ ¬ ((fun k_ => some k_ = (v371 : Value).ownBlock)) k_) (.slice (some ⟨go14, 0, none⟩) x7_1.length co14) x7_1 from (by (with_reducible repeat (first | apply Kd.yO_ | apply Kd.yN_ | apply Kd.S_drew)); exact Kd.S_mono HO_7.out (fun k_ hk => ⟨trivial, fun e_ => hk e_⟩))); obtain ⟨oki17, ce17, hcl17, hM17, hcc17, hfr17, hoki17, hH17⟩ := Kd.S_elem HX17.out [] (x8_1 : Int) (of_decide_eq_true (by assumption)) (by have h_ : (x8_1 : Int) < ((x7_1.length : Int) : Int) := of_decide_eq_true (by assumption); first | exact h_ | (have e_ := (Kd.yp_ HO_7.out).1; omega) | simpa using h_); obtain ⟨ve17_0, rfl, ge17_0⟩ := hM17; have HP17 := Kd.S_seg hH17 (of_decide_eq_true (by assumption)) (by have h_ : (x8_1 : Int) < ((x7_1.length : Int) : Int) := of_decide_eq_true (by assumption); first | exact h_ | (have e_ := (Kd.yp_ HO_7.out).1; omega) | simpa using h_) (seg := [v371]) (j := 0) (show 1 ≤ 1 from by decide) (x' := y370) (Kd.M_row (Kd.R_mono (Kd.R_tight rfl (Kd.R_mono (ok' := fun k_ => ((fun _ => True)) k_ ∧ k_ ≠ go14) (Kd.yvb_ (HO372.out) (Kd.yIb_ HO_7.out) (by decide)) (fun k_ hk => ⟨trivial, fun e_ => (hk.2) (by rw [e_]; rfl)⟩))) (fun _ h_ => Or.inr (h_)))) (fun _ hk => hk) (fun k_ hk_ => ((Kd.R_mono (ok' := fun k_ => ((fun _ => True)) k_ ∧ k_ ≠ go14) (Kd.yvb_ (HO372.out) (Kd.yIb_ HO_7.out) (by decide)) (fun k_ hk => ⟨trivial, fun e_ => (hk.2) (by rw [e_]; rfl)⟩))).1 k_ hk_.symm); have hx17_0 := hcc17 0 _ rfl; (try simp only [show ((Kd.slice 3 (Kd.int .i64))).sz = 1 from rfl, Nat.mul_one, Nat.add_zero] at hx17_0); have hf17_0 := hfr17 0; (try simp only [show ((Kd.slice 3 (Kd.int .i64))).sz = 1 from rfl, Nat.mul_one, Nat.add_zero] at hf17_0); clear hcl17 hcc17 hfr17 hoki17 hH17; (try clear hM17); (try simp only [show ((Kd.slice 3 (Kd.int .i64))).sz = 1 from rfl, Nat.mul_one, Nat.add_zero] at HP17)) | ((with_reducible refine yQ_ (t := 100) (p := 31) rfl ?_); (try (rw [yX_ w15]; generalize hq_ : World.drewN w15 _ = w15; have n0_ := Aside0.mk (Kd.S_at hq_ HO_7.out); have n1_ := Aside0.mk (ybb_ hq_ HB.out); clear hq_ HO_7 HB; have HO_7 := n0_; have HB := n1_; clear n0_ n1_; (try (have n_ := Aside0.mk (Kd.S_mono (ok' := (fun k_ => some k_ ≠ (v371 : Value).ownBlock)) HO_7.out (fun k_ hk => hk.2)); clear HO_7; have HO_7 := n_; clear n_)); (try (have HX17 := Aside0.mk (show Kd.S (Kd.slice 3 (Kd.int .i64)) 100 w15 w.heap.size (fun k_ => ((fun _ => True)) k_ ∧ ¬ ((fun k_ => some k_ = (v371 : Value).ownBlock)) k_) (.slice (some ⟨go14, 0, none⟩) x7_1.length co14) x7_1 from (by (with_reducible repeat (first | apply Kd.yO_ | apply Kd.yN_ | apply Kd.S_drew)); exact Kd.S_mono HO_7.out (fun k_ hk => ⟨trivial, fun e_ => hk e_⟩))))); (try (obtain ⟨oki17, ce17, hcl17, hM17, hcc17, hfr17, hoki17, hH17⟩ := Kd.S_elem HX17.out [] (x8_1 : Int) (of_decide_eq_true (by assumption)) (by have h_ : (x8_1 : Int) < ((x7_1.length : Int) : Int) := of_decide_eq_true (by assumption); first | exact h_ | (have e_ := (Kd.yp_ HO_7.out).1; omega) | simpa using h_))); (try (obtain ⟨ve17_0, rfl, ge17_0⟩ := hM17)); (try (have HP17 := Kd.S_seg hH17 (of_decide_eq_true (by assumption)) (by have h_ : (x8_1 : Int) < ((x7_1.length : Int) : Int) := of_decide_eq_true (by assumption); first | exact h_ | (have e_ := (Kd.yp_ HO_7.out).1; omega) | simpa using h_) (seg := [v371]) (j := 0) (show 1 ≤ 1 from by decide) (x' := y370) (Kd.M_row (Kd.R_mono (Kd.R_tight rfl (Kd.R_mono (ok' := fun k_ => ((fun _ => True)) k_ ∧ k_ ≠ go14) (Kd.yvb_ (HO372.out) (Kd.yIb_ HO_7.out) (by decide)) (fun k_ hk => ⟨trivial, fun e_ => (hk.2) (by rw [e_]; rfl)⟩))) (fun _ h_ => Or.inr (h_)))) (fun _ hk => hk) (fun k_ hk_ => ((Kd.R_mono (ok' := fun k_ => ((fun _ => True)) k_ ∧ k_ ≠ go14) (Kd.yvb_ (HO372.out) (Kd.yIb_ HO_7.out) (by decide)) (fun k_ hk => ⟨trivial, fun e_ => (hk.2) (by rw [e_]; rfl)⟩))).1 k_ hk_.symm))); (try (have hx17_0 := hcc17 0 _ rfl)); (try (try simp only [show ((Kd.slice 3 (Kd.int .i64))).sz = 1 from rfl, Nat.mul_one, Nat.add_zero] at hx17_0)); (try (have hf17_0 := hfr17 0)); (try (try simp only [show ((Kd.slice 3 (Kd.int .i64))).sz = 1 from rfl, Nat.mul_one, Nat.add_zero] at hf17_0)); (try (clear hcl17 hcc17 hfr17 hoki17 hH17; (try clear hM17))); (try (try simp only [show ((Kd.slice 3 (Kd.int .i64))).sz = 1 from rfl, Nat.mul_one, Nat.add_zero] at HP17)))); refine yG_ (t := 100) (p := 31) (v := ?vo_w18) (w1 := (w15.setCell ⟨go14, (x8_1 : Int).toNat, none⟩ (v371))) ?hg ?ho ?hn ?hr ?_; (case ho => rfl); (case hg => rfl); (case hn => rfl); (case hr => (try obtain ⟨As_, cs_, rfl⟩ := Kd.yC_ HO372.out); first | (go_simp; done) | (go_simp; rfl)); intro w18 hw; have hg : w15.grownBy w18 (some go14) := (by rw [hw]; exact HP17.2); have hp_ : Kd.S (Kd.slice 3 (Kd.int .i64)) 100 w18 w.heap.size (fun _ => True) (.slice (some ⟨go14, 0, none⟩) x7_1.length co14) y373 := (by rw [hw, Ny373.out]; exact HP17.1); clear HP17; have n0_ := Aside0.mk (hp_); have n1_ := Aside0.mk ((by rw [hw]; exact yr_ (HB.out) GB14.out : Below w.heap.size w w18)); clear HO_7; clear HB; clear HO372; have HO_7 := n0_; have HB := n1_; clear n0_ n1_; clear hg hw hp_))
          repeat (go_quiet (first | ((with_reducible refine yS_ (N := 30) rfl ?_); refine Kd.R_make (Kd.int .i64) _ 3 rfl (N := 30) rfl 100 _ _ rfl ji9 rfl rfl Tryd.underlying100 (.int .i64 0) 8 info3 rfl (by decide) (by omega) 0 (ok := fun _ => True) (okp := fun _ => True) rfl (fun _ hk => hk) trivial (of_decide_eq_true (by assumption)) (Nat.le_trans (Nat.mul_le_mul_right _ (of_decide_eq_true (by assumption) : ji9.toNat ≤ 35184372088832)) (by omega)) (Below.refl _ _) (Nat.le_refl _) ?_; intro v371 w15 ho16 hb hg_ hnew_; clear hg_ hnew_; (first | rw [← Ny370.out] at ho16 | (simp only [Int.reduceToNat] at ho16; rw [← Ny370.out] at ho16)); have n0_ := Aside0.mk (Kd.S_elder' (by (with_reducible repeat (first | apply Kd.yO_ | apply Kd.yN_ | apply Kd.S_drew)); exact HO_7.out) (Kd.R_base ho16) hb); have n1_ := Aside0.mk (Kd.yY_ ho16 (yk_ (by repeat (with_reducible first | exact HB.out | apply yc_ | apply ya_ | apply yb_)))); have n2_ := Aside0.mk (ym_ (by repeat (with_reducible first | exact HB.out | apply yc_ | apply ya_ | apply yb_)) hb); clear HO_7; clear HB; have HO_7 := n0_; have HO372 := n1_; have HB := n2_; clear n0_ n1_ n2_; clear hb ho16; have p14 : 0 ≤ (x8_1 : Int) := of_decide_eq_true (by assumption); have q14 : (x8_1 : Int) < ((x7_1.length : Int) : Int) := of_decide_eq_true (by assumption); obtain ⟨go14, co14, eo14, gb14, gl14, cl14, HG14⟩ := Kd.S_form HO_7.out (by omega); (first | cases eo14 | (injection eo14 with ea_ en_ ec_; (first | subst ea_ | (injection ea_ with ea_; subst ea_)); subst ec_; clear en_)); have GB14 := Aside0.mk gb14; have GG14 := Aside0.mk HG14; clear gb14 gl14 HG14; obtain ⟨_, ce14, hcl14, hM14, hcc14, hfr14, _, _⟩ := Kd.S_elem HO_7.out [] (x8_1 : Int) p14 q14; obtain ⟨ve14_0, rfl, ge14_0⟩ := hM14; have hx14_0 := hcc14 0 _ rfl; have hf14_0 := hfr14 0; (try simp only [show ((Kd.slice 3 (Kd.int .i64))).sz = 1 from rfl, Nat.mul_one, Nat.add_zero] at hx14_0); (try simp only [show ((Kd.slice 3 (Kd.int .i64))).sz = 1 from rfl, Nat.mul_one, Nat.add_zero] at hf14_0); clear hcl14 hcc14 hfr14; (try clear hM14); replace p14 := eq_true p14; replace q14 := eq_true q14; have n_ := Aside0.mk (Kd.S_mono (ok' := (fun k_ => some k_ ≠ (v371 : Value).ownBlock)) HO_7.out (fun k_ hk => hk.2)); clear HO_7; have HO_7 := n_; clear n_; have HX17 := Aside0.mk (show Kd.S (Kd.slice 3 (Kd.int .i64)) 100 w15 w.heap.size (fun k_ => ((fun _ => True)) k_ ∧ ¬ ((fun k_ => some k_ = (v371 : Value).ownBlock)) k_) (.slice (some ⟨go14, 0, none⟩) x7_1.length co14) x7_1 from (by (with_reducible repeat (first | apply Kd.yO_ | apply Kd.yN_ | apply Kd.S_drew)); exact Kd.S_mono HO_7.out (fun k_ hk => ⟨trivial, fun e_ => hk e_⟩))); obtain ⟨oki17, ce17, hcl17, hM17, hcc17, hfr17, hoki17, hH17⟩ := Kd.S_elem HX17.out [] (x8_1 : Int) (of_decide_eq_true (by assumption)) (by have h_ : (x8_1 : Int) < ((x7_1.length : Int) : Int) := of_decide_eq_true (by assumption); first | exact h_ | (have e_ := (Kd.yp_ HO_7.out).1; omega) | simpa using h_); obtain ⟨ve17_0, rfl, ge17_0⟩ := hM17; have HP17 := Kd.S_seg hH17 (of_decide_eq_true (by assumption)) (by have h_ : (x8_1 : Int) < ((x7_1.length : Int) : Int) := of_decide_eq_true (by assumption); first | exact h_ | (have e_ := (Kd.yp_ HO_7.out).1; omega) | simpa using h_) (seg := [v371]) (j := 0) (show 1 ≤ 1 from by decide) (x' := y370) (Kd.M_row (Kd.R_mono (Kd.R_tight rfl (Kd.R_mono (ok' := fun k_ => ((fun _ => True)) k_ ∧ k_ ≠ go14) (Kd.yvb_ (HO372.out) (Kd.yIb_ HO_7.out) (by decide)) (fun k_ hk => ⟨trivial, fun e_ => (hk.2) (by rw [e_]; rfl)⟩))) (fun _ h_ => Or.inr (h_)))) (fun _ hk => hk) (fun k_ hk_ => ((Kd.R_mono (ok' := fun k_ => ((fun _ => True)) k_ ∧ k_ ≠ go14) (Kd.yvb_ (HO372.out) (Kd.yIb_ HO_7.out) (by decide)) (fun k_ hk => ⟨trivial, fun e_ => (hk.2) (by rw [e_]; rfl)⟩))).1 k_ hk_.symm); have hx17_0 := hcc17 0 _ rfl; (try simp only [show ((Kd.slice 3 (Kd.int .i64))).sz = 1 from rfl, Nat.mul_one, Nat.add_zero] at hx17_0); have hf17_0 := hfr17 0; (try simp only [show ((Kd.slice 3 (Kd.int .i64))).sz = 1 from rfl, Nat.mul_one, Nat.add_zero] at hf17_0); clear hcl17 hcc17 hfr17 hoki17 hH17; (try clear hM17); (try simp only [show ((Kd.slice 3 (Kd.int .i64))).sz = 1 from rfl, Nat.mul_one, Nat.add_zero] at HP17)) | ((with_reducible refine yQ_ (t := 100) (p := 31) rfl ?_); (try (rw [yX_ w15]; generalize hq_ : World.drewN w15 _ = w15; have n0_ := Aside0.mk (Kd.S_at hq_ HO_7.out); have n1_ := Aside0.mk (ybb_ hq_ HB.out); clear hq_ HO_7 HB; have HO_7 := n0_; have HB := n1_; clear n0_ n1_; (try (have n_ := Aside0.mk (Kd.S_mono (ok' := (fun k_ => some k_ ≠ (v371 : Value).ownBlock)) HO_7.out (fun k_ hk => hk.2)); clear HO_7; have HO_7 := n_; clear n_)); (try (have HX17 := Aside0.mk (show Kd.S (Kd.slice 3 (Kd.int .i64)) 100 w15 w.heap.size (fun k_ => ((fun _ => True)) k_ ∧ ¬ ((fun k_ => some k_ = (v371 : Value).ownBlock)) k_) (.slice (some ⟨go14, 0, none⟩) x7_1.length co14) x7_1 from (by (with_reducible repeat (first | apply Kd.yO_ | apply Kd.yN_ | apply Kd.S_drew)); exact Kd.S_mono HO_7.out (fun k_ hk => ⟨trivial, fun e_ => hk e_⟩))))); (try (obtain ⟨oki17, ce17, hcl17, hM17, hcc17, hfr17, hoki17, hH17⟩ := Kd.S_elem HX17.out [] (x8_1 : Int) (of_decide_eq_true (by assumption)) (by have h_ : (x8_1 : Int) < ((x7_1.length : Int) : Int) := of_decide_eq_true (by assumption); first | exact h_ | (have e_ := (Kd.yp_ HO_7.out).1; omega) | simpa using h_))); (try (obtain ⟨ve17_0, rfl, ge17_0⟩ := hM17)); (try (have HP17 := Kd.S_seg hH17 (of_decide_eq_true (by assumption)) (by have h_ : (x8_1 : Int) < ((x7_1.length : Int) : Int) := of_decide_eq_true (by assumption); first | exact h_ | (have e_ := (Kd.yp_ HO_7.out).1; omega) | simpa using h_) (seg := [v371]) (j := 0) (show 1 ≤ 1 from by decide) (x' := y370) (Kd.M_row (Kd.R_mono (Kd.R_tight rfl (Kd.R_mono (ok' := fun k_ => ((fun _ => True)) k_ ∧ k_ ≠ go14) (Kd.yvb_ (HO372.out) (Kd.yIb_ HO_7.out) (by decide)) (fun k_ hk => ⟨trivial, fun e_ => (hk.2) (by rw [e_]; rfl)⟩))) (fun _ h_ => Or.inr (h_)))) (fun _ hk => hk) (fun k_ hk_ => ((Kd.R_mono (ok' := fun k_ => ((fun _ => True)) k_ ∧ k_ ≠ go14) (Kd.yvb_ (HO372.out) (Kd.yIb_ HO_7.out) (by decide)) (fun k_ hk => ⟨trivial, fun e_ => (hk.2) (by rw [e_]; rfl)⟩))).1 k_ hk_.symm))); (try (have hx17_0 := hcc17 0 _ rfl)); (try (try simp only [show ((Kd.slice 3 (Kd.int .i64))).sz = 1 from rfl, Nat.mul_one, Nat.add_zero] at hx17_0)); (try (have hf17_0 := hfr17 0)); (try (try simp only [show ((Kd.slice 3 (Kd.int .i64))).sz = 1 from rfl, Nat.mul_one, Nat.add_zero] at hf17_0)); (try (clear hcl17 hcc17 hfr17 hoki17 hH17; (try clear hM17))); (try (try simp only [show ((Kd.slice 3 (Kd.int .i64))).sz = 1 from rfl, Nat.mul_one, Nat.add_zero] at HP17)))); refine yG_ (t := 100) (p := 31) (v := ?vo_w18) (w1 := (w15.setCell ⟨go14, (x8_1 : Int).toNat, none⟩ (v371))) ?hg ?ho ?hn ?hr ?_; (case ho => rfl); (case hg => rfl); (case hn => rfl); (case hr => (try obtain ⟨As_, cs_, rfl⟩ := Kd.yC_ HO372.out); first | (go_simp; done) | (go_simp; rfl)); intro w18 hw; have hg : w15.grownBy w18 (some go14) := (by rw [hw]; exact HP17.2); have hp_ : Kd.S (Kd.slice 3 (Kd.int .i64)) 100 w18 w.heap.size (fun _ => True) (.slice (some ⟨go14, 0, none⟩) x7_1.length co14) y373 := (by rw [hw, Ny373.out]; exact HP17.1); clear HP17; have n0_ := Aside0.mk (hp_); have n1_ := Aside0.mk ((by rw [hw]; exact yr_ (HB.out) GB14.out : Below w.heap.size w w18)); clear HO_7; clear HB; clear HO372; have HO_7 := n0_; have HB := n1_; clear n0_ n1_; clear hg hw hp_)); try go_wp2_with (first | ((with_reducible refine yS_ (N := 30) rfl ?_); refine Kd.R_make (Kd.int .i64) _ 3 rfl (N := 30) rfl 100 _ _ rfl ji9 rfl rfl Tryd.underlying100 (.int .i64 0) 8 info3 rfl (by decide) (by omega) 0 (ok := fun _ => True) (okp := fun _ => True) rfl (fun _ hk => hk) trivial (of_decide_eq_true (by assumption)) (Nat.le_trans (Nat.mul_le_mul_right _ (of_decide_eq_true (by assumption) : ji9.toNat ≤ 35184372088832)) (by omega)) (Below.refl _ _) (Nat.le_refl _) ?_; intro v371 w15 ho16 hb hg_ hnew_; clear hg_ hnew_; (first | rw [← Ny370.out] at ho16 | (simp only [Int.reduceToNat] at ho16; rw [← Ny370.out] at ho16)); have n0_ := Aside0.mk (Kd.S_elder' (by (with_reducible repeat (first | apply Kd.yO_ | apply Kd.yN_ | apply Kd.S_drew)); exact HO_7.out) (Kd.R_base ho16) hb); have n1_ := Aside0.mk (Kd.yY_ ho16 (yk_ (by repeat (with_reducible first | exact HB.out | apply yc_ | apply ya_ | apply yb_)))); have n2_ := Aside0.mk (ym_ (by repeat (with_reducible first | exact HB.out | apply yc_ | apply ya_ | apply yb_)) hb); clear HO_7; clear HB; have HO_7 := n0_; have HO372 := n1_; have HB := n2_; clear n0_ n1_ n2_; clear hb ho16; have p14 : 0 ≤ (x8_1 : Int) := of_decide_eq_true (by assumption); have q14 : (x8_1 : Int) < ((x7_1.length : Int) : Int) := of_decide_eq_true (by assumption); obtain ⟨go14, co14, eo14, gb14, gl14, cl14, HG14⟩ := Kd.S_form HO_7.out (by omega); (first | cases eo14 | (injection eo14 with ea_ en_ ec_; (first | subst ea_ | (injection ea_ with ea_; subst ea_)); subst ec_; clear en_)); have GB14 := Aside0.mk gb14; have GG14 := Aside0.mk HG14; clear gb14 gl14 HG14; obtain ⟨_, ce14, hcl14, hM14, hcc14, hfr14, _, _⟩ := Kd.S_elem HO_7.out [] (x8_1 : Int) p14 q14; obtain ⟨ve14_0, rfl, ge14_0⟩ := hM14; have hx14_0 := hcc14 0 _ rfl; have hf14_0 := hfr14 0; (try simp only [show ((Kd.slice 3 (Kd.int .i64))).sz = 1 from rfl, Nat.mul_one, Nat.add_zero] at hx14_0); (try simp only [show ((Kd.slice 3 (Kd.int .i64))).sz = 1 from rfl, Nat.mul_one, Nat.add_zero] at hf14_0); clear hcl14 hcc14 hfr14; (try clear hM14); replace p14 := eq_true p14; replace q14 := eq_true q14; have n_ := Aside0.mk (Kd.S_mono (ok' := (fun k_ => some k_ ≠ (v371 : Value).ownBlock)) HO_7.out (fun k_ hk => hk.2)); clear HO_7; have HO_7 := n_; clear n_; have HX17 := Aside0.mk (show Kd.S (Kd.slice 3 (Kd.int .i64)) 100 w15 w.heap.size (fun k_ => ((fun _ => True)) k_ ∧ ¬ ((fun k_ => some k_ = (v371 : Value).ownBlock)) k_) (.slice (some ⟨go14, 0, none⟩) x7_1.length co14) x7_1 from (by (with_reducible repeat (first | apply Kd.yO_ | apply Kd.yN_ | apply Kd.S_drew)); exact Kd.S_mono HO_7.out (fun k_ hk => ⟨trivial, fun e_ => hk e_⟩))); obtain ⟨oki17, ce17, hcl17, hM17, hcc17, hfr17, hoki17, hH17⟩ := Kd.S_elem HX17.out [] (x8_1 : Int) (of_decide_eq_true (by assumption)) (by have h_ : (x8_1 : Int) < ((x7_1.length : Int) : Int) := of_decide_eq_true (by assumption); first | exact h_ | (have e_ := (Kd.yp_ HO_7.out).1; omega) | simpa using h_); obtain ⟨ve17_0, rfl, ge17_0⟩ := hM17; have HP17 := Kd.S_seg hH17 (of_decide_eq_true (by assumption)) (by have h_ : (x8_1 : Int) < ((x7_1.length : Int) : Int) := of_decide_eq_true (by assumption); first | exact h_ | (have e_ := (Kd.yp_ HO_7.out).1; omega) | simpa using h_) (seg := [v371]) (j := 0) (show 1 ≤ 1 from by decide) (x' := y370) (Kd.M_row (Kd.R_mono (Kd.R_tight rfl (Kd.R_mono (ok' := fun k_ => ((fun _ => True)) k_ ∧ k_ ≠ go14) (Kd.yvb_ (HO372.out) (Kd.yIb_ HO_7.out) (by decide)) (fun k_ hk => ⟨trivial, fun e_ => (hk.2) (by rw [e_]; rfl)⟩))) (fun _ h_ => Or.inr (h_)))) (fun _ hk => hk) (fun k_ hk_ => ((Kd.R_mono (ok' := fun k_ => ((fun _ => True)) k_ ∧ k_ ≠ go14) (Kd.yvb_ (HO372.out) (Kd.yIb_ HO_7.out) (by decide)) (fun k_ hk => ⟨trivial, fun e_ => (hk.2) (by rw [e_]; rfl)⟩))).1 k_ hk_.symm); have hx17_0 := hcc17 0 _ rfl; (try simp only [show ((Kd.slice 3 (Kd.int .i64))).sz = 1 from rfl, Nat.mul_one, Nat.add_zero] at hx17_0); have hf17_0 := hfr17 0; (try simp only [show ((Kd.slice 3 (Kd.int .i64))).sz = 1 from rfl, Nat.mul_one, Nat.add_zero] at hf17_0); clear hcl17 hcc17 hfr17 hoki17 hH17; (try clear hM17); (try simp only [show ((Kd.slice 3 (Kd.int .i64))).sz = 1 from rfl, Nat.mul_one, Nat.add_zero] at HP17)) | ((with_reducible refine yQ_ (t := 100) (p := 31) rfl ?_); (try (rw [yX_ w15]; generalize hq_ : World.drewN w15 _ = w15; have n0_ := Aside0.mk (Kd.S_at hq_ HO_7.out); have n1_ := Aside0.mk (ybb_ hq_ HB.out); clear hq_ HO_7 HB; have HO_7 := n0_; have HB := n1_; clear n0_ n1_; (try (have n_ := Aside0.mk (Kd.S_mono (ok' := (fun k_ => some k_ ≠ (v371 : Value).ownBlock)) HO_7.out (fun k_ hk => hk.2)); clear HO_7; have HO_7 := n_; clear n_)); (try (have HX17 := Aside0.mk (show Kd.S (Kd.slice 3 (Kd.int .i64)) 100 w15 w.heap.size (fun k_ => ((fun _ => True)) k_ ∧ ¬ ((fun k_ => some k_ = (v371 : Value).ownBlock)) k_) (.slice (some ⟨go14, 0, none⟩) x7_1.length co14) x7_1 from (by (with_reducible repeat (first | apply Kd.yO_ | apply Kd.yN_ | apply Kd.S_drew)); exact Kd.S_mono HO_7.out (fun k_ hk => ⟨trivial, fun e_ => hk e_⟩))))); (try (obtain ⟨oki17, ce17, hcl17, hM17, hcc17, hfr17, hoki17, hH17⟩ := Kd.S_elem HX17.out [] (x8_1 : Int) (of_decide_eq_true (by assumption)) (by have h_ : (x8_1 : Int) < ((x7_1.length : Int) : Int) := of_decide_eq_true (by assumption); first | exact h_ | (have e_ := (Kd.yp_ HO_7.out).1; omega) | simpa using h_))); (try (obtain ⟨ve17_0, rfl, ge17_0⟩ := hM17)); (try (have HP17 := Kd.S_seg hH17 (of_decide_eq_true (by assumption)) (by have h_ : (x8_1 : Int) < ((x7_1.length : Int) : Int) := of_decide_eq_true (by assumption); first | exact h_ | (have e_ := (Kd.yp_ HO_7.out).1; omega) | simpa using h_) (seg := [v371]) (j := 0) (show 1 ≤ 1 from by decide) (x' := y370) (Kd.M_row (Kd.R_mono (Kd.R_tight rfl (Kd.R_mono (ok' := fun k_ => ((fun _ => True)) k_ ∧ k_ ≠ go14) (Kd.yvb_ (HO372.out) (Kd.yIb_ HO_7.out) (by decide)) (fun k_ hk => ⟨trivial, fun e_ => (hk.2) (by rw [e_]; rfl)⟩))) (fun _ h_ => Or.inr (h_)))) (fun _ hk => hk) (fun k_ hk_ => ((Kd.R_mono (ok' := fun k_ => ((fun _ => True)) k_ ∧ k_ ≠ go14) (Kd.yvb_ (HO372.out) (Kd.yIb_ HO_7.out) (by decide)) (fun k_ hk => ⟨trivial, fun e_ => (hk.2) (by rw [e_]; rfl)⟩))).1 k_ hk_.symm))); (try (have hx17_0 := hcc17 0 _ rfl)); (try (try simp only [show ((Kd.slice 3 (Kd.int .i64))).sz = 1 from rfl, Nat.mul_one, Nat.add_zero] at hx17_0)); (try (have hf17_0 := hfr17 0)); (try (try simp only [show ((Kd.slice 3 (Kd.int .i64))).sz = 1 from rfl, Nat.mul_one, Nat.add_zero] at hf17_0)); (try (clear hcl17 hcc17 hfr17 hoki17 hH17; (try clear hM17))); (try (try simp only [show ((Kd.slice 3 (Kd.int .i64))).sz = 1 from rfl, Nat.mul_one, Nat.add_zero] at HP17)))); refine yG_ (t := 100) (p := 31) (v := ?vo_w18) (w1 := (w15.setCell ⟨go14, (x8_1 : Int).toNat, none⟩ (v371))) ?hg ?ho ?hn ?hr ?_; (case ho => rfl); (case hg => rfl); (case hn => rfl); (case hr => (try obtain ⟨As_, cs_, rfl⟩ := Kd.yC_ HO372.out); first | (go_simp; done) | (go_simp; rfl)); intro w18 hw; have hg : w15.grownBy w18 (some go14) := (by rw [hw]; exact HP17.2); have hp_ : Kd.S (Kd.slice 3 (Kd.int .i64)) 100 w18 w.heap.size (fun _ => True) (.slice (some ⟨go14, 0, none⟩) x7_1.length co14) y373 := (by rw [hw, Ny373.out]; exact HP17.1); clear HP17; have n0_ := Aside0.mk (hp_); have n1_ := Aside0.mk ((by rw [hw]; exact yr_ (HB.out) GB14.out : Below w.heap.size w w18)); clear HO_7; clear HB; clear HO372; have HO_7 := n0_; have HB := n1_; clear n0_ n1_; clear hg hw hp_)))
          try simp only [Act.put, List.setIfInBounds_toArray, List.set_cons_succ, List.set_cons_zero]
          go_loopg [9] k1 (fun kq v9 w' => ∃ (x7_2 : List (List Int)) (x9_2 : Int), v9 = .int .i64 x9_2 ∧ Aside0 (yd_.l1 kq l0 l1 (l0.length : Int) (l1.length : Int) x7_2 x8_1 x9_2 = some r) ∧ Aside0 (kq ≤ k1) ∧ Aside0 (Kd.S (Kd.slice 3 (Kd.int .i64)) 100 w' w.heap.size (fun _ => True) (.slice (some ⟨go14, 0, none⟩) x7_1.length co14) x7_2) ∧ Aside0 (Below w.heap.size w w'))
          case atStart => exact ⟨(y373), ((l1.length : Int)), (by first | rfl | (simp; done) | (simp [*]; done)), H', ⟨Nat.le_refl _⟩, ⟨by (with_reducible repeat (first | apply Kd.yO_ | apply Kd.yN_ | apply Kd.S_drew)); exact HO_7.out⟩, ⟨by repeat (with_reducible first | exact HB.out | apply yc_ | apply ya_ | apply yb_)⟩⟩
          case round =>
           clear H'
           try clear c1
           try clear p1
           try clear q1
           try clear hx1
           try clear p2
           try clear c4
           try clear c4b0
           try clear c4b1
           try clear c5
           try clear c5b0
           try clear c5b1
           try clear p6
           try clear c8
           try clear c8b0
           try clear c10
           try clear c10b0
           try clear c10b1
           try clear c11
           try clear c11b0
           try clear c11b1
           try clear c12
           try clear c12b0
           try clear c13
           try clear c13b0
           try clear c14
           try clear p14
           try clear q14
           try clear hx14
           try clear hf14
           try clear c17
           try clear hx17
           try clear hf17
           try clear hx14_0
           try clear hx17_0
           try clear p14
           try clear p2
           try clear p6
           try clear q14
           obtain ⟨x7_2, x9_2, rfl, HA, HK2, HO_7, HB⟩ := hrel
           have hl7_2 := (Kd.yp_ HO_7.out).1
           rw [hl7_2] at HO_7
           (try simp only [hl7_2])
           cases gk with
           | zero => exact absurd HA.out (by simp [yd_.l1])
           | succ k2 =>
            have H := HA.out
            clear HA
            simp only [yd_.l1] at H
            by_cases c19 : x9_2 ≥ 0
            ·rw [if_pos c19] at H
             have c19b0 : decide (0 ≤ x9_2) = true := decide_eq_true c19
             clear c19
             have HC20 := Aside0.mk H
             clear H
             go_upto_region 10 with (fail)
             repeat (go_quiet (fail); go_upto_region 10 with (fail))
             go_cut [44] (fun v44 wc => ∃ (kq : Nat) (x44_19 : Bool), v44 = .bool x44_19 ∧ Aside0 (yd_.j2 kq l0 l1 (l0.length : Int) (l1.length : Int) x7_2 x8_1 x9_2 x44_19 = some r) ∧ Aside0 (kq ≤ k2) ∧ Aside0 (Kd.S (Kd.slice 3 (Kd.int .i64)) 100 wc w.heap.size (fun _ => True) (.slice (some ⟨go14, 0, none⟩) x7_2.length co14) x7_2) ∧ Aside0 (Below w.heap.size w wc))
             case first =>
              have H := HC20.out
              clear HC20
              by_cases c21 : x8_1 = (l0.length : Int)
              ·rw [if_pos c21] at H
               have c21b0 : (x8_1 == (l0.length : Int)) = true := beq_iff_eq.mpr c21
               have c21b1 : (x8_1 != (l0.length : Int)) = false := bne_eq_false_iff_eq.mpr c21
               clear c21
               (first | rw [c21b0] | (simp only [i64_w, i32_w]; rw [c21b0]) | skip)
               have H' := Aside0.mk H
               clear H
               go_wp2
               repeat (go_quiet (fail); try go_wp2)
               go_meet
               case rel => exact ⟨_, (true), (by first | rfl | (simp; done) | (simp [*]; done)), H', ⟨by have := HK1.out; have := HK2.out; first | omega | exact Nat.le_refl _⟩, ⟨by (try simp only [hl7_2]); (with_reducible repeat (first | apply Kd.yO_ | apply Kd.yN_ | apply Kd.S_drew)); exact HO_7.out⟩, ⟨by repeat (with_reducible first | exact HB.out | apply yc_ | apply ya_ | apply yb_)⟩⟩
              ·rw [if_neg c21] at H
               have c21b0 : (x8_1 == (l0.length : Int)) = false := beq_eq_false_iff_ne.mpr c21
               have c21b1 : (x8_1 != (l0.length : Int)) = true := bne_iff_ne.mpr c21
               (first | rw [c21b0] | (simp only [i64_w, i32_w]; rw [c21b0]) | skip)
               have H' := Aside0.mk H
               clear H
               go_wp2
               repeat (go_quiet (fail); try go_wp2)
               go_meet
               case rel => exact ⟨_, ((x9_2 == (l1.length : Int))), (by first | rfl | (simp; done) | (simp [*]; done)), H', ⟨by have := HK1.out; have := HK2.out; first | omega | exact Nat.le_refl _⟩, ⟨by (try simp only [hl7_2]); (with_reducible repeat (first | apply Kd.yO_ | apply Kd.yN_ | apply Kd.S_drew)); exact HO_7.out⟩, ⟨by repeat (with_reducible first | exact HB.out | apply yc_ | apply ya_ | apply yb_)⟩⟩
             case rest =>
              clear HC20
              try clear c1
              try clear p1
              try clear q1
              try clear hx1
              try clear c2
              try clear p2
              try clear c4
              try clear c4b0
              try clear c4b1
              try clear c5
              try clear c5b0
              try clear c5b1
              try clear p6
              try clear c8
              try clear c8b0
              try clear c10
              try clear c10b0
              try clear c10b1
              try clear c11
              try clear c11b0
              try clear c11b1
              try clear c12
              try clear c12b0
              try clear c13
              try clear c13b0
              try clear c14
              try clear p14
              try clear q14
              try clear hx14
              try clear hf14
              try clear c17
              try clear hx17
              try clear hf17
              try clear c19
              try clear c19b0
              try clear c21
              try clear c21b0
              try clear c21b1
              try clear hx14_0
              try clear hx17_0
              try clear p1
              try clear p14
              try clear p2
              try clear p6
              try clear q1
              try clear q14
              obtain ⟨kq, x44_19, rfl, HA, HJ19, HO_7, HB⟩ := hcut
              cases kq with
              | zero => exact absurd HA.out (by simp [yd_.j2])
              | succ kj19 =>
               have H := HA.out
               clear HA
               simp only [yd_.j2] at H
               by_cases c22 : x44_19 = true
               ·subst c22
                have H1 : (yd_.l1 kj19 l0 l1 (l0.length : Int) (l1.length : Int) x7_2 x8_1 (wrap64 (x9_2 - 1))) = some r := by rw [if_pos rfl] at H; exact H
                clear H
                have H := H1
                clear H1
                have H' := Aside0.mk H
                clear H
                go_wp2
                repeat (go_quiet (fail); try go_wp2)
                (try simp only [← hl7_2])
                go_roundg kj19
                case measure => have := HK1.out; have := HK2.out; have := HJ19.out; omega
                case rel => exact ⟨(x7_2), (wrap64 (x9_2 - 1)), (by first | rfl | (simp; done) | (simp [*]; done)), H', ⟨by have := HK1.out; have := HK2.out; have := HJ19.out; omega⟩, ⟨by (try simp only [hl7_2]); (with_reducible repeat (first | apply Kd.yO_ | apply Kd.yN_ | apply Kd.S_drew)); exact HO_7.out⟩, ⟨by repeat (with_reducible first | exact HB.out | apply yc_ | apply ya_ | apply yb_)⟩⟩
               ·replace c22 := Bool.eq_false_iff.mpr c22
                subst c22
                have H1 : (if 0 ≤ (wrap64 (x8_1 + 1)) then (if (wrap64 (x8_1 + 1)) < (x7_2.length : Int) then (if 0 ≤ x9_2 then (if x9_2 < ((rd_L5 x7_2 (wrap64 (x8_1 + 1))).length : Int) then (if 0 ≤ x8_1 then (if x8_1 < (x7_2.length : Int) then (if 0 ≤ (wrap64 (x9_2 + 1)) then (if (wrap64 (x9_2 + 1)) < ((rd_L5 x7_2 x8_1).length : Int) then (if (rd (rd_L5 x7_2 x8_1) (wrap64 (x9_2 + 1))) > (rd (rd_L5 x7_2 (wrap64 (x8_1 + 1))) x9_2) then (if x8_1 < (l0.length : Int) then (if x9_2 < (l1.length : Int) then (if (rdOf ByteArray.empty l0 x8_1).toList = (rdOf ByteArray.empty l1 x9_2).toList then (if (wrap64 (x9_2 + 1)) < ((rd_L5 x7_2 (wrap64 (x8_1 + 1))).length : Int) then (if (wrap64 ((rd (rd_L5 x7_2 (wrap64 (x8_1 + 1))) (wrap64 (x9_2 + 1))) + 1)) > (rd (rd_L5 x7_2 x8_1) (wrap64 (x9_2 + 1))) then (if x9_2 < ((rd_L5 x7_2 x8_1).length : Int) then (yd_.l1 kj19 l0 l1 (l0.length : Int) (l1.length : Int) (x7_2.set (x8_1 : Int).toNat ((rd_L5 x7_2 x8_1).set (x9_2 : Int).toNat (wrap64 ((rd (rd_L5 x7_2 (wrap64 (x8_1 + 1))) (wrap64 (x9_2 + 1))) + 1)))) x8_1 (wrap64 (x9_2 - 1))) else (none)) else (if x9_2 < ((rd_L5 x7_2 x8_1).length : Int) then (yd_.l1 kj19 l0 l1 (l0.length : Int) (l1.length : Int) (x7_2.set (x8_1 : Int).toNat ((rd_L5 x7_2 x8_1).set (x9_2 : Int).toNat (rd (rd_L5 x7_2 x8_1) (wrap64 (x9_2 + 1))))) x8_1 (wrap64 (x9_2 - 1))) else (none))) else (none)) else (if x9_2 < ((rd_L5 x7_2 x8_1).length : Int) then (yd_.l1 kj19 l0 l1 (l0.length : Int) (l1.length : Int) (x7_2.set (x8_1 : Int).toNat ((rd_L5 x7_2 x8_1).set (x9_2 : Int).toNat (rd (rd_L5 x7_2 x8_1) (wrap64 (x9_2 + 1))))) x8_1 (wrap64 (x9_2 - 1))) else (none))) else (none)) else (none)) else (if x8_1 < (l0.length : Int) then (if x9_2 < (l1.length : Int) then (if (rdOf ByteArray.empty l0 x8_1).toList = (rdOf ByteArray.empty l1 x9_2).toList then (if (wrap64 (x9_2 + 1)) < ((rd_L5 x7_2 (wrap64 (x8_1 + 1))).length : Int) then (if (wrap64 ((rd (rd_L5 x7_2 (wrap64 (x8_1 + 1))) (wrap64 (x9_2 + 1))) + 1)) > (rd (rd_L5 x7_2 (wrap64 (x8_1 + 1))) x9_2) then (if x9_2 < ((rd_L5 x7_2 x8_1).length : Int) then (yd_.l1 kj19 l0 l1 (l0.length : Int) (l1.length : Int) (x7_2.set (x8_1 : Int).toNat ((rd_L5 x7_2 x8_1).set (x9_2 : Int).toNat (wrap64 ((rd (rd_L5 x7_2 (wrap64 (x8_1 + 1))) (wrap64 (x9_2 + 1))) + 1)))) x8_1 (wrap64 (x9_2 - 1))) else (none)) else (if x9_2 < ((rd_L5 x7_2 x8_1).length : Int) then (yd_.l1 kj19 l0 l1 (l0.length : Int) (l1.length : Int) (x7_2.set (x8_1 : Int).toNat ((rd_L5 x7_2 x8_1).set (x9_2 : Int).toNat (rd (rd_L5 x7_2 (wrap64 (x8_1 + 1))) x9_2))) x8_1 (wrap64 (x9_2 - 1))) else (none))) else (none)) else (if x9_2 < ((rd_L5 x7_2 x8_1).length : Int) then (yd_.l1 kj19 l0 l1 (l0.length : Int) (l1.length : Int) (x7_2.set (x8_1 : Int).toNat ((rd_L5 x7_2 x8_1).set (x9_2 : Int).toNat (rd (rd_L5 x7_2 (wrap64 (x8_1 + 1))) x9_2))) x8_1 (wrap64 (x9_2 - 1))) else (none))) else (none)) else (none))) else (none)) else (none)) else (none)) else (none)) else (none)) else (none)) else (none)) else (none)) = some r := by rw [if_neg (show ¬ (false = true) by decide)] at H; exact H
                clear H
                have H := H1
                clear H1
                obtain ⟨ji23, hji23⟩ : ∃ j_ : Int, (wrap64 (x8_1 + 1)) = j_ := ⟨_, rfl⟩
                replace H : (if 0 ≤ (ji23) then (if (ji23) < (x7_2.length : Int) then (if 0 ≤ x9_2 then (if x9_2 < ((rd_L5 x7_2 (ji23)).length : Int) then (if 0 ≤ x8_1 then (if x8_1 < (x7_2.length : Int) then (if 0 ≤ (wrap64 (x9_2 + 1)) then (if (wrap64 (x9_2 + 1)) < ((rd_L5 x7_2 x8_1).length : Int) then (if (rd (rd_L5 x7_2 x8_1) (wrap64 (x9_2 + 1))) > (rd (rd_L5 x7_2 (ji23)) x9_2) then (if x8_1 < (l0.length : Int) then (if x9_2 < (l1.length : Int) then (if (rdOf ByteArray.empty l0 x8_1).toList = (rdOf ByteArray.empty l1 x9_2).toList then (if (wrap64 (x9_2 + 1)) < ((rd_L5 x7_2 (ji23)).length : Int) then (if (wrap64 ((rd (rd_L5 x7_2 (ji23)) (wrap64 (x9_2 + 1))) + 1)) > (rd (rd_L5 x7_2 x8_1) (wrap64 (x9_2 + 1))) then (if x9_2 < ((rd_L5 x7_2 x8_1).length : Int) then (yd_.l1 kj19 l0 l1 (l0.length : Int) (l1.length : Int) (x7_2.set (x8_1 : Int).toNat ((rd_L5 x7_2 x8_1).set (x9_2 : Int).toNat (wrap64 ((rd (rd_L5 x7_2 (ji23)) (wrap64 (x9_2 + 1))) + 1)))) x8_1 (wrap64 (x9_2 - 1))) else (none)) else (if x9_2 < ((rd_L5 x7_2 x8_1).length : Int) then (yd_.l1 kj19 l0 l1 (l0.length : Int) (l1.length : Int) (x7_2.set (x8_1 : Int).toNat ((rd_L5 x7_2 x8_1).set (x9_2 : Int).toNat (rd (rd_L5 x7_2 x8_1) (wrap64 (x9_2 + 1))))) x8_1 (wrap64 (x9_2 - 1))) else (none))) else (none)) else (if x9_2 < ((rd_L5 x7_2 x8_1).length : Int) then (yd_.l1 kj19 l0 l1 (l0.length : Int) (l1.length : Int) (x7_2.set (x8_1 : Int).toNat ((rd_L5 x7_2 x8_1).set (x9_2 : Int).toNat (rd (rd_L5 x7_2 x8_1) (wrap64 (x9_2 + 1))))) x8_1 (wrap64 (x9_2 - 1))) else (none))) else (none)) else (none)) else (if x8_1 < (l0.length : Int) then (if x9_2 < (l1.length : Int) then (if (rdOf ByteArray.empty l0 x8_1).toList = (rdOf ByteArray.empty l1 x9_2).toList then (if (wrap64 (x9_2 + 1)) < ((rd_L5 x7_2 (ji23)).length : Int) then (if (wrap64 ((rd (rd_L5 x7_2 (ji23)) (wrap64 (x9_2 + 1))) + 1)) > (rd (rd_L5 x7_2 (ji23)) x9_2) then (if x9_2 < ((rd_L5 x7_2 x8_1).length : Int) then (yd_.l1 kj19 l0 l1 (l0.length : Int) (l1.length : Int) (x7_2.set (x8_1 : Int).toNat ((rd_L5 x7_2 x8_1).set (x9_2 : Int).toNat (wrap64 ((rd (rd_L5 x7_2 (ji23)) (wrap64 (x9_2 + 1))) + 1)))) x8_1 (wrap64 (x9_2 - 1))) else (none)) else (if x9_2 < ((rd_L5 x7_2 x8_1).length : Int) then (yd_.l1 kj19 l0 l1 (l0.length : Int) (l1.length : Int) (x7_2.set (x8_1 : Int).toNat ((rd_L5 x7_2 x8_1).set (x9_2 : Int).toNat (rd (rd_L5 x7_2 (ji23)) x9_2))) x8_1 (wrap64 (x9_2 - 1))) else (none))) else (none)) else (if x9_2 < ((rd_L5 x7_2 x8_1).length : Int) then (yd_.l1 kj19 l0 l1 (l0.length : Int) (l1.length : Int) (x7_2.set (x8_1 : Int).toNat ((rd_L5 x7_2 x8_1).set (x9_2 : Int).toNat (rd (rd_L5 x7_2 (ji23)) x9_2))) x8_1 (wrap64 (x9_2 - 1))) else (none))) else (none)) else (none))) else (none)) else (none)) else (none)) else (none)) else (none)) else (none)) else (none)) else (none)) = some r := by first | (rw [hji23] at H; exact H) | (simp only [hji23] at H ⊢; exact H)
                have hji23w : (IntKind.i64.wrap (x8_1 + 1)) = ji23 := (i64_w _).trans hji23
                by_cases c24 : 0 ≤ (ji23)
                ·rw [if_pos c24] at H
                 have c24b0 : decide (0 ≤ (ji23)) = true := decide_eq_true c24
                 clear c24
                 by_cases c25 : (ji23) < (x7_2.length : Int)
                 ·rw [if_pos c25] at H
                  have c25b0 : decide ((ji23) < (x7_2.length : Int)) = true := decide_eq_true c25
                  clear c25
                  by_cases c26 : 0 ≤ x9_2
                  ·rw [if_pos c26] at H
                   have c26b0 : decide (0 ≤ x9_2) = true := decide_eq_true c26
                   clear c26
                   by_cases c27 : x9_2 < ((rd_L5 x7_2 (ji23)).length : Int)
                   ·rw [if_pos c27] at H
                    have c27b0 : decide (x9_2 < ((rd_L5 x7_2 (ji23)).length : Int)) = true := decide_eq_true c27
                    clear c27
                    by_cases c28 : 0 ≤ x8_1
                    ·rw [if_pos c28] at H
                     have c28b0 : decide (0 ≤ x8_1) = true := decide_eq_true c28
                     clear c28
                     by_cases c29 : x8_1 < (x7_2.length : Int)
                     ·rw [if_pos c29] at H
                      have c29b0 : decide (x8_1 < (x7_2.length : Int)) = true := decide_eq_true c29
                      clear c29
                      obtain ⟨ji30, hji30⟩ : ∃ j_ : Int, (wrap64 (x9_2 + 1)) = j_ := ⟨_, rfl⟩
                      replace H : (if 0 ≤ (ji30) then (if (ji30) < ((rd_L5 x7_2 x8_1).length : Int) then (if (rd (rd_L5 x7_2 x8_1) (ji30)) > (rd (rd_L5 x7_2 (ji23)) x9_2) then (if x8_1 < (l0.length : Int) then (if x9_2 < (l1.length : Int) then (if (rdOf ByteArray.empty l0 x8_1).toList = (rdOf ByteArray.empty l1 x9_2).toList then (if (ji30) < ((rd_L5 x7_2 (ji23)).length : Int) then (if (wrap64 ((rd (rd_L5 x7_2 (ji23)) (ji30)) + 1)) > (rd (rd_L5 x7_2 x8_1) (ji30)) then (if x9_2 < ((rd_L5 x7_2 x8_1).length : Int) then (yd_.l1 kj19 l0 l1 (l0.length : Int) (l1.length : Int) (x7_2.set (x8_1 : Int).toNat ((rd_L5 x7_2 x8_1).set (x9_2 : Int).toNat (wrap64 ((rd (rd_L5 x7_2 (ji23)) (ji30)) + 1)))) x8_1 (wrap64 (x9_2 - 1))) else (none)) else (if x9_2 < ((rd_L5 x7_2 x8_1).length : Int) then (yd_.l1 kj19 l0 l1 (l0.length : Int) (l1.length : Int) (x7_2.set (x8_1 : Int).toNat ((rd_L5 x7_2 x8_1).set (x9_2 : Int).toNat (rd (rd_L5 x7_2 x8_1) (ji30)))) x8_1 (wrap64 (x9_2 - 1))) else (none))) else (none)) else (if x9_2 < ((rd_L5 x7_2 x8_1).length : Int) then (yd_.l1 kj19 l0 l1 (l0.length : Int) (l1.length : Int) (x7_2.set (x8_1 : Int).toNat ((rd_L5 x7_2 x8_1).set (x9_2 : Int).toNat (rd (rd_L5 x7_2 x8_1) (ji30)))) x8_1 (wrap64 (x9_2 - 1))) else (none))) else (none)) else (none)) else (if x8_1 < (l0.length : Int) then (if x9_2 < (l1.length : Int) then (if (rdOf ByteArray.empty l0 x8_1).toList = (rdOf ByteArray.empty l1 x9_2).toList then (if (ji30) < ((rd_L5 x7_2 (ji23)).length : Int) then (if (wrap64 ((rd (rd_L5 x7_2 (ji23)) (ji30)) + 1)) > (rd (rd_L5 x7_2 (ji23)) x9_2) then (if x9_2 < ((rd_L5 x7_2 x8_1).length : Int) then (yd_.l1 kj19 l0 l1 (l0.length : Int) (l1.length : Int) (x7_2.set (x8_1 : Int).toNat ((rd_L5 x7_2 x8_1).set (x9_2 : Int).toNat (wrap64 ((rd (rd_L5 x7_2 (ji23)) (ji30)) + 1)))) x8_1 (wrap64 (x9_2 - 1))) else (none)) else (if x9_2 < ((rd_L5 x7_2 x8_1).length : Int) then (yd_.l1 kj19 l0 l1 (l0.length : Int) (l1.length : Int) (x7_2.set (x8_1 : Int).toNat ((rd_L5 x7_2 x8_1).set (x9_2 : Int).toNat (rd (rd_L5 x7_2 (ji23)) x9_2))) x8_1 (wrap64 (x9_2 - 1))) else (none))) else (none)) else (if x9_2 < ((rd_L5 x7_2 x8_1).length : Int) then (yd_.l1 kj19 l0 l1 (l0.length : Int) (l1.length : Int) (x7_2.set (x8_1 : Int).toNat ((rd_L5 x7_2 x8_1).set (x9_2 : Int).toNat (rd (rd_L5 x7_2 (ji23)) x9_2))) x8_1 (wrap64 (x9_2 - 1))) else (none))) else (none)) else (none))) else (none)) else (none)) = some r := by first | (rw [hji30] at H; exact H) | (simp only [hji30] at H ⊢; exact H)
                      have hji30w : (IntKind.i64.wrap (x9_2 + 1)) = ji30 := (i64_w _).trans hji30
                      by_cases c31 : 0 ≤ (ji30)
                      ·rw [if_pos c31] at H
                       have c31b0 : decide (0 ≤ (ji30)) = true := decide_eq_true c31
                       clear c31
                       by_cases c32 : (ji30) < ((rd_L5 x7_2 x8_1).length : Int)
                       ·rw [if_pos c32] at H
                        have c32b0 : decide ((ji30) < ((rd_L5 x7_2 x8_1).length : Int)) = true := decide_eq_true c32
                        clear c32
                        by_cases c33 : (rd (rd_L5 x7_2 x8_1) (ji30)) > (rd (rd_L5 x7_2 (ji23)) x9_2)
                        ·rw [if_pos c33] at H
                         have c33b0 : decide ((rd (rd_L5 x7_2 (ji23)) x9_2) < (rd (rd_L5 x7_2 x8_1) (ji30))) = true := decide_eq_true c33
                         clear c33
                         by_cases c34 : x8_1 < (l0.length : Int)
                         ·rw [if_pos c34] at H
                          have c34b0 : decide (x8_1 < (l0.length : Int)) = true := decide_eq_true c34
                          clear c34
                          by_cases c35 : x9_2 < (l1.length : Int)
                          ·rw [if_pos c35] at H
                           have c35b0 : decide (x9_2 < (l1.length : Int)) = true := decide_eq_true c35
                           clear c35
                           by_cases c36 : (rdOf ByteArray.empty l0 x8_1).toList = (rdOf ByteArray.empty l1 x9_2).toList
                           ·rw [if_pos c36] at H
                            have c36b0 : ((rdOf ByteArray.empty l0 x8_1).toList == (rdOf ByteArray.empty l1 x9_2).toList) = true := beq_iff_eq.mpr c36
                            have c36b1 : ((rdOf ByteArray.empty l0 x8_1).toList != (rdOf ByteArray.empty l1 x9_2).toList) = false := bne_eq_false_iff_eq.mpr c36
                            clear c36
                            by_cases c37 : (ji30) < ((rd_L5 x7_2 (ji23)).length : Int)
                            ·rw [if_pos c37] at H
                             have c37b0 : decide ((ji30) < ((rd_L5 x7_2 (ji23)).length : Int)) = true := decide_eq_true c37
                             clear c37
                             by_cases c38 : (wrap64 ((rd (rd_L5 x7_2 (ji23)) (ji30)) + 1)) > (rd (rd_L5 x7_2 x8_1) (ji30))
                             ·rw [if_pos c38] at H
                              have c38b0 : decide ((rd (rd_L5 x7_2 x8_1) (ji30)) < (wrap64 ((rd (rd_L5 x7_2 (ji23)) (ji30)) + 1))) = true := decide_eq_true c38
                              clear c38
                              by_cases c39 : x9_2 < ((rd_L5 x7_2 x8_1).length : Int)
                              ·rw [if_pos c39] at H
                               have c39b0 : decide (x9_2 < ((rd_L5 x7_2 x8_1).length : Int)) = true := decide_eq_true c39
                               clear c39
                               obtain ⟨y387, hy387⟩ : ∃ y_ : List Int, y_ = ((rd_L5 x7_2 x8_1).set (x9_2 : Int).toNat (wrap64 ((rd (rd_L5 x7_2 (ji23)) (ji30)) + 1))) := ⟨_, rfl⟩
                               replace H : (yd_.l1 kj19 l0 l1 (l0.length : Int) (l1.length : Int) (x7_2.set (x8_1 : Int).toNat y387) x8_1 (wrap64 (x9_2 - 1))) = some r := by first | (rw [hy387]; with_reducible exact H) | (have H2_ := (Option.bind_some _ _).symm.trans H; rw [hy387]; with_reducible exact H2_) | (have H2_ := (Option.bind_some _ _).symm.trans H; with_reducible exact H2_) | with_reducible exact H | (rw [hy387]; exact H) | exact H
                               have Ny387 := Aside0.mk hy387
                               clear hy387
                               obtain ⟨y389, hy389⟩ : ∃ y_ : List (List Int), y_ = (x7_2.set (x8_1 : Int).toNat y387) := ⟨_, rfl⟩
                               replace H : (yd_.l1 kj19 l0 l1 (l0.length : Int) (l1.length : Int) y389 x8_1 (wrap64 (x9_2 - 1))) = some r := by first | (rw [hy389]; with_reducible exact H) | (have H2_ := (Option.bind_some _ _).symm.trans H; rw [hy389]; with_reducible exact H2_) | (have H2_ := (Option.bind_some _ _).symm.trans H; with_reducible exact H2_) | with_reducible exact H | (rw [hy389]; exact H) | exact H
                               have Ny389 := Aside0.mk hy389
                               clear hy389
                               have H' := Aside0.mk H
                               clear H
                               have p374 : 0 ≤ ((ji23) : Int) := of_decide_eq_true (by assumption)
                               have q374 : (ji23) < (x7_2.length : Int) := of_decide_eq_true (by assumption)
                               obtain ⟨ad374, A374_0, c374_0, e374, hx374_0, hl374_0, hi374_0⟩ := at_L5 (Kd.yp_ HO_7.out).2.2 (ji23) p374 q374
                               obtain rfl : (⟨go14, 0, none⟩ : Addr) = ad374 := (by injection e374)
                               obtain ⟨ce374, hce374, hMe374, hcc374⟩ := Kd.S_get HO_7.out [] (ji23) p374 (by first | exact q374 | exact of_decide_eq_true (by assumption) | (have e_ := (Kd.yp_ HO_7.out).1; omega))
                               obtain ⟨ve374_0, rfl, ge374_0⟩ := hMe374
                               have hv374_0 := hcc374 0 _ rfl
                               rw [Nat.add_zero, show ((Kd.slice 3 (Kd.int .i64))).sz = 1 from rfl, Nat.mul_one] at hv374_0
                               replace hv374_0 := Option.some.inj (hv374_0.symm.trans hx374_0)
                               rw [hv374_0] at ge374_0
                               have HL374_0 := Aside0.mk (show Kd.R (Kd.int .i64) 3 _ _ _ _ (rd_L5 x7_2 (ji23)) from ge374_0)
                               clear hv374_0 ge374_0
                               have HX374_0 := Aside0.mk hx374_0
                               clear hcc374 hce374
                               (first | simp only [add_plain] at hx374_0 | simp only [add_at] at hx374_0 | simp only [Addr.add, Nat.zero_add] at hx374_0 | skip)
                               have HR374_0 := Aside0.mk hi374_0
                               have HC374_0 := Aside0.mk hl374_0
                               clear hi374_0 hl374_0
                               replace p374 := eq_true p374
                               replace q374 := eq_true q374
                               have p375 : 0 ≤ (x9_2 : Int) := of_decide_eq_true (by assumption)
                               have q375 : x9_2 < ((rd_L5 x7_2 (ji23)).length : Int) := of_decide_eq_true (by assumption)
                               obtain ⟨ad375, e375, hx375_0⟩ := Kd.at_int (by repeat (first | (with_reducible exact HR374_0.out) | (with_reducible refine Kd.yK_ ?_ _) | (with_reducible refine Kd.yR_ ?_ _) | (with_reducible refine Kd.C_drew ?_) | exact HR374_0.out)) x9_2 p375 q375
                               cases e375
                               replace p375 := eq_true p375
                               replace q375 := eq_true q375
                               have p376 : 0 ≤ (x8_1 : Int) := of_decide_eq_true (by assumption)
                               have q376 : x8_1 < (x7_2.length : Int) := of_decide_eq_true (by assumption)
                               obtain ⟨ad376, A376_0, c376_0, e376, hx376_0, hl376_0, hi376_0⟩ := at_L5 (Kd.yp_ HO_7.out).2.2 x8_1 p376 q376
                               obtain rfl : (⟨go14, 0, none⟩ : Addr) = ad376 := (by injection e376)
                               obtain ⟨ce376, hce376, hMe376, hcc376⟩ := Kd.S_get HO_7.out [] x8_1 p376 (by first | exact q376 | exact of_decide_eq_true (by assumption) | (have e_ := (Kd.yp_ HO_7.out).1; omega))
                               obtain ⟨ve376_0, rfl, ge376_0⟩ := hMe376
                               have hv376_0 := hcc376 0 _ rfl
                               rw [Nat.add_zero, show ((Kd.slice 3 (Kd.int .i64))).sz = 1 from rfl, Nat.mul_one] at hv376_0
                               replace hv376_0 := Option.some.inj (hv376_0.symm.trans hx376_0)
                               rw [hv376_0] at ge376_0
                               have HL376_0 := Aside0.mk (show Kd.R (Kd.int .i64) 3 _ _ _ _ (rd_L5 x7_2 x8_1) from ge376_0)
                               clear hv376_0 ge376_0
                               have HX376_0 := Aside0.mk hx376_0
                               clear hcc376 hce376
                               (first | simp only [add_plain] at hx376_0 | simp only [add_at] at hx376_0 | simp only [Addr.add, Nat.zero_add] at hx376_0 | skip)
                               have HR376_0 := Aside0.mk hi376_0
                               have HC376_0 := Aside0.mk hl376_0
                               clear hi376_0 hl376_0
                               replace p376 := eq_true p376
                               replace q376 := eq_true q376
                               have p377 : 0 ≤ ((ji30) : Int) := of_decide_eq_true (by assumption)
                               have q377 : (ji30) < ((rd_L5 x7_2 x8_1).length : Int) := of_decide_eq_true (by assumption)
                               obtain ⟨ad377, e377, hx377_0⟩ := Kd.at_int (by repeat (first | (with_reducible exact HR376_0.out) | (with_reducible refine Kd.yK_ ?_ _) | (with_reducible refine Kd.yR_ ?_ _) | (with_reducible refine Kd.C_drew ?_) | exact HR376_0.out)) (ji30) p377 q377
                               cases e377
                               replace p377 := eq_true p377
                               replace q377 := eq_true q377
                               have p378 : 0 ≤ (x8_1 : Int) := of_decide_eq_true (by assumption)
                               have q378 : x8_1 < (x7_2.length : Int) := of_decide_eq_true (by assumption)
                               obtain ⟨ad378, A378_0, c378_0, e378, hx378_0, hl378_0, hi378_0⟩ := at_L5 (Kd.yp_ HO_7.out).2.2 x8_1 p378 q378
                               obtain rfl : (⟨go14, 0, none⟩ : Addr) = ad378 := (by injection e378)
                               obtain ⟨ce378, hce378, hMe378, hcc378⟩ := Kd.S_get HO_7.out [] x8_1 p378 (by first | exact q378 | exact of_decide_eq_true (by assumption) | (have e_ := (Kd.yp_ HO_7.out).1; omega))
                               obtain ⟨ve378_0, rfl, ge378_0⟩ := hMe378
                               have hv378_0 := hcc378 0 _ rfl
                               rw [Nat.add_zero, show ((Kd.slice 3 (Kd.int .i64))).sz = 1 from rfl, Nat.mul_one] at hv378_0
                               replace hv378_0 := Option.some.inj (hv378_0.symm.trans hx378_0)
                               rw [hv378_0] at ge378_0
                               have HL378_0 := Aside0.mk (show Kd.R (Kd.int .i64) 3 _ _ _ _ (rd_L5 x7_2 x8_1) from ge378_0)
                               clear hv378_0 ge378_0
                               have HX378_0 := Aside0.mk hx378_0
                               clear hcc378 hce378
                               (first | simp only [add_plain] at hx378_0 | simp only [add_at] at hx378_0 | simp only [Addr.add, Nat.zero_add] at hx378_0 | skip)
                               have HR378_0 := Aside0.mk hi378_0
                               have HC378_0 := Aside0.mk hl378_0
                               clear hi378_0 hl378_0
                               replace p378 := eq_true p378
                               replace q378 := eq_true q378
                               have ea_ := Option.some.inj (hx376_0.symm.trans hx378_0)
                               injection ea_ with ea_ en_ ec_
                               subst ea_
                               subst ec_
                               clear en_
                               have p379 : 0 ≤ ((ji30) : Int) := of_decide_eq_true (by assumption)
                               have q379 : (ji30) < ((rd_L5 x7_2 x8_1).length : Int) := of_decide_eq_true (by assumption)
                               obtain ⟨ad379, e379, hx379_0⟩ := Kd.at_int (by repeat (first | (with_reducible exact HR378_0.out) | (with_reducible refine Kd.yK_ ?_ _) | (with_reducible refine Kd.yR_ ?_ _) | (with_reducible refine Kd.C_drew ?_) | exact HR378_0.out)) (ji30) p379 q379
                               cases e379
                               replace p379 := eq_true p379
                               replace q379 := eq_true q379
                               have p380 : 0 ≤ (x8_1 : Int) := of_decide_eq_true (by assumption)
                               have q380 : x8_1 < (l0.length : Int) := of_decide_eq_true (by assumption)
                               obtain ⟨ad380, e380, hx380_0⟩ := Kd.yL_ HR0.out x8_1 p380 q380
                               cases e380
                               replace hx380_0 := (HB.out.cell (World.block_lt_of_cell? w _ hx380_0)).trans hx380_0
                               replace p380 := eq_true p380
                               replace q380 := eq_true q380
                               have p381 : 0 ≤ (x9_2 : Int) := of_decide_eq_true (by assumption)
                               have q381 : x9_2 < (l1.length : Int) := of_decide_eq_true (by assumption)
                               obtain ⟨ad381, e381, hx381_0⟩ := Kd.yL_ HR1.out x9_2 p381 q381
                               cases e381
                               replace hx381_0 := (HB.out.cell (World.block_lt_of_cell? w _ hx381_0)).trans hx381_0
                               replace p381 := eq_true p381
                               replace q381 := eq_true q381
                               have p382 : 0 ≤ ((ji23) : Int) := of_decide_eq_true (by assumption)
                               have q382 : (ji23) < (x7_2.length : Int) := of_decide_eq_true (by assumption)
                               obtain ⟨ad382, A382_0, c382_0, e382, hx382_0, hl382_0, hi382_0⟩ := at_L5 (Kd.yp_ HO_7.out).2.2 (ji23) p382 q382
                               obtain rfl : (⟨go14, 0, none⟩ : Addr) = ad382 := (by injection e382)
                               obtain ⟨ce382, hce382, hMe382, hcc382⟩ := Kd.S_get HO_7.out [] (ji23) p382 (by first | exact q382 | exact of_decide_eq_true (by assumption) | (have e_ := (Kd.yp_ HO_7.out).1; omega))
                               obtain ⟨ve382_0, rfl, ge382_0⟩ := hMe382
                               have hv382_0 := hcc382 0 _ rfl
                               rw [Nat.add_zero, show ((Kd.slice 3 (Kd.int .i64))).sz = 1 from rfl, Nat.mul_one] at hv382_0
                               replace hv382_0 := Option.some.inj (hv382_0.symm.trans hx382_0)
                               rw [hv382_0] at ge382_0
                               have HL382_0 := Aside0.mk (show Kd.R (Kd.int .i64) 3 _ _ _ _ (rd_L5 x7_2 (ji23)) from ge382_0)
                               clear hv382_0 ge382_0
                               have HX382_0 := Aside0.mk hx382_0
                               clear hcc382 hce382
                               (first | simp only [add_plain] at hx382_0 | simp only [add_at] at hx382_0 | simp only [Addr.add, Nat.zero_add] at hx382_0 | skip)
                               have HR382_0 := Aside0.mk hi382_0
                               have HC382_0 := Aside0.mk hl382_0
                               clear hi382_0 hl382_0
                               replace p382 := eq_true p382
                               replace q382 := eq_true q382
                               have ea_ := Option.some.inj (hx374_0.symm.trans hx382_0)
                               injection ea_ with ea_ en_ ec_
                               subst ea_
                               subst ec_
                               clear en_
                               have p383 : 0 ≤ ((ji30) : Int) := of_decide_eq_true (by assumption)
                               have q383 : (ji30) < ((rd_L5 x7_2 (ji23)).length : Int) := of_decide_eq_true (by assumption)
                               obtain ⟨ad383, e383, hx383_0⟩ := Kd.at_int (by repeat (first | (with_reducible exact HR382_0.out) | (with_reducible refine Kd.yK_ ?_ _) | (with_reducible refine Kd.yR_ ?_ _) | (with_reducible refine Kd.C_drew ?_) | exact HR382_0.out)) (ji30) p383 q383
                               cases e383
                               replace p383 := eq_true p383
                               replace q383 := eq_true q383
                               have p384 : 0 ≤ ((ji23) : Int) := of_decide_eq_true (by assumption)
                               have q384 : (ji23) < (x7_2.length : Int) := of_decide_eq_true (by assumption)
                               obtain ⟨ad384, A384_0, c384_0, e384, hx384_0, hl384_0, hi384_0⟩ := at_L5 (Kd.yp_ HO_7.out).2.2 (ji23) p384 q384
                               obtain rfl : (⟨go14, 0, none⟩ : Addr) = ad384 := (by injection e384)
                               obtain ⟨ce384, hce384, hMe384, hcc384⟩ := Kd.S_get HO_7.out [] (ji23) p384 (by first | exact q384 | exact of_decide_eq_true (by assumption) | (have e_ := (Kd.yp_ HO_7.out).1; omega))
                               obtain ⟨ve384_0, rfl, ge384_0⟩ := hMe384
                               have hv384_0 := hcc384 0 _ rfl
                               rw [Nat.add_zero, show ((Kd.slice 3 (Kd.int .i64))).sz = 1 from rfl, Nat.mul_one] at hv384_0
                               replace hv384_0 := Option.some.inj (hv384_0.symm.trans hx384_0)
                               rw [hv384_0] at ge384_0
                               have HL384_0 := Aside0.mk (show Kd.R (Kd.int .i64) 3 _ _ _ _ (rd_L5 x7_2 (ji23)) from ge384_0)
                               clear hv384_0 ge384_0
                               have HX384_0 := Aside0.mk hx384_0
                               clear hcc384 hce384
                               (first | simp only [add_plain] at hx384_0 | simp only [add_at] at hx384_0 | simp only [Addr.add, Nat.zero_add] at hx384_0 | skip)
                               have HR384_0 := Aside0.mk hi384_0
                               have HC384_0 := Aside0.mk hl384_0
                               clear hi384_0 hl384_0
                               replace p384 := eq_true p384
                               replace q384 := eq_true q384
                               have ea_ := Option.some.inj (hx374_0.symm.trans hx384_0)
                               injection ea_ with ea_ en_ ec_
                               subst ea_
                               subst ec_
                               clear en_
                               have p385 : 0 ≤ ((ji30) : Int) := of_decide_eq_true (by assumption)
                               have q385 : (ji30) < ((rd_L5 x7_2 (ji23)).length : Int) := of_decide_eq_true (by assumption)
                               obtain ⟨ad385, e385, hx385_0⟩ := Kd.at_int (by repeat (first | (with_reducible exact HR384_0.out) | (with_reducible refine Kd.yK_ ?_ _) | (with_reducible refine Kd.yR_ ?_ _) | (with_reducible refine Kd.C_drew ?_) | exact HR384_0.out)) (ji30) p385 q385
                               cases e385
                               replace p385 := eq_true p385
                               replace q385 := eq_true q385
                               have p386 : 0 ≤ (x8_1 : Int) := of_decide_eq_true (by assumption)
                               have q386 : x8_1 < (x7_2.length : Int) := of_decide_eq_true (by assumption)
                               obtain ⟨ad386, A386_0, c386_0, e386, hx386_0, hl386_0, hi386_0⟩ := at_L5 (Kd.yp_ HO_7.out).2.2 x8_1 p386 q386
                               obtain rfl : (⟨go14, 0, none⟩ : Addr) = ad386 := (by injection e386)
                               obtain ⟨ce386, hce386, hMe386, hcc386⟩ := Kd.S_get HO_7.out [] x8_1 p386 (by first | exact q386 | exact of_decide_eq_true (by assumption) | (have e_ := (Kd.yp_ HO_7.out).1; omega))
                               obtain ⟨ve386_0, rfl, ge386_0⟩ := hMe386
                               have hv386_0 := hcc386 0 _ rfl
                               rw [Nat.add_zero, show ((Kd.slice 3 (Kd.int .i64))).sz = 1 from rfl, Nat.mul_one] at hv386_0
                               replace hv386_0 := Option.some.inj (hv386_0.symm.trans hx386_0)
                               rw [hv386_0] at ge386_0
                               have HL386_0 := Aside0.mk (show Kd.R (Kd.int .i64) 3 _ _ _ _ (rd_L5 x7_2 x8_1) from ge386_0)
                               clear hv386_0 ge386_0
                               have HX386_0 := Aside0.mk hx386_0
                               clear hcc386 hce386
                               (first | simp only [add_plain] at hx386_0 | simp only [add_at] at hx386_0 | simp only [Addr.add, Nat.zero_add] at hx386_0 | skip)
                               have HR386_0 := Aside0.mk hi386_0
                               have HC386_0 := Aside0.mk hl386_0
                               clear hi386_0 hl386_0
                               replace p386 := eq_true p386
                               replace q386 := eq_true q386
                               have ea_ := Option.some.inj (hx376_0.symm.trans hx386_0)
                               injection ea_ with ea_ en_ ec_
                               subst ea_
                               subst ec_
                               clear en_
                               have p40 : 0 ≤ (x9_2 : Int) := of_decide_eq_true (by assumption)
                               have q40 : (x9_2 : Int) < (((rd_L5 x7_2 x8_1).length : Int) : Int) := of_decide_eq_true (by assumption)
                               obtain ⟨go40, co40, eo40, gb40, gl40, cl40, HG40⟩ := Kd.R_form HL386_0.out (by omega)
                               (first | cases eo40 | (injection eo40 with ea_ en_ ec_; (first | subst ea_ | (injection ea_ with ea_; subst ea_)); subst ec_; clear en_))
                               have GB40 := Aside0.mk gb40
                               have GG40 := Aside0.mk HG40
                               clear gb40 gl40 HG40
                               (first | simp only [add_plain] at hx379_0 | skip)
                               obtain ⟨hx40_0, hf40_0⟩ := Kd.yab_ 0 HL386_0.out (x9_2 : Int) p40 q40
                               replace p40 := eq_true p40
                               replace q40 := eq_true q40
                               have hq41 : (x8_1 : Int) < (x7_2.length : Int) := (by have h_ : (x8_1 : Int) < ((x7_2.length : Int) : Int) := of_decide_eq_true (by assumption); first | exact h_ | (have e_ := (Kd.yp_ HO_7.out).1; omega) | simpa only [List.length_set, List.length_set] using h_)
                               obtain ⟨oki41, ce41, hcl41, hM41, hcc41, hok41, hbk41⟩ := Kd.y7_ HO_7.out [] (x8_1 : Int) (of_decide_eq_true (by assumption)) hq41
                               obtain ⟨ve41_0, rfl, ge41_0⟩ := hM41
                               have hv41 := hcc41 0 _ rfl
                               rw [Nat.add_zero, show ((Kd.slice 3 (Kd.int .i64))).sz = 1 from rfl, Nat.mul_one] at hv41
                               replace hv41 := Option.some.inj (hv41.symm.trans HX386_0.out)
                               subst hv41
                               clear hcc41 hcl41
                               replace ge41_0 := (show Kd.R (Kd.int .i64) 3 _ _ _ _ (rd_L5 x7_2 x8_1) from ge41_0)
                               have HP41 := Kd.R_putg ge41_0 (x9_2 : Int) (wrap64 ((rd (rd_L5 x7_2 (ji23)) (ji30)) + 1))
                               go_wp2_with (first | ((with_reducible refine yQ_ (t := 3) (p := 110) rfl ?_); (try (rw [yX_ wc]; generalize hq_ : World.drewN wc _ = wc; have n0_ := Aside0.mk (Kd.S_at hq_ HO_7.out); have nX_ := Aside0.mk (yrb_ hq_ HX386_0.out); have n2_ := Aside0.mk (ybb_ hq_ HB.out); clear hq_ HO_7 HB HX386_0; have HO_7 := n0_; have HX386_0 := nX_; have HB := n2_; clear n0_ nX_ n2_; (try (have hq41 : (x8_1 : Int) < (x7_2.length : Int) := (by have h_ : (x8_1 : Int) < ((x7_2.length : Int) : Int) := of_decide_eq_true (by assumption); first | exact h_ | (have e_ := (Kd.yp_ HO_7.out).1; omega) | simpa only [List.length_set, List.length_set] using h_))); (try (obtain ⟨oki41, ce41, hcl41, hM41, hcc41, hok41, hbk41⟩ := Kd.y7_ HO_7.out [] (x8_1 : Int) (of_decide_eq_true (by assumption)) hq41)); (try (obtain ⟨ve41_0, rfl, ge41_0⟩ := hM41)); (try (have hv41 := hcc41 0 _ rfl)); (try (rw [Nat.add_zero, show ((Kd.slice 3 (Kd.int .i64))).sz = 1 from rfl, Nat.mul_one] at hv41)); (try (replace hv41 := Option.some.inj (hv41.symm.trans HX386_0.out))); (try (subst hv41)); (try (clear hcc41 hcl41)); (try (replace ge41_0 := (show Kd.R (Kd.int .i64) 3 _ _ _ _ (rd_L5 x7_2 x8_1) from ge41_0))); (try (have HP41 := Kd.R_putg ge41_0 (x9_2 : Int) (wrap64 ((rd (rd_L5 x7_2 (ji23)) (ji30)) + 1)))); (try (obtain ⟨hx40_0, hf40_0⟩ := Kd.yab_ 0 ge41_0 (x9_2 : Int) (of_eq_true p40) (of_eq_true q40))))); refine yG_ (t := 3) (p := 110) (v := ?vo_w42) (w1 := (wc.setCell ⟨go40, (x9_2 : Int).toNat, none⟩ (.int .i64 (wrap64 ((rd (rd_L5 x7_2 (ji23)) (ji30)) + 1))))) ?hg ?ho ?hn ?hr ?_; (case ho => rfl); (case hg => rfl); (case hn => rfl); (case hr => (try obtain ⟨As_, cs_, rfl⟩ := Kd.yC_ HO372.out); first | (go_simp; done) | (go_simp; rfl)); intro w42 hw; have hg : wc.grownBy w42 (some go40) := (by rw [hw]; exact HP41.2); have hz_ : Kd.R (Kd.int .i64) 3 w42 w.heap.size oki41 (.slice (some ⟨go40, 0, none⟩) (rd_L5 x7_2 x8_1).length c376_0) y387 := (by rw [hw, Ny387.out]; exact HP41.1); have hp_ : Kd.S (Kd.slice 3 (Kd.int .i64)) 100 w42 w.heap.size (fun _ => True) (.slice (some ⟨go14, 0, none⟩) x7_2.length co14) y389 := (by rw [Ny389.out]; exact hbk41 hg (fun k_ e_ => by injection e_ with e_; subst e_; exact ge41_0.1 _ rfl) (Kd.M_row hz_)); have hm_ := Kd.R_mono hz_ hok41; clear HP41 hbk41; have n0_ := Aside0.mk (hp_); have n1_ := Aside0.mk ((by rw [hw]; exact yr_ (HB.out) GB40.out : Below w.heap.size w w42)); have n2_ := Aside0.mk (hm_); have n3_ := Aside0.mk ((Kd.yo_ hm_).2.1); clear HO_7; clear HB; clear HL374_0; clear HL376_0; clear HL378_0; clear HL382_0; clear HL384_0; clear HL386_0; have HO_7 := n0_; have HB := n1_; have HL442 := n2_; have HC388 := n3_; clear n0_ n1_ n2_ n3_; clear hg hw hp_ hz_ hm_ hok41))
                               repeat (go_quiet (first | ((with_reducible refine yQ_ (t := 3) (p := 110) rfl ?_); (try (rw [yX_ wc]; generalize hq_ : World.drewN wc _ = wc; have n0_ := Aside0.mk (Kd.S_at hq_ HO_7.out); have nX_ := Aside0.mk (yrb_ hq_ HX386_0.out); have n2_ := Aside0.mk (ybb_ hq_ HB.out); clear hq_ HO_7 HB HX386_0; have HO_7 := n0_; have HX386_0 := nX_; have HB := n2_; clear n0_ nX_ n2_; (try (have hq41 : (x8_1 : Int) < (x7_2.length : Int) := (by have h_ : (x8_1 : Int) < ((x7_2.length : Int) : Int) := of_decide_eq_true (by assumption); first | exact h_ | (have e_ := (Kd.yp_ HO_7.out).1; omega) | simpa only [List.length_set, List.length_set] using h_))); (try (obtain ⟨oki41, ce41, hcl41, hM41, hcc41, hok41, hbk41⟩ := Kd.y7_ HO_7.out [] (x8_1 : Int) (of_decide_eq_true (by assumption)) hq41)); (try (obtain ⟨ve41_0, rfl, ge41_0⟩ := hM41)); (try (have hv41 := hcc41 0 _ rfl)); (try (rw [Nat.add_zero, show ((Kd.slice 3 (Kd.int .i64))).sz = 1 from rfl, Nat.mul_one] at hv41)); (try (replace hv41 := Option.some.inj (hv41.symm.trans HX386_0.out))); (try (subst hv41)); (try (clear hcc41 hcl41)); (try (replace ge41_0 := (show Kd.R (Kd.int .i64) 3 _ _ _ _ (rd_L5 x7_2 x8_1) from ge41_0))); (try (have HP41 := Kd.R_putg ge41_0 (x9_2 : Int) (wrap64 ((rd (rd_L5 x7_2 (ji23)) (ji30)) + 1)))); (try (obtain ⟨hx40_0, hf40_0⟩ := Kd.yab_ 0 ge41_0 (x9_2 : Int) (of_eq_true p40) (of_eq_true q40))))); refine yG_ (t := 3) (p := 110) (v := ?vo_w42) (w1 := (wc.setCell ⟨go40, (x9_2 : Int).toNat, none⟩ (.int .i64 (wrap64 ((rd (rd_L5 x7_2 (ji23)) (ji30)) + 1))))) ?hg ?ho ?hn ?hr ?_; (case ho => rfl); (case hg => rfl); (case hn => rfl); (case hr => (try obtain ⟨As_, cs_, rfl⟩ := Kd.yC_ HO372.out); first | (go_simp; done) | (go_simp; rfl)); intro w42 hw; have hg : wc.grownBy w42 (some go40) := (by rw [hw]; exact HP41.2); have hz_ : Kd.R (Kd.int .i64) 3 w42 w.heap.size oki41 (.slice (some ⟨go40, 0, none⟩) (rd_L5 x7_2 x8_1).length c376_0) y387 := (by rw [hw, Ny387.out]; exact HP41.1); have hp_ : Kd.S (Kd.slice 3 (Kd.int .i64)) 100 w42 w.heap.size (fun _ => True) (.slice (some ⟨go14, 0, none⟩) x7_2.length co14) y389 := (by rw [Ny389.out]; exact hbk41 hg (fun k_ e_ => by injection e_ with e_; subst e_; exact ge41_0.1 _ rfl) (Kd.M_row hz_)); have hm_ := Kd.R_mono hz_ hok41; clear HP41 hbk41; have n0_ := Aside0.mk (hp_); have n1_ := Aside0.mk ((by rw [hw]; exact yr_ (HB.out) GB40.out : Below w.heap.size w w42)); have n2_ := Aside0.mk (hm_); have n3_ := Aside0.mk ((Kd.yo_ hm_).2.1); clear HO_7; clear HB; clear HL374_0; clear HL376_0; clear HL378_0; clear HL382_0; clear HL384_0; clear HL386_0; have HO_7 := n0_; have HB := n1_; have HL442 := n2_; have HC388 := n3_; clear n0_ n1_ n2_ n3_; clear hg hw hp_ hz_ hm_ hok41)); try go_wp2_with (first | ((with_reducible refine yQ_ (t := 3) (p := 110) rfl ?_); (try (rw [yX_ wc]; generalize hq_ : World.drewN wc _ = wc; have n0_ := Aside0.mk (Kd.S_at hq_ HO_7.out); have nX_ := Aside0.mk (yrb_ hq_ HX386_0.out); have n2_ := Aside0.mk (ybb_ hq_ HB.out); clear hq_ HO_7 HB HX386_0; have HO_7 := n0_; have HX386_0 := nX_; have HB := n2_; clear n0_ nX_ n2_; (try (have hq41 : (x8_1 : Int) < (x7_2.length : Int) := (by have h_ : (x8_1 : Int) < ((x7_2.length : Int) : Int) := of_decide_eq_true (by assumption); first | exact h_ | (have e_ := (Kd.yp_ HO_7.out).1; omega) | simpa only [List.length_set, List.length_set] using h_))); (try (obtain ⟨oki41, ce41, hcl41, hM41, hcc41, hok41, hbk41⟩ := Kd.y7_ HO_7.out [] (x8_1 : Int) (of_decide_eq_true (by assumption)) hq41)); (try (obtain ⟨ve41_0, rfl, ge41_0⟩ := hM41)); (try (have hv41 := hcc41 0 _ rfl)); (try (rw [Nat.add_zero, show ((Kd.slice 3 (Kd.int .i64))).sz = 1 from rfl, Nat.mul_one] at hv41)); (try (replace hv41 := Option.some.inj (hv41.symm.trans HX386_0.out))); (try (subst hv41)); (try (clear hcc41 hcl41)); (try (replace ge41_0 := (show Kd.R (Kd.int .i64) 3 _ _ _ _ (rd_L5 x7_2 x8_1) from ge41_0))); (try (have HP41 := Kd.R_putg ge41_0 (x9_2 : Int) (wrap64 ((rd (rd_L5 x7_2 (ji23)) (ji30)) + 1)))); (try (obtain ⟨hx40_0, hf40_0⟩ := Kd.yab_ 0 ge41_0 (x9_2 : Int) (of_eq_true p40) (of_eq_true q40))))); refine yG_ (t := 3) (p := 110) (v := ?vo_w42) (w1 := (wc.setCell ⟨go40, (x9_2 : Int).toNat, none⟩ (.int .i64 (wrap64 ((rd (rd_L5 x7_2 (ji23)) (ji30)) + 1))))) ?hg ?ho ?hn ?hr ?_; (case ho => rfl); (case hg => rfl); (case hn => rfl); (case hr => (try obtain ⟨As_, cs_, rfl⟩ := Kd.yC_ HO372.out); first | (go_simp; done) | (go_simp; rfl)); intro w42 hw; have hg : wc.grownBy w42 (some go40) := (by rw [hw]; exact HP41.2); have hz_ : Kd.R (Kd.int .i64) 3 w42 w.heap.size oki41 (.slice (some ⟨go40, 0, none⟩) (rd_L5 x7_2 x8_1).length c376_0) y387 := (by rw [hw, Ny387.out]; exact HP41.1); have hp_ : Kd.S (Kd.slice 3 (Kd.int .i64)) 100 w42 w.heap.size (fun _ => True) (.slice (some ⟨go14, 0, none⟩) x7_2.length co14) y389 := (by rw [Ny389.out]; exact hbk41 hg (fun k_ e_ => by injection e_ with e_; subst e_; exact ge41_0.1 _ rfl) (Kd.M_row hz_)); have hm_ := Kd.R_mono hz_ hok41; clear HP41 hbk41; have n0_ := Aside0.mk (hp_); have n1_ := Aside0.mk ((by rw [hw]; exact yr_ (HB.out) GB40.out : Below w.heap.size w w42)); have n2_ := Aside0.mk (hm_); have n3_ := Aside0.mk ((Kd.yo_ hm_).2.1); clear HO_7; clear HB; clear HL374_0; clear HL376_0; clear HL378_0; clear HL382_0; clear HL384_0; clear HL386_0; have HO_7 := n0_; have HB := n1_; have HL442 := n2_; have HC388 := n3_; clear n0_ n1_ n2_ n3_; clear hg hw hp_ hz_ hm_ hok41)))
                               (try simp only [← hl7_2])
                               go_roundg kj19
                               case measure => have := HK1.out; have := HK2.out; have := HJ19.out; omega
                               case rel => exact ⟨(y389), (wrap64 (x9_2 - 1)), (by first | rfl | (simp; done) | (simp [*]; done)), H', ⟨by have := HK1.out; have := HK2.out; have := HJ19.out; omega⟩, ⟨by (try simp only [hl7_2]); (with_reducible repeat (first | apply Kd.yO_ | apply Kd.yN_ | apply Kd.S_drew)); exact HO_7.out⟩, ⟨by repeat (with_reducible first | exact HB.out | apply yc_ | apply ya_ | apply yb_)⟩⟩
                              ·rw [if_neg c39] at H
                               exact absurd H (by simp)
                             ·rw [if_neg c38] at H
                              have c38b0 : decide ((rd (rd_L5 x7_2 x8_1) (ji30)) < (wrap64 ((rd (rd_L5 x7_2 (ji23)) (ji30)) + 1))) = false := decide_eq_false c38
                              clear c38
                              by_cases c43 : x9_2 < ((rd_L5 x7_2 x8_1).length : Int)
                              ·rw [if_pos c43] at H
                               have c43b0 : decide (x9_2 < ((rd_L5 x7_2 x8_1).length : Int)) = true := decide_eq_true c43
                               clear c43
                               obtain ⟨y391, hy391⟩ : ∃ y_ : List Int, y_ = ((rd_L5 x7_2 x8_1).set (x9_2 : Int).toNat (rd (rd_L5 x7_2 x8_1) (ji30))) := ⟨_, rfl⟩
                               replace H : (yd_.l1 kj19 l0 l1 (l0.length : Int) (l1.length : Int) (x7_2.set (x8_1 : Int).toNat y391) x8_1 (wrap64 (x9_2 - 1))) = some r := by first | (rw [hy391]; with_reducible exact H) | (have H2_ := (Option.bind_some _ _).symm.trans H; rw [hy391]; with_reducible exact H2_) | (have H2_ := (Option.bind_some _ _).symm.trans H; with_reducible exact H2_) | with_reducible exact H | (rw [hy391]; exact H) | exact H
                               have Ny391 := Aside0.mk hy391
                               clear hy391
                               obtain ⟨y393, hy393⟩ : ∃ y_ : List (List Int), y_ = (x7_2.set (x8_1 : Int).toNat y391) := ⟨_, rfl⟩
                               replace H : (yd_.l1 kj19 l0 l1 (l0.length : Int) (l1.length : Int) y393 x8_1 (wrap64 (x9_2 - 1))) = some r := by first | (rw [hy393]; with_reducible exact H) | (have H2_ := (Option.bind_some _ _).symm.trans H; rw [hy393]; with_reducible exact H2_) | (have H2_ := (Option.bind_some _ _).symm.trans H; with_reducible exact H2_) | with_reducible exact H | (rw [hy393]; exact H) | exact H
                               have Ny393 := Aside0.mk hy393
                               clear hy393
                               have H' := Aside0.mk H
                               clear H
                               have p374 : 0 ≤ ((ji23) : Int) := of_decide_eq_true (by assumption)
                               have q374 : (ji23) < (x7_2.length : Int) := of_decide_eq_true (by assumption)
                               obtain ⟨ad374, A374_0, c374_0, e374, hx374_0, hl374_0, hi374_0⟩ := at_L5 (Kd.yp_ HO_7.out).2.2 (ji23) p374 q374
                               obtain rfl : (⟨go14, 0, none⟩ : Addr) = ad374 := (by injection e374)
                               obtain ⟨ce374, hce374, hMe374, hcc374⟩ := Kd.S_get HO_7.out [] (ji23) p374 (by first | exact q374 | exact of_decide_eq_true (by assumption) | (have e_ := (Kd.yp_ HO_7.out).1; omega))
                               obtain ⟨ve374_0, rfl, ge374_0⟩ := hMe374
                               have hv374_0 := hcc374 0 _ rfl
                               rw [Nat.add_zero, show ((Kd.slice 3 (Kd.int .i64))).sz = 1 from rfl, Nat.mul_one] at hv374_0
                               replace hv374_0 := Option.some.inj (hv374_0.symm.trans hx374_0)
                               rw [hv374_0] at ge374_0
                               have HL374_0 := Aside0.mk (show Kd.R (Kd.int .i64) 3 _ _ _ _ (rd_L5 x7_2 (ji23)) from ge374_0)
                               clear hv374_0 ge374_0
                               have HX374_0 := Aside0.mk hx374_0
                               clear hcc374 hce374
                               (first | simp only [add_plain] at hx374_0 | simp only [add_at] at hx374_0 | simp only [Addr.add, Nat.zero_add] at hx374_0 | skip)
                               have HR374_0 := Aside0.mk hi374_0
                               have HC374_0 := Aside0.mk hl374_0
                               clear hi374_0 hl374_0
                               replace p374 := eq_true p374
                               replace q374 := eq_true q374
                               have p375 : 0 ≤ (x9_2 : Int) := of_decide_eq_true (by assumption)
                               have q375 : x9_2 < ((rd_L5 x7_2 (ji23)).length : Int) := of_decide_eq_true (by assumption)
                               obtain ⟨ad375, e375, hx375_0⟩ := Kd.at_int (by repeat (first | (with_reducible exact HR374_0.out) | (with_reducible refine Kd.yK_ ?_ _) | (with_reducible refine Kd.yR_ ?_ _) | (with_reducible refine Kd.C_drew ?_) | exact HR374_0.out)) x9_2 p375 q375
                               cases e375
                               replace p375 := eq_true p375
                               replace q375 := eq_true q375
                               have p376 : 0 ≤ (x8_1 : Int) := of_decide_eq_true (by assumption)
                               have q376 : x8_1 < (x7_2.length : Int) := of_decide_eq_true (by assumption)
                               obtain ⟨ad376, A376_0, c376_0, e376, hx376_0, hl376_0, hi376_0⟩ := at_L5 (Kd.yp_ HO_7.out).2.2 x8_1 p376 q376
                               obtain rfl : (⟨go14, 0, none⟩ : Addr) = ad376 := (by injection e376)
                               obtain ⟨ce376, hce376, hMe376, hcc376⟩ := Kd.S_get HO_7.out [] x8_1 p376 (by first | exact q376 | exact of_decide_eq_true (by assumption) | (have e_ := (Kd.yp_ HO_7.out).1; omega))
                               obtain ⟨ve376_0, rfl, ge376_0⟩ := hMe376
                               have hv376_0 := hcc376 0 _ rfl
                               rw [Nat.add_zero, show ((Kd.slice 3 (Kd.int .i64))).sz = 1 from rfl, Nat.mul_one] at hv376_0
                               replace hv376_0 := Option.some.inj (hv376_0.symm.trans hx376_0)
                               rw [hv376_0] at ge376_0
                               have HL376_0 := Aside0.mk (show Kd.R (Kd.int .i64) 3 _ _ _ _ (rd_L5 x7_2 x8_1) from ge376_0)
                               clear hv376_0 ge376_0
                               have HX376_0 := Aside0.mk hx376_0
                               clear hcc376 hce376
                               (first | simp only [add_plain] at hx376_0 | simp only [add_at] at hx376_0 | simp only [Addr.add, Nat.zero_add] at hx376_0 | skip)
                               have HR376_0 := Aside0.mk hi376_0
                               have HC376_0 := Aside0.mk hl376_0
                               clear hi376_0 hl376_0
                               replace p376 := eq_true p376
                               replace q376 := eq_true q376
                               have p377 : 0 ≤ ((ji30) : Int) := of_decide_eq_true (by assumption)
                               have q377 : (ji30) < ((rd_L5 x7_2 x8_1).length : Int) := of_decide_eq_true (by assumption)
                               obtain ⟨ad377, e377, hx377_0⟩ := Kd.at_int (by repeat (first | (with_reducible exact HR376_0.out) | (with_reducible refine Kd.yK_ ?_ _) | (with_reducible refine Kd.yR_ ?_ _) | (with_reducible refine Kd.C_drew ?_) | exact HR376_0.out)) (ji30) p377 q377
                               cases e377
                               replace p377 := eq_true p377
                               replace q377 := eq_true q377
                               have p378 : 0 ≤ (x8_1 : Int) := of_decide_eq_true (by assumption)
                               have q378 : x8_1 < (x7_2.length : Int) := of_decide_eq_true (by assumption)
                               obtain ⟨ad378, A378_0, c378_0, e378, hx378_0, hl378_0, hi378_0⟩ := at_L5 (Kd.yp_ HO_7.out).2.2 x8_1 p378 q378
                               obtain rfl : (⟨go14, 0, none⟩ : Addr) = ad378 := (by injection e378)
                               obtain ⟨ce378, hce378, hMe378, hcc378⟩ := Kd.S_get HO_7.out [] x8_1 p378 (by first | exact q378 | exact of_decide_eq_true (by assumption) | (have e_ := (Kd.yp_ HO_7.out).1; omega))
                               obtain ⟨ve378_0, rfl, ge378_0⟩ := hMe378
                               have hv378_0 := hcc378 0 _ rfl
                               rw [Nat.add_zero, show ((Kd.slice 3 (Kd.int .i64))).sz = 1 from rfl, Nat.mul_one] at hv378_0
                               replace hv378_0 := Option.some.inj (hv378_0.symm.trans hx378_0)
                               rw [hv378_0] at ge378_0
                               have HL378_0 := Aside0.mk (show Kd.R (Kd.int .i64) 3 _ _ _ _ (rd_L5 x7_2 x8_1) from ge378_0)
                               clear hv378_0 ge378_0
                               have HX378_0 := Aside0.mk hx378_0
                               clear hcc378 hce378
                               (first | simp only [add_plain] at hx378_0 | simp only [add_at] at hx378_0 | simp only [Addr.add, Nat.zero_add] at hx378_0 | skip)
                               have HR378_0 := Aside0.mk hi378_0
                               have HC378_0 := Aside0.mk hl378_0
                               clear hi378_0 hl378_0
                               replace p378 := eq_true p378
                               replace q378 := eq_true q378
                               have ea_ := Option.some.inj (hx376_0.symm.trans hx378_0)
                               injection ea_ with ea_ en_ ec_
                               subst ea_
                               subst ec_
                               clear en_
                               have p379 : 0 ≤ ((ji30) : Int) := of_decide_eq_true (by assumption)
                               have q379 : (ji30) < ((rd_L5 x7_2 x8_1).length : Int) := of_decide_eq_true (by assumption)
                               obtain ⟨ad379, e379, hx379_0⟩ := Kd.at_int (by repeat (first | (with_reducible exact HR378_0.out) | (with_reducible refine Kd.yK_ ?_ _) | (with_reducible refine Kd.yR_ ?_ _) | (with_reducible refine Kd.C_drew ?_) | exact HR378_0.out)) (ji30) p379 q379
                               cases e379
                               replace p379 := eq_true p379
                               replace q379 := eq_true q379
                               have p380 : 0 ≤ (x8_1 : Int) := of_decide_eq_true (by assumption)
                               have q380 : x8_1 < (l0.length : Int) := of_decide_eq_true (by assumption)
                               obtain ⟨ad380, e380, hx380_0⟩ := Kd.yL_ HR0.out x8_1 p380 q380
                               cases e380
                               replace hx380_0 := (HB.out.cell (World.block_lt_of_cell? w _ hx380_0)).trans hx380_0
                               replace p380 := eq_true p380
                               replace q380 := eq_true q380
                               have p381 : 0 ≤ (x9_2 : Int) := of_decide_eq_true (by assumption)
                               have q381 : x9_2 < (l1.length : Int) := of_decide_eq_true (by assumption)
                               obtain ⟨ad381, e381, hx381_0⟩ := Kd.yL_ HR1.out x9_2 p381 q381
                               cases e381
                               replace hx381_0 := (HB.out.cell (World.block_lt_of_cell? w _ hx381_0)).trans hx381_0
                               replace p381 := eq_true p381
                               replace q381 := eq_true q381
                               have p382 : 0 ≤ ((ji23) : Int) := of_decide_eq_true (by assumption)
                               have q382 : (ji23) < (x7_2.length : Int) := of_decide_eq_true (by assumption)
                               obtain ⟨ad382, A382_0, c382_0, e382, hx382_0, hl382_0, hi382_0⟩ := at_L5 (Kd.yp_ HO_7.out).2.2 (ji23) p382 q382
                               obtain rfl : (⟨go14, 0, none⟩ : Addr) = ad382 := (by injection e382)
                               obtain ⟨ce382, hce382, hMe382, hcc382⟩ := Kd.S_get HO_7.out [] (ji23) p382 (by first | exact q382 | exact of_decide_eq_true (by assumption) | (have e_ := (Kd.yp_ HO_7.out).1; omega))
                               obtain ⟨ve382_0, rfl, ge382_0⟩ := hMe382
                               have hv382_0 := hcc382 0 _ rfl
                               rw [Nat.add_zero, show ((Kd.slice 3 (Kd.int .i64))).sz = 1 from rfl, Nat.mul_one] at hv382_0
                               replace hv382_0 := Option.some.inj (hv382_0.symm.trans hx382_0)
                               rw [hv382_0] at ge382_0
                               have HL382_0 := Aside0.mk (show Kd.R (Kd.int .i64) 3 _ _ _ _ (rd_L5 x7_2 (ji23)) from ge382_0)
                               clear hv382_0 ge382_0
                               have HX382_0 := Aside0.mk hx382_0
                               clear hcc382 hce382
                               (first | simp only [add_plain] at hx382_0 | simp only [add_at] at hx382_0 | simp only [Addr.add, Nat.zero_add] at hx382_0 | skip)
                               have HR382_0 := Aside0.mk hi382_0
                               have HC382_0 := Aside0.mk hl382_0
                               clear hi382_0 hl382_0
                               replace p382 := eq_true p382
                               replace q382 := eq_true q382
                               have ea_ := Option.some.inj (hx374_0.symm.trans hx382_0)
                               injection ea_ with ea_ en_ ec_
                               subst ea_
                               subst ec_
                               clear en_
                               have p383 : 0 ≤ ((ji30) : Int) := of_decide_eq_true (by assumption)
                               have q383 : (ji30) < ((rd_L5 x7_2 (ji23)).length : Int) := of_decide_eq_true (by assumption)
                               obtain ⟨ad383, e383, hx383_0⟩ := Kd.at_int (by repeat (first | (with_reducible exact HR382_0.out) | (with_reducible refine Kd.yK_ ?_ _) | (with_reducible refine Kd.yR_ ?_ _) | (with_reducible refine Kd.C_drew ?_) | exact HR382_0.out)) (ji30) p383 q383
                               cases e383
                               replace p383 := eq_true p383
                               replace q383 := eq_true q383
                               have p390 : 0 ≤ (x8_1 : Int) := of_decide_eq_true (by assumption)
                               have q390 : x8_1 < (x7_2.length : Int) := of_decide_eq_true (by assumption)
                               obtain ⟨ad390, A390_0, c390_0, e390, hx390_0, hl390_0, hi390_0⟩ := at_L5 (Kd.yp_ HO_7.out).2.2 x8_1 p390 q390
                               obtain rfl : (⟨go14, 0, none⟩ : Addr) = ad390 := (by injection e390)
                               obtain ⟨ce390, hce390, hMe390, hcc390⟩ := Kd.S_get HO_7.out [] x8_1 p390 (by first | exact q390 | exact of_decide_eq_true (by assumption) | (have e_ := (Kd.yp_ HO_7.out).1; omega))
                               obtain ⟨ve390_0, rfl, ge390_0⟩ := hMe390
                               have hv390_0 := hcc390 0 _ rfl
                               rw [Nat.add_zero, show ((Kd.slice 3 (Kd.int .i64))).sz = 1 from rfl, Nat.mul_one] at hv390_0
                               replace hv390_0 := Option.some.inj (hv390_0.symm.trans hx390_0)
                               rw [hv390_0] at ge390_0
                               have HL390_0 := Aside0.mk (show Kd.R (Kd.int .i64) 3 _ _ _ _ (rd_L5 x7_2 x8_1) from ge390_0)
                               clear hv390_0 ge390_0
                               have HX390_0 := Aside0.mk hx390_0
                               clear hcc390 hce390
                               (first | simp only [add_plain] at hx390_0 | simp only [add_at] at hx390_0 | simp only [Addr.add, Nat.zero_add] at hx390_0 | skip)
                               have HR390_0 := Aside0.mk hi390_0
                               have HC390_0 := Aside0.mk hl390_0
                               clear hi390_0 hl390_0
                               replace p390 := eq_true p390
                               replace q390 := eq_true q390
                               have ea_ := Option.some.inj (hx376_0.symm.trans hx390_0)
                               injection ea_ with ea_ en_ ec_
                               subst ea_
                               subst ec_
                               clear en_
                               have p44 : 0 ≤ (x9_2 : Int) := of_decide_eq_true (by assumption)
                               have q44 : (x9_2 : Int) < (((rd_L5 x7_2 x8_1).length : Int) : Int) := of_decide_eq_true (by assumption)
                               obtain ⟨go44, co44, eo44, gb44, gl44, cl44, HG44⟩ := Kd.R_form HL390_0.out (by omega)
                               (first | cases eo44 | (injection eo44 with ea_ en_ ec_; (first | subst ea_ | (injection ea_ with ea_; subst ea_)); subst ec_; clear en_))
                               have GB44 := Aside0.mk gb44
                               have GG44 := Aside0.mk HG44
                               clear gb44 gl44 HG44
                               (first | simp only [add_plain] at hx379_0 | skip)
                               obtain ⟨hx44_0, hf44_0⟩ := Kd.yab_ 0 HL390_0.out (x9_2 : Int) p44 q44
                               replace p44 := eq_true p44
                               replace q44 := eq_true q44
                               have hq45 : (x8_1 : Int) < (x7_2.length : Int) := (by have h_ : (x8_1 : Int) < ((x7_2.length : Int) : Int) := of_decide_eq_true (by assumption); first | exact h_ | (have e_ := (Kd.yp_ HO_7.out).1; omega) | simpa only [List.length_set, List.length_set] using h_)
                               obtain ⟨oki45, ce45, hcl45, hM45, hcc45, hok45, hbk45⟩ := Kd.y7_ HO_7.out [] (x8_1 : Int) (of_decide_eq_true (by assumption)) hq45
                               obtain ⟨ve45_0, rfl, ge45_0⟩ := hM45
                               have hv45 := hcc45 0 _ rfl
                               rw [Nat.add_zero, show ((Kd.slice 3 (Kd.int .i64))).sz = 1 from rfl, Nat.mul_one] at hv45
                               replace hv45 := Option.some.inj (hv45.symm.trans HX390_0.out)
                               subst hv45
                               clear hcc45 hcl45
                               replace ge45_0 := (show Kd.R (Kd.int .i64) 3 _ _ _ _ (rd_L5 x7_2 x8_1) from ge45_0)
                               have HP45 := Kd.R_putg ge45_0 (x9_2 : Int) (rd (rd_L5 x7_2 x8_1) (ji30))
                               go_wp2_with (first | ((with_reducible refine yQ_ (t := 3) (p := 110) rfl ?_); (try (rw [yX_ wc]; generalize hq_ : World.drewN wc _ = wc; have n0_ := Aside0.mk (Kd.S_at hq_ HO_7.out); have nX_ := Aside0.mk (yrb_ hq_ HX390_0.out); have n2_ := Aside0.mk (ybb_ hq_ HB.out); clear hq_ HO_7 HB HX390_0; have HO_7 := n0_; have HX390_0 := nX_; have HB := n2_; clear n0_ nX_ n2_; (try (have hq45 : (x8_1 : Int) < (x7_2.length : Int) := (by have h_ : (x8_1 : Int) < ((x7_2.length : Int) : Int) := of_decide_eq_true (by assumption); first | exact h_ | (have e_ := (Kd.yp_ HO_7.out).1; omega) | simpa only [List.length_set, List.length_set] using h_))); (try (obtain ⟨oki45, ce45, hcl45, hM45, hcc45, hok45, hbk45⟩ := Kd.y7_ HO_7.out [] (x8_1 : Int) (of_decide_eq_true (by assumption)) hq45)); (try (obtain ⟨ve45_0, rfl, ge45_0⟩ := hM45)); (try (have hv45 := hcc45 0 _ rfl)); (try (rw [Nat.add_zero, show ((Kd.slice 3 (Kd.int .i64))).sz = 1 from rfl, Nat.mul_one] at hv45)); (try (replace hv45 := Option.some.inj (hv45.symm.trans HX390_0.out))); (try (subst hv45)); (try (clear hcc45 hcl45)); (try (replace ge45_0 := (show Kd.R (Kd.int .i64) 3 _ _ _ _ (rd_L5 x7_2 x8_1) from ge45_0))); (try (have HP45 := Kd.R_putg ge45_0 (x9_2 : Int) (rd (rd_L5 x7_2 x8_1) (ji30)))); (try (obtain ⟨hx44_0, hf44_0⟩ := Kd.yab_ 0 ge45_0 (x9_2 : Int) (of_eq_true p44) (of_eq_true q44))))); refine yG_ (t := 3) (p := 110) (v := ?vo_w46) (w1 := (wc.setCell ⟨go44, (x9_2 : Int).toNat, none⟩ (.int .i64 (rd (rd_L5 x7_2 x8_1) (ji30))))) ?hg ?ho ?hn ?hr ?_; (case ho => rfl); (case hg => rfl); (case hn => rfl); (case hr => (try obtain ⟨As_, cs_, rfl⟩ := Kd.yC_ HO372.out); first | (go_simp; done) | (go_simp; rfl)); intro w46 hw; have hg : wc.grownBy w46 (some go44) := (by rw [hw]; exact HP45.2); have hz_ : Kd.R (Kd.int .i64) 3 w46 w.heap.size oki45 (.slice (some ⟨go44, 0, none⟩) (rd_L5 x7_2 x8_1).length c376_0) y391 := (by rw [hw, Ny391.out]; exact HP45.1); have hp_ : Kd.S (Kd.slice 3 (Kd.int .i64)) 100 w46 w.heap.size (fun _ => True) (.slice (some ⟨go14, 0, none⟩) x7_2.length co14) y393 := (by rw [Ny393.out]; exact hbk45 hg (fun k_ e_ => by injection e_ with e_; subst e_; exact ge45_0.1 _ rfl) (Kd.M_row hz_)); have hm_ := Kd.R_mono hz_ hok45; clear HP45 hbk45; have n0_ := Aside0.mk (hp_); have n1_ := Aside0.mk ((by rw [hw]; exact yr_ (HB.out) GB44.out : Below w.heap.size w w46)); have n2_ := Aside0.mk (hm_); have n3_ := Aside0.mk ((Kd.yo_ hm_).2.1); clear HO_7; clear HB; clear HL374_0; clear HL376_0; clear HL378_0; clear HL382_0; clear HL390_0; have HO_7 := n0_; have HB := n1_; have HL443 := n2_; have HC392 := n3_; clear n0_ n1_ n2_ n3_; clear hg hw hp_ hz_ hm_ hok45))
                               repeat (go_quiet (first | ((with_reducible refine yQ_ (t := 3) (p := 110) rfl ?_); (try (rw [yX_ wc]; generalize hq_ : World.drewN wc _ = wc; have n0_ := Aside0.mk (Kd.S_at hq_ HO_7.out); have nX_ := Aside0.mk (yrb_ hq_ HX390_0.out); have n2_ := Aside0.mk (ybb_ hq_ HB.out); clear hq_ HO_7 HB HX390_0; have HO_7 := n0_; have HX390_0 := nX_; have HB := n2_; clear n0_ nX_ n2_; (try (have hq45 : (x8_1 : Int) < (x7_2.length : Int) := (by have h_ : (x8_1 : Int) < ((x7_2.length : Int) : Int) := of_decide_eq_true (by assumption); first | exact h_ | (have e_ := (Kd.yp_ HO_7.out).1; omega) | simpa only [List.length_set, List.length_set] using h_))); (try (obtain ⟨oki45, ce45, hcl45, hM45, hcc45, hok45, hbk45⟩ := Kd.y7_ HO_7.out [] (x8_1 : Int) (of_decide_eq_true (by assumption)) hq45)); (try (obtain ⟨ve45_0, rfl, ge45_0⟩ := hM45)); (try (have hv45 := hcc45 0 _ rfl)); (try (rw [Nat.add_zero, show ((Kd.slice 3 (Kd.int .i64))).sz = 1 from rfl, Nat.mul_one] at hv45)); (try (replace hv45 := Option.some.inj (hv45.symm.trans HX390_0.out))); (try (subst hv45)); (try (clear hcc45 hcl45)); (try (replace ge45_0 := (show Kd.R (Kd.int .i64) 3 _ _ _ _ (rd_L5 x7_2 x8_1) from ge45_0))); (try (have HP45 := Kd.R_putg ge45_0 (x9_2 : Int) (rd (rd_L5 x7_2 x8_1) (ji30)))); (try (obtain ⟨hx44_0, hf44_0⟩ := Kd.yab_ 0 ge45_0 (x9_2 : Int) (of_eq_true p44) (of_eq_true q44))))); refine yG_ (t := 3) (p := 110) (v := ?vo_w46) (w1 := (wc.setCell ⟨go44, (x9_2 : Int).toNat, none⟩ (.int .i64 (rd (rd_L5 x7_2 x8_1) (ji30))))) ?hg ?ho ?hn ?hr ?_; (case ho => rfl); (case hg => rfl); (case hn => rfl); (case hr => (try obtain ⟨As_, cs_, rfl⟩ := Kd.yC_ HO372.out); first | (go_simp; done) | (go_simp; rfl)); intro w46 hw; have hg : wc.grownBy w46 (some go44) := (by rw [hw]; exact HP45.2); have hz_ : Kd.R (Kd.int .i64) 3 w46 w.heap.size oki45 (.slice (some ⟨go44, 0, none⟩) (rd_L5 x7_2 x8_1).length c376_0) y391 := (by rw [hw, Ny391.out]; exact HP45.1); have hp_ : Kd.S (Kd.slice 3 (Kd.int .i64)) 100 w46 w.heap.size (fun _ => True) (.slice (some ⟨go14, 0, none⟩) x7_2.length co14) y393 := (by rw [Ny393.out]; exact hbk45 hg (fun k_ e_ => by injection e_ with e_; subst e_; exact ge45_0.1 _ rfl) (Kd.M_row hz_)); have hm_ := Kd.R_mono hz_ hok45; clear HP45 hbk45; have n0_ := Aside0.mk (hp_); have n1_ := Aside0.mk ((by rw [hw]; exact yr_ (HB.out) GB44.out : Below w.heap.size w w46)); have n2_ := Aside0.mk (hm_); have n3_ := Aside0.mk ((Kd.yo_ hm_).2.1); clear HO_7; clear HB; clear HL374_0; clear HL376_0; clear HL378_0; clear HL382_0; clear HL390_0; have HO_7 := n0_; have HB := n1_; have HL443 := n2_; have HC392 := n3_; clear n0_ n1_ n2_ n3_; clear hg hw hp_ hz_ hm_ hok45)); try go_wp2_with (first | ((with_reducible refine yQ_ (t := 3) (p := 110) rfl ?_); (try (rw [yX_ wc]; generalize hq_ : World.drewN wc _ = wc; have n0_ := Aside0.mk (Kd.S_at hq_ HO_7.out); have nX_ := Aside0.mk (yrb_ hq_ HX390_0.out); have n2_ := Aside0.mk (ybb_ hq_ HB.out); clear hq_ HO_7 HB HX390_0; have HO_7 := n0_; have HX390_0 := nX_; have HB := n2_; clear n0_ nX_ n2_; (try (have hq45 : (x8_1 : Int) < (x7_2.length : Int) := (by have h_ : (x8_1 : Int) < ((x7_2.length : Int) : Int) := of_decide_eq_true (by assumption); first | exact h_ | (have e_ := (Kd.yp_ HO_7.out).1; omega) | simpa only [List.length_set, List.length_set] using h_))); (try (obtain ⟨oki45, ce45, hcl45, hM45, hcc45, hok45, hbk45⟩ := Kd.y7_ HO_7.out [] (x8_1 : Int) (of_decide_eq_true (by assumption)) hq45)); (try (obtain ⟨ve45_0, rfl, ge45_0⟩ := hM45)); (try (have hv45 := hcc45 0 _ rfl)); (try (rw [Nat.add_zero, show ((Kd.slice 3 (Kd.int .i64))).sz = 1 from rfl, Nat.mul_one] at hv45)); (try (replace hv45 := Option.some.inj (hv45.symm.trans HX390_0.out))); (try (subst hv45)); (try (clear hcc45 hcl45)); (try (replace ge45_0 := (show Kd.R (Kd.int .i64) 3 _ _ _ _ (rd_L5 x7_2 x8_1) from ge45_0))); (try (have HP45 := Kd.R_putg ge45_0 (x9_2 : Int) (rd (rd_L5 x7_2 x8_1) (ji30)))); (try (obtain ⟨hx44_0, hf44_0⟩ := Kd.yab_ 0 ge45_0 (x9_2 : Int) (of_eq_true p44) (of_eq_true q44))))); refine yG_ (t := 3) (p := 110) (v := ?vo_w46) (w1 := (wc.setCell ⟨go44, (x9_2 : Int).toNat, none⟩ (.int .i64 (rd (rd_L5 x7_2 x8_1) (ji30))))) ?hg ?ho ?hn ?hr ?_; (case ho => rfl); (case hg => rfl); (case hn => rfl); (case hr => (try obtain ⟨As_, cs_, rfl⟩ := Kd.yC_ HO372.out); first | (go_simp; done) | (go_simp; rfl)); intro w46 hw; have hg : wc.grownBy w46 (some go44) := (by rw [hw]; exact HP45.2); have hz_ : Kd.R (Kd.int .i64) 3 w46 w.heap.size oki45 (.slice (some ⟨go44, 0, none⟩) (rd_L5 x7_2 x8_1).length c376_0) y391 := (by rw [hw, Ny391.out]; exact HP45.1); have hp_ : Kd.S (Kd.slice 3 (Kd.int .i64)) 100 w46 w.heap.size (fun _ => True) (.slice (some ⟨go14, 0, none⟩) x7_2.length co14) y393 := (by rw [Ny393.out]; exact hbk45 hg (fun k_ e_ => by injection e_ with e_; subst e_; exact ge45_0.1 _ rfl) (Kd.M_row hz_)); have hm_ := Kd.R_mono hz_ hok45; clear HP45 hbk45; have n0_ := Aside0.mk (hp_); have n1_ := Aside0.mk ((by rw [hw]; exact yr_ (HB.out) GB44.out : Below w.heap.size w w46)); have n2_ := Aside0.mk (hm_); have n3_ := Aside0.mk ((Kd.yo_ hm_).2.1); clear HO_7; clear HB; clear HL374_0; clear HL376_0; clear HL378_0; clear HL382_0; clear HL390_0; have HO_7 := n0_; have HB := n1_; have HL443 := n2_; have HC392 := n3_; clear n0_ n1_ n2_ n3_; clear hg hw hp_ hz_ hm_ hok45)))
                               (try simp only [← hl7_2])
                               go_roundg kj19
                               case measure => have := HK1.out; have := HK2.out; have := HJ19.out; omega
                               case rel => exact ⟨(y393), (wrap64 (x9_2 - 1)), (by first | rfl | (simp; done) | (simp [*]; done)), H', ⟨by have := HK1.out; have := HK2.out; have := HJ19.out; omega⟩, ⟨by (try simp only [hl7_2]); (with_reducible repeat (first | apply Kd.yO_ | apply Kd.yN_ | apply Kd.S_drew)); exact HO_7.out⟩, ⟨by repeat (with_reducible first | exact HB.out | apply yc_ | apply ya_ | apply yb_)⟩⟩
                              ·rw [if_neg c43] at H
                               exact absurd H (by simp)
                            ·rw [if_neg c37] at H
                             exact absurd H (by simp)
                           ·rw [if_neg c36] at H
                            have c36b0 : ((rdOf ByteArray.empty l0 x8_1).toList == (rdOf ByteArray.empty l1 x9_2).toList) = false := beq_eq_false_iff_ne.mpr c36
                            have c36b1 : ((rdOf ByteArray.empty l0 x8_1).toList != (rdOf ByteArray.empty l1 x9_2).toList) = true := bne_iff_ne.mpr c36
                            by_cases c47 : x9_2 < ((rd_L5 x7_2 x8_1).length : Int)
                            ·rw [if_pos c47] at H
                             have c47b0 : decide (x9_2 < ((rd_L5 x7_2 x8_1).length : Int)) = true := decide_eq_true c47
                             clear c47
                             obtain ⟨y395, hy395⟩ : ∃ y_ : List Int, y_ = ((rd_L5 x7_2 x8_1).set (x9_2 : Int).toNat (rd (rd_L5 x7_2 x8_1) (ji30))) := ⟨_, rfl⟩
                             replace H : (yd_.l1 kj19 l0 l1 (l0.length : Int) (l1.length : Int) (x7_2.set (x8_1 : Int).toNat y395) x8_1 (wrap64 (x9_2 - 1))) = some r := by first | (rw [hy395]; with_reducible exact H) | (have H2_ := (Option.bind_some _ _).symm.trans H; rw [hy395]; with_reducible exact H2_) | (have H2_ := (Option.bind_some _ _).symm.trans H; with_reducible exact H2_) | with_reducible exact H | (rw [hy395]; exact H) | exact H
                             have Ny395 := Aside0.mk hy395
                             clear hy395
                             obtain ⟨y397, hy397⟩ : ∃ y_ : List (List Int), y_ = (x7_2.set (x8_1 : Int).toNat y395) := ⟨_, rfl⟩
                             replace H : (yd_.l1 kj19 l0 l1 (l0.length : Int) (l1.length : Int) y397 x8_1 (wrap64 (x9_2 - 1))) = some r := by first | (rw [hy397]; with_reducible exact H) | (have H2_ := (Option.bind_some _ _).symm.trans H; rw [hy397]; with_reducible exact H2_) | (have H2_ := (Option.bind_some _ _).symm.trans H; with_reducible exact H2_) | with_reducible exact H | (rw [hy397]; exact H) | exact H
                             have Ny397 := Aside0.mk hy397
                             clear hy397
                             have H' := Aside0.mk H
                             clear H
                             have p374 : 0 ≤ ((ji23) : Int) := of_decide_eq_true (by assumption)
                             have q374 : (ji23) < (x7_2.length : Int) := of_decide_eq_true (by assumption)
                             obtain ⟨ad374, A374_0, c374_0, e374, hx374_0, hl374_0, hi374_0⟩ := at_L5 (Kd.yp_ HO_7.out).2.2 (ji23) p374 q374
                             obtain rfl : (⟨go14, 0, none⟩ : Addr) = ad374 := (by injection e374)
                             obtain ⟨ce374, hce374, hMe374, hcc374⟩ := Kd.S_get HO_7.out [] (ji23) p374 (by first | exact q374 | exact of_decide_eq_true (by assumption) | (have e_ := (Kd.yp_ HO_7.out).1; omega))
                             obtain ⟨ve374_0, rfl, ge374_0⟩ := hMe374
                             have hv374_0 := hcc374 0 _ rfl
                             rw [Nat.add_zero, show ((Kd.slice 3 (Kd.int .i64))).sz = 1 from rfl, Nat.mul_one] at hv374_0
                             replace hv374_0 := Option.some.inj (hv374_0.symm.trans hx374_0)
                             rw [hv374_0] at ge374_0
                             have HL374_0 := Aside0.mk (show Kd.R (Kd.int .i64) 3 _ _ _ _ (rd_L5 x7_2 (ji23)) from ge374_0)
                             clear hv374_0 ge374_0
                             have HX374_0 := Aside0.mk hx374_0
                             clear hcc374 hce374
                             (first | simp only [add_plain] at hx374_0 | simp only [add_at] at hx374_0 | simp only [Addr.add, Nat.zero_add] at hx374_0 | skip)
                             have HR374_0 := Aside0.mk hi374_0
                             have HC374_0 := Aside0.mk hl374_0
                             clear hi374_0 hl374_0
                             replace p374 := eq_true p374
                             replace q374 := eq_true q374
                             have p375 : 0 ≤ (x9_2 : Int) := of_decide_eq_true (by assumption)
                             have q375 : x9_2 < ((rd_L5 x7_2 (ji23)).length : Int) := of_decide_eq_true (by assumption)
                             obtain ⟨ad375, e375, hx375_0⟩ := Kd.at_int (by repeat (first | (with_reducible exact HR374_0.out) | (with_reducible refine Kd.yK_ ?_ _) | (with_reducible refine Kd.yR_ ?_ _) | (with_reducible refine Kd.C_drew ?_) | exact HR374_0.out)) x9_2 p375 q375
                             cases e375
                             replace p375 := eq_true p375
                             replace q375 := eq_true q375
                             have p376 : 0 ≤ (x8_1 : Int) := of_decide_eq_true (by assumption)
                             have q376 : x8_1 < (x7_2.length : Int) := of_decide_eq_true (by assumption)
                             obtain ⟨ad376, A376_0, c376_0, e376, hx376_0, hl376_0, hi376_0⟩ := at_L5 (Kd.yp_ HO_7.out).2.2 x8_1 p376 q376
                             obtain rfl : (⟨go14, 0, none⟩ : Addr) = ad376 := (by injection e376)
                             obtain ⟨ce376, hce376, hMe376, hcc376⟩ := Kd.S_get HO_7.out [] x8_1 p376 (by first | exact q376 | exact of_decide_eq_true (by assumption) | (have e_ := (Kd.yp_ HO_7.out).1; omega))
                             obtain ⟨ve376_0, rfl, ge376_0⟩ := hMe376
                             have hv376_0 := hcc376 0 _ rfl
                             rw [Nat.add_zero, show ((Kd.slice 3 (Kd.int .i64))).sz = 1 from rfl, Nat.mul_one] at hv376_0
                             replace hv376_0 := Option.some.inj (hv376_0.symm.trans hx376_0)
                             rw [hv376_0] at ge376_0
                             have HL376_0 := Aside0.mk (show Kd.R (Kd.int .i64) 3 _ _ _ _ (rd_L5 x7_2 x8_1) from ge376_0)
                             clear hv376_0 ge376_0
                             have HX376_0 := Aside0.mk hx376_0
                             clear hcc376 hce376
                             (first | simp only [add_plain] at hx376_0 | simp only [add_at] at hx376_0 | simp only [Addr.add, Nat.zero_add] at hx376_0 | skip)
                             have HR376_0 := Aside0.mk hi376_0
                             have HC376_0 := Aside0.mk hl376_0
                             clear hi376_0 hl376_0
                             replace p376 := eq_true p376
                             replace q376 := eq_true q376
                             have p377 : 0 ≤ ((ji30) : Int) := of_decide_eq_true (by assumption)
                             have q377 : (ji30) < ((rd_L5 x7_2 x8_1).length : Int) := of_decide_eq_true (by assumption)
                             obtain ⟨ad377, e377, hx377_0⟩ := Kd.at_int (by repeat (first | (with_reducible exact HR376_0.out) | (with_reducible refine Kd.yK_ ?_ _) | (with_reducible refine Kd.yR_ ?_ _) | (with_reducible refine Kd.C_drew ?_) | exact HR376_0.out)) (ji30) p377 q377
                             cases e377
                             replace p377 := eq_true p377
                             replace q377 := eq_true q377
                             have p378 : 0 ≤ (x8_1 : Int) := of_decide_eq_true (by assumption)
                             have q378 : x8_1 < (x7_2.length : Int) := of_decide_eq_true (by assumption)
                             obtain ⟨ad378, A378_0, c378_0, e378, hx378_0, hl378_0, hi378_0⟩ := at_L5 (Kd.yp_ HO_7.out).2.2 x8_1 p378 q378
                             obtain rfl : (⟨go14, 0, none⟩ : Addr) = ad378 := (by injection e378)
                             obtain ⟨ce378, hce378, hMe378, hcc378⟩ := Kd.S_get HO_7.out [] x8_1 p378 (by first | exact q378 | exact of_decide_eq_true (by assumption) | (have e_ := (Kd.yp_ HO_7.out).1; omega))
                             obtain ⟨ve378_0, rfl, ge378_0⟩ := hMe378
                             have hv378_0 := hcc378 0 _ rfl
                             rw [Nat.add_zero, show ((Kd.slice 3 (Kd.int .i64))).sz = 1 from rfl, Nat.mul_one] at hv378_0
                             replace hv378_0 := Option.some.inj (hv378_0.symm.trans hx378_0)
                             rw [hv378_0] at ge378_0
                             have HL378_0 := Aside0.mk (show Kd.R (Kd.int .i64) 3 _ _ _ _ (rd_L5 x7_2 x8_1) from ge378_0)
                             clear hv378_0 ge378_0
                             have HX378_0 := Aside0.mk hx378_0
                             clear hcc378 hce378
                             (first | simp only [add_plain] at hx378_0 | simp only [add_at] at hx378_0 | simp only [Addr.add, Nat.zero_add] at hx378_0 | skip)
                             have HR378_0 := Aside0.mk hi378_0
                             have HC378_0 := Aside0.mk hl378_0
                             clear hi378_0 hl378_0
                             replace p378 := eq_true p378
                             replace q378 := eq_true q378
                             have ea_ := Option.some.inj (hx376_0.symm.trans hx378_0)
                             injection ea_ with ea_ en_ ec_
                             subst ea_
                             subst ec_
                             clear en_
                             have p379 : 0 ≤ ((ji30) : Int) := of_decide_eq_true (by assumption)
                             have q379 : (ji30) < ((rd_L5 x7_2 x8_1).length : Int) := of_decide_eq_true (by assumption)
                             obtain ⟨ad379, e379, hx379_0⟩ := Kd.at_int (by repeat (first | (with_reducible exact HR378_0.out) | (with_reducible refine Kd.yK_ ?_ _) | (with_reducible refine Kd.yR_ ?_ _) | (with_reducible refine Kd.C_drew ?_) | exact HR378_0.out)) (ji30) p379 q379
                             cases e379
                             replace p379 := eq_true p379
                             replace q379 := eq_true q379
                             have p380 : 0 ≤ (x8_1 : Int) := of_decide_eq_true (by assumption)
                             have q380 : x8_1 < (l0.length : Int) := of_decide_eq_true (by assumption)
                             obtain ⟨ad380, e380, hx380_0⟩ := Kd.yL_ HR0.out x8_1 p380 q380
                             cases e380
                             replace hx380_0 := (HB.out.cell (World.block_lt_of_cell? w _ hx380_0)).trans hx380_0
                             replace p380 := eq_true p380
                             replace q380 := eq_true q380
                             have p381 : 0 ≤ (x9_2 : Int) := of_decide_eq_true (by assumption)
                             have q381 : x9_2 < (l1.length : Int) := of_decide_eq_true (by assumption)
                             obtain ⟨ad381, e381, hx381_0⟩ := Kd.yL_ HR1.out x9_2 p381 q381
                             cases e381
                             replace hx381_0 := (HB.out.cell (World.block_lt_of_cell? w _ hx381_0)).trans hx381_0
                             replace p381 := eq_true p381
                             replace q381 := eq_true q381
                             have p394 : 0 ≤ (x8_1 : Int) := of_decide_eq_true (by assumption)
                             have q394 : x8_1 < (x7_2.length : Int) := of_decide_eq_true (by assumption)
                             obtain ⟨ad394, A394_0, c394_0, e394, hx394_0, hl394_0, hi394_0⟩ := at_L5 (Kd.yp_ HO_7.out).2.2 x8_1 p394 q394
                             obtain rfl : (⟨go14, 0, none⟩ : Addr) = ad394 := (by injection e394)
                             obtain ⟨ce394, hce394, hMe394, hcc394⟩ := Kd.S_get HO_7.out [] x8_1 p394 (by first | exact q394 | exact of_decide_eq_true (by assumption) | (have e_ := (Kd.yp_ HO_7.out).1; omega))
                             obtain ⟨ve394_0, rfl, ge394_0⟩ := hMe394
                             have hv394_0 := hcc394 0 _ rfl
                             rw [Nat.add_zero, show ((Kd.slice 3 (Kd.int .i64))).sz = 1 from rfl, Nat.mul_one] at hv394_0
                             replace hv394_0 := Option.some.inj (hv394_0.symm.trans hx394_0)
                             rw [hv394_0] at ge394_0
                             have HL394_0 := Aside0.mk (show Kd.R (Kd.int .i64) 3 _ _ _ _ (rd_L5 x7_2 x8_1) from ge394_0)
                             clear hv394_0 ge394_0
                             have HX394_0 := Aside0.mk hx394_0
                             clear hcc394 hce394
                             (first | simp only [add_plain] at hx394_0 | simp only [add_at] at hx394_0 | simp only [Addr.add, Nat.zero_add] at hx394_0 | skip)
                             have HR394_0 := Aside0.mk hi394_0
                             have HC394_0 := Aside0.mk hl394_0
                             clear hi394_0 hl394_0
                             replace p394 := eq_true p394
                             replace q394 := eq_true q394
                             have ea_ := Option.some.inj (hx376_0.symm.trans hx394_0)
                             injection ea_ with ea_ en_ ec_
                             subst ea_
                             subst ec_
                             clear en_
                             have p48 : 0 ≤ (x9_2 : Int) := of_decide_eq_true (by assumption)
                             have q48 : (x9_2 : Int) < (((rd_L5 x7_2 x8_1).length : Int) : Int) := of_decide_eq_true (by assumption)
                             obtain ⟨go48, co48, eo48, gb48, gl48, cl48, HG48⟩ := Kd.R_form HL394_0.out (by omega)
                             (first | cases eo48 | (injection eo48 with ea_ en_ ec_; (first | subst ea_ | (injection ea_ with ea_; subst ea_)); subst ec_; clear en_))
                             have GB48 := Aside0.mk gb48
                             have GG48 := Aside0.mk HG48
                             clear gb48 gl48 HG48
                             (first | simp only [add_plain] at hx379_0 | skip)
                             obtain ⟨hx48_0, hf48_0⟩ := Kd.yab_ 0 HL394_0.out (x9_2 : Int) p48 q48
                             replace p48 := eq_true p48
                             replace q48 := eq_true q48
                             have hq49 : (x8_1 : Int) < (x7_2.length : Int) := (by have h_ : (x8_1 : Int) < ((x7_2.length : Int) : Int) := of_decide_eq_true (by assumption); first | exact h_ | (have e_ := (Kd.yp_ HO_7.out).1; omega) | simpa only [List.length_set, List.length_set] using h_)
                             obtain ⟨oki49, ce49, hcl49, hM49, hcc49, hok49, hbk49⟩ := Kd.y7_ HO_7.out [] (x8_1 : Int) (of_decide_eq_true (by assumption)) hq49
                             obtain ⟨ve49_0, rfl, ge49_0⟩ := hM49
                             have hv49 := hcc49 0 _ rfl
                             rw [Nat.add_zero, show ((Kd.slice 3 (Kd.int .i64))).sz = 1 from rfl, Nat.mul_one] at hv49
                             replace hv49 := Option.some.inj (hv49.symm.trans HX394_0.out)
                             subst hv49
                             clear hcc49 hcl49
                             replace ge49_0 := (show Kd.R (Kd.int .i64) 3 _ _ _ _ (rd_L5 x7_2 x8_1) from ge49_0)
                             have HP49 := Kd.R_putg ge49_0 (x9_2 : Int) (rd (rd_L5 x7_2 x8_1) (ji30))
                             go_wp2_with (first | ((with_reducible refine yQ_ (t := 3) (p := 110) rfl ?_); (try (rw [yX_ wc]; generalize hq_ : World.drewN wc _ = wc; have n0_ := Aside0.mk (Kd.S_at hq_ HO_7.out); have nX_ := Aside0.mk (yrb_ hq_ HX394_0.out); have n2_ := Aside0.mk (ybb_ hq_ HB.out); clear hq_ HO_7 HB HX394_0; have HO_7 := n0_; have HX394_0 := nX_; have HB := n2_; clear n0_ nX_ n2_; (try (have hq49 : (x8_1 : Int) < (x7_2.length : Int) := (by have h_ : (x8_1 : Int) < ((x7_2.length : Int) : Int) := of_decide_eq_true (by assumption); first | exact h_ | (have e_ := (Kd.yp_ HO_7.out).1; omega) | simpa only [List.length_set, List.length_set] using h_))); (try (obtain ⟨oki49, ce49, hcl49, hM49, hcc49, hok49, hbk49⟩ := Kd.y7_ HO_7.out [] (x8_1 : Int) (of_decide_eq_true (by assumption)) hq49)); (try (obtain ⟨ve49_0, rfl, ge49_0⟩ := hM49)); (try (have hv49 := hcc49 0 _ rfl)); (try (rw [Nat.add_zero, show ((Kd.slice 3 (Kd.int .i64))).sz = 1 from rfl, Nat.mul_one] at hv49)); (try (replace hv49 := Option.some.inj (hv49.symm.trans HX394_0.out))); (try (subst hv49)); (try (clear hcc49 hcl49)); (try (replace ge49_0 := (show Kd.R (Kd.int .i64) 3 _ _ _ _ (rd_L5 x7_2 x8_1) from ge49_0))); (try (have HP49 := Kd.R_putg ge49_0 (x9_2 : Int) (rd (rd_L5 x7_2 x8_1) (ji30)))); (try (obtain ⟨hx48_0, hf48_0⟩ := Kd.yab_ 0 ge49_0 (x9_2 : Int) (of_eq_true p48) (of_eq_true q48))))); refine yG_ (t := 3) (p := 110) (v := ?vo_w50) (w1 := (wc.setCell ⟨go48, (x9_2 : Int).toNat, none⟩ (.int .i64 (rd (rd_L5 x7_2 x8_1) (ji30))))) ?hg ?ho ?hn ?hr ?_; (case ho => rfl); (case hg => rfl); (case hn => rfl); (case hr => (try obtain ⟨As_, cs_, rfl⟩ := Kd.yC_ HO372.out); first | (go_simp; done) | (go_simp; rfl)); intro w50 hw; have hg : wc.grownBy w50 (some go48) := (by rw [hw]; exact HP49.2); have hz_ : Kd.R (Kd.int .i64) 3 w50 w.heap.size oki49 (.slice (some ⟨go48, 0, none⟩) (rd_L5 x7_2 x8_1).length c376_0) y395 := (by rw [hw, Ny395.out]; exact HP49.1); have hp_ : Kd.S (Kd.slice 3 (Kd.int .i64)) 100 w50 w.heap.size (fun _ => True) (.slice (some ⟨go14, 0, none⟩) x7_2.length co14) y397 := (by rw [Ny397.out]; exact hbk49 hg (fun k_ e_ => by injection e_ with e_; subst e_; exact ge49_0.1 _ rfl) (Kd.M_row hz_)); have hm_ := Kd.R_mono hz_ hok49; clear HP49 hbk49; have n0_ := Aside0.mk (hp_); have n1_ := Aside0.mk ((by rw [hw]; exact yr_ (HB.out) GB48.out : Below w.heap.size w w50)); have n2_ := Aside0.mk (hm_); have n3_ := Aside0.mk ((Kd.yo_ hm_).2.1); clear HO_7; clear HB; clear HL374_0; clear HL376_0; clear HL378_0; clear HL394_0; have HO_7 := n0_; have HB := n1_; have HL444 := n2_; have HC396 := n3_; clear n0_ n1_ n2_ n3_; clear hg hw hp_ hz_ hm_ hok49))
                             repeat (go_quiet (first | ((with_reducible refine yQ_ (t := 3) (p := 110) rfl ?_); (try (rw [yX_ wc]; generalize hq_ : World.drewN wc _ = wc; have n0_ := Aside0.mk (Kd.S_at hq_ HO_7.out); have nX_ := Aside0.mk (yrb_ hq_ HX394_0.out); have n2_ := Aside0.mk (ybb_ hq_ HB.out); clear hq_ HO_7 HB HX394_0; have HO_7 := n0_; have HX394_0 := nX_; have HB := n2_; clear n0_ nX_ n2_; (try (have hq49 : (x8_1 : Int) < (x7_2.length : Int) := (by have h_ : (x8_1 : Int) < ((x7_2.length : Int) : Int) := of_decide_eq_true (by assumption); first | exact h_ | (have e_ := (Kd.yp_ HO_7.out).1; omega) | simpa only [List.length_set, List.length_set] using h_))); (try (obtain ⟨oki49, ce49, hcl49, hM49, hcc49, hok49, hbk49⟩ := Kd.y7_ HO_7.out [] (x8_1 : Int) (of_decide_eq_true (by assumption)) hq49)); (try (obtain ⟨ve49_0, rfl, ge49_0⟩ := hM49)); (try (have hv49 := hcc49 0 _ rfl)); (try (rw [Nat.add_zero, show ((Kd.slice 3 (Kd.int .i64))).sz = 1 from rfl, Nat.mul_one] at hv49)); (try (replace hv49 := Option.some.inj (hv49.symm.trans HX394_0.out))); (try (subst hv49)); (try (clear hcc49 hcl49)); (try (replace ge49_0 := (show Kd.R (Kd.int .i64) 3 _ _ _ _ (rd_L5 x7_2 x8_1) from ge49_0))); (try (have HP49 := Kd.R_putg ge49_0 (x9_2 : Int) (rd (rd_L5 x7_2 x8_1) (ji30)))); (try (obtain ⟨hx48_0, hf48_0⟩ := Kd.yab_ 0 ge49_0 (x9_2 : Int) (of_eq_true p48) (of_eq_true q48))))); refine yG_ (t := 3) (p := 110) (v := ?vo_w50) (w1 := (wc.setCell ⟨go48, (x9_2 : Int).toNat, none⟩ (.int .i64 (rd (rd_L5 x7_2 x8_1) (ji30))))) ?hg ?ho ?hn ?hr ?_; (case ho => rfl); (case hg => rfl); (case hn => rfl); (case hr => (try obtain ⟨As_, cs_, rfl⟩ := Kd.yC_ HO372.out); first | (go_simp; done) | (go_simp; rfl)); intro w50 hw; have hg : wc.grownBy w50 (some go48) := (by rw [hw]; exact HP49.2); have hz_ : Kd.R (Kd.int .i64) 3 w50 w.heap.size oki49 (.slice (some ⟨go48, 0, none⟩) (rd_L5 x7_2 x8_1).length c376_0) y395 := (by rw [hw, Ny395.out]; exact HP49.1); have hp_ : Kd.S (Kd.slice 3 (Kd.int .i64)) 100 w50 w.heap.size (fun _ => True) (.slice (some ⟨go14, 0, none⟩) x7_2.length co14) y397 := (by rw [Ny397.out]; exact hbk49 hg (fun k_ e_ => by injection e_ with e_; subst e_; exact ge49_0.1 _ rfl) (Kd.M_row hz_)); have hm_ := Kd.R_mono hz_ hok49; clear HP49 hbk49; have n0_ := Aside0.mk (hp_); have n1_ := Aside0.mk ((by rw [hw]; exact yr_ (HB.out) GB48.out : Below w.heap.size w w50)); have n2_ := Aside0.mk (hm_); have n3_ := Aside0.mk ((Kd.yo_ hm_).2.1); clear HO_7; clear HB; clear HL374_0; clear HL376_0; clear HL378_0; clear HL394_0; have HO_7 := n0_; have HB := n1_; have HL444 := n2_; have HC396 := n3_; clear n0_ n1_ n2_ n3_; clear hg hw hp_ hz_ hm_ hok49)); try go_wp2_with (first | ((with_reducible refine yQ_ (t := 3) (p := 110) rfl ?_); (try (rw [yX_ wc]; generalize hq_ : World.drewN wc _ = wc; have n0_ := Aside0.mk (Kd.S_at hq_ HO_7.out); have nX_ := Aside0.mk (yrb_ hq_ HX394_0.out); have n2_ := Aside0.mk (ybb_ hq_ HB.out); clear hq_ HO_7 HB HX394_0; have HO_7 := n0_; have HX394_0 := nX_; have HB := n2_; clear n0_ nX_ n2_; (try (have hq49 : (x8_1 : Int) < (x7_2.length : Int) := (by have h_ : (x8_1 : Int) < ((x7_2.length : Int) : Int) := of_decide_eq_true (by assumption); first | exact h_ | (have e_ := (Kd.yp_ HO_7.out).1; omega) | simpa only [List.length_set, List.length_set] using h_))); (try (obtain ⟨oki49, ce49, hcl49, hM49, hcc49, hok49, hbk49⟩ := Kd.y7_ HO_7.out [] (x8_1 : Int) (of_decide_eq_true (by assumption)) hq49)); (try (obtain ⟨ve49_0, rfl, ge49_0⟩ := hM49)); (try (have hv49 := hcc49 0 _ rfl)); (try (rw [Nat.add_zero, show ((Kd.slice 3 (Kd.int .i64))).sz = 1 from rfl, Nat.mul_one] at hv49)); (try (replace hv49 := Option.some.inj (hv49.symm.trans HX394_0.out))); (try (subst hv49)); (try (clear hcc49 hcl49)); (try (replace ge49_0 := (show Kd.R (Kd.int .i64) 3 _ _ _ _ (rd_L5 x7_2 x8_1) from ge49_0))); (try (have HP49 := Kd.R_putg ge49_0 (x9_2 : Int) (rd (rd_L5 x7_2 x8_1) (ji30)))); (try (obtain ⟨hx48_0, hf48_0⟩ := Kd.yab_ 0 ge49_0 (x9_2 : Int) (of_eq_true p48) (of_eq_true q48))))); refine yG_ (t := 3) (p := 110) (v := ?vo_w50) (w1 := (wc.setCell ⟨go48, (x9_2 : Int).toNat, none⟩ (.int .i64 (rd (rd_L5 x7_2 x8_1) (ji30))))) ?hg ?ho ?hn ?hr ?_; (case ho => rfl); (case hg => rfl); (case hn => rfl); (case hr => (try obtain ⟨As_, cs_, rfl⟩ := Kd.yC_ HO372.out); first | (go_simp; done) | (go_simp; rfl)); intro w50 hw; have hg : wc.grownBy w50 (some go48) := (by rw [hw]; exact HP49.2); have hz_ : Kd.R (Kd.int .i64) 3 w50 w.heap.size oki49 (.slice (some ⟨go48, 0, none⟩) (rd_L5 x7_2 x8_1).length c376_0) y395 := (by rw [hw, Ny395.out]; exact HP49.1); have hp_ : Kd.S (Kd.slice 3 (Kd.int .i64)) 100 w50 w.heap.size (fun _ => True) (.slice (some ⟨go14, 0, none⟩) x7_2.length co14) y397 := (by rw [Ny397.out]; exact hbk49 hg (fun k_ e_ => by injection e_ with e_; subst e_; exact ge49_0.1 _ rfl) (Kd.M_row hz_)); have hm_ := Kd.R_mono hz_ hok49; clear HP49 hbk49; have n0_ := Aside0.mk (hp_); have n1_ := Aside0.mk ((by rw [hw]; exact yr_ (HB.out) GB48.out : Below w.heap.size w w50)); have n2_ := Aside0.mk (hm_); have n3_ := Aside0.mk ((Kd.yo_ hm_).2.1); clear HO_7; clear HB; clear HL374_0; clear HL376_0; clear HL378_0; clear HL394_0; have HO_7 := n0_; have HB := n1_; have HL444 := n2_; have HC396 := n3_; clear n0_ n1_ n2_ n3_; clear hg hw hp_ hz_ hm_ hok49)))
                             (try simp only [← hl7_2])
                             go_roundg kj19
                             case measure => have := HK1.out; have := HK2.out; have := HJ19.out; omega
                             case rel => exact ⟨(y397), (wrap64 (x9_2 - 1)), (by first | rfl | (simp; done) | (simp [*]; done)), H', ⟨by have := HK1.out; have := HK2.out; have := HJ19.out; omega⟩, ⟨by (try simp only [hl7_2]); (with_reducible repeat (first | apply Kd.yO_ | apply Kd.yN_ | apply Kd.S_drew)); exact HO_7.out⟩, ⟨by repeat (with_reducible first | exact HB.out | apply yc_ | apply ya_ | apply yb_)⟩⟩
                            ·rw [if_neg c47] at H
                             exact absurd H (by simp)
                          ·rw [if_neg c35] at H
                           exact absurd H (by simp)
                         ·rw [if_neg c34] at H
                          exact absurd H (by simp)
                        ·rw [if_neg c33] at H
                         have c33b0 : decide ((rd (rd_L5 x7_2 (ji23)) x9_2) < (rd (rd_L5 x7_2 x8_1) (ji30))) = false := decide_eq_false c33
                         clear c33
                         by_cases c51 : x8_1 < (l0.length : Int)
                         ·rw [if_pos c51] at H
                          have c51b0 : decide (x8_1 < (l0.length : Int)) = true := decide_eq_true c51
                          clear c51
                          by_cases c52 : x9_2 < (l1.length : Int)
                          ·rw [if_pos c52] at H
                           have c52b0 : decide (x9_2 < (l1.length : Int)) = true := decide_eq_true c52
                           clear c52
                           by_cases c53 : (rdOf ByteArray.empty l0 x8_1).toList = (rdOf ByteArray.empty l1 x9_2).toList
                           ·rw [if_pos c53] at H
                            have c53b0 : ((rdOf ByteArray.empty l0 x8_1).toList == (rdOf ByteArray.empty l1 x9_2).toList) = true := beq_iff_eq.mpr c53
                            have c53b1 : ((rdOf ByteArray.empty l0 x8_1).toList != (rdOf ByteArray.empty l1 x9_2).toList) = false := bne_eq_false_iff_eq.mpr c53
                            clear c53
                            by_cases c54 : (ji30) < ((rd_L5 x7_2 (ji23)).length : Int)
                            ·rw [if_pos c54] at H
                             have c54b0 : decide ((ji30) < ((rd_L5 x7_2 (ji23)).length : Int)) = true := decide_eq_true c54
                             clear c54
                             by_cases c55 : (wrap64 ((rd (rd_L5 x7_2 (ji23)) (ji30)) + 1)) > (rd (rd_L5 x7_2 (ji23)) x9_2)
                             ·rw [if_pos c55] at H
                              have c55b0 : decide ((rd (rd_L5 x7_2 (ji23)) x9_2) < (wrap64 ((rd (rd_L5 x7_2 (ji23)) (ji30)) + 1))) = true := decide_eq_true c55
                              clear c55
                              by_cases c56 : x9_2 < ((rd_L5 x7_2 x8_1).length : Int)
                              ·rw [if_pos c56] at H
                               have c56b0 : decide (x9_2 < ((rd_L5 x7_2 x8_1).length : Int)) = true := decide_eq_true c56
                               clear c56
                               obtain ⟨y405, hy405⟩ : ∃ y_ : List Int, y_ = ((rd_L5 x7_2 x8_1).set (x9_2 : Int).toNat (wrap64 ((rd (rd_L5 x7_2 (ji23)) (ji30)) + 1))) := ⟨_, rfl⟩
                               replace H : (yd_.l1 kj19 l0 l1 (l0.length : Int) (l1.length : Int) (x7_2.set (x8_1 : Int).toNat y405) x8_1 (wrap64 (x9_2 - 1))) = some r := by first | (rw [hy405]; with_reducible exact H) | (have H2_ := (Option.bind_some _ _).symm.trans H; rw [hy405]; with_reducible exact H2_) | (have H2_ := (Option.bind_some _ _).symm.trans H; with_reducible exact H2_) | with_reducible exact H | (rw [hy405]; exact H) | exact H
                               have Ny405 := Aside0.mk hy405
                               clear hy405
                               obtain ⟨y407, hy407⟩ : ∃ y_ : List (List Int), y_ = (x7_2.set (x8_1 : Int).toNat y405) := ⟨_, rfl⟩
                               replace H : (yd_.l1 kj19 l0 l1 (l0.length : Int) (l1.length : Int) y407 x8_1 (wrap64 (x9_2 - 1))) = some r := by first | (rw [hy407]; with_reducible exact H) | (have H2_ := (Option.bind_some _ _).symm.trans H; rw [hy407]; with_reducible exact H2_) | (have H2_ := (Option.bind_some _ _).symm.trans H; with_reducible exact H2_) | with_reducible exact H | (rw [hy407]; exact H) | exact H
                               have Ny407 := Aside0.mk hy407
                               clear hy407
                               have H' := Aside0.mk H
                               clear H
                               have p374 : 0 ≤ ((ji23) : Int) := of_decide_eq_true (by assumption)
                               have q374 : (ji23) < (x7_2.length : Int) := of_decide_eq_true (by assumption)
                               obtain ⟨ad374, A374_0, c374_0, e374, hx374_0, hl374_0, hi374_0⟩ := at_L5 (Kd.yp_ HO_7.out).2.2 (ji23) p374 q374
                               obtain rfl : (⟨go14, 0, none⟩ : Addr) = ad374 := (by injection e374)
                               obtain ⟨ce374, hce374, hMe374, hcc374⟩ := Kd.S_get HO_7.out [] (ji23) p374 (by first | exact q374 | exact of_decide_eq_true (by assumption) | (have e_ := (Kd.yp_ HO_7.out).1; omega))
                               obtain ⟨ve374_0, rfl, ge374_0⟩ := hMe374
                               have hv374_0 := hcc374 0 _ rfl
                               rw [Nat.add_zero, show ((Kd.slice 3 (Kd.int .i64))).sz = 1 from rfl, Nat.mul_one] at hv374_0
                               replace hv374_0 := Option.some.inj (hv374_0.symm.trans hx374_0)
                               rw [hv374_0] at ge374_0
                               have HL374_0 := Aside0.mk (show Kd.R (Kd.int .i64) 3 _ _ _ _ (rd_L5 x7_2 (ji23)) from ge374_0)
                               clear hv374_0 ge374_0
                               have HX374_0 := Aside0.mk hx374_0
                               clear hcc374 hce374
                               (first | simp only [add_plain] at hx374_0 | simp only [add_at] at hx374_0 | simp only [Addr.add, Nat.zero_add] at hx374_0 | skip)
                               have HR374_0 := Aside0.mk hi374_0
                               have HC374_0 := Aside0.mk hl374_0
                               clear hi374_0 hl374_0
                               replace p374 := eq_true p374
                               replace q374 := eq_true q374
                               have p375 : 0 ≤ (x9_2 : Int) := of_decide_eq_true (by assumption)
                               have q375 : x9_2 < ((rd_L5 x7_2 (ji23)).length : Int) := of_decide_eq_true (by assumption)
                               obtain ⟨ad375, e375, hx375_0⟩ := Kd.at_int (by repeat (first | (with_reducible exact HR374_0.out) | (with_reducible refine Kd.yK_ ?_ _) | (with_reducible refine Kd.yR_ ?_ _) | (with_reducible refine Kd.C_drew ?_) | exact HR374_0.out)) x9_2 p375 q375
                               cases e375
                               replace p375 := eq_true p375
                               replace q375 := eq_true q375
                               have p376 : 0 ≤ (x8_1 : Int) := of_decide_eq_true (by assumption)
                               have q376 : x8_1 < (x7_2.length : Int) := of_decide_eq_true (by assumption)
                               obtain ⟨ad376, A376_0, c376_0, e376, hx376_0, hl376_0, hi376_0⟩ := at_L5 (Kd.yp_ HO_7.out).2.2 x8_1 p376 q376
                               obtain rfl : (⟨go14, 0, none⟩ : Addr) = ad376 := (by injection e376)
                               obtain ⟨ce376, hce376, hMe376, hcc376⟩ := Kd.S_get HO_7.out [] x8_1 p376 (by first | exact q376 | exact of_decide_eq_true (by assumption) | (have e_ := (Kd.yp_ HO_7.out).1; omega))
                               obtain ⟨ve376_0, rfl, ge376_0⟩ := hMe376
                               have hv376_0 := hcc376 0 _ rfl
                               rw [Nat.add_zero, show ((Kd.slice 3 (Kd.int .i64))).sz = 1 from rfl, Nat.mul_one] at hv376_0
                               replace hv376_0 := Option.some.inj (hv376_0.symm.trans hx376_0)
                               rw [hv376_0] at ge376_0
                               have HL376_0 := Aside0.mk (show Kd.R (Kd.int .i64) 3 _ _ _ _ (rd_L5 x7_2 x8_1) from ge376_0)
                               clear hv376_0 ge376_0
                               have HX376_0 := Aside0.mk hx376_0
                               clear hcc376 hce376
                               (first | simp only [add_plain] at hx376_0 | simp only [add_at] at hx376_0 | simp only [Addr.add, Nat.zero_add] at hx376_0 | skip)
                               have HR376_0 := Aside0.mk hi376_0
                               have HC376_0 := Aside0.mk hl376_0
                               clear hi376_0 hl376_0
                               replace p376 := eq_true p376
                               replace q376 := eq_true q376
                               have p377 : 0 ≤ ((ji30) : Int) := of_decide_eq_true (by assumption)
                               have q377 : (ji30) < ((rd_L5 x7_2 x8_1).length : Int) := of_decide_eq_true (by assumption)
                               obtain ⟨ad377, e377, hx377_0⟩ := Kd.at_int (by repeat (first | (with_reducible exact HR376_0.out) | (with_reducible refine Kd.yK_ ?_ _) | (with_reducible refine Kd.yR_ ?_ _) | (with_reducible refine Kd.C_drew ?_) | exact HR376_0.out)) (ji30) p377 q377
                               cases e377
                               replace p377 := eq_true p377
                               replace q377 := eq_true q377
                               have p398 : 0 ≤ (x8_1 : Int) := of_decide_eq_true (by assumption)
                               have q398 : x8_1 < (l0.length : Int) := of_decide_eq_true (by assumption)
                               obtain ⟨ad398, e398, hx398_0⟩ := Kd.yL_ HR0.out x8_1 p398 q398
                               cases e398
                               replace hx398_0 := (HB.out.cell (World.block_lt_of_cell? w _ hx398_0)).trans hx398_0
                               replace p398 := eq_true p398
                               replace q398 := eq_true q398
                               have p399 : 0 ≤ (x9_2 : Int) := of_decide_eq_true (by assumption)
                               have q399 : x9_2 < (l1.length : Int) := of_decide_eq_true (by assumption)
                               obtain ⟨ad399, e399, hx399_0⟩ := Kd.yL_ HR1.out x9_2 p399 q399
                               cases e399
                               replace hx399_0 := (HB.out.cell (World.block_lt_of_cell? w _ hx399_0)).trans hx399_0
                               replace p399 := eq_true p399
                               replace q399 := eq_true q399
                               have p400 : 0 ≤ ((ji23) : Int) := of_decide_eq_true (by assumption)
                               have q400 : (ji23) < (x7_2.length : Int) := of_decide_eq_true (by assumption)
                               obtain ⟨ad400, A400_0, c400_0, e400, hx400_0, hl400_0, hi400_0⟩ := at_L5 (Kd.yp_ HO_7.out).2.2 (ji23) p400 q400
                               obtain rfl : (⟨go14, 0, none⟩ : Addr) = ad400 := (by injection e400)
                               obtain ⟨ce400, hce400, hMe400, hcc400⟩ := Kd.S_get HO_7.out [] (ji23) p400 (by first | exact q400 | exact of_decide_eq_true (by assumption) | (have e_ := (Kd.yp_ HO_7.out).1; omega))
                               obtain ⟨ve400_0, rfl, ge400_0⟩ := hMe400
                               have hv400_0 := hcc400 0 _ rfl
                               rw [Nat.add_zero, show ((Kd.slice 3 (Kd.int .i64))).sz = 1 from rfl, Nat.mul_one] at hv400_0
                               replace hv400_0 := Option.some.inj (hv400_0.symm.trans hx400_0)
                               rw [hv400_0] at ge400_0
                               have HL400_0 := Aside0.mk (show Kd.R (Kd.int .i64) 3 _ _ _ _ (rd_L5 x7_2 (ji23)) from ge400_0)
                               clear hv400_0 ge400_0
                               have HX400_0 := Aside0.mk hx400_0
                               clear hcc400 hce400
                               (first | simp only [add_plain] at hx400_0 | simp only [add_at] at hx400_0 | simp only [Addr.add, Nat.zero_add] at hx400_0 | skip)
                               have HR400_0 := Aside0.mk hi400_0
                               have HC400_0 := Aside0.mk hl400_0
                               clear hi400_0 hl400_0
                               replace p400 := eq_true p400
                               replace q400 := eq_true q400
                               have ea_ := Option.some.inj (hx374_0.symm.trans hx400_0)
                               injection ea_ with ea_ en_ ec_
                               subst ea_
                               subst ec_
                               clear en_
                               have p401 : 0 ≤ ((ji30) : Int) := of_decide_eq_true (by assumption)
                               have q401 : (ji30) < ((rd_L5 x7_2 (ji23)).length : Int) := of_decide_eq_true (by assumption)
                               obtain ⟨ad401, e401, hx401_0⟩ := Kd.at_int (by repeat (first | (with_reducible exact HR400_0.out) | (with_reducible refine Kd.yK_ ?_ _) | (with_reducible refine Kd.yR_ ?_ _) | (with_reducible refine Kd.C_drew ?_) | exact HR400_0.out)) (ji30) p401 q401
                               cases e401
                               replace p401 := eq_true p401
                               replace q401 := eq_true q401
                               have p402 : 0 ≤ ((ji23) : Int) := of_decide_eq_true (by assumption)
                               have q402 : (ji23) < (x7_2.length : Int) := of_decide_eq_true (by assumption)
                               obtain ⟨ad402, A402_0, c402_0, e402, hx402_0, hl402_0, hi402_0⟩ := at_L5 (Kd.yp_ HO_7.out).2.2 (ji23) p402 q402
                               obtain rfl : (⟨go14, 0, none⟩ : Addr) = ad402 := (by injection e402)
                               obtain ⟨ce402, hce402, hMe402, hcc402⟩ := Kd.S_get HO_7.out [] (ji23) p402 (by first | exact q402 | exact of_decide_eq_true (by assumption) | (have e_ := (Kd.yp_ HO_7.out).1; omega))
                               obtain ⟨ve402_0, rfl, ge402_0⟩ := hMe402
                               have hv402_0 := hcc402 0 _ rfl
                               rw [Nat.add_zero, show ((Kd.slice 3 (Kd.int .i64))).sz = 1 from rfl, Nat.mul_one] at hv402_0
                               replace hv402_0 := Option.some.inj (hv402_0.symm.trans hx402_0)
                               rw [hv402_0] at ge402_0
                               have HL402_0 := Aside0.mk (show Kd.R (Kd.int .i64) 3 _ _ _ _ (rd_L5 x7_2 (ji23)) from ge402_0)
                               clear hv402_0 ge402_0
                               have HX402_0 := Aside0.mk hx402_0
                               clear hcc402 hce402
                               (first | simp only [add_plain] at hx402_0 | simp only [add_at] at hx402_0 | simp only [Addr.add, Nat.zero_add] at hx402_0 | skip)
                               have HR402_0 := Aside0.mk hi402_0
                               have HC402_0 := Aside0.mk hl402_0
                               clear hi402_0 hl402_0
                               replace p402 := eq_true p402
                               replace q402 := eq_true q402
                               have ea_ := Option.some.inj (hx374_0.symm.trans hx402_0)
                               injection ea_ with ea_ en_ ec_
                               subst ea_
                               subst ec_
                               clear en_
                               have p403 : 0 ≤ ((ji30) : Int) := of_decide_eq_true (by assumption)
                               have q403 : (ji30) < ((rd_L5 x7_2 (ji23)).length : Int) := of_decide_eq_true (by assumption)
                               obtain ⟨ad403, e403, hx403_0⟩ := Kd.at_int (by repeat (first | (with_reducible exact HR402_0.out) | (with_reducible refine Kd.yK_ ?_ _) | (with_reducible refine Kd.yR_ ?_ _) | (with_reducible refine Kd.C_drew ?_) | exact HR402_0.out)) (ji30) p403 q403
                               cases e403
                               replace p403 := eq_true p403
                               replace q403 := eq_true q403
                               have p404 : 0 ≤ (x8_1 : Int) := of_decide_eq_true (by assumption)
                               have q404 : x8_1 < (x7_2.length : Int) := of_decide_eq_true (by assumption)
                               obtain ⟨ad404, A404_0, c404_0, e404, hx404_0, hl404_0, hi404_0⟩ := at_L5 (Kd.yp_ HO_7.out).2.2 x8_1 p404 q404
                               obtain rfl : (⟨go14, 0, none⟩ : Addr) = ad404 := (by injection e404)
                               obtain ⟨ce404, hce404, hMe404, hcc404⟩ := Kd.S_get HO_7.out [] x8_1 p404 (by first | exact q404 | exact of_decide_eq_true (by assumption) | (have e_ := (Kd.yp_ HO_7.out).1; omega))
                               obtain ⟨ve404_0, rfl, ge404_0⟩ := hMe404
                               have hv404_0 := hcc404 0 _ rfl
                               rw [Nat.add_zero, show ((Kd.slice 3 (Kd.int .i64))).sz = 1 from rfl, Nat.mul_one] at hv404_0
                               replace hv404_0 := Option.some.inj (hv404_0.symm.trans hx404_0)
                               rw [hv404_0] at ge404_0
                               have HL404_0 := Aside0.mk (show Kd.R (Kd.int .i64) 3 _ _ _ _ (rd_L5 x7_2 x8_1) from ge404_0)
                               clear hv404_0 ge404_0
                               have HX404_0 := Aside0.mk hx404_0
                               clear hcc404 hce404
                               (first | simp only [add_plain] at hx404_0 | simp only [add_at] at hx404_0 | simp only [Addr.add, Nat.zero_add] at hx404_0 | skip)
                               have HR404_0 := Aside0.mk hi404_0
                               have HC404_0 := Aside0.mk hl404_0
                               clear hi404_0 hl404_0
                               replace p404 := eq_true p404
                               replace q404 := eq_true q404
                               have ea_ := Option.some.inj (hx376_0.symm.trans hx404_0)
                               injection ea_ with ea_ en_ ec_
                               subst ea_
                               subst ec_
                               clear en_
                               have p57 : 0 ≤ (x9_2 : Int) := of_decide_eq_true (by assumption)
                               have q57 : (x9_2 : Int) < (((rd_L5 x7_2 x8_1).length : Int) : Int) := of_decide_eq_true (by assumption)
                               obtain ⟨go57, co57, eo57, gb57, gl57, cl57, HG57⟩ := Kd.R_form HL404_0.out (by omega)
                               (first | cases eo57 | (injection eo57 with ea_ en_ ec_; (first | subst ea_ | (injection ea_ with ea_; subst ea_)); subst ec_; clear en_))
                               have GB57 := Aside0.mk gb57
                               have GG57 := Aside0.mk HG57
                               clear gb57 gl57 HG57
                               (first | simp only [add_plain] at hx377_0 | skip)
                               obtain ⟨hx57_0, hf57_0⟩ := Kd.yab_ 0 HL404_0.out (x9_2 : Int) p57 q57
                               replace p57 := eq_true p57
                               replace q57 := eq_true q57
                               have hq58 : (x8_1 : Int) < (x7_2.length : Int) := (by have h_ : (x8_1 : Int) < ((x7_2.length : Int) : Int) := of_decide_eq_true (by assumption); first | exact h_ | (have e_ := (Kd.yp_ HO_7.out).1; omega) | simpa only [List.length_set, List.length_set] using h_)
                               obtain ⟨oki58, ce58, hcl58, hM58, hcc58, hok58, hbk58⟩ := Kd.y7_ HO_7.out [] (x8_1 : Int) (of_decide_eq_true (by assumption)) hq58
                               obtain ⟨ve58_0, rfl, ge58_0⟩ := hM58
                               have hv58 := hcc58 0 _ rfl
                               rw [Nat.add_zero, show ((Kd.slice 3 (Kd.int .i64))).sz = 1 from rfl, Nat.mul_one] at hv58
                               replace hv58 := Option.some.inj (hv58.symm.trans HX404_0.out)
                               subst hv58
                               clear hcc58 hcl58
                               replace ge58_0 := (show Kd.R (Kd.int .i64) 3 _ _ _ _ (rd_L5 x7_2 x8_1) from ge58_0)
                               have HP58 := Kd.R_putg ge58_0 (x9_2 : Int) (wrap64 ((rd (rd_L5 x7_2 (ji23)) (ji30)) + 1))
                               go_wp2_with (first | ((with_reducible refine yQ_ (t := 3) (p := 110) rfl ?_); (try (rw [yX_ wc]; generalize hq_ : World.drewN wc _ = wc; have n0_ := Aside0.mk (Kd.S_at hq_ HO_7.out); have nX_ := Aside0.mk (yrb_ hq_ HX404_0.out); have n2_ := Aside0.mk (ybb_ hq_ HB.out); clear hq_ HO_7 HB HX404_0; have HO_7 := n0_; have HX404_0 := nX_; have HB := n2_; clear n0_ nX_ n2_; (try (have hq58 : (x8_1 : Int) < (x7_2.length : Int) := (by have h_ : (x8_1 : Int) < ((x7_2.length : Int) : Int) := of_decide_eq_true (by assumption); first | exact h_ | (have e_ := (Kd.yp_ HO_7.out).1; omega) | simpa only [List.length_set, List.length_set] using h_))); (try (obtain ⟨oki58, ce58, hcl58, hM58, hcc58, hok58, hbk58⟩ := Kd.y7_ HO_7.out [] (x8_1 : Int) (of_decide_eq_true (by assumption)) hq58)); (try (obtain ⟨ve58_0, rfl, ge58_0⟩ := hM58)); (try (have hv58 := hcc58 0 _ rfl)); (try (rw [Nat.add_zero, show ((Kd.slice 3 (Kd.int .i64))).sz = 1 from rfl, Nat.mul_one] at hv58)); (try (replace hv58 := Option.some.inj (hv58.symm.trans HX404_0.out))); (try (subst hv58)); (try (clear hcc58 hcl58)); (try (replace ge58_0 := (show Kd.R (Kd.int .i64) 3 _ _ _ _ (rd_L5 x7_2 x8_1) from ge58_0))); (try (have HP58 := Kd.R_putg ge58_0 (x9_2 : Int) (wrap64 ((rd (rd_L5 x7_2 (ji23)) (ji30)) + 1)))); (try (obtain ⟨hx57_0, hf57_0⟩ := Kd.yab_ 0 ge58_0 (x9_2 : Int) (of_eq_true p57) (of_eq_true q57))))); refine yG_ (t := 3) (p := 110) (v := ?vo_w59) (w1 := (wc.setCell ⟨go57, (x9_2 : Int).toNat, none⟩ (.int .i64 (wrap64 ((rd (rd_L5 x7_2 (ji23)) (ji30)) + 1))))) ?hg ?ho ?hn ?hr ?_; (case ho => rfl); (case hg => rfl); (case hn => rfl); (case hr => (try obtain ⟨As_, cs_, rfl⟩ := Kd.yC_ HO372.out); first | (go_simp; done) | (go_simp; rfl)); intro w59 hw; have hg : wc.grownBy w59 (some go57) := (by rw [hw]; exact HP58.2); have hz_ : Kd.R (Kd.int .i64) 3 w59 w.heap.size oki58 (.slice (some ⟨go57, 0, none⟩) (rd_L5 x7_2 x8_1).length c376_0) y405 := (by rw [hw, Ny405.out]; exact HP58.1); have hp_ : Kd.S (Kd.slice 3 (Kd.int .i64)) 100 w59 w.heap.size (fun _ => True) (.slice (some ⟨go14, 0, none⟩) x7_2.length co14) y407 := (by rw [Ny407.out]; exact hbk58 hg (fun k_ e_ => by injection e_ with e_; subst e_; exact ge58_0.1 _ rfl) (Kd.M_row hz_)); have hm_ := Kd.R_mono hz_ hok58; clear HP58 hbk58; have n0_ := Aside0.mk (hp_); have n1_ := Aside0.mk ((by rw [hw]; exact yr_ (HB.out) GB57.out : Below w.heap.size w w59)); have n2_ := Aside0.mk (hm_); have n3_ := Aside0.mk ((Kd.yo_ hm_).2.1); clear HO_7; clear HB; clear HL374_0; clear HL376_0; clear HL400_0; clear HL402_0; clear HL404_0; have HO_7 := n0_; have HB := n1_; have HL445 := n2_; have HC406 := n3_; clear n0_ n1_ n2_ n3_; clear hg hw hp_ hz_ hm_ hok58))
                               repeat (go_quiet (first | ((with_reducible refine yQ_ (t := 3) (p := 110) rfl ?_); (try (rw [yX_ wc]; generalize hq_ : World.drewN wc _ = wc; have n0_ := Aside0.mk (Kd.S_at hq_ HO_7.out); have nX_ := Aside0.mk (yrb_ hq_ HX404_0.out); have n2_ := Aside0.mk (ybb_ hq_ HB.out); clear hq_ HO_7 HB HX404_0; have HO_7 := n0_; have HX404_0 := nX_; have HB := n2_; clear n0_ nX_ n2_; (try (have hq58 : (x8_1 : Int) < (x7_2.length : Int) := (by have h_ : (x8_1 : Int) < ((x7_2.length : Int) : Int) := of_decide_eq_true (by assumption); first | exact h_ | (have e_ := (Kd.yp_ HO_7.out).1; omega) | simpa only [List.length_set, List.length_set] using h_))); (try (obtain ⟨oki58, ce58, hcl58, hM58, hcc58, hok58, hbk58⟩ := Kd.y7_ HO_7.out [] (x8_1 : Int) (of_decide_eq_true (by assumption)) hq58)); (try (obtain ⟨ve58_0, rfl, ge58_0⟩ := hM58)); (try (have hv58 := hcc58 0 _ rfl)); (try (rw [Nat.add_zero, show ((Kd.slice 3 (Kd.int .i64))).sz = 1 from rfl, Nat.mul_one] at hv58)); (try (replace hv58 := Option.some.inj (hv58.symm.trans HX404_0.out))); (try (subst hv58)); (try (clear hcc58 hcl58)); (try (replace ge58_0 := (show Kd.R (Kd.int .i64) 3 _ _ _ _ (rd_L5 x7_2 x8_1) from ge58_0))); (try (have HP58 := Kd.R_putg ge58_0 (x9_2 : Int) (wrap64 ((rd (rd_L5 x7_2 (ji23)) (ji30)) + 1)))); (try (obtain ⟨hx57_0, hf57_0⟩ := Kd.yab_ 0 ge58_0 (x9_2 : Int) (of_eq_true p57) (of_eq_true q57))))); refine yG_ (t := 3) (p := 110) (v := ?vo_w59) (w1 := (wc.setCell ⟨go57, (x9_2 : Int).toNat, none⟩ (.int .i64 (wrap64 ((rd (rd_L5 x7_2 (ji23)) (ji30)) + 1))))) ?hg ?ho ?hn ?hr ?_; (case ho => rfl); (case hg => rfl); (case hn => rfl); (case hr => (try obtain ⟨As_, cs_, rfl⟩ := Kd.yC_ HO372.out); first | (go_simp; done) | (go_simp; rfl)); intro w59 hw; have hg : wc.grownBy w59 (some go57) := (by rw [hw]; exact HP58.2); have hz_ : Kd.R (Kd.int .i64) 3 w59 w.heap.size oki58 (.slice (some ⟨go57, 0, none⟩) (rd_L5 x7_2 x8_1).length c376_0) y405 := (by rw [hw, Ny405.out]; exact HP58.1); have hp_ : Kd.S (Kd.slice 3 (Kd.int .i64)) 100 w59 w.heap.size (fun _ => True) (.slice (some ⟨go14, 0, none⟩) x7_2.length co14) y407 := (by rw [Ny407.out]; exact hbk58 hg (fun k_ e_ => by injection e_ with e_; subst e_; exact ge58_0.1 _ rfl) (Kd.M_row hz_)); have hm_ := Kd.R_mono hz_ hok58; clear HP58 hbk58; have n0_ := Aside0.mk (hp_); have n1_ := Aside0.mk ((by rw [hw]; exact yr_ (HB.out) GB57.out : Below w.heap.size w w59)); have n2_ := Aside0.mk (hm_); have n3_ := Aside0.mk ((Kd.yo_ hm_).2.1); clear HO_7; clear HB; clear HL374_0; clear HL376_0; clear HL400_0; clear HL402_0; clear HL404_0; have HO_7 := n0_; have HB := n1_; have HL445 := n2_; have HC406 := n3_; clear n0_ n1_ n2_ n3_; clear hg hw hp_ hz_ hm_ hok58)); try go_wp2_with (first | ((with_reducible refine yQ_ (t := 3) (p := 110) rfl ?_); (try (rw [yX_ wc]; generalize hq_ : World.drewN wc _ = wc; have n0_ := Aside0.mk (Kd.S_at hq_ HO_7.out); have nX_ := Aside0.mk (yrb_ hq_ HX404_0.out); have n2_ := Aside0.mk (ybb_ hq_ HB.out); clear hq_ HO_7 HB HX404_0; have HO_7 := n0_; have HX404_0 := nX_; have HB := n2_; clear n0_ nX_ n2_; (try (have hq58 : (x8_1 : Int) < (x7_2.length : Int) := (by have h_ : (x8_1 : Int) < ((x7_2.length : Int) : Int) := of_decide_eq_true (by assumption); first | exact h_ | (have e_ := (Kd.yp_ HO_7.out).1; omega) | simpa only [List.length_set, List.length_set] using h_))); (try (obtain ⟨oki58, ce58, hcl58, hM58, hcc58, hok58, hbk58⟩ := Kd.y7_ HO_7.out [] (x8_1 : Int) (of_decide_eq_true (by assumption)) hq58)); (try (obtain ⟨ve58_0, rfl, ge58_0⟩ := hM58)); (try (have hv58 := hcc58 0 _ rfl)); (try (rw [Nat.add_zero, show ((Kd.slice 3 (Kd.int .i64))).sz = 1 from rfl, Nat.mul_one] at hv58)); (try (replace hv58 := Option.some.inj (hv58.symm.trans HX404_0.out))); (try (subst hv58)); (try (clear hcc58 hcl58)); (try (replace ge58_0 := (show Kd.R (Kd.int .i64) 3 _ _ _ _ (rd_L5 x7_2 x8_1) from ge58_0))); (try (have HP58 := Kd.R_putg ge58_0 (x9_2 : Int) (wrap64 ((rd (rd_L5 x7_2 (ji23)) (ji30)) + 1)))); (try (obtain ⟨hx57_0, hf57_0⟩ := Kd.yab_ 0 ge58_0 (x9_2 : Int) (of_eq_true p57) (of_eq_true q57))))); refine yG_ (t := 3) (p := 110) (v := ?vo_w59) (w1 := (wc.setCell ⟨go57, (x9_2 : Int).toNat, none⟩ (.int .i64 (wrap64 ((rd (rd_L5 x7_2 (ji23)) (ji30)) + 1))))) ?hg ?ho ?hn ?hr ?_; (case ho => rfl); (case hg => rfl); (case hn => rfl); (case hr => (try obtain ⟨As_, cs_, rfl⟩ := Kd.yC_ HO372.out); first | (go_simp; done) | (go_simp; rfl)); intro w59 hw; have hg : wc.grownBy w59 (some go57) := (by rw [hw]; exact HP58.2); have hz_ : Kd.R (Kd.int .i64) 3 w59 w.heap.size oki58 (.slice (some ⟨go57, 0, none⟩) (rd_L5 x7_2 x8_1).length c376_0) y405 := (by rw [hw, Ny405.out]; exact HP58.1); have hp_ : Kd.S (Kd.slice 3 (Kd.int .i64)) 100 w59 w.heap.size (fun _ => True) (.slice (some ⟨go14, 0, none⟩) x7_2.length co14) y407 := (by rw [Ny407.out]; exact hbk58 hg (fun k_ e_ => by injection e_ with e_; subst e_; exact ge58_0.1 _ rfl) (Kd.M_row hz_)); have hm_ := Kd.R_mono hz_ hok58; clear HP58 hbk58; have n0_ := Aside0.mk (hp_); have n1_ := Aside0.mk ((by rw [hw]; exact yr_ (HB.out) GB57.out : Below w.heap.size w w59)); have n2_ := Aside0.mk (hm_); have n3_ := Aside0.mk ((Kd.yo_ hm_).2.1); clear HO_7; clear HB; clear HL374_0; clear HL376_0; clear HL400_0; clear HL402_0; clear HL404_0; have HO_7 := n0_; have HB := n1_; have HL445 := n2_; have HC406 := n3_; clear n0_ n1_ n2_ n3_; clear hg hw hp_ hz_ hm_ hok58)))
                               (try simp only [← hl7_2])
                               go_roundg kj19
                               case measure => have := HK1.out; have := HK2.out; have := HJ19.out; omega
                               case rel => exact ⟨(y407), (wrap64 (x9_2 - 1)), (by first | rfl | (simp; done) | (simp [*]; done)), H', ⟨by have := HK1.out; have := HK2.out; have := HJ19.out; omega⟩, ⟨by (try simp only [hl7_2]); (with_reducible repeat (first | apply Kd.yO_ | apply Kd.yN_ | apply Kd.S_drew)); exact HO_7.out⟩, ⟨by repeat (with_reducible first | exact HB.out | apply yc_ | apply ya_ | apply yb_)⟩⟩
                              ·rw [if_neg c56] at H
                               exact absurd H (by simp)
                             ·rw [if_neg c55] at H
                              have c55b0 : decide ((rd (rd_L5 x7_2 (ji23)) x9_2) < (wrap64 ((rd (rd_L5 x7_2 (ji23)) (ji30)) + 1))) = false := decide_eq_false c55
                              clear c55
                              by_cases c60 : x9_2 < ((rd_L5 x7_2 x8_1).length : Int)
                              ·rw [if_pos c60] at H
                               have c60b0 : decide (x9_2 < ((rd_L5 x7_2 x8_1).length : Int)) = true := decide_eq_true c60
                               clear c60
                               obtain ⟨y409, hy409⟩ : ∃ y_ : List Int, y_ = ((rd_L5 x7_2 x8_1).set (x9_2 : Int).toNat (rd (rd_L5 x7_2 (ji23)) x9_2)) := ⟨_, rfl⟩
                               replace H : (yd_.l1 kj19 l0 l1 (l0.length : Int) (l1.length : Int) (x7_2.set (x8_1 : Int).toNat y409) x8_1 (wrap64 (x9_2 - 1))) = some r := by first | (rw [hy409]; with_reducible exact H) | (have H2_ := (Option.bind_some _ _).symm.trans H; rw [hy409]; with_reducible exact H2_) | (have H2_ := (Option.bind_some _ _).symm.trans H; with_reducible exact H2_) | with_reducible exact H | (rw [hy409]; exact H) | exact H
                               have Ny409 := Aside0.mk hy409
                               clear hy409
                               obtain ⟨y411, hy411⟩ : ∃ y_ : List (List Int), y_ = (x7_2.set (x8_1 : Int).toNat y409) := ⟨_, rfl⟩
                               replace H : (yd_.l1 kj19 l0 l1 (l0.length : Int) (l1.length : Int) y411 x8_1 (wrap64 (x9_2 - 1))) = some r := by first | (rw [hy411]; with_reducible exact H) | (have H2_ := (Option.bind_some _ _).symm.trans H; rw [hy411]; with_reducible exact H2_) | (have H2_ := (Option.bind_some _ _).symm.trans H; with_reducible exact H2_) | with_reducible exact H | (rw [hy411]; exact H) | exact H
                               have Ny411 := Aside0.mk hy411
                               clear hy411
                               have H' := Aside0.mk H
                               clear H
                               have p374 : 0 ≤ ((ji23) : Int) := of_decide_eq_true (by assumption)
                               have q374 : (ji23) < (x7_2.length : Int) := of_decide_eq_true (by assumption)
                               obtain ⟨ad374, A374_0, c374_0, e374, hx374_0, hl374_0, hi374_0⟩ := at_L5 (Kd.yp_ HO_7.out).2.2 (ji23) p374 q374
                               obtain rfl : (⟨go14, 0, none⟩ : Addr) = ad374 := (by injection e374)
                               obtain ⟨ce374, hce374, hMe374, hcc374⟩ := Kd.S_get HO_7.out [] (ji23) p374 (by first | exact q374 | exact of_decide_eq_true (by assumption) | (have e_ := (Kd.yp_ HO_7.out).1; omega))
                               obtain ⟨ve374_0, rfl, ge374_0⟩ := hMe374
                               have hv374_0 := hcc374 0 _ rfl
                               rw [Nat.add_zero, show ((Kd.slice 3 (Kd.int .i64))).sz = 1 from rfl, Nat.mul_one] at hv374_0
                               replace hv374_0 := Option.some.inj (hv374_0.symm.trans hx374_0)
                               rw [hv374_0] at ge374_0
                               have HL374_0 := Aside0.mk (show Kd.R (Kd.int .i64) 3 _ _ _ _ (rd_L5 x7_2 (ji23)) from ge374_0)
                               clear hv374_0 ge374_0
                               have HX374_0 := Aside0.mk hx374_0
                               clear hcc374 hce374
                               (first | simp only [add_plain] at hx374_0 | simp only [add_at] at hx374_0 | simp only [Addr.add, Nat.zero_add] at hx374_0 | skip)
                               have HR374_0 := Aside0.mk hi374_0
                               have HC374_0 := Aside0.mk hl374_0
                               clear hi374_0 hl374_0
                               replace p374 := eq_true p374
                               replace q374 := eq_true q374
                               have p375 : 0 ≤ (x9_2 : Int) := of_decide_eq_true (by assumption)
                               have q375 : x9_2 < ((rd_L5 x7_2 (ji23)).length : Int) := of_decide_eq_true (by assumption)
                               obtain ⟨ad375, e375, hx375_0⟩ := Kd.at_int (by repeat (first | (with_reducible exact HR374_0.out) | (with_reducible refine Kd.yK_ ?_ _) | (with_reducible refine Kd.yR_ ?_ _) | (with_reducible refine Kd.C_drew ?_) | exact HR374_0.out)) x9_2 p375 q375
                               cases e375
                               replace p375 := eq_true p375
                               replace q375 := eq_true q375
                               have p376 : 0 ≤ (x8_1 : Int) := of_decide_eq_true (by assumption)
                               have q376 : x8_1 < (x7_2.length : Int) := of_decide_eq_true (by assumption)
                               obtain ⟨ad376, A376_0, c376_0, e376, hx376_0, hl376_0, hi376_0⟩ := at_L5 (Kd.yp_ HO_7.out).2.2 x8_1 p376 q376
                               obtain rfl : (⟨go14, 0, none⟩ : Addr) = ad376 := (by injection e376)
                               obtain ⟨ce376, hce376, hMe376, hcc376⟩ := Kd.S_get HO_7.out [] x8_1 p376 (by first | exact q376 | exact of_decide_eq_true (by assumption) | (have e_ := (Kd.yp_ HO_7.out).1; omega))
                               obtain ⟨ve376_0, rfl, ge376_0⟩ := hMe376
                               have hv376_0 := hcc376 0 _ rfl
                               rw [Nat.add_zero, show ((Kd.slice 3 (Kd.int .i64))).sz = 1 from rfl, Nat.mul_one] at hv376_0
                               replace hv376_0 := Option.some.inj (hv376_0.symm.trans hx376_0)
                               rw [hv376_0] at ge376_0
                               have HL376_0 := Aside0.mk (show Kd.R (Kd.int .i64) 3 _ _ _ _ (rd_L5 x7_2 x8_1) from ge376_0)
                               clear hv376_0 ge376_0
                               have HX376_0 := Aside0.mk hx376_0
                               clear hcc376 hce376
                               (first | simp only [add_plain] at hx376_0 | simp only [add_at] at hx376_0 | simp only [Addr.add, Nat.zero_add] at hx376_0 | skip)
                               have HR376_0 := Aside0.mk hi376_0
                               have HC376_0 := Aside0.mk hl376_0
                               clear hi376_0 hl376_0
                               replace p376 := eq_true p376
                               replace q376 := eq_true q376
                               have p377 : 0 ≤ ((ji30) : Int) := of_decide_eq_true (by assumption)
                               have q377 : (ji30) < ((rd_L5 x7_2 x8_1).length : Int) := of_decide_eq_true (by assumption)
                               obtain ⟨ad377, e377, hx377_0⟩ := Kd.at_int (by repeat (first | (with_reducible exact HR376_0.out) | (with_reducible refine Kd.yK_ ?_ _) | (with_reducible refine Kd.yR_ ?_ _) | (with_reducible refine Kd.C_drew ?_) | exact HR376_0.out)) (ji30) p377 q377
                               cases e377
                               replace p377 := eq_true p377
                               replace q377 := eq_true q377
                               have p398 : 0 ≤ (x8_1 : Int) := of_decide_eq_true (by assumption)
                               have q398 : x8_1 < (l0.length : Int) := of_decide_eq_true (by assumption)
                               obtain ⟨ad398, e398, hx398_0⟩ := Kd.yL_ HR0.out x8_1 p398 q398
                               cases e398
                               replace hx398_0 := (HB.out.cell (World.block_lt_of_cell? w _ hx398_0)).trans hx398_0
                               replace p398 := eq_true p398
                               replace q398 := eq_true q398
                               have p399 : 0 ≤ (x9_2 : Int) := of_decide_eq_true (by assumption)
                               have q399 : x9_2 < (l1.length : Int) := of_decide_eq_true (by assumption)
                               obtain ⟨ad399, e399, hx399_0⟩ := Kd.yL_ HR1.out x9_2 p399 q399
                               cases e399
                               replace hx399_0 := (HB.out.cell (World.block_lt_of_cell? w _ hx399_0)).trans hx399_0
                               replace p399 := eq_true p399
                               replace q399 := eq_true q399
                               have p400 : 0 ≤ ((ji23) : Int) := of_decide_eq_true (by assumption)
                               have q400 : (ji23) < (x7_2.length : Int) := of_decide_eq_true (by assumption)
                               obtain ⟨ad400, A400_0, c400_0, e400, hx400_0, hl400_0, hi400_0⟩ := at_L5 (Kd.yp_ HO_7.out).2.2 (ji23) p400 q400
                               obtain rfl : (⟨go14, 0, none⟩ : Addr) = ad400 := (by injection e400)
                               obtain ⟨ce400, hce400, hMe400, hcc400⟩ := Kd.S_get HO_7.out [] (ji23) p400 (by first | exact q400 | exact of_decide_eq_true (by assumption) | (have e_ := (Kd.yp_ HO_7.out).1; omega))
                               obtain ⟨ve400_0, rfl, ge400_0⟩ := hMe400
                               have hv400_0 := hcc400 0 _ rfl
                               rw [Nat.add_zero, show ((Kd.slice 3 (Kd.int .i64))).sz = 1 from rfl, Nat.mul_one] at hv400_0
                               replace hv400_0 := Option.some.inj (hv400_0.symm.trans hx400_0)
                               rw [hv400_0] at ge400_0
                               have HL400_0 := Aside0.mk (show Kd.R (Kd.int .i64) 3 _ _ _ _ (rd_L5 x7_2 (ji23)) from ge400_0)
                               clear hv400_0 ge400_0
                               have HX400_0 := Aside0.mk hx400_0
                               clear hcc400 hce400
                               (first | simp only [add_plain] at hx400_0 | simp only [add_at] at hx400_0 | simp only [Addr.add, Nat.zero_add] at hx400_0 | skip)
                               have HR400_0 := Aside0.mk hi400_0
                               have HC400_0 := Aside0.mk hl400_0
                               clear hi400_0 hl400_0
                               replace p400 := eq_true p400
                               replace q400 := eq_true q400
                               have ea_ := Option.some.inj (hx374_0.symm.trans hx400_0)
                               injection ea_ with ea_ en_ ec_
                               subst ea_
                               subst ec_
                               clear en_
                               have p401 : 0 ≤ ((ji30) : Int) := of_decide_eq_true (by assumption)
                               have q401 : (ji30) < ((rd_L5 x7_2 (ji23)).length : Int) := of_decide_eq_true (by assumption)
                               obtain ⟨ad401, e401, hx401_0⟩ := Kd.at_int (by repeat (first | (with_reducible exact HR400_0.out) | (with_reducible refine Kd.yK_ ?_ _) | (with_reducible refine Kd.yR_ ?_ _) | (with_reducible refine Kd.C_drew ?_) | exact HR400_0.out)) (ji30) p401 q401
                               cases e401
                               replace p401 := eq_true p401
                               replace q401 := eq_true q401
                               have p408 : 0 ≤ (x8_1 : Int) := of_decide_eq_true (by assumption)
                               have q408 : x8_1 < (x7_2.length : Int) := of_decide_eq_true (by assumption)
                               obtain ⟨ad408, A408_0, c408_0, e408, hx408_0, hl408_0, hi408_0⟩ := at_L5 (Kd.yp_ HO_7.out).2.2 x8_1 p408 q408
                               obtain rfl : (⟨go14, 0, none⟩ : Addr) = ad408 := (by injection e408)
                               obtain ⟨ce408, hce408, hMe408, hcc408⟩ := Kd.S_get HO_7.out [] x8_1 p408 (by first | exact q408 | exact of_decide_eq_true (by assumption) | (have e_ := (Kd.yp_ HO_7.out).1; omega))
                               obtain ⟨ve408_0, rfl, ge408_0⟩ := hMe408
                               have hv408_0 := hcc408 0 _ rfl
                               rw [Nat.add_zero, show ((Kd.slice 3 (Kd.int .i64))).sz = 1 from rfl, Nat.mul_one] at hv408_0
                               replace hv408_0 := Option.some.inj (hv408_0.symm.trans hx408_0)
                               rw [hv408_0] at ge408_0
                               have HL408_0 := Aside0.mk (show Kd.R (Kd.int .i64) 3 _ _ _ _ (rd_L5 x7_2 x8_1) from ge408_0)
                               clear hv408_0 ge408_0
                               have HX408_0 := Aside0.mk hx408_0
                               clear hcc408 hce408
                               (first | simp only [add_plain] at hx408_0 | simp only [add_at] at hx408_0 | simp only [Addr.add, Nat.zero_add] at hx408_0 | skip)
                               have HR408_0 := Aside0.mk hi408_0
                               have HC408_0 := Aside0.mk hl408_0
                               clear hi408_0 hl408_0
                               replace p408 := eq_true p408
                               replace q408 := eq_true q408
                               have ea_ := Option.some.inj (hx376_0.symm.trans hx408_0)
                               injection ea_ with ea_ en_ ec_
                               subst ea_
                               subst ec_
                               clear en_
                               have p61 : 0 ≤ (x9_2 : Int) := of_decide_eq_true (by assumption)
                               have q61 : (x9_2 : Int) < (((rd_L5 x7_2 x8_1).length : Int) : Int) := of_decide_eq_true (by assumption)
                               obtain ⟨go61, co61, eo61, gb61, gl61, cl61, HG61⟩ := Kd.R_form HL408_0.out (by omega)
                               (first | cases eo61 | (injection eo61 with ea_ en_ ec_; (first | subst ea_ | (injection ea_ with ea_; subst ea_)); subst ec_; clear en_))
                               have GB61 := Aside0.mk gb61
                               have GG61 := Aside0.mk HG61
                               clear gb61 gl61 HG61
                               (first | simp only [add_plain] at hx377_0 | skip)
                               obtain ⟨hx61_0, hf61_0⟩ := Kd.yab_ 0 HL408_0.out (x9_2 : Int) p61 q61
                               replace p61 := eq_true p61
                               replace q61 := eq_true q61
                               have hq62 : (x8_1 : Int) < (x7_2.length : Int) := (by have h_ : (x8_1 : Int) < ((x7_2.length : Int) : Int) := of_decide_eq_true (by assumption); first | exact h_ | (have e_ := (Kd.yp_ HO_7.out).1; omega) | simpa only [List.length_set, List.length_set] using h_)
                               obtain ⟨oki62, ce62, hcl62, hM62, hcc62, hok62, hbk62⟩ := Kd.y7_ HO_7.out [] (x8_1 : Int) (of_decide_eq_true (by assumption)) hq62
                               obtain ⟨ve62_0, rfl, ge62_0⟩ := hM62
                               have hv62 := hcc62 0 _ rfl
                               rw [Nat.add_zero, show ((Kd.slice 3 (Kd.int .i64))).sz = 1 from rfl, Nat.mul_one] at hv62
                               replace hv62 := Option.some.inj (hv62.symm.trans HX408_0.out)
                               subst hv62
                               clear hcc62 hcl62
                               replace ge62_0 := (show Kd.R (Kd.int .i64) 3 _ _ _ _ (rd_L5 x7_2 x8_1) from ge62_0)
                               have HP62 := Kd.R_putg ge62_0 (x9_2 : Int) (rd (rd_L5 x7_2 (ji23)) x9_2)
                               go_wp2_with (first | ((with_reducible refine yQ_ (t := 3) (p := 110) rfl ?_); (try (rw [yX_ wc]; generalize hq_ : World.drewN wc _ = wc; have n0_ := Aside0.mk (Kd.S_at hq_ HO_7.out); have nX_ := Aside0.mk (yrb_ hq_ HX408_0.out); have n2_ := Aside0.mk (ybb_ hq_ HB.out); clear hq_ HO_7 HB HX408_0; have HO_7 := n0_; have HX408_0 := nX_; have HB := n2_; clear n0_ nX_ n2_; (try (have hq62 : (x8_1 : Int) < (x7_2.length : Int) := (by have h_ : (x8_1 : Int) < ((x7_2.length : Int) : Int) := of_decide_eq_true (by assumption); first | exact h_ | (have e_ := (Kd.yp_ HO_7.out).1; omega) | simpa only [List.length_set, List.length_set] using h_))); (try (obtain ⟨oki62, ce62, hcl62, hM62, hcc62, hok62, hbk62⟩ := Kd.y7_ HO_7.out [] (x8_1 : Int) (of_decide_eq_true (by assumption)) hq62)); (try (obtain ⟨ve62_0, rfl, ge62_0⟩ := hM62)); (try (have hv62 := hcc62 0 _ rfl)); (try (rw [Nat.add_zero, show ((Kd.slice 3 (Kd.int .i64))).sz = 1 from rfl, Nat.mul_one] at hv62)); (try (replace hv62 := Option.some.inj (hv62.symm.trans HX408_0.out))); (try (subst hv62)); (try (clear hcc62 hcl62)); (try (replace ge62_0 := (show Kd.R (Kd.int .i64) 3 _ _ _ _ (rd_L5 x7_2 x8_1) from ge62_0))); (try (have HP62 := Kd.R_putg ge62_0 (x9_2 : Int) (rd (rd_L5 x7_2 (ji23)) x9_2))); (try (obtain ⟨hx61_0, hf61_0⟩ := Kd.yab_ 0 ge62_0 (x9_2 : Int) (of_eq_true p61) (of_eq_true q61))))); refine yG_ (t := 3) (p := 110) (v := ?vo_w63) (w1 := (wc.setCell ⟨go61, (x9_2 : Int).toNat, none⟩ (.int .i64 (rd (rd_L5 x7_2 (ji23)) x9_2)))) ?hg ?ho ?hn ?hr ?_; (case ho => rfl); (case hg => rfl); (case hn => rfl); (case hr => (try obtain ⟨As_, cs_, rfl⟩ := Kd.yC_ HO372.out); first | (go_simp; done) | (go_simp; rfl)); intro w63 hw; have hg : wc.grownBy w63 (some go61) := (by rw [hw]; exact HP62.2); have hz_ : Kd.R (Kd.int .i64) 3 w63 w.heap.size oki62 (.slice (some ⟨go61, 0, none⟩) (rd_L5 x7_2 x8_1).length c376_0) y409 := (by rw [hw, Ny409.out]; exact HP62.1); have hp_ : Kd.S (Kd.slice 3 (Kd.int .i64)) 100 w63 w.heap.size (fun _ => True) (.slice (some ⟨go14, 0, none⟩) x7_2.length co14) y411 := (by rw [Ny411.out]; exact hbk62 hg (fun k_ e_ => by injection e_ with e_; subst e_; exact ge62_0.1 _ rfl) (Kd.M_row hz_)); have hm_ := Kd.R_mono hz_ hok62; clear HP62 hbk62; have n0_ := Aside0.mk (hp_); have n1_ := Aside0.mk ((by rw [hw]; exact yr_ (HB.out) GB61.out : Below w.heap.size w w63)); have n2_ := Aside0.mk (hm_); have n3_ := Aside0.mk ((Kd.yo_ hm_).2.1); clear HO_7; clear HB; clear HL374_0; clear HL376_0; clear HL400_0; clear HL408_0; have HO_7 := n0_; have HB := n1_; have HL446 := n2_; have HC410 := n3_; clear n0_ n1_ n2_ n3_; clear hg hw hp_ hz_ hm_ hok62))
                               repeat (go_quiet (first | ((with_reducible refine yQ_ (t := 3) (p := 110) rfl ?_); (try (rw [yX_ wc]; generalize hq_ : World.drewN wc _ = wc; have n0_ := Aside0.mk (Kd.S_at hq_ HO_7.out); have nX_ := Aside0.mk (yrb_ hq_ HX408_0.out); have n2_ := Aside0.mk (ybb_ hq_ HB.out); clear hq_ HO_7 HB HX408_0; have HO_7 := n0_; have HX408_0 := nX_; have HB := n2_; clear n0_ nX_ n2_; (try (have hq62 : (x8_1 : Int) < (x7_2.length : Int) := (by have h_ : (x8_1 : Int) < ((x7_2.length : Int) : Int) := of_decide_eq_true (by assumption); first | exact h_ | (have e_ := (Kd.yp_ HO_7.out).1; omega) | simpa only [List.length_set, List.length_set] using h_))); (try (obtain ⟨oki62, ce62, hcl62, hM62, hcc62, hok62, hbk62⟩ := Kd.y7_ HO_7.out [] (x8_1 : Int) (of_decide_eq_true (by assumption)) hq62)); (try (obtain ⟨ve62_0, rfl, ge62_0⟩ := hM62)); (try (have hv62 := hcc62 0 _ rfl)); (try (rw [Nat.add_zero, show ((Kd.slice 3 (Kd.int .i64))).sz = 1 from rfl, Nat.mul_one] at hv62)); (try (replace hv62 := Option.some.inj (hv62.symm.trans HX408_0.out))); (try (subst hv62)); (try (clear hcc62 hcl62)); (try (replace ge62_0 := (show Kd.R (Kd.int .i64) 3 _ _ _ _ (rd_L5 x7_2 x8_1) from ge62_0))); (try (have HP62 := Kd.R_putg ge62_0 (x9_2 : Int) (rd (rd_L5 x7_2 (ji23)) x9_2))); (try (obtain ⟨hx61_0, hf61_0⟩ := Kd.yab_ 0 ge62_0 (x9_2 : Int) (of_eq_true p61) (of_eq_true q61))))); refine yG_ (t := 3) (p := 110) (v := ?vo_w63) (w1 := (wc.setCell ⟨go61, (x9_2 : Int).toNat, none⟩ (.int .i64 (rd (rd_L5 x7_2 (ji23)) x9_2)))) ?hg ?ho ?hn ?hr ?_; (case ho => rfl); (case hg => rfl); (case hn => rfl); (case hr => (try obtain ⟨As_, cs_, rfl⟩ := Kd.yC_ HO372.out); first | (go_simp; done) | (go_simp; rfl)); intro w63 hw; have hg : wc.grownBy w63 (some go61) := (by rw [hw]; exact HP62.2); have hz_ : Kd.R (Kd.int .i64) 3 w63 w.heap.size oki62 (.slice (some ⟨go61, 0, none⟩) (rd_L5 x7_2 x8_1).length c376_0) y409 := (by rw [hw, Ny409.out]; exact HP62.1); have hp_ : Kd.S (Kd.slice 3 (Kd.int .i64)) 100 w63 w.heap.size (fun _ => True) (.slice (some ⟨go14, 0, none⟩) x7_2.length co14) y411 := (by rw [Ny411.out]; exact hbk62 hg (fun k_ e_ => by injection e_ with e_; subst e_; exact ge62_0.1 _ rfl) (Kd.M_row hz_)); have hm_ := Kd.R_mono hz_ hok62; clear HP62 hbk62; have n0_ := Aside0.mk (hp_); have n1_ := Aside0.mk ((by rw [hw]; exact yr_ (HB.out) GB61.out : Below w.heap.size w w63)); have n2_ := Aside0.mk (hm_); have n3_ := Aside0.mk ((Kd.yo_ hm_).2.1); clear HO_7; clear HB; clear HL374_0; clear HL376_0; clear HL400_0; clear HL408_0; have HO_7 := n0_; have HB := n1_; have HL446 := n2_; have HC410 := n3_; clear n0_ n1_ n2_ n3_; clear hg hw hp_ hz_ hm_ hok62)); try go_wp2_with (first | ((with_reducible refine yQ_ (t := 3) (p := 110) rfl ?_); (try (rw [yX_ wc]; generalize hq_ : World.drewN wc _ = wc; have n0_ := Aside0.mk (Kd.S_at hq_ HO_7.out); have nX_ := Aside0.mk (yrb_ hq_ HX408_0.out); have n2_ := Aside0.mk (ybb_ hq_ HB.out); clear hq_ HO_7 HB HX408_0; have HO_7 := n0_; have HX408_0 := nX_; have HB := n2_; clear n0_ nX_ n2_; (try (have hq62 : (x8_1 : Int) < (x7_2.length : Int) := (by have h_ : (x8_1 : Int) < ((x7_2.length : Int) : Int) := of_decide_eq_true (by assumption); first | exact h_ | (have e_ := (Kd.yp_ HO_7.out).1; omega) | simpa only [List.length_set, List.length_set] using h_))); (try (obtain ⟨oki62, ce62, hcl62, hM62, hcc62, hok62, hbk62⟩ := Kd.y7_ HO_7.out [] (x8_1 : Int) (of_decide_eq_true (by assumption)) hq62)); (try (obtain ⟨ve62_0, rfl, ge62_0⟩ := hM62)); (try (have hv62 := hcc62 0 _ rfl)); (try (rw [Nat.add_zero, show ((Kd.slice 3 (Kd.int .i64))).sz = 1 from rfl, Nat.mul_one] at hv62)); (try (replace hv62 := Option.some.inj (hv62.symm.trans HX408_0.out))); (try (subst hv62)); (try (clear hcc62 hcl62)); (try (replace ge62_0 := (show Kd.R (Kd.int .i64) 3 _ _ _ _ (rd_L5 x7_2 x8_1) from ge62_0))); (try (have HP62 := Kd.R_putg ge62_0 (x9_2 : Int) (rd (rd_L5 x7_2 (ji23)) x9_2))); (try (obtain ⟨hx61_0, hf61_0⟩ := Kd.yab_ 0 ge62_0 (x9_2 : Int) (of_eq_true p61) (of_eq_true q61))))); refine yG_ (t := 3) (p := 110) (v := ?vo_w63) (w1 := (wc.setCell ⟨go61, (x9_2 : Int).toNat, none⟩ (.int .i64 (rd (rd_L5 x7_2 (ji23)) x9_2)))) ?hg ?ho ?hn ?hr ?_; (case ho => rfl); (case hg => rfl); (case hn => rfl); (case hr => (try obtain ⟨As_, cs_, rfl⟩ := Kd.yC_ HO372.out); first | (go_simp; done) | (go_simp; rfl)); intro w63 hw; have hg : wc.grownBy w63 (some go61) := (by rw [hw]; exact HP62.2); have hz_ : Kd.R (Kd.int .i64) 3 w63 w.heap.size oki62 (.slice (some ⟨go61, 0, none⟩) (rd_L5 x7_2 x8_1).length c376_0) y409 := (by rw [hw, Ny409.out]; exact HP62.1); have hp_ : Kd.S (Kd.slice 3 (Kd.int .i64)) 100 w63 w.heap.size (fun _ => True) (.slice (some ⟨go14, 0, none⟩) x7_2.length co14) y411 := (by rw [Ny411.out]; exact hbk62 hg (fun k_ e_ => by injection e_ with e_; subst e_; exact ge62_0.1 _ rfl) (Kd.M_row hz_)); have hm_ := Kd.R_mono hz_ hok62; clear HP62 hbk62; have n0_ := Aside0.mk (hp_); have n1_ := Aside0.mk ((by rw [hw]; exact yr_ (HB.out) GB61.out : Below w.heap.size w w63)); have n2_ := Aside0.mk (hm_); have n3_ := Aside0.mk ((Kd.yo_ hm_).2.1); clear HO_7; clear HB; clear HL374_0; clear HL376_0; clear HL400_0; clear HL408_0; have HO_7 := n0_; have HB := n1_; have HL446 := n2_; have HC410 := n3_; clear n0_ n1_ n2_ n3_; clear hg hw hp_ hz_ hm_ hok62)))
                               (try simp only [← hl7_2])
                               go_roundg kj19
                               case measure => have := HK1.out; have := HK2.out; have := HJ19.out; omega
                               case rel => exact ⟨(y411), (wrap64 (x9_2 - 1)), (by first | rfl | (simp; done) | (simp [*]; done)), H', ⟨by have := HK1.out; have := HK2.out; have := HJ19.out; omega⟩, ⟨by (try simp only [hl7_2]); (with_reducible repeat (first | apply Kd.yO_ | apply Kd.yN_ | apply Kd.S_drew)); exact HO_7.out⟩, ⟨by repeat (with_reducible first | exact HB.out | apply yc_ | apply ya_ | apply yb_)⟩⟩
                              ·rw [if_neg c60] at H
                               exact absurd H (by simp)
                            ·rw [if_neg c54] at H
                             exact absurd H (by simp)
                           ·rw [if_neg c53] at H
                            have c53b0 : ((rdOf ByteArray.empty l0 x8_1).toList == (rdOf ByteArray.empty l1 x9_2).toList) = false := beq_eq_false_iff_ne.mpr c53
                            have c53b1 : ((rdOf ByteArray.empty l0 x8_1).toList != (rdOf ByteArray.empty l1 x9_2).toList) = true := bne_iff_ne.mpr c53
                            by_cases c64 : x9_2 < ((rd_L5 x7_2 x8_1).length : Int)
                            ·rw [if_pos c64] at H
                             have c64b0 : decide (x9_2 < ((rd_L5 x7_2 x8_1).length : Int)) = true := decide_eq_true c64
                             clear c64
                             obtain ⟨y413, hy413⟩ : ∃ y_ : List Int, y_ = ((rd_L5 x7_2 x8_1).set (x9_2 : Int).toNat (rd (rd_L5 x7_2 (ji23)) x9_2)) := ⟨_, rfl⟩
                             replace H : (yd_.l1 kj19 l0 l1 (l0.length : Int) (l1.length : Int) (x7_2.set (x8_1 : Int).toNat y413) x8_1 (wrap64 (x9_2 - 1))) = some r := by first | (rw [hy413]; with_reducible exact H) | (have H2_ := (Option.bind_some _ _).symm.trans H; rw [hy413]; with_reducible exact H2_) | (have H2_ := (Option.bind_some _ _).symm.trans H; with_reducible exact H2_) | with_reducible exact H | (rw [hy413]; exact H) | exact H
                             have Ny413 := Aside0.mk hy413
                             clear hy413
                             obtain ⟨y415, hy415⟩ : ∃ y_ : List (List Int), y_ = (x7_2.set (x8_1 : Int).toNat y413) := ⟨_, rfl⟩
                             replace H : (yd_.l1 kj19 l0 l1 (l0.length : Int) (l1.length : Int) y415 x8_1 (wrap64 (x9_2 - 1))) = some r := by first | (rw [hy415]; with_reducible exact H) | (have H2_ := (Option.bind_some _ _).symm.trans H; rw [hy415]; with_reducible exact H2_) | (have H2_ := (Option.bind_some _ _).symm.trans H; with_reducible exact H2_) | with_reducible exact H | (rw [hy415]; exact H) | exact H
                             have Ny415 := Aside0.mk hy415
                             clear hy415
                             have H' := Aside0.mk H
                             clear H
                             have p374 : 0 ≤ ((ji23) : Int) := of_decide_eq_true (by assumption)
                             have q374 : (ji23) < (x7_2.length : Int) := of_decide_eq_true (by assumption)
                             obtain ⟨ad374, A374_0, c374_0, e374, hx374_0, hl374_0, hi374_0⟩ := at_L5 (Kd.yp_ HO_7.out).2.2 (ji23) p374 q374
                             obtain rfl : (⟨go14, 0, none⟩ : Addr) = ad374 := (by injection e374)
                             obtain ⟨ce374, hce374, hMe374, hcc374⟩ := Kd.S_get HO_7.out [] (ji23) p374 (by first | exact q374 | exact of_decide_eq_true (by assumption) | (have e_ := (Kd.yp_ HO_7.out).1; omega))
                             obtain ⟨ve374_0, rfl, ge374_0⟩ := hMe374
                             have hv374_0 := hcc374 0 _ rfl
                             rw [Nat.add_zero, show ((Kd.slice 3 (Kd.int .i64))).sz = 1 from rfl, Nat.mul_one] at hv374_0
                             replace hv374_0 := Option.some.inj (hv374_0.symm.trans hx374_0)
                             rw [hv374_0] at ge374_0
                             have HL374_0 := Aside0.mk (show Kd.R (Kd.int .i64) 3 _ _ _ _ (rd_L5 x7_2 (ji23)) from ge374_0)
                             clear hv374_0 ge374_0
                             have HX374_0 := Aside0.mk hx374_0
                             clear hcc374 hce374
                             (first | simp only [add_plain] at hx374_0 | simp only [add_at] at hx374_0 | simp only [Addr.add, Nat.zero_add] at hx374_0 | skip)
                             have HR374_0 := Aside0.mk hi374_0
                             have HC374_0 := Aside0.mk hl374_0
                             clear hi374_0 hl374_0
                             replace p374 := eq_true p374
                             replace q374 := eq_true q374
                             have p375 : 0 ≤ (x9_2 : Int) := of_decide_eq_true (by assumption)
                             have q375 : x9_2 < ((rd_L5 x7_2 (ji23)).length : Int) := of_decide_eq_true (by assumption)
                             obtain ⟨ad375, e375, hx375_0⟩ := Kd.at_int (by repeat (first | (with_reducible exact HR374_0.out) | (with_reducible refine Kd.yK_ ?_ _) | (with_reducible refine Kd.yR_ ?_ _) | (with_reducible refine Kd.C_drew ?_) | exact HR374_0.out)) x9_2 p375 q375
                             cases e375
                             replace p375 := eq_true p375
                             replace q375 := eq_true q375
                             have p376 : 0 ≤ (x8_1 : Int) := of_decide_eq_true (by assumption)
                             have q376 : x8_1 < (x7_2.length : Int) := of_decide_eq_true (by assumption)
                             obtain ⟨ad376, A376_0, c376_0, e376, hx376_0, hl376_0, hi376_0⟩ := at_L5 (Kd.yp_ HO_7.out).2.2 x8_1 p376 q376
                             obtain rfl : (⟨go14, 0, none⟩ : Addr) = ad376 := (by injection e376)
                             obtain ⟨ce376, hce376, hMe376, hcc376⟩ := Kd.S_get HO_7.out [] x8_1 p376 (by first | exact q376 | exact of_decide_eq_true (by assumption) | (have e_ := (Kd.yp_ HO_7.out).1; omega))
                             obtain ⟨ve376_0, rfl, ge376_0⟩ := hMe376
                             have hv376_0 := hcc376 0 _ rfl
                             rw [Nat.add_zero, show ((Kd.slice 3 (Kd.int .i64))).sz = 1 from rfl, Nat.mul_one] at hv376_0
                             replace hv376_0 := Option.some.inj (hv376_0.symm.trans hx376_0)
                             rw [hv376_0] at ge376_0
                             have HL376_0 := Aside0.mk (show Kd.R (Kd.int .i64) 3 _ _ _ _ (rd_L5 x7_2 x8_1) from ge376_0)
                             clear hv376_0 ge376_0
                             have HX376_0 := Aside0.mk hx376_0
                             clear hcc376 hce376
                             (first | simp only [add_plain] at hx376_0 | simp only [add_at] at hx376_0 | simp only [Addr.add, Nat.zero_add] at hx376_0 | skip)
                             have HR376_0 := Aside0.mk hi376_0
                             have HC376_0 := Aside0.mk hl376_0
                             clear hi376_0 hl376_0
                             replace p376 := eq_true p376
                             replace q376 := eq_true q376
                             have p377 : 0 ≤ ((ji30) : Int) := of_decide_eq_true (by assumption)
                             have q377 : (ji30) < ((rd_L5 x7_2 x8_1).length : Int) := of_decide_eq_true (by assumption)
                             obtain ⟨ad377, e377, hx377_0⟩ := Kd.at_int (by repeat (first | (with_reducible exact HR376_0.out) | (with_reducible refine Kd.yK_ ?_ _) | (with_reducible refine Kd.yR_ ?_ _) | (with_reducible refine Kd.C_drew ?_) | exact HR376_0.out)) (ji30) p377 q377
                             cases e377
                             replace p377 := eq_true p377
                             replace q377 := eq_true q377
                             have p398 : 0 ≤ (x8_1 : Int) := of_decide_eq_true (by assumption)
                             have q398 : x8_1 < (l0.length : Int) := of_decide_eq_true (by assumption)
                             obtain ⟨ad398, e398, hx398_0⟩ := Kd.yL_ HR0.out x8_1 p398 q398
                             cases e398
                             replace hx398_0 := (HB.out.cell (World.block_lt_of_cell? w _ hx398_0)).trans hx398_0
                             replace p398 := eq_true p398
                             replace q398 := eq_true q398
                             have p399 : 0 ≤ (x9_2 : Int) := of_decide_eq_true (by assumption)
                             have q399 : x9_2 < (l1.length : Int) := of_decide_eq_true (by assumption)
                             obtain ⟨ad399, e399, hx399_0⟩ := Kd.yL_ HR1.out x9_2 p399 q399
                             cases e399
                             replace hx399_0 := (HB.out.cell (World.block_lt_of_cell? w _ hx399_0)).trans hx399_0
                             replace p399 := eq_true p399
                             replace q399 := eq_true q399
                             have p412 : 0 ≤ (x8_1 : Int) := of_decide_eq_true (by assumption)
                             have q412 : x8_1 < (x7_2.length : Int) := of_decide_eq_true (by assumption)
                             obtain ⟨ad412, A412_0, c412_0, e412, hx412_0, hl412_0, hi412_0⟩ := at_L5 (Kd.yp_ HO_7.out).2.2 x8_1 p412 q412
                             obtain rfl : (⟨go14, 0, none⟩ : Addr) = ad412 := (by injection e412)
                             obtain ⟨ce412, hce412, hMe412, hcc412⟩ := Kd.S_get HO_7.out [] x8_1 p412 (by first | exact q412 | exact of_decide_eq_true (by assumption) | (have e_ := (Kd.yp_ HO_7.out).1; omega))
                             obtain ⟨ve412_0, rfl, ge412_0⟩ := hMe412
                             have hv412_0 := hcc412 0 _ rfl
                             rw [Nat.add_zero, show ((Kd.slice 3 (Kd.int .i64))).sz = 1 from rfl, Nat.mul_one] at hv412_0
                             replace hv412_0 := Option.some.inj (hv412_0.symm.trans hx412_0)
                             rw [hv412_0] at ge412_0
                             have HL412_0 := Aside0.mk (show Kd.R (Kd.int .i64) 3 _ _ _ _ (rd_L5 x7_2 x8_1) from ge412_0)
                             clear hv412_0 ge412_0
                             have HX412_0 := Aside0.mk hx412_0
                             clear hcc412 hce412
                             (first | simp only [add_plain] at hx412_0 | simp only [add_at] at hx412_0 | simp only [Addr.add, Nat.zero_add] at hx412_0 | skip)
                             have HR412_0 := Aside0.mk hi412_0
                             have HC412_0 := Aside0.mk hl412_0
                             clear hi412_0 hl412_0
                             replace p412 := eq_true p412
                             replace q412 := eq_true q412
                             have ea_ := Option.some.inj (hx376_0.symm.trans hx412_0)
                             injection ea_ with ea_ en_ ec_
                             subst ea_
                             subst ec_
                             clear en_
                             have p65 : 0 ≤ (x9_2 : Int) := of_decide_eq_true (by assumption)
                             have q65 : (x9_2 : Int) < (((rd_L5 x7_2 x8_1).length : Int) : Int) := of_decide_eq_true (by assumption)
                             obtain ⟨go65, co65, eo65, gb65, gl65, cl65, HG65⟩ := Kd.R_form HL412_0.out (by omega)
                             (first | cases eo65 | (injection eo65 with ea_ en_ ec_; (first | subst ea_ | (injection ea_ with ea_; subst ea_)); subst ec_; clear en_))
                             have GB65 := Aside0.mk gb65
                             have GG65 := Aside0.mk HG65
                             clear gb65 gl65 HG65
                             (first | simp only [add_plain] at hx377_0 | skip)
                             obtain ⟨hx65_0, hf65_0⟩ := Kd.yab_ 0 HL412_0.out (x9_2 : Int) p65 q65
                             replace p65 := eq_true p65
                             replace q65 := eq_true q65
                             have hq66 : (x8_1 : Int) < (x7_2.length : Int) := (by have h_ : (x8_1 : Int) < ((x7_2.length : Int) : Int) := of_decide_eq_true (by assumption); first | exact h_ | (have e_ := (Kd.yp_ HO_7.out).1; omega) | simpa only [List.length_set, List.length_set] using h_)
                             obtain ⟨oki66, ce66, hcl66, hM66, hcc66, hok66, hbk66⟩ := Kd.y7_ HO_7.out [] (x8_1 : Int) (of_decide_eq_true (by assumption)) hq66
                             obtain ⟨ve66_0, rfl, ge66_0⟩ := hM66
                             have hv66 := hcc66 0 _ rfl
                             rw [Nat.add_zero, show ((Kd.slice 3 (Kd.int .i64))).sz = 1 from rfl, Nat.mul_one] at hv66
                             replace hv66 := Option.some.inj (hv66.symm.trans HX412_0.out)
                             subst hv66
                             clear hcc66 hcl66
                             replace ge66_0 := (show Kd.R (Kd.int .i64) 3 _ _ _ _ (rd_L5 x7_2 x8_1) from ge66_0)
                             have HP66 := Kd.R_putg ge66_0 (x9_2 : Int) (rd (rd_L5 x7_2 (ji23)) x9_2)
                             go_wp2_with (first | ((with_reducible refine yQ_ (t := 3) (p := 110) rfl ?_); (try (rw [yX_ wc]; generalize hq_ : World.drewN wc _ = wc; have n0_ := Aside0.mk (Kd.S_at hq_ HO_7.out); have nX_ := Aside0.mk (yrb_ hq_ HX412_0.out); have n2_ := Aside0.mk (ybb_ hq_ HB.out); clear hq_ HO_7 HB HX412_0; have HO_7 := n0_; have HX412_0 := nX_; have HB := n2_; clear n0_ nX_ n2_; (try (have hq66 : (x8_1 : Int) < (x7_2.length : Int) := (by have h_ : (x8_1 : Int) < ((x7_2.length : Int) : Int) := of_decide_eq_true (by assumption); first | exact h_ | (have e_ := (Kd.yp_ HO_7.out).1; omega) | simpa only [List.length_set, List.length_set] using h_))); (try (obtain ⟨oki66, ce66, hcl66, hM66, hcc66, hok66, hbk66⟩ := Kd.y7_ HO_7.out [] (x8_1 : Int) (of_decide_eq_true (by assumption)) hq66)); (try (obtain ⟨ve66_0, rfl, ge66_0⟩ := hM66)); (try (have hv66 := hcc66 0 _ rfl)); (try (rw [Nat.add_zero, show ((Kd.slice 3 (Kd.int .i64))).sz = 1 from rfl, Nat.mul_one] at hv66)); (try (replace hv66 := Option.some.inj (hv66.symm.trans HX412_0.out))); (try (subst hv66)); (try (clear hcc66 hcl66)); (try (replace ge66_0 := (show Kd.R (Kd.int .i64) 3 _ _ _ _ (rd_L5 x7_2 x8_1) from ge66_0))); (try (have HP66 := Kd.R_putg ge66_0 (x9_2 : Int) (rd (rd_L5 x7_2 (ji23)) x9_2))); (try (obtain ⟨hx65_0, hf65_0⟩ := Kd.yab_ 0 ge66_0 (x9_2 : Int) (of_eq_true p65) (of_eq_true q65))))); refine yG_ (t := 3) (p := 110) (v := ?vo_w67) (w1 := (wc.setCell ⟨go65, (x9_2 : Int).toNat, none⟩ (.int .i64 (rd (rd_L5 x7_2 (ji23)) x9_2)))) ?hg ?ho ?hn ?hr ?_; (case ho => rfl); (case hg => rfl); (case hn => rfl); (case hr => (try obtain ⟨As_, cs_, rfl⟩ := Kd.yC_ HO372.out); first | (go_simp; done) | (go_simp; rfl)); intro w67 hw; have hg : wc.grownBy w67 (some go65) := (by rw [hw]; exact HP66.2); have hz_ : Kd.R (Kd.int .i64) 3 w67 w.heap.size oki66 (.slice (some ⟨go65, 0, none⟩) (rd_L5 x7_2 x8_1).length c376_0) y413 := (by rw [hw, Ny413.out]; exact HP66.1); have hp_ : Kd.S (Kd.slice 3 (Kd.int .i64)) 100 w67 w.heap.size (fun _ => True) (.slice (some ⟨go14, 0, none⟩) x7_2.length co14) y415 := (by rw [Ny415.out]; exact hbk66 hg (fun k_ e_ => by injection e_ with e_; subst e_; exact ge66_0.1 _ rfl) (Kd.M_row hz_)); have hm_ := Kd.R_mono hz_ hok66; clear HP66 hbk66; have n0_ := Aside0.mk (hp_); have n1_ := Aside0.mk ((by rw [hw]; exact yr_ (HB.out) GB65.out : Below w.heap.size w w67)); have n2_ := Aside0.mk (hm_); have n3_ := Aside0.mk ((Kd.yo_ hm_).2.1); clear HO_7; clear HB; clear HL374_0; clear HL376_0; clear HL412_0; have HO_7 := n0_; have HB := n1_; have HL447 := n2_; have HC414 := n3_; clear n0_ n1_ n2_ n3_; clear hg hw hp_ hz_ hm_ hok66))
                             repeat (go_quiet (first | ((with_reducible refine yQ_ (t := 3) (p := 110) rfl ?_); (try (rw [yX_ wc]; generalize hq_ : World.drewN wc _ = wc; have n0_ := Aside0.mk (Kd.S_at hq_ HO_7.out); have nX_ := Aside0.mk (yrb_ hq_ HX412_0.out); have n2_ := Aside0.mk (ybb_ hq_ HB.out); clear hq_ HO_7 HB HX412_0; have HO_7 := n0_; have HX412_0 := nX_; have HB := n2_; clear n0_ nX_ n2_; (try (have hq66 : (x8_1 : Int) < (x7_2.length : Int) := (by have h_ : (x8_1 : Int) < ((x7_2.length : Int) : Int) := of_decide_eq_true (by assumption); first | exact h_ | (have e_ := (Kd.yp_ HO_7.out).1; omega) | simpa only [List.length_set, List.length_set] using h_))); (try (obtain ⟨oki66, ce66, hcl66, hM66, hcc66, hok66, hbk66⟩ := Kd.y7_ HO_7.out [] (x8_1 : Int) (of_decide_eq_true (by assumption)) hq66)); (try (obtain ⟨ve66_0, rfl, ge66_0⟩ := hM66)); (try (have hv66 := hcc66 0 _ rfl)); (try (rw [Nat.add_zero, show ((Kd.slice 3 (Kd.int .i64))).sz = 1 from rfl, Nat.mul_one] at hv66)); (try (replace hv66 := Option.some.inj (hv66.symm.trans HX412_0.out))); (try (subst hv66)); (try (clear hcc66 hcl66)); (try (replace ge66_0 := (show Kd.R (Kd.int .i64) 3 _ _ _ _ (rd_L5 x7_2 x8_1) from ge66_0))); (try (have HP66 := Kd.R_putg ge66_0 (x9_2 : Int) (rd (rd_L5 x7_2 (ji23)) x9_2))); (try (obtain ⟨hx65_0, hf65_0⟩ := Kd.yab_ 0 ge66_0 (x9_2 : Int) (of_eq_true p65) (of_eq_true q65))))); refine yG_ (t := 3) (p := 110) (v := ?vo_w67) (w1 := (wc.setCell ⟨go65, (x9_2 : Int).toNat, none⟩ (.int .i64 (rd (rd_L5 x7_2 (ji23)) x9_2)))) ?hg ?ho ?hn ?hr ?_; (case ho => rfl); (case hg => rfl); (case hn => rfl); (case hr => (try obtain ⟨As_, cs_, rfl⟩ := Kd.yC_ HO372.out); first | (go_simp; done) | (go_simp; rfl)); intro w67 hw; have hg : wc.grownBy w67 (some go65) := (by rw [hw]; exact HP66.2); have hz_ : Kd.R (Kd.int .i64) 3 w67 w.heap.size oki66 (.slice (some ⟨go65, 0, none⟩) (rd_L5 x7_2 x8_1).length c376_0) y413 := (by rw [hw, Ny413.out]; exact HP66.1); have hp_ : Kd.S (Kd.slice 3 (Kd.int .i64)) 100 w67 w.heap.size (fun _ => True) (.slice (some ⟨go14, 0, none⟩) x7_2.length co14) y415 := (by rw [Ny415.out]; exact hbk66 hg (fun k_ e_ => by injection e_ with e_; subst e_; exact ge66_0.1 _ rfl) (Kd.M_row hz_)); have hm_ := Kd.R_mono hz_ hok66; clear HP66 hbk66; have n0_ := Aside0.mk (hp_); have n1_ := Aside0.mk ((by rw [hw]; exact yr_ (HB.out) GB65.out : Below w.heap.size w w67)); have n2_ := Aside0.mk (hm_); have n3_ := Aside0.mk ((Kd.yo_ hm_).2.1); clear HO_7; clear HB; clear HL374_0; clear HL376_0; clear HL412_0; have HO_7 := n0_; have HB := n1_; have HL447 := n2_; have HC414 := n3_; clear n0_ n1_ n2_ n3_; clear hg hw hp_ hz_ hm_ hok66)); try go_wp2_with (first | ((with_reducible refine yQ_ (t := 3) (p := 110) rfl ?_); (try (rw [yX_ wc]; generalize hq_ : World.drewN wc _ = wc; have n0_ := Aside0.mk (Kd.S_at hq_ HO_7.out); have nX_ := Aside0.mk (yrb_ hq_ HX412_0.out); have n2_ := Aside0.mk (ybb_ hq_ HB.out); clear hq_ HO_7 HB HX412_0; have HO_7 := n0_; have HX412_0 := nX_; have HB := n2_; clear n0_ nX_ n2_; (try (have hq66 : (x8_1 : Int) < (x7_2.length : Int) := (by have h_ : (x8_1 : Int) < ((x7_2.length : Int) : Int) := of_decide_eq_true (by assumption); first | exact h_ | (have e_ := (Kd.yp_ HO_7.out).1; omega) | simpa only [List.length_set, List.length_set] using h_))); (try (obtain ⟨oki66, ce66, hcl66, hM66, hcc66, hok66, hbk66⟩ := Kd.y7_ HO_7.out [] (x8_1 : Int) (of_decide_eq_true (by assumption)) hq66)); (try (obtain ⟨ve66_0, rfl, ge66_0⟩ := hM66)); (try (have hv66 := hcc66 0 _ rfl)); (try (rw [Nat.add_zero, show ((Kd.slice 3 (Kd.int .i64))).sz = 1 from rfl, Nat.mul_one] at hv66)); (try (replace hv66 := Option.some.inj (hv66.symm.trans HX412_0.out))); (try (subst hv66)); (try (clear hcc66 hcl66)); (try (replace ge66_0 := (show Kd.R (Kd.int .i64) 3 _ _ _ _ (rd_L5 x7_2 x8_1) from ge66_0))); (try (have HP66 := Kd.R_putg ge66_0 (x9_2 : Int) (rd (rd_L5 x7_2 (ji23)) x9_2))); (try (obtain ⟨hx65_0, hf65_0⟩ := Kd.yab_ 0 ge66_0 (x9_2 : Int) (of_eq_true p65) (of_eq_true q65))))); refine yG_ (t := 3) (p := 110) (v := ?vo_w67) (w1 := (wc.setCell ⟨go65, (x9_2 : Int).toNat, none⟩ (.int .i64 (rd (rd_L5 x7_2 (ji23)) x9_2)))) ?hg ?ho ?hn ?hr ?_; (case ho => rfl); (case hg => rfl); (case hn => rfl); (case hr => (try obtain ⟨As_, cs_, rfl⟩ := Kd.yC_ HO372.out); first | (go_simp; done) | (go_simp; rfl)); intro w67 hw; have hg : wc.grownBy w67 (some go65) := (by rw [hw]; exact HP66.2); have hz_ : Kd.R (Kd.int .i64) 3 w67 w.heap.size oki66 (.slice (some ⟨go65, 0, none⟩) (rd_L5 x7_2 x8_1).length c376_0) y413 := (by rw [hw, Ny413.out]; exact HP66.1); have hp_ : Kd.S (Kd.slice 3 (Kd.int .i64)) 100 w67 w.heap.size (fun _ => True) (.slice (some ⟨go14, 0, none⟩) x7_2.length co14) y415 := (by rw [Ny415.out]; exact hbk66 hg (fun k_ e_ => by injection e_ with e_; subst e_; exact ge66_0.1 _ rfl) (Kd.M_row hz_)); have hm_ := Kd.R_mono hz_ hok66; clear HP66 hbk66; have n0_ := Aside0.mk (hp_); have n1_ := Aside0.mk ((by rw [hw]; exact yr_ (HB.out) GB65.out : Below w.heap.size w w67)); have n2_ := Aside0.mk (hm_); have n3_ := Aside0.mk ((Kd.yo_ hm_).2.1); clear HO_7; clear HB; clear HL374_0; clear HL376_0; clear HL412_0; have HO_7 := n0_; have HB := n1_; have HL447 := n2_; have HC414 := n3_; clear n0_ n1_ n2_ n3_; clear hg hw hp_ hz_ hm_ hok66)))
                             (try simp only [← hl7_2])
                             go_roundg kj19
                             case measure => have := HK1.out; have := HK2.out; have := HJ19.out; omega
                             case rel => exact ⟨(y415), (wrap64 (x9_2 - 1)), (by first | rfl | (simp; done) | (simp [*]; done)), H', ⟨by have := HK1.out; have := HK2.out; have := HJ19.out; omega⟩, ⟨by (try simp only [hl7_2]); (with_reducible repeat (first | apply Kd.yO_ | apply Kd.yN_ | apply Kd.S_drew)); exact HO_7.out⟩, ⟨by repeat (with_reducible first | exact HB.out | apply yc_ | apply ya_ | apply yb_)⟩⟩
                            ·rw [if_neg c64] at H
                             exact absurd H (by simp)
                          ·rw [if_neg c52] at H
                           exact absurd H (by simp)
                         ·rw [if_neg c51] at H
                          exact absurd H (by simp)
                       ·rw [if_neg c32] at H
                        exact absurd H (by simp)
                      ·rw [if_neg c31] at H
                       exact absurd H (by simp)
                     ·rw [if_neg c29] at H
                      exact absurd H (by simp)
                    ·rw [if_neg c28] at H
                     exact absurd H (by simp)
                   ·rw [if_neg c27] at H
                    exact absurd H (by simp)
                  ·rw [if_neg c26] at H
                   exact absurd H (by simp)
                 ·rw [if_neg c25] at H
                  exact absurd H (by simp)
                ·rw [if_neg c24] at H
                 exact absurd H (by simp)
            ·rw [if_neg c19] at H
             have c19b0 : decide (0 ≤ x9_2) = false := decide_eq_false c19
             clear c19
             have H' := Aside0.mk H
             clear H
             go_wp2
             repeat (go_quiet (fail); try go_wp2)
             (try simp only [← hl7_2])
             go_roundg k2
             case measure => have := HK1.out; have := HK2.out; omega
             case rel => exact ⟨(x7_2), (wrap64 (x8_1 - 1)), (by first | rfl | (simp; done) | (simp [*]; done)), H', ⟨by have := HK1.out; have := HK2.out; omega⟩, ⟨by (try simp only [hl7_2]); (with_reducible repeat (first | apply Kd.yO_ | apply Kd.yN_ | apply Kd.S_drew)); exact HO_7.out⟩, ⟨by repeat (with_reducible first | exact HB.out | apply yc_ | apply ya_ | apply yb_)⟩⟩
         ·rw [if_neg c13] at H
          exact absurd H (by simp)
        ·rw [if_neg c12] at H
         exact absurd H (by simp)
       ·rw [if_neg c11] at H
        exact absurd H (by simp)
      ·rw [if_neg c10] at H
       exact absurd H (by simp)
     ·rw [if_neg c8] at H
      have c8b0 : decide (0 ≤ x8_1) = false := decide_eq_false c8
      clear c8
      have H' := Aside0.mk H
      clear H
      go_wp2
      repeat (go_quiet (fail); try go_wp2)
      try simp only [Act.put, List.setIfInBounds_toArray, List.set_cons_succ, List.set_cons_zero]
      go_loopg [11, 12, 13] k1 (fun kq v11 v12 v13 w' => ∃ (x11_2 : List (S75)) (x12_2 : Int) (x13_2 : Int), v12 = .int .i64 x12_2 ∧ v13 = .int .i64 x13_2 ∧ Aside0 (yd_.l2 kq l0 l1 (l0.length : Int) (l1.length : Int) x7_1 x11_2 x12_2 x13_2 = some r) ∧ Aside0 (kq ≤ k1) ∧ Aside0 (Kd.S (Kd.slice 3 (Kd.int .i64)) 100 w' w.heap.size (fun _ => True) v368 x7_1) ∧ Aside0 (Kd.R k75 75 w' w.heap.size (fun _ => True) v11 x11_2) ∧ Aside0 (Below w.heap.size w w'))
      case atStart => exact ⟨(([] : List (S75))), (0), (0), (by first | rfl | (simp; done) | (simp [*]; done)), (by first | rfl | (simp; done) | (simp [*]; done)), H', ⟨Nat.le_refl _⟩, ⟨by (with_reducible repeat (first | apply Kd.yO_ | apply Kd.yN_ | apply Kd.S_drew)); exact HO_7.out⟩, ⟨by first | exact Kd.R_nil _ _ _ _ _ | exact Kd.N_nil _ _ _ _ _ | exact Kd.V_nil _ _ _ _ _ | exact Kd.Q_nil _ _ _ _ _ | exact Kd.S_nil _ _ _ _ _⟩, ⟨by repeat (with_reducible first | exact HB.out | apply yc_ | apply ya_ | apply yb_)⟩⟩
      case round =>
       clear H'
       try clear c1
       try clear c2
       try clear p2
       try clear c3
       try clear p3
       try clear q3
       try clear hx3
       try clear c4
       try clear p4
       try clear q4
       try clear hx4
       try clear c5
       try clear p5
       try clear q5
       try clear hx5
       try clear hf5
       try clear c6
       try clear p6
       try clear q6
       try clear hx6
       try clear hf6
       try clear c8
       try clear c8b0
       try clear c10
       try clear c11
       try clear c12
       try clear c13
       try clear c19
       try clear c19b0
       try clear c24
       try clear c25
       try clear c26
       try clear c27
       try clear c28
       try clear c29
       try clear c31
       try clear c32
       try clear c33
       try clear c33b0
       try clear c34
       try clear c35
       try clear c37
       try clear p37
       try clear q37
       try clear hx37
       try clear p39
       try clear q39
       try clear hx39
       try clear c40
       try clear p40
       try clear q40
       try clear hx40
       try clear c41
       try clear p41
       try clear q41
       try clear hx41
       try clear c47
       try clear c49
       try clear q49
       try clear c51
       try clear c51b0
       try clear c52
       try clear c52b0
       try clear c53
       try clear c53b0
       try clear c53b1
       try clear c54
       try clear c54b0
       try clear c55
       try clear c55b0
       try clear c56
       try clear c56b0
       try clear p57
       try clear q57
       try clear hx57
       try clear hf57
       try clear c58
       try clear q58
       try clear c60
       try clear c60b0
       try clear p61
       try clear q61
       try clear hx61
       try clear hf61
       try clear c62
       try clear q62
       try clear c64
       try clear c64b0
       try clear p64
       try clear p65
       try clear q65
       try clear hx65
       try clear hf65
       try clear c66
       try clear q66
       try clear hx374_0
       try clear hx375_0
       try clear hx376_0
       try clear hx377_0
       try clear hx398_0
       try clear hx399_0
       try clear hx400_0
       try clear hx401_0
       try clear hx402_0
       try clear hx403_0
       try clear hx404_0
       try clear hx408_0
       try clear hx412_0
       try clear hx57_0
       try clear hx61_0
       try clear hx65_0
       try clear p374
       try clear p375
       try clear p376
       try clear p377
       try clear p398
       try clear p399
       try clear p400
       try clear p401
       try clear p402
       try clear p403
       try clear p404
       try clear p408
       try clear p412
       try clear p57
       try clear p61
       try clear p65
       try clear q374
       try clear q375
       try clear q376
       try clear q377
       try clear q398
       try clear q399
       try clear q400
       try clear q401
       try clear q402
       try clear q403
       try clear q404
       try clear q408
       try clear q412
       try clear q57
       try clear q61
       try clear q65
       obtain ⟨x11_2, x12_2, x13_2, rfl, rfl, HA, HK2, HO_7, HO_11, HB⟩ := hrel
       cases gk with
       | zero => exact absurd HA.out (by simp [yd_.l2])
       | succ k2 =>
        have H := HA.out
        clear HA
        simp only [yd_.l2] at H
        have HC68 := Aside0.mk H
        clear H
        go_upto_region 19 with (fail)
        repeat (go_quiet (fail); go_upto_region 19 with (fail))
        go_cut [118] (fun v118 wc => ∃ (kq : Nat) (x118_67 : Bool), v118 = .bool x118_67 ∧ Aside0 (yd_.j4 kq l0 l1 (l0.length : Int) (l1.length : Int) x7_1 x11_2 x12_2 x13_2 x118_67 = some r) ∧ Aside0 (kq ≤ k2) ∧ Aside0 (Kd.S (Kd.slice 3 (Kd.int .i64)) 100 wc w.heap.size (fun _ => True) v368 x7_1) ∧ Aside0 (Kd.R k75 75 wc w.heap.size (fun _ => True) u11 x11_2) ∧ Aside0 (Below w.heap.size w wc))
        case first =>
         have H := HC68.out
         clear HC68
         by_cases c69 : x12_2 < (l0.length : Int)
         ·rw [if_pos c69] at H
          have c69b0 : decide (x12_2 < (l0.length : Int)) = true := decide_eq_true c69
          clear c69
          (first | rw [c69b0] | (simp only [i64_w, i32_w]; rw [c69b0]) | skip)
          have H' := Aside0.mk H
          clear H
          go_wp2
          repeat (go_quiet (fail); try go_wp2)
          go_meet
          case rel => exact ⟨_, (true), (by first | rfl | (simp; done) | (simp [*]; done)), H', ⟨by have := HK1.out; have := HK2.out; first | omega | exact Nat.le_refl _⟩, ⟨by (with_reducible repeat (first | apply Kd.yO_ | apply Kd.yN_ | apply Kd.S_drew)); exact HO_7.out⟩, ⟨by (with_reducible repeat (first | apply Kd.yh_ | apply Kd.yi_ | apply Kd.R_drew)); exact HO_11.out⟩, ⟨by repeat (with_reducible first | exact HB.out | apply yc_ | apply ya_ | apply yb_)⟩⟩
         ·rw [if_neg c69] at H
          have c69b0 : decide (x12_2 < (l0.length : Int)) = false := decide_eq_false c69
          clear c69
          (first | rw [c69b0] | (simp only [i64_w, i32_w]; rw [c69b0]) | skip)
          have H' := Aside0.mk H
          clear H
          go_wp2
          repeat (go_quiet (fail); try go_wp2)
          go_meet
          case rel => exact ⟨_, (decide (x13_2 < (l1.length : Int))), (by first | rfl | (simp; done) | (simp [*]; done)), H', ⟨by have := HK1.out; have := HK2.out; first | omega | exact Nat.le_refl _⟩, ⟨by (with_reducible repeat (first | apply Kd.yO_ | apply Kd.yN_ | apply Kd.S_drew)); exact HO_7.out⟩, ⟨by (with_reducible repeat (first | apply Kd.yh_ | apply Kd.yi_ | apply Kd.R_drew)); exact HO_11.out⟩, ⟨by repeat (with_reducible first | exact HB.out | apply yc_ | apply ya_ | apply yb_)⟩⟩
        case rest =>
         clear HC68
         try clear c1
         try clear c2
         try clear p2
         try clear c3
         try clear p3
         try clear q3
         try clear hx3
         try clear c4
         try clear p4
         try clear q4
         try clear hx4
         try clear c5
         try clear p5
         try clear q5
         try clear hx5
         try clear hf5
         try clear c6
         try clear p6
         try clear q6
         try clear hx6
         try clear hf6
         try clear c8
         try clear c8b0
         try clear c10
         try clear c11
         try clear c12
         try clear c13
         try clear c19
         try clear c19b0
         try clear c24
         try clear c25
         try clear c26
         try clear c27
         try clear c28
         try clear c29
         try clear c31
         try clear c32
         try clear c33
         try clear c33b0
         try clear c34
         try clear c35
         try clear c37
         try clear p37
         try clear q37
         try clear hx37
         try clear p39
         try clear q39
         try clear hx39
         try clear c40
         try clear p40
         try clear q40
         try clear hx40
         try clear c41
         try clear p41
         try clear q41
         try clear hx41
         try clear c47
         try clear c49
         try clear q49
         try clear c51
         try clear c51b0
         try clear c52
         try clear c52b0
         try clear c53
         try clear c53b0
         try clear c53b1
         try clear c54
         try clear c54b0
         try clear c55
         try clear c55b0
         try clear c56
         try clear c56b0
         try clear p57
         try clear q57
         try clear hx57
         try clear hf57
         try clear c58
         try clear q58
         try clear c60
         try clear c60b0
         try clear p61
         try clear q61
         try clear hx61
         try clear hf61
         try clear c62
         try clear q62
         try clear c64
         try clear c64b0
         try clear p64
         try clear p65
         try clear q65
         try clear hx65
         try clear hf65
         try clear c66
         try clear q66
         try clear c69
         try clear c69b0
         try clear hx374_0
         try clear hx375_0
         try clear hx376_0
         try clear hx377_0
         try clear hx398_0
         try clear hx399_0
         try clear hx400_0
         try clear hx401_0
         try clear hx402_0
         try clear hx403_0
         try clear hx404_0
         try clear hx408_0
         try clear hx412_0
         try clear hx57_0
         try clear hx61_0
         try clear hx65_0
         try clear p2
         try clear p3
         try clear p37
         try clear p374
         try clear p375
         try clear p376
         try clear p377
         try clear p39
         try clear p398
         try clear p399
         try clear p4
         try clear p40
         try clear p400
         try clear p401
         try clear p402
         try clear p403
         try clear p404
         try clear p408
         try clear p41
         try clear p412
         try clear p5
         try clear p57
         try clear p6
         try clear p61
         try clear p64
         try clear p65
         try clear q3
         try clear q37
         try clear q374
         try clear q375
         try clear q376
         try clear q377
         try clear q39
         try clear q398
         try clear q399
         try clear q4
         try clear q40
         try clear q400
         try clear q401
         try clear q402
         try clear q403
         try clear q404
         try clear q408
         try clear q41
         try clear q412
         try clear q49
         try clear q5
         try clear q57
         try clear q58
         try clear q6
         try clear q61
         try clear q62
         try clear q65
         try clear q66
         obtain ⟨kq, x118_67, rfl, HA, HJ67, HO_7, HO_11, HB⟩ := hcut
         cases kq with
         | zero => exact absurd HA.out (by simp [yd_.j4])
         | succ kj67 =>
          have H := HA.out
          clear HA
          simp only [yd_.j4] at H
          by_cases c70 : x118_67 = true
          ·subst c70
           have H1 : (if x12_2 < (l0.length : Int) then (if x13_2 < (l1.length : Int) then (if 0 ≤ x12_2 then (if x12_2 < (l0.length : Int) then (if 0 ≤ x13_2 then (if x13_2 < (l1.length : Int) then (yd_.j5 kj67 l0 l1 (l0.length : Int) (l1.length : Int) x7_1 x11_2 x12_2 x13_2 ((rdOf ByteArray.empty l0 x12_2).toList == (rdOf ByteArray.empty l1 x13_2).toList)) else (none)) else (none)) else (none)) else (none)) else (yd_.j5 kj67 l0 l1 (l0.length : Int) (l1.length : Int) x7_1 x11_2 x12_2 x13_2 false)) else (yd_.j5 kj67 l0 l1 (l0.length : Int) (l1.length : Int) x7_1 x11_2 x12_2 x13_2 false)) = some r := by rw [if_pos rfl] at H; exact H
           clear H
           have H := H1
           clear H1
           have HC71 := Aside0.mk H
           clear H
           go_upto_region 22 with (fail)
           repeat (go_quiet (fail); go_upto_region 22 with (fail))
           go_cut [129] (fun v129 wc => ∃ (kq : Nat) (x129_70 : Bool), v129 = .bool x129_70 ∧ Aside0 (yd_.j5 kq l0 l1 (l0.length : Int) (l1.length : Int) x7_1 x11_2 x12_2 x13_2 x129_70 = some r) ∧ Aside0 (kq ≤ kj67) ∧ Aside0 (Kd.S (Kd.slice 3 (Kd.int .i64)) 100 wc w.heap.size (fun _ => True) v368 x7_1) ∧ Aside0 (Kd.R k75 75 wc w.heap.size (fun _ => True) u11 x11_2) ∧ Aside0 (Below w.heap.size w wc))
           case first =>
            have H := HC71.out
            clear HC71
            by_cases c72 : x12_2 < (l0.length : Int)
            ·rw [if_pos c72] at H
             have c72b0 : decide (x12_2 < (l0.length : Int)) = true := decide_eq_true c72
             clear c72
             (first | rw [c72b0] | (simp only [i64_w, i32_w]; rw [c72b0]) | skip)
             by_cases c73 : x13_2 < (l1.length : Int)
             ·rw [if_pos c73] at H
              have c73b0 : decide (x13_2 < (l1.length : Int)) = true := decide_eq_true c73
              clear c73
              by_cases c74 : 0 ≤ x12_2
              ·rw [if_pos c74] at H
               have c74b0 : decide (0 ≤ x12_2) = true := decide_eq_true c74
               clear c74
               by_cases c75 : x12_2 < (l0.length : Int)
               ·rw [if_pos c75] at H
                have c75b0 : decide (x12_2 < (l0.length : Int)) = true := decide_eq_true c75
                clear c75
                by_cases c76 : 0 ≤ x13_2
                ·rw [if_pos c76] at H
                 have c76b0 : decide (0 ≤ x13_2) = true := decide_eq_true c76
                 clear c76
                 by_cases c77 : x13_2 < (l1.length : Int)
                 ·rw [if_pos c77] at H
                  have c77b0 : decide (x13_2 < (l1.length : Int)) = true := decide_eq_true c77
                  clear c77
                  have H' := Aside0.mk H
                  clear H
                  have p416 : 0 ≤ (x12_2 : Int) := of_decide_eq_true (by assumption)
                  have q416 : x12_2 < (l0.length : Int) := of_decide_eq_true (by assumption)
                  obtain ⟨ad416, e416, hx416_0⟩ := Kd.yL_ HR0.out x12_2 p416 q416
                  cases e416
                  replace hx416_0 := (HB.out.cell (World.block_lt_of_cell? w _ hx416_0)).trans hx416_0
                  replace p416 := eq_true p416
                  replace q416 := eq_true q416
                  have p417 : 0 ≤ (x13_2 : Int) := of_decide_eq_true (by assumption)
                  have q417 : x13_2 < (l1.length : Int) := of_decide_eq_true (by assumption)
                  obtain ⟨ad417, e417, hx417_0⟩ := Kd.yL_ HR1.out x13_2 p417 q417
                  cases e417
                  replace hx417_0 := (HB.out.cell (World.block_lt_of_cell? w _ hx417_0)).trans hx417_0
                  replace p417 := eq_true p417
                  replace q417 := eq_true q417
                  go_wp2
                  repeat (go_quiet (fail); try go_wp2)
                  go_meet
                  case rel => exact ⟨_, (((rdOf ByteArray.empty l0 x12_2).toList == (rdOf ByteArray.empty l1 x13_2).toList)), (by first | rfl | (simp; done) | (simp [*]; done)), H', ⟨by have := HK1.out; have := HK2.out; have := HJ67.out; first | omega | exact Nat.le_refl _⟩, ⟨by (with_reducible repeat (first | apply Kd.yO_ | apply Kd.yN_ | apply Kd.S_drew)); exact HO_7.out⟩, ⟨by (with_reducible repeat (first | apply Kd.yh_ | apply Kd.yi_ | apply Kd.R_drew)); exact HO_11.out⟩, ⟨by repeat (with_reducible first | exact HB.out | apply yc_ | apply ya_ | apply yb_)⟩⟩
                 ·rw [if_neg c77] at H
                  exact absurd H (by simp)
                ·rw [if_neg c76] at H
                 exact absurd H (by simp)
               ·rw [if_neg c75] at H
                exact absurd H (by simp)
              ·rw [if_neg c74] at H
               exact absurd H (by simp)
             ·rw [if_neg c73] at H
              have c73b0 : decide (x13_2 < (l1.length : Int)) = false := decide_eq_false c73
              clear c73
              have H' := Aside0.mk H
              clear H
              go_wp2
              repeat (go_quiet (fail); try go_wp2)
              go_meet
              case rel => exact ⟨_, (false), (by first | rfl | (simp; done) | (simp [*]; done)), H', ⟨by have := HK1.out; have := HK2.out; have := HJ67.out; first | omega | exact Nat.le_refl _⟩, ⟨by (with_reducible repeat (first | apply Kd.yO_ | apply Kd.yN_ | apply Kd.S_drew)); exact HO_7.out⟩, ⟨by (with_reducible repeat (first | apply Kd.yh_ | apply Kd.yi_ | apply Kd.R_drew)); exact HO_11.out⟩, ⟨by repeat (with_reducible first | exact HB.out | apply yc_ | apply ya_ | apply yb_)⟩⟩
            ·rw [if_neg c72] at H
             have c72b0 : decide (x12_2 < (l0.length : Int)) = false := decide_eq_false c72
             clear c72
             (first | rw [c72b0] | (simp only [i64_w, i32_w]; rw [c72b0]) | skip)
             have H' := Aside0.mk H
             clear H
             go_wp2
             repeat (go_quiet (fail); try go_wp2)
             go_meet
             case rel => exact ⟨_, (false), (by first | rfl | (simp; done) | (simp [*]; done)), H', ⟨by have := HK1.out; have := HK2.out; have := HJ67.out; first | omega | exact Nat.le_refl _⟩, ⟨by (with_reducible repeat (first | apply Kd.yO_ | apply Kd.yN_ | apply Kd.S_drew)); exact HO_7.out⟩, ⟨by (with_reducible repeat (first | apply Kd.yh_ | apply Kd.yi_ | apply Kd.R_drew)); exact HO_11.out⟩, ⟨by repeat (with_reducible first | exact HB.out | apply yc_ | apply ya_ | apply yb_)⟩⟩
           case rest =>
            clear HC71
            try clear c1
            try clear c2
            try clear p2
            try clear c3
            try clear p3
            try clear q3
            try clear hx3
            try clear c4
            try clear p4
            try clear q4
            try clear hx4
            try clear c5
            try clear p5
            try clear q5
            try clear hx5
            try clear hf5
            try clear c6
            try clear p6
            try clear q6
            try clear hx6
            try clear hf6
            try clear c7
            try clear c8
            try clear c8b0
            try clear c10
            try clear c11
            try clear c12
            try clear c13
            try clear c19
            try clear c19b0
            try clear c24
            try clear c25
            try clear c26
            try clear c27
            try clear c28
            try clear c29
            try clear c31
            try clear c32
            try clear c33
            try clear c33b0
            try clear c34
            try clear c35
            try clear c37
            try clear p37
            try clear q37
            try clear hx37
            try clear p39
            try clear q39
            try clear hx39
            try clear c40
            try clear p40
            try clear q40
            try clear hx40
            try clear c41
            try clear p41
            try clear q41
            try clear hx41
            try clear c47
            try clear c49
            try clear q49
            try clear c51
            try clear c51b0
            try clear c52
            try clear c52b0
            try clear c53
            try clear c53b0
            try clear c53b1
            try clear c54
            try clear c54b0
            try clear c55
            try clear c55b0
            try clear c56
            try clear c56b0
            try clear p57
            try clear q57
            try clear hx57
            try clear hf57
            try clear c58
            try clear q58
            try clear c60
            try clear c60b0
            try clear p61
            try clear q61
            try clear hx61
            try clear hf61
            try clear c62
            try clear q62
            try clear c64
            try clear c64b0
            try clear p64
            try clear p65
            try clear q65
            try clear hx65
            try clear hf65
            try clear c66
            try clear q66
            try clear c69
            try clear c69b0
            try clear c70
            try clear c72
            try clear c72b0
            try clear c73
            try clear c73b0
            try clear c74
            try clear c74b0
            try clear c75
            try clear c75b0
            try clear c76
            try clear c76b0
            try clear c77
            try clear c77b0
            try clear hx374_0
            try clear hx375_0
            try clear hx376_0
            try clear hx377_0
            try clear hx398_0
            try clear hx399_0
            try clear hx400_0
            try clear hx401_0
            try clear hx402_0
            try clear hx403_0
            try clear hx404_0
            try clear hx408_0
            try clear hx412_0
            try clear hx416_0
            try clear hx417_0
            try clear hx57_0
            try clear hx61_0
            try clear hx65_0
            try clear p2
            try clear p3
            try clear p37
            try clear p374
            try clear p375
            try clear p376
            try clear p377
            try clear p39
            try clear p398
            try clear p399
            try clear p4
            try clear p40
            try clear p400
            try clear p401
            try clear p402
            try clear p403
            try clear p404
            try clear p408
            try clear p41
            try clear p412
            try clear p416
            try clear p417
            try clear p5
            try clear p57
            try clear p6
            try clear p61
            try clear p64
            try clear p65
            try clear q3
            try clear q37
            try clear q374
            try clear q375
            try clear q376
            try clear q377
            try clear q39
            try clear q398
            try clear q399
            try clear q4
            try clear q40
            try clear q400
            try clear q401
            try clear q402
            try clear q403
            try clear q404
            try clear q408
            try clear q41
            try clear q412
            try clear q416
            try clear q417
            try clear q49
            try clear q5
            try clear q57
            try clear q58
            try clear q6
            try clear q61
            try clear q62
            try clear q65
            try clear q66
            obtain ⟨kq, x129_70, rfl, HA, HJ70, HO_7, HO_11, HB⟩ := hcut
            cases kq with
            | zero => exact absurd HA.out (by simp [yd_.j5])
            | succ kj70 =>
             have H := HA.out
             clear HA
             simp only [yd_.j5] at H
             by_cases c78 : x129_70 = true
             ·subst c78
              have H1 : (if 0 ≤ x12_2 then (if x12_2 < (l0.length : Int) then (if x11_2.length < 5864062014805 then (yd_.l2 kj70 l0 l1 (l0.length : Int) (l1.length : Int) x7_1 (x11_2 ++ [(⟨32, rdOf ByteArray.empty l0 x12_2⟩ : S75)]) (wrap64 (x12_2 + 1)) (wrap64 (x13_2 + 1))) else (none)) else (none)) else (none)) = some r := by rw [if_pos rfl] at H; exact H
              clear H
              have H := H1
              clear H1
              by_cases c79 : 0 ≤ x12_2
              ·rw [if_pos c79] at H
               have c79b0 : decide (0 ≤ x12_2) = true := decide_eq_true c79
               clear c79
               by_cases c80 : x12_2 < (l0.length : Int)
               ·rw [if_pos c80] at H
                have c80b0 : decide (x12_2 < (l0.length : Int)) = true := decide_eq_true c80
                clear c80
                by_cases c81 : x11_2.length < 5864062014805
                ·rw [if_pos c81] at H
                 have LMc81 := Aside0.mk c81
                 clear c81
                 obtain ⟨y419, hy419⟩ : ∃ y_ : List (S75), y_ = (x11_2 ++ [(⟨32, rdOf ByteArray.empty l0 x12_2⟩ : S75)]) := ⟨_, rfl⟩
                 replace H : (yd_.l2 kj70 l0 l1 (l0.length : Int) (l1.length : Int) x7_1 y419 (wrap64 (x12_2 + 1)) (wrap64 (x13_2 + 1))) = some r := by first | (rw [hy419]; with_reducible exact H) | (have H2_ := (Option.bind_some _ _).symm.trans H; rw [hy419]; with_reducible exact H2_) | (have H2_ := (Option.bind_some _ _).symm.trans H; with_reducible exact H2_) | with_reducible exact H | (rw [hy419]; exact H) | exact H
                 have Ny419 := Aside0.mk hy419
                 clear hy419
                 have H' := Aside0.mk H
                 clear H
                 have p418 : 0 ≤ (x12_2 : Int) := of_decide_eq_true (by assumption)
                 have q418 : x12_2 < (l0.length : Int) := of_decide_eq_true (by assumption)
                 obtain ⟨ad418, e418, hx418_0⟩ := Kd.yL_ HR0.out x12_2 p418 q418
                 cases e418
                 replace hx418_0 := (HB.out.cell (World.block_lt_of_cell? w _ hx418_0)).trans hx418_0
                 replace p418 := eq_true p418
                 replace q418 := eq_true q418
                 go_wp2_with (first | ((with_reducible refine yD_ (b := .append) (xs := #[.tmp 149, .tmp 155]) rfl ?_); at_builtin; refine Kd.y0_ k75 (w0 := w) w.heap.size rfl (.tmp 149) (.tmp 155) 72 75 (.agg #[(.int .u8 0), (.string ⟨#[]⟩)]) 24 rfl Tryd.underlying72 info75 rfl (by decide) (by omega) u11 x11_2 (⟨32, rdOf ByteArray.empty l0 x12_2⟩ : S75) [.int .u8 32, .string (rdOf ByteArray.empty l0 x12_2)] (fun _ => True) (fun _ => False) rfl rfl ?aP (fun _ hk => hk.elim) ?aF ?aO ?aB ?aS ?aL ?_; (case aP => exact yyb_ _ _ _ (⟨32, rdOf ByteArray.empty l0 x12_2⟩ : S75)); (case aB => exact (by repeat (with_reducible first | exact HB.out | apply yc_ | apply ya_ | apply yb_))); (case aF => exact (fun _ _ => trivial)); (case aO => exact (by (with_reducible repeat (first | apply Kd.yh_ | apply Kd.yi_ | apply Kd.R_drew)); exact HO_11.out)); (case aS => exact (yk_ (by repeat (with_reducible first | exact HB.out | apply yc_ | apply ya_ | apply yb_)))); (case aL => have := LMc81.out; omega); intro v420 w82 ho hb hg hat; rw [← Ny419.out] at ho; have n0_ := Aside0.mk (Kd.yxb_ (by (with_reducible repeat (first | apply Kd.yO_ | apply Kd.yN_ | apply Kd.S_drew)); exact HO_7.out) (Kd.yU_ (by (with_reducible repeat (first | apply Kd.yh_ | apply Kd.yi_ | apply Kd.R_drew)); exact HO_11.out)) (by decide) hg); have n1_ := Aside0.mk (hb); have n2_ := Aside0.mk (ho); clear HO_7; clear HB; clear HO_11; have HO_7 := n0_; have HB := n1_; have HO421 := n2_; clear n0_ n1_ n2_; clear ho hb hg hat))
                 repeat (go_quiet (first | ((with_reducible refine yD_ (b := .append) (xs := #[.tmp 149, .tmp 155]) rfl ?_); at_builtin; refine Kd.y0_ k75 (w0 := w) w.heap.size rfl (.tmp 149) (.tmp 155) 72 75 (.agg #[(.int .u8 0), (.string ⟨#[]⟩)]) 24 rfl Tryd.underlying72 info75 rfl (by decide) (by omega) u11 x11_2 (⟨32, rdOf ByteArray.empty l0 x12_2⟩ : S75) [.int .u8 32, .string (rdOf ByteArray.empty l0 x12_2)] (fun _ => True) (fun _ => False) rfl rfl ?aP (fun _ hk => hk.elim) ?aF ?aO ?aB ?aS ?aL ?_; (case aP => exact yyb_ _ _ _ (⟨32, rdOf ByteArray.empty l0 x12_2⟩ : S75)); (case aB => exact (by repeat (with_reducible first | exact HB.out | apply yc_ | apply ya_ | apply yb_))); (case aF => exact (fun _ _ => trivial)); (case aO => exact (by (with_reducible repeat (first | apply Kd.yh_ | apply Kd.yi_ | apply Kd.R_drew)); exact HO_11.out)); (case aS => exact (yk_ (by repeat (with_reducible first | exact HB.out | apply yc_ | apply ya_ | apply yb_)))); (case aL => have := LMc81.out; omega); intro v420 w82 ho hb hg hat; rw [← Ny419.out] at ho; have n0_ := Aside0.mk (Kd.yxb_ (by (with_reducible repeat (first | apply Kd.yO_ | apply Kd.yN_ | apply Kd.S_drew)); exact HO_7.out) (Kd.yU_ (by (with_reducible repeat (first | apply Kd.yh_ | apply Kd.yi_ | apply Kd.R_drew)); exact HO_11.out)) (by decide) hg); have n1_ := Aside0.mk (hb); have n2_ := Aside0.mk (ho); clear HO_7; clear HB; clear HO_11; have HO_7 := n0_; have HB := n1_; have HO421 := n2_; clear n0_ n1_ n2_; clear ho hb hg hat)); try go_wp2_with (first | ((with_reducible refine yD_ (b := .append) (xs := #[.tmp 149, .tmp 155]) rfl ?_); at_builtin; refine Kd.y0_ k75 (w0 := w) w.heap.size rfl (.tmp 149) (.tmp 155) 72 75 (.agg #[(.int .u8 0), (.string ⟨#[]⟩)]) 24 rfl Tryd.underlying72 info75 rfl (by decide) (by omega) u11 x11_2 (⟨32, rdOf ByteArray.empty l0 x12_2⟩ : S75) [.int .u8 32, .string (rdOf ByteArray.empty l0 x12_2)] (fun _ => True) (fun _ => False) rfl rfl ?aP (fun _ hk => hk.elim) ?aF ?aO ?aB ?aS ?aL ?_; (case aP => exact yyb_ _ _ _ (⟨32, rdOf ByteArray.empty l0 x12_2⟩ : S75)); (case aB => exact (by repeat (with_reducible first | exact HB.out | apply yc_ | apply ya_ | apply yb_))); (case aF => exact (fun _ _ => trivial)); (case aO => exact (by (with_reducible repeat (first | apply Kd.yh_ | apply Kd.yi_ | apply Kd.R_drew)); exact HO_11.out)); (case aS => exact (yk_ (by repeat (with_reducible first | exact HB.out | apply yc_ | apply ya_ | apply yb_)))); (case aL => have := LMc81.out; omega); intro v420 w82 ho hb hg hat; rw [← Ny419.out] at ho; have n0_ := Aside0.mk (Kd.yxb_ (by (with_reducible repeat (first | apply Kd.yO_ | apply Kd.yN_ | apply Kd.S_drew)); exact HO_7.out) (Kd.yU_ (by (with_reducible repeat (first | apply Kd.yh_ | apply Kd.yi_ | apply Kd.R_drew)); exact HO_11.out)) (by decide) hg); have n1_ := Aside0.mk (hb); have n2_ := Aside0.mk (ho); clear HO_7; clear HB; clear HO_11; have HO_7 := n0_; have HB := n1_; have HO421 := n2_; clear n0_ n1_ n2_; clear ho hb hg hat)))
                 go_roundg kj70
                 case measure => have := HK1.out; have := HK2.out; have := HJ67.out; have := HJ70.out; omega
                 case rel => exact ⟨(y419), (wrap64 (x12_2 + 1)), (wrap64 (x13_2 + 1)), (by first | rfl | (simp; done) | (simp [*]; done)), (by first | rfl | (simp; done) | (simp [*]; done)), H', ⟨by have := HK1.out; have := HK2.out; have := HJ67.out; have := HJ70.out; omega⟩, ⟨by (with_reducible repeat (first | apply Kd.yO_ | apply Kd.yN_ | apply Kd.S_drew)); exact HO_7.out⟩, ⟨by (with_reducible repeat (first | apply Kd.yh_ | apply Kd.yi_ | apply Kd.R_drew)); exact HO421.out⟩, ⟨by repeat (with_reducible first | exact HB.out | apply yc_ | apply ya_ | apply yb_)⟩⟩
                ·rw [if_neg c81] at H
                 exact absurd H (by simp)
               ·rw [if_neg c80] at H
                exact absurd H (by simp)
              ·rw [if_neg c79] at H
               exact absurd H (by simp)
             ·replace c78 := Bool.eq_false_iff.mpr c78
              subst c78
              have H1 : (if x12_2 < (l0.length : Int) then (if x13_2 = (l1.length : Int) then (if 0 ≤ x12_2 then (if x12_2 < (l0.length : Int) then (if x11_2.length < 5864062014805 then (yd_.l2 kj70 l0 l1 (l0.length : Int) (l1.length : Int) x7_1 (x11_2 ++ [(⟨45, rdOf ByteArray.empty l0 x12_2⟩ : S75)]) (wrap64 (x12_2 + 1)) x13_2) else (none)) else (none)) else (none)) else (if 0 ≤ (wrap64 (x12_2 + 1)) then (if (wrap64 (x12_2 + 1)) < (x7_1.length : Int) then (if 0 ≤ x13_2 then (if x13_2 < ((rd_L5 x7_1 (wrap64 (x12_2 + 1))).length : Int) then (if 0 ≤ x12_2 then (if x12_2 < (x7_1.length : Int) then (if 0 ≤ (wrap64 (x13_2 + 1)) then (if (wrap64 (x13_2 + 1)) < ((rd_L5 x7_1 x12_2).length : Int) then (if (rd (rd_L5 x7_1 (wrap64 (x12_2 + 1))) x13_2) ≥ (rd (rd_L5 x7_1 x12_2) (wrap64 (x13_2 + 1))) then (if x12_2 < (l0.length : Int) then (if x11_2.length < 5864062014805 then (yd_.l2 kj70 l0 l1 (l0.length : Int) (l1.length : Int) x7_1 (x11_2 ++ [(⟨45, rdOf ByteArray.empty l0 x12_2⟩ : S75)]) (wrap64 (x12_2 + 1)) x13_2) else (none)) else (none)) else (if x13_2 < (l1.length : Int) then (if x11_2.length < 5864062014805 then (yd_.l2 kj70 l0 l1 (l0.length : Int) (l1.length : Int) x7_1 (x11_2 ++ [(⟨43, rdOf ByteArray.empty l1 x13_2⟩ : S75)]) x12_2 (wrap64 (x13_2 + 1))) else (none)) else (none))) else (none)) else (none)) else (none)) else (none)) else (none)) else (none)) else (none)) else (none))) else (if 0 ≤ x13_2 then (if x13_2 < (l1.length : Int) then (if x11_2.length < 5864062014805 then (yd_.l2 kj70 l0 l1 (l0.length : Int) (l1.length : Int) x7_1 (x11_2 ++ [(⟨43, rdOf ByteArray.empty l1 x13_2⟩ : S75)]) x12_2 (wrap64 (x13_2 + 1))) else (none)) else (none)) else (none))) = some r := by rw [if_neg (show ¬ (false = true) by decide)] at H; exact H
              clear H
              have H := H1
              clear H1
              by_cases c83 : x12_2 < (l0.length : Int)
              ·rw [if_pos c83] at H
               have c83b0 : decide (x12_2 < (l0.length : Int)) = true := decide_eq_true c83
               clear c83
               by_cases c84 : x13_2 = (l1.length : Int)
               ·rw [if_pos c84] at H
                have c84b0 : (x13_2 == (l1.length : Int)) = true := beq_iff_eq.mpr c84
                have c84b1 : (x13_2 != (l1.length : Int)) = false := bne_eq_false_iff_eq.mpr c84
                clear c84
                by_cases c85 : 0 ≤ x12_2
                ·rw [if_pos c85] at H
                 have c85b0 : decide (0 ≤ x12_2) = true := decide_eq_true c85
                 clear c85
                 by_cases c86 : x12_2 < (l0.length : Int)
                 ·rw [if_pos c86] at H
                  have c86b0 : decide (x12_2 < (l0.length : Int)) = true := decide_eq_true c86
                  clear c86
                  by_cases c87 : x11_2.length < 5864062014805
                  ·rw [if_pos c87] at H
                   have LMc87 := Aside0.mk c87
                   clear c87
                   obtain ⟨y423, hy423⟩ : ∃ y_ : List (S75), y_ = (x11_2 ++ [(⟨45, rdOf ByteArray.empty l0 x12_2⟩ : S75)]) := ⟨_, rfl⟩
                   replace H : (yd_.l2 kj70 l0 l1 (l0.length : Int) (l1.length : Int) x7_1 y423 (wrap64 (x12_2 + 1)) x13_2) = some r := by first | (rw [hy423]; with_reducible exact H) | (have H2_ := (Option.bind_some _ _).symm.trans H; rw [hy423]; with_reducible exact H2_) | (have H2_ := (Option.bind_some _ _).symm.trans H; with_reducible exact H2_) | with_reducible exact H | (rw [hy423]; exact H) | exact H
                   have Ny423 := Aside0.mk hy423
                   clear hy423
                   have H' := Aside0.mk H
                   clear H
                   have p422 : 0 ≤ (x12_2 : Int) := of_decide_eq_true (by assumption)
                   have q422 : x12_2 < (l0.length : Int) := of_decide_eq_true (by assumption)
                   obtain ⟨ad422, e422, hx422_0⟩ := Kd.yL_ HR0.out x12_2 p422 q422
                   cases e422
                   replace hx422_0 := (HB.out.cell (World.block_lt_of_cell? w _ hx422_0)).trans hx422_0
                   replace p422 := eq_true p422
                   replace q422 := eq_true q422
                   go_wp2_with (first | ((with_reducible refine yD_ (b := .append) (xs := #[.tmp 189, .tmp 195]) rfl ?_); at_builtin; refine Kd.y0_ k75 (w0 := w) w.heap.size rfl (.tmp 189) (.tmp 195) 72 75 (.agg #[(.int .u8 0), (.string ⟨#[]⟩)]) 24 rfl Tryd.underlying72 info75 rfl (by decide) (by omega) u11 x11_2 (⟨45, rdOf ByteArray.empty l0 x12_2⟩ : S75) [.int .u8 45, .string (rdOf ByteArray.empty l0 x12_2)] (fun _ => True) (fun _ => False) rfl rfl ?aP (fun _ hk => hk.elim) ?aF ?aO ?aB ?aS ?aL ?_; (case aP => exact yyb_ _ _ _ (⟨45, rdOf ByteArray.empty l0 x12_2⟩ : S75)); (case aB => exact (by repeat (with_reducible first | exact HB.out | apply yc_ | apply ya_ | apply yb_))); (case aF => exact (fun _ _ => trivial)); (case aO => exact (by (with_reducible repeat (first | apply Kd.yh_ | apply Kd.yi_ | apply Kd.R_drew)); exact HO_11.out)); (case aS => exact (yk_ (by repeat (with_reducible first | exact HB.out | apply yc_ | apply ya_ | apply yb_)))); (case aL => have := LMc87.out; omega); intro v424 w88 ho hb hg hat; rw [← Ny423.out] at ho; have n0_ := Aside0.mk (Kd.yxb_ (by (with_reducible repeat (first | apply Kd.yO_ | apply Kd.yN_ | apply Kd.S_drew)); exact HO_7.out) (Kd.yU_ (by (with_reducible repeat (first | apply Kd.yh_ | apply Kd.yi_ | apply Kd.R_drew)); exact HO_11.out)) (by decide) hg); have n1_ := Aside0.mk (hb); have n2_ := Aside0.mk (ho); clear HO_7; clear HB; clear HO_11; have HO_7 := n0_; have HB := n1_; have HO425 := n2_; clear n0_ n1_ n2_; clear ho hb hg hat))
                   repeat (go_quiet (first | ((with_reducible refine yD_ (b := .append) (xs := #[.tmp 189, .tmp 195]) rfl ?_); at_builtin; refine Kd.y0_ k75 (w0 := w) w.heap.size rfl (.tmp 189) (.tmp 195) 72 75 (.agg #[(.int .u8 0), (.string ⟨#[]⟩)]) 24 rfl Tryd.underlying72 info75 rfl (by decide) (by omega) u11 x11_2 (⟨45, rdOf ByteArray.empty l0 x12_2⟩ : S75) [.int .u8 45, .string (rdOf ByteArray.empty l0 x12_2)] (fun _ => True) (fun _ => False) rfl rfl ?aP (fun _ hk => hk.elim) ?aF ?aO ?aB ?aS ?aL ?_; (case aP => exact yyb_ _ _ _ (⟨45, rdOf ByteArray.empty l0 x12_2⟩ : S75)); (case aB => exact (by repeat (with_reducible first | exact HB.out | apply yc_ | apply ya_ | apply yb_))); (case aF => exact (fun _ _ => trivial)); (case aO => exact (by (with_reducible repeat (first | apply Kd.yh_ | apply Kd.yi_ | apply Kd.R_drew)); exact HO_11.out)); (case aS => exact (yk_ (by repeat (with_reducible first | exact HB.out | apply yc_ | apply ya_ | apply yb_)))); (case aL => have := LMc87.out; omega); intro v424 w88 ho hb hg hat; rw [← Ny423.out] at ho; have n0_ := Aside0.mk (Kd.yxb_ (by (with_reducible repeat (first | apply Kd.yO_ | apply Kd.yN_ | apply Kd.S_drew)); exact HO_7.out) (Kd.yU_ (by (with_reducible repeat (first | apply Kd.yh_ | apply Kd.yi_ | apply Kd.R_drew)); exact HO_11.out)) (by decide) hg); have n1_ := Aside0.mk (hb); have n2_ := Aside0.mk (ho); clear HO_7; clear HB; clear HO_11; have HO_7 := n0_; have HB := n1_; have HO425 := n2_; clear n0_ n1_ n2_; clear ho hb hg hat)); try go_wp2_with (first | ((with_reducible refine yD_ (b := .append) (xs := #[.tmp 189, .tmp 195]) rfl ?_); at_builtin; refine Kd.y0_ k75 (w0 := w) w.heap.size rfl (.tmp 189) (.tmp 195) 72 75 (.agg #[(.int .u8 0), (.string ⟨#[]⟩)]) 24 rfl Tryd.underlying72 info75 rfl (by decide) (by omega) u11 x11_2 (⟨45, rdOf ByteArray.empty l0 x12_2⟩ : S75) [.int .u8 45, .string (rdOf ByteArray.empty l0 x12_2)] (fun _ => True) (fun _ => False) rfl rfl ?aP (fun _ hk => hk.elim) ?aF ?aO ?aB ?aS ?aL ?_; (case aP => exact yyb_ _ _ _ (⟨45, rdOf ByteArray.empty l0 x12_2⟩ : S75)); (case aB => exact (by repeat (with_reducible first | exact HB.out | apply yc_ | apply ya_ | apply yb_))); (case aF => exact (fun _ _ => trivial)); (case aO => exact (by (with_reducible repeat (first | apply Kd.yh_ | apply Kd.yi_ | apply Kd.R_drew)); exact HO_11.out)); (case aS => exact (yk_ (by repeat (with_reducible first | exact HB.out | apply yc_ | apply ya_ | apply yb_)))); (case aL => have := LMc87.out; omega); intro v424 w88 ho hb hg hat; rw [← Ny423.out] at ho; have n0_ := Aside0.mk (Kd.yxb_ (by (with_reducible repeat (first | apply Kd.yO_ | apply Kd.yN_ | apply Kd.S_drew)); exact HO_7.out) (Kd.yU_ (by (with_reducible repeat (first | apply Kd.yh_ | apply Kd.yi_ | apply Kd.R_drew)); exact HO_11.out)) (by decide) hg); have n1_ := Aside0.mk (hb); have n2_ := Aside0.mk (ho); clear HO_7; clear HB; clear HO_11; have HO_7 := n0_; have HB := n1_; have HO425 := n2_; clear n0_ n1_ n2_; clear ho hb hg hat)))
                   go_roundg kj70
                   case measure => have := HK1.out; have := HK2.out; have := HJ67.out; have := HJ70.out; omega
                   case rel => exact ⟨(y423), (wrap64 (x12_2 + 1)), (x13_2), (by first | rfl | (simp; done) | (simp [*]; done)), (by first | rfl | (simp; done) | (simp [*]; done)), H', ⟨by have := HK1.out; have := HK2.out; have := HJ67.out; have := HJ70.out; omega⟩, ⟨by (with_reducible repeat (first | apply Kd.yO_ | apply Kd.yN_ | apply Kd.S_drew)); exact HO_7.out⟩, ⟨by (with_reducible repeat (first | apply Kd.yh_ | apply Kd.yi_ | apply Kd.R_drew)); exact HO425.out⟩, ⟨by repeat (with_reducible first | exact HB.out | apply yc_ | apply ya_ | apply yb_)⟩⟩
                  ·rw [if_neg c87] at H
                   exact absurd H (by simp)
                 ·rw [if_neg c86] at H
                  exact absurd H (by simp)
                ·rw [if_neg c85] at H
                 exact absurd H (by simp)
               ·rw [if_neg c84] at H
                have c84b0 : (x13_2 == (l1.length : Int)) = false := beq_eq_false_iff_ne.mpr c84
                have c84b1 : (x13_2 != (l1.length : Int)) = true := bne_iff_ne.mpr c84
                obtain ⟨ji89, hji89⟩ : ∃ j_ : Int, (wrap64 (x12_2 + 1)) = j_ := ⟨_, rfl⟩
                replace H : (if 0 ≤ (ji89) then (if (ji89) < (x7_1.length : Int) then (if 0 ≤ x13_2 then (if x13_2 < ((rd_L5 x7_1 (ji89)).length : Int) then (if 0 ≤ x12_2 then (if x12_2 < (x7_1.length : Int) then (if 0 ≤ (wrap64 (x13_2 + 1)) then (if (wrap64 (x13_2 + 1)) < ((rd_L5 x7_1 x12_2).length : Int) then (if (rd (rd_L5 x7_1 (ji89)) x13_2) ≥ (rd (rd_L5 x7_1 x12_2) (wrap64 (x13_2 + 1))) then (if x12_2 < (l0.length : Int) then (if x11_2.length < 5864062014805 then (yd_.l2 kj70 l0 l1 (l0.length : Int) (l1.length : Int) x7_1 (x11_2 ++ [(⟨45, rdOf ByteArray.empty l0 x12_2⟩ : S75)]) ji89 x13_2) else (none)) else (none)) else (if x13_2 < (l1.length : Int) then (if x11_2.length < 5864062014805 then (yd_.l2 kj70 l0 l1 (l0.length : Int) (l1.length : Int) x7_1 (x11_2 ++ [(⟨43, rdOf ByteArray.empty l1 x13_2⟩ : S75)]) x12_2 (wrap64 (x13_2 + 1))) else (none)) else (none))) else (none)) else (none)) else (none)) else (none)) else (none)) else (none)) else (none)) else (none)) = some r := by first | (rw [hji89] at H; exact H) | (simp only [hji89] at H ⊢; exact H)
                have hji89w : (IntKind.i64.wrap (x12_2 + 1)) = ji89 := (i64_w _).trans hji89
                by_cases c90 : 0 ≤ (ji89)
                ·rw [if_pos c90] at H
                 have c90b0 : decide (0 ≤ (ji89)) = true := decide_eq_true c90
                 clear c90
                 by_cases c91 : (ji89) < (x7_1.length : Int)
                 ·rw [if_pos c91] at H
                  have c91b0 : decide ((ji89) < (x7_1.length : Int)) = true := decide_eq_true c91
                  clear c91
                  by_cases c92 : 0 ≤ x13_2
                  ·rw [if_pos c92] at H
                   have c92b0 : decide (0 ≤ x13_2) = true := decide_eq_true c92
                   clear c92
                   by_cases c93 : x13_2 < ((rd_L5 x7_1 (ji89)).length : Int)
                   ·rw [if_pos c93] at H
                    have c93b0 : decide (x13_2 < ((rd_L5 x7_1 (ji89)).length : Int)) = true := decide_eq_true c93
                    clear c93
                    by_cases c94 : 0 ≤ x12_2
                    ·rw [if_pos c94] at H
                     have c94b0 : decide (0 ≤ x12_2) = true := decide_eq_true c94
                     clear c94
                     by_cases c95 : x12_2 < (x7_1.length : Int)
                     ·rw [if_pos c95] at H
                      have c95b0 : decide (x12_2 < (x7_1.length : Int)) = true := decide_eq_true c95
                      clear c95
                      obtain ⟨ji96, hji96⟩ : ∃ j_ : Int, (wrap64 (x13_2 + 1)) = j_ := ⟨_, rfl⟩
                      replace H : (if 0 ≤ (ji96) then (if (ji96) < ((rd_L5 x7_1 x12_2).length : Int) then (if (rd (rd_L5 x7_1 (ji89)) x13_2) ≥ (rd (rd_L5 x7_1 x12_2) (ji96)) then (if x12_2 < (l0.length : Int) then (if x11_2.length < 5864062014805 then (yd_.l2 kj70 l0 l1 (l0.length : Int) (l1.length : Int) x7_1 (x11_2 ++ [(⟨45, rdOf ByteArray.empty l0 x12_2⟩ : S75)]) ji89 x13_2) else (none)) else (none)) else (if x13_2 < (l1.length : Int) then (if x11_2.length < 5864062014805 then (yd_.l2 kj70 l0 l1 (l0.length : Int) (l1.length : Int) x7_1 (x11_2 ++ [(⟨43, rdOf ByteArray.empty l1 x13_2⟩ : S75)]) x12_2 ji96) else (none)) else (none))) else (none)) else (none)) = some r := by first | (rw [hji96] at H; exact H) | (simp only [hji96] at H ⊢; exact H)
                      have hji96w : (IntKind.i64.wrap (x13_2 + 1)) = ji96 := (i64_w _).trans hji96
                      by_cases c97 : 0 ≤ (ji96)
                      ·rw [if_pos c97] at H
                       have c97b0 : decide (0 ≤ (ji96)) = true := decide_eq_true c97
                       clear c97
                       by_cases c98 : (ji96) < ((rd_L5 x7_1 x12_2).length : Int)
                       ·rw [if_pos c98] at H
                        have c98b0 : decide ((ji96) < ((rd_L5 x7_1 x12_2).length : Int)) = true := decide_eq_true c98
                        clear c98
                        by_cases c99 : (rd (rd_L5 x7_1 (ji89)) x13_2) ≥ (rd (rd_L5 x7_1 x12_2) (ji96))
                        ·rw [if_pos c99] at H
                         have c99b0 : decide ((rd (rd_L5 x7_1 x12_2) (ji96)) ≤ (rd (rd_L5 x7_1 (ji89)) x13_2)) = true := decide_eq_true c99
                         clear c99
                         by_cases c100 : x12_2 < (l0.length : Int)
                         ·rw [if_pos c100] at H
                          have c100b0 : decide (x12_2 < (l0.length : Int)) = true := decide_eq_true c100
                          clear c100
                          by_cases c101 : x11_2.length < 5864062014805
                          ·rw [if_pos c101] at H
                           have LMc101 := Aside0.mk c101
                           clear c101
                           obtain ⟨y431, hy431⟩ : ∃ y_ : List (S75), y_ = (x11_2 ++ [(⟨45, rdOf ByteArray.empty l0 x12_2⟩ : S75)]) := ⟨_, rfl⟩
                           replace H : (yd_.l2 kj70 l0 l1 (l0.length : Int) (l1.length : Int) x7_1 y431 ji89 x13_2) = some r := by first | (rw [hy431]; with_reducible exact H) | (have H2_ := (Option.bind_some _ _).symm.trans H; rw [hy431]; with_reducible exact H2_) | (have H2_ := (Option.bind_some _ _).symm.trans H; with_reducible exact H2_) | with_reducible exact H | (rw [hy431]; exact H) | exact H
                           have Ny431 := Aside0.mk hy431
                           clear hy431
                           have H' := Aside0.mk H
                           clear H
                           obtain ⟨Ao102, co102, eo102⟩ := Kd.S_slice HO_7.out
                           subst eo102
                           have p426 : 0 ≤ ((ji89) : Int) := of_decide_eq_true (by assumption)
                           have q426 : (ji89) < (x7_1.length : Int) := of_decide_eq_true (by assumption)
                           obtain ⟨ad426, A426_0, c426_0, e426, hx426_0, hl426_0, hi426_0⟩ := at_L5 (Kd.yp_ HO_7.out).2.2 (ji89) p426 q426
                           cases e426
                           obtain ⟨ce426, hce426, hMe426, hcc426⟩ := Kd.S_get HO_7.out [] (ji89) p426 (by first | exact q426 | exact of_decide_eq_true (by assumption) | (have e_ := (Kd.yp_ HO_7.out).1; omega))
                           obtain ⟨ve426_0, rfl, ge426_0⟩ := hMe426
                           have hv426_0 := hcc426 0 _ rfl
                           rw [Nat.add_zero, show ((Kd.slice 3 (Kd.int .i64))).sz = 1 from rfl, Nat.mul_one] at hv426_0
                           replace hv426_0 := Option.some.inj (hv426_0.symm.trans hx426_0)
                           rw [hv426_0] at ge426_0
                           have HL426_0 := Aside0.mk (show Kd.R (Kd.int .i64) 3 _ _ _ _ (rd_L5 x7_1 (ji89)) from ge426_0)
                           clear hv426_0 ge426_0
                           have HX426_0 := Aside0.mk hx426_0
                           clear hcc426 hce426
                           have HR426_0 := Aside0.mk hi426_0
                           have HC426_0 := Aside0.mk hl426_0
                           clear hi426_0 hl426_0
                           replace p426 := eq_true p426
                           replace q426 := eq_true q426
                           have p427 : 0 ≤ (x13_2 : Int) := of_decide_eq_true (by assumption)
                           have q427 : x13_2 < ((rd_L5 x7_1 (ji89)).length : Int) := of_decide_eq_true (by assumption)
                           obtain ⟨ad427, e427, hx427_0⟩ := Kd.at_int (by repeat (first | (with_reducible exact HR426_0.out) | (with_reducible refine Kd.yK_ ?_ _) | (with_reducible refine Kd.yR_ ?_ _) | (with_reducible refine Kd.C_drew ?_) | exact HR426_0.out)) x13_2 p427 q427
                           cases e427
                           replace p427 := eq_true p427
                           replace q427 := eq_true q427
                           have p428 : 0 ≤ (x12_2 : Int) := of_decide_eq_true (by assumption)
                           have q428 : x12_2 < (x7_1.length : Int) := of_decide_eq_true (by assumption)
                           obtain ⟨ad428, A428_0, c428_0, e428, hx428_0, hl428_0, hi428_0⟩ := at_L5 (Kd.yp_ HO_7.out).2.2 x12_2 p428 q428
                           obtain rfl : ad426 = ad428 := (by injection e428)
                           obtain ⟨ce428, hce428, hMe428, hcc428⟩ := Kd.S_get HO_7.out [] x12_2 p428 (by first | exact q428 | exact of_decide_eq_true (by assumption) | (have e_ := (Kd.yp_ HO_7.out).1; omega))
                           obtain ⟨ve428_0, rfl, ge428_0⟩ := hMe428
                           have hv428_0 := hcc428 0 _ rfl
                           rw [Nat.add_zero, show ((Kd.slice 3 (Kd.int .i64))).sz = 1 from rfl, Nat.mul_one] at hv428_0
                           replace hv428_0 := Option.some.inj (hv428_0.symm.trans hx428_0)
                           rw [hv428_0] at ge428_0
                           have HL428_0 := Aside0.mk (show Kd.R (Kd.int .i64) 3 _ _ _ _ (rd_L5 x7_1 x12_2) from ge428_0)
                           clear hv428_0 ge428_0
                           have HX428_0 := Aside0.mk hx428_0
                           clear hcc428 hce428
                           have HR428_0 := Aside0.mk hi428_0
                           have HC428_0 := Aside0.mk hl428_0
                           clear hi428_0 hl428_0
                           replace p428 := eq_true p428
                           replace q428 := eq_true q428
                           have p429 : 0 ≤ ((ji96) : Int) := of_decide_eq_true (by assumption)
                           have q429 : (ji96) < ((rd_L5 x7_1 x12_2).length : Int) := of_decide_eq_true (by assumption)
                           obtain ⟨ad429, e429, hx429_0⟩ := Kd.at_int (by repeat (first | (with_reducible exact HR428_0.out) | (with_reducible refine Kd.yK_ ?_ _) | (with_reducible refine Kd.yR_ ?_ _) | (with_reducible refine Kd.C_drew ?_) | exact HR428_0.out)) (ji96) p429 q429
                           cases e429
                           replace p429 := eq_true p429
                           replace q429 := eq_true q429
                           have p430 : 0 ≤ (x12_2 : Int) := of_decide_eq_true (by assumption)
                           have q430 : x12_2 < (l0.length : Int) := of_decide_eq_true (by assumption)
                           obtain ⟨ad430, e430, hx430_0⟩ := Kd.yL_ HR0.out x12_2 p430 q430
                           cases e430
                           replace hx430_0 := (HB.out.cell (World.block_lt_of_cell? w _ hx430_0)).trans hx430_0
                           replace p430 := eq_true p430
                           replace q430 := eq_true q430
                           go_wp2_with (first | ((with_reducible refine yD_ (b := .append) (xs := #[.tmp 189, .tmp 195]) rfl ?_); at_builtin; refine Kd.y0_ k75 (w0 := w) w.heap.size rfl (.tmp 189) (.tmp 195) 72 75 (.agg #[(.int .u8 0), (.string ⟨#[]⟩)]) 24 rfl Tryd.underlying72 info75 rfl (by decide) (by omega) u11 x11_2 (⟨45, rdOf ByteArray.empty l0 x12_2⟩ : S75) [.int .u8 45, .string (rdOf ByteArray.empty l0 x12_2)] (fun _ => True) (fun _ => False) rfl rfl ?aP (fun _ hk => hk.elim) ?aF ?aO ?aB ?aS ?aL ?_; (case aP => exact yyb_ _ _ _ (⟨45, rdOf ByteArray.empty l0 x12_2⟩ : S75)); (case aB => exact (by repeat (with_reducible first | exact HB.out | apply yc_ | apply ya_ | apply yb_))); (case aF => exact (fun _ _ => trivial)); (case aO => exact (by (with_reducible repeat (first | apply Kd.yh_ | apply Kd.yi_ | apply Kd.R_drew)); exact HO_11.out)); (case aS => exact (yk_ (by repeat (with_reducible first | exact HB.out | apply yc_ | apply ya_ | apply yb_)))); (case aL => have := LMc101.out; omega); intro v432 w103 ho hb hg hat; rw [← Ny431.out] at ho; have n0_ := Aside0.mk (Kd.yxb_ (by (with_reducible repeat (first | apply Kd.yO_ | apply Kd.yN_ | apply Kd.S_drew)); exact HO_7.out) (Kd.yU_ (by (with_reducible repeat (first | apply Kd.yh_ | apply Kd.yi_ | apply Kd.R_drew)); exact HO_11.out)) (by decide) hg); have n1_ := Aside0.mk (Kd.yhb_ (by (with_reducible repeat (first | apply Kd.yh_ | apply Kd.yi_ | apply Kd.R_drew)); exact HL426_0.out) (Kd.yU_ (by (with_reducible repeat (first | apply Kd.yh_ | apply Kd.yi_ | apply Kd.R_drew)); exact HO_11.out)) (by decide) hg); have n2_ := Aside0.mk (Kd.yhb_ (by (with_reducible repeat (first | apply Kd.yh_ | apply Kd.yi_ | apply Kd.R_drew)); exact HL428_0.out) (Kd.yU_ (by (with_reducible repeat (first | apply Kd.yh_ | apply Kd.yi_ | apply Kd.R_drew)); exact HO_11.out)) (by decide) hg); have n3_ := Aside0.mk (hb); have n4_ := Aside0.mk (ho); clear HO_7; clear HL426_0; clear HL428_0; clear HB; clear HO_11; have HO_7 := n0_; have HL426_0 := n1_; have HL428_0 := n2_; have HB := n3_; have HO433 := n4_; clear n0_ n1_ n2_ n3_ n4_; clear ho hb hg hat))
                           repeat (go_quiet (first | ((with_reducible refine yD_ (b := .append) (xs := #[.tmp 189, .tmp 195]) rfl ?_); at_builtin; refine Kd.y0_ k75 (w0 := w) w.heap.size rfl (.tmp 189) (.tmp 195) 72 75 (.agg #[(.int .u8 0), (.string ⟨#[]⟩)]) 24 rfl Tryd.underlying72 info75 rfl (by decide) (by omega) u11 x11_2 (⟨45, rdOf ByteArray.empty l0 x12_2⟩ : S75) [.int .u8 45, .string (rdOf ByteArray.empty l0 x12_2)] (fun _ => True) (fun _ => False) rfl rfl ?aP (fun _ hk => hk.elim) ?aF ?aO ?aB ?aS ?aL ?_; (case aP => exact yyb_ _ _ _ (⟨45, rdOf ByteArray.empty l0 x12_2⟩ : S75)); (case aB => exact (by repeat (with_reducible first | exact HB.out | apply yc_ | apply ya_ | apply yb_))); (case aF => exact (fun _ _ => trivial)); (case aO => exact (by (with_reducible repeat (first | apply Kd.yh_ | apply Kd.yi_ | apply Kd.R_drew)); exact HO_11.out)); (case aS => exact (yk_ (by repeat (with_reducible first | exact HB.out | apply yc_ | apply ya_ | apply yb_)))); (case aL => have := LMc101.out; omega); intro v432 w103 ho hb hg hat; rw [← Ny431.out] at ho; have n0_ := Aside0.mk (Kd.yxb_ (by (with_reducible repeat (first | apply Kd.yO_ | apply Kd.yN_ | apply Kd.S_drew)); exact HO_7.out) (Kd.yU_ (by (with_reducible repeat (first | apply Kd.yh_ | apply Kd.yi_ | apply Kd.R_drew)); exact HO_11.out)) (by decide) hg); have n1_ := Aside0.mk (Kd.yhb_ (by (with_reducible repeat (first | apply Kd.yh_ | apply Kd.yi_ | apply Kd.R_drew)); exact HL426_0.out) (Kd.yU_ (by (with_reducible repeat (first | apply Kd.yh_ | apply Kd.yi_ | apply Kd.R_drew)); exact HO_11.out)) (by decide) hg); have n2_ := Aside0.mk (Kd.yhb_ (by (with_reducible repeat (first | apply Kd.yh_ | apply Kd.yi_ | apply Kd.R_drew)); exact HL428_0.out) (Kd.yU_ (by (with_reducible repeat (first | apply Kd.yh_ | apply Kd.yi_ | apply Kd.R_drew)); exact HO_11.out)) (by decide) hg); have n3_ := Aside0.mk (hb); have n4_ := Aside0.mk (ho); clear HO_7; clear HL426_0; clear HL428_0; clear HB; clear HO_11; have HO_7 := n0_; have HL426_0 := n1_; have HL428_0 := n2_; have HB := n3_; have HO433 := n4_; clear n0_ n1_ n2_ n3_ n4_; clear ho hb hg hat)); try go_wp2_with (first | ((with_reducible refine yD_ (b := .append) (xs := #[.tmp 189, .tmp 195]) rfl ?_); at_builtin; refine Kd.y0_ k75 (w0 := w) w.heap.size rfl (.tmp 189) (.tmp 195) 72 75 (.agg #[(.int .u8 0), (.string ⟨#[]⟩)]) 24 rfl Tryd.underlying72 info75 rfl (by decide) (by omega) u11 x11_2 (⟨45, rdOf ByteArray.empty l0 x12_2⟩ : S75) [.int .u8 45, .string (rdOf ByteArray.empty l0 x12_2)] (fun _ => True) (fun _ => False) rfl rfl ?aP (fun _ hk => hk.elim) ?aF ?aO ?aB ?aS ?aL ?_; (case aP => exact yyb_ _ _ _ (⟨45, rdOf ByteArray.empty l0 x12_2⟩ : S75)); (case aB => exact (by repeat (with_reducible first | exact HB.out | apply yc_ | apply ya_ | apply yb_))); (case aF => exact (fun _ _ => trivial)); (case aO => exact (by (with_reducible repeat (first | apply Kd.yh_ | apply Kd.yi_ | apply Kd.R_drew)); exact HO_11.out)); (case aS => exact (yk_ (by repeat (with_reducible first | exact HB.out | apply yc_ | apply ya_ | apply yb_)))); (case aL => have := LMc101.out; omega); intro v432 w103 ho hb hg hat; rw [← Ny431.out] at ho; have n0_ := Aside0.mk (Kd.yxb_ (by (with_reducible repeat (first | apply Kd.yO_ | apply Kd.yN_ | apply Kd.S_drew)); exact HO_7.out) (Kd.yU_ (by (with_reducible repeat (first | apply Kd.yh_ | apply Kd.yi_ | apply Kd.R_drew)); exact HO_11.out)) (by decide) hg); have n1_ := Aside0.mk (Kd.yhb_ (by (with_reducible repeat (first | apply Kd.yh_ | apply Kd.yi_ | apply Kd.R_drew)); exact HL426_0.out) (Kd.yU_ (by (with_reducible repeat (first | apply Kd.yh_ | apply Kd.yi_ | apply Kd.R_drew)); exact HO_11.out)) (by decide) hg); have n2_ := Aside0.mk (Kd.yhb_ (by (with_reducible repeat (first | apply Kd.yh_ | apply Kd.yi_ | apply Kd.R_drew)); exact HL428_0.out) (Kd.yU_ (by (with_reducible repeat (first | apply Kd.yh_ | apply Kd.yi_ | apply Kd.R_drew)); exact HO_11.out)) (by decide) hg); have n3_ := Aside0.mk (hb); have n4_ := Aside0.mk (ho); clear HO_7; clear HL426_0; clear HL428_0; clear HB; clear HO_11; have HO_7 := n0_; have HL426_0 := n1_; have HL428_0 := n2_; have HB := n3_; have HO433 := n4_; clear n0_ n1_ n2_ n3_ n4_; clear ho hb hg hat)))
                           go_roundg kj70
                           case measure => have := HK1.out; have := HK2.out; have := HJ67.out; have := HJ70.out; omega
                           case rel => exact ⟨(y431), (ji89), (x13_2), (by first | rfl | (simp; done) | (simp only [← hji89] <;> (first | rfl | simp)) | (simp [*]; done)), (by first | rfl | (simp; done) | (simp [*]; done)), H', ⟨by have := HK1.out; have := HK2.out; have := HJ67.out; have := HJ70.out; omega⟩, ⟨by (with_reducible repeat (first | apply Kd.yO_ | apply Kd.yN_ | apply Kd.S_drew)); exact HO_7.out⟩, ⟨by (with_reducible repeat (first | apply Kd.yh_ | apply Kd.yi_ | apply Kd.R_drew)); exact HO433.out⟩, ⟨by repeat (with_reducible first | exact HB.out | apply yc_ | apply ya_ | apply yb_)⟩⟩
                          ·rw [if_neg c101] at H
                           exact absurd H (by simp)
                         ·rw [if_neg c100] at H
                          exact absurd H (by simp)
                        ·rw [if_neg c99] at H
                         have c99b0 : decide ((rd (rd_L5 x7_1 x12_2) (ji96)) ≤ (rd (rd_L5 x7_1 (ji89)) x13_2)) = false := decide_eq_false c99
                         clear c99
                         by_cases c104 : x13_2 < (l1.length : Int)
                         ·rw [if_pos c104] at H
                          have c104b0 : decide (x13_2 < (l1.length : Int)) = true := decide_eq_true c104
                          clear c104
                          by_cases c105 : x11_2.length < 5864062014805
                          ·rw [if_pos c105] at H
                           have LMc105 := Aside0.mk c105
                           clear c105
                           obtain ⟨y435, hy435⟩ : ∃ y_ : List (S75), y_ = (x11_2 ++ [(⟨43, rdOf ByteArray.empty l1 x13_2⟩ : S75)]) := ⟨_, rfl⟩
                           replace H : (yd_.l2 kj70 l0 l1 (l0.length : Int) (l1.length : Int) x7_1 y435 x12_2 ji96) = some r := by first | (rw [hy435]; with_reducible exact H) | (have H2_ := (Option.bind_some _ _).symm.trans H; rw [hy435]; with_reducible exact H2_) | (have H2_ := (Option.bind_some _ _).symm.trans H; with_reducible exact H2_) | with_reducible exact H | (rw [hy435]; exact H) | exact H
                           have Ny435 := Aside0.mk hy435
                           clear hy435
                           have H' := Aside0.mk H
                           clear H
                           obtain ⟨Ao106, co106, eo106⟩ := Kd.S_slice HO_7.out
                           subst eo106
                           have p426 : 0 ≤ ((ji89) : Int) := of_decide_eq_true (by assumption)
                           have q426 : (ji89) < (x7_1.length : Int) := of_decide_eq_true (by assumption)
                           obtain ⟨ad426, A426_0, c426_0, e426, hx426_0, hl426_0, hi426_0⟩ := at_L5 (Kd.yp_ HO_7.out).2.2 (ji89) p426 q426
                           cases e426
                           obtain ⟨ce426, hce426, hMe426, hcc426⟩ := Kd.S_get HO_7.out [] (ji89) p426 (by first | exact q426 | exact of_decide_eq_true (by assumption) | (have e_ := (Kd.yp_ HO_7.out).1; omega))
                           obtain ⟨ve426_0, rfl, ge426_0⟩ := hMe426
                           have hv426_0 := hcc426 0 _ rfl
                           rw [Nat.add_zero, show ((Kd.slice 3 (Kd.int .i64))).sz = 1 from rfl, Nat.mul_one] at hv426_0
                           replace hv426_0 := Option.some.inj (hv426_0.symm.trans hx426_0)
                           rw [hv426_0] at ge426_0
                           have HL426_0 := Aside0.mk (show Kd.R (Kd.int .i64) 3 _ _ _ _ (rd_L5 x7_1 (ji89)) from ge426_0)
                           clear hv426_0 ge426_0
                           have HX426_0 := Aside0.mk hx426_0
                           clear hcc426 hce426
                           have HR426_0 := Aside0.mk hi426_0
                           have HC426_0 := Aside0.mk hl426_0
                           clear hi426_0 hl426_0
                           replace p426 := eq_true p426
                           replace q426 := eq_true q426
                           have p427 : 0 ≤ (x13_2 : Int) := of_decide_eq_true (by assumption)
                           have q427 : x13_2 < ((rd_L5 x7_1 (ji89)).length : Int) := of_decide_eq_true (by assumption)
                           obtain ⟨ad427, e427, hx427_0⟩ := Kd.at_int (by repeat (first | (with_reducible exact HR426_0.out) | (with_reducible refine Kd.yK_ ?_ _) | (with_reducible refine Kd.yR_ ?_ _) | (with_reducible refine Kd.C_drew ?_) | exact HR426_0.out)) x13_2 p427 q427
                           cases e427
                           replace p427 := eq_true p427
                           replace q427 := eq_true q427
                           have p428 : 0 ≤ (x12_2 : Int) := of_decide_eq_true (by assumption)
                           have q428 : x12_2 < (x7_1.length : Int) := of_decide_eq_true (by assumption)
                           obtain ⟨ad428, A428_0, c428_0, e428, hx428_0, hl428_0, hi428_0⟩ := at_L5 (Kd.yp_ HO_7.out).2.2 x12_2 p428 q428
                           obtain rfl : ad426 = ad428 := (by injection e428)
                           obtain ⟨ce428, hce428, hMe428, hcc428⟩ := Kd.S_get HO_7.out [] x12_2 p428 (by first | exact q428 | exact of_decide_eq_true (by assumption) | (have e_ := (Kd.yp_ HO_7.out).1; omega))
                           obtain ⟨ve428_0, rfl, ge428_0⟩ := hMe428
                           have hv428_0 := hcc428 0 _ rfl
                           rw [Nat.add_zero, show ((Kd.slice 3 (Kd.int .i64))).sz = 1 from rfl, Nat.mul_one] at hv428_0
                           replace hv428_0 := Option.some.inj (hv428_0.symm.trans hx428_0)
                           rw [hv428_0] at ge428_0
                           have HL428_0 := Aside0.mk (show Kd.R (Kd.int .i64) 3 _ _ _ _ (rd_L5 x7_1 x12_2) from ge428_0)
                           clear hv428_0 ge428_0
                           have HX428_0 := Aside0.mk hx428_0
                           clear hcc428 hce428
                           have HR428_0 := Aside0.mk hi428_0
                           have HC428_0 := Aside0.mk hl428_0
                           clear hi428_0 hl428_0
                           replace p428 := eq_true p428
                           replace q428 := eq_true q428
                           have p429 : 0 ≤ ((ji96) : Int) := of_decide_eq_true (by assumption)
                           have q429 : (ji96) < ((rd_L5 x7_1 x12_2).length : Int) := of_decide_eq_true (by assumption)
                           obtain ⟨ad429, e429, hx429_0⟩ := Kd.at_int (by repeat (first | (with_reducible exact HR428_0.out) | (with_reducible refine Kd.yK_ ?_ _) | (with_reducible refine Kd.yR_ ?_ _) | (with_reducible refine Kd.C_drew ?_) | exact HR428_0.out)) (ji96) p429 q429
                           cases e429
                           replace p429 := eq_true p429
                           replace q429 := eq_true q429
                           have p434 : 0 ≤ (x13_2 : Int) := of_decide_eq_true (by assumption)
                           have q434 : x13_2 < (l1.length : Int) := of_decide_eq_true (by assumption)
                           obtain ⟨ad434, e434, hx434_0⟩ := Kd.yL_ HR1.out x13_2 p434 q434
                           cases e434
                           replace hx434_0 := (HB.out.cell (World.block_lt_of_cell? w _ hx434_0)).trans hx434_0
                           replace p434 := eq_true p434
                           replace q434 := eq_true q434
                           go_wp2_with (first | ((with_reducible refine yD_ (b := .append) (xs := #[.tmp 119, .tmp 125]) rfl ?_); at_builtin; refine Kd.y0_ k75 (w0 := w) w.heap.size rfl (.tmp 119) (.tmp 125) 72 75 (.agg #[(.int .u8 0), (.string ⟨#[]⟩)]) 24 rfl Tryd.underlying72 info75 rfl (by decide) (by omega) u11 x11_2 (⟨43, rdOf ByteArray.empty l1 x13_2⟩ : S75) [.int .u8 43, .string (rdOf ByteArray.empty l1 x13_2)] (fun _ => True) (fun _ => False) rfl rfl ?aP (fun _ hk => hk.elim) ?aF ?aO ?aB ?aS ?aL ?_; (case aP => exact yyb_ _ _ _ (⟨43, rdOf ByteArray.empty l1 x13_2⟩ : S75)); (case aB => exact (by repeat (with_reducible first | exact HB.out | apply yc_ | apply ya_ | apply yb_))); (case aF => exact (fun _ _ => trivial)); (case aO => exact (by (with_reducible repeat (first | apply Kd.yh_ | apply Kd.yi_ | apply Kd.R_drew)); exact HO_11.out)); (case aS => exact (yk_ (by repeat (with_reducible first | exact HB.out | apply yc_ | apply ya_ | apply yb_)))); (case aL => have := LMc105.out; omega); intro v436 w107 ho hb hg hat; rw [← Ny435.out] at ho; have n0_ := Aside0.mk (Kd.yxb_ (by (with_reducible repeat (first | apply Kd.yO_ | apply Kd.yN_ | apply Kd.S_drew)); exact HO_7.out) (Kd.yU_ (by (with_reducible repeat (first | apply Kd.yh_ | apply Kd.yi_ | apply Kd.R_drew)); exact HO_11.out)) (by decide) hg); have n1_ := Aside0.mk (Kd.yhb_ (by (with_reducible repeat (first | apply Kd.yh_ | apply Kd.yi_ | apply Kd.R_drew)); exact HL426_0.out) (Kd.yU_ (by (with_reducible repeat (first | apply Kd.yh_ | apply Kd.yi_ | apply Kd.R_drew)); exact HO_11.out)) (by decide) hg); have n2_ := Aside0.mk (Kd.yhb_ (by (with_reducible repeat (first | apply Kd.yh_ | apply Kd.yi_ | apply Kd.R_drew)); exact HL428_0.out) (Kd.yU_ (by (with_reducible repeat (first | apply Kd.yh_ | apply Kd.yi_ | apply Kd.R_drew)); exact HO_11.out)) (by decide) hg); have n3_ := Aside0.mk (hb); have n4_ := Aside0.mk (ho); clear HO_7; clear HL426_0; clear HL428_0; clear HB; clear HO_11; have HO_7 := n0_; have HL426_0 := n1_; have HL428_0 := n2_; have HB := n3_; have HO437 := n4_; clear n0_ n1_ n2_ n3_ n4_; clear ho hb hg hat))
                           repeat (go_quiet (first | ((with_reducible refine yD_ (b := .append) (xs := #[.tmp 119, .tmp 125]) rfl ?_); at_builtin; refine Kd.y0_ k75 (w0 := w) w.heap.size rfl (.tmp 119) (.tmp 125) 72 75 (.agg #[(.int .u8 0), (.string ⟨#[]⟩)]) 24 rfl Tryd.underlying72 info75 rfl (by decide) (by omega) u11 x11_2 (⟨43, rdOf ByteArray.empty l1 x13_2⟩ : S75) [.int .u8 43, .string (rdOf ByteArray.empty l1 x13_2)] (fun _ => True) (fun _ => False) rfl rfl ?aP (fun _ hk => hk.elim) ?aF ?aO ?aB ?aS ?aL ?_; (case aP => exact yyb_ _ _ _ (⟨43, rdOf ByteArray.empty l1 x13_2⟩ : S75)); (case aB => exact (by repeat (with_reducible first | exact HB.out | apply yc_ | apply ya_ | apply yb_))); (case aF => exact (fun _ _ => trivial)); (case aO => exact (by (with_reducible repeat (first | apply Kd.yh_ | apply Kd.yi_ | apply Kd.R_drew)); exact HO_11.out)); (case aS => exact (yk_ (by repeat (with_reducible first | exact HB.out | apply yc_ | apply ya_ | apply yb_)))); (case aL => have := LMc105.out; omega); intro v436 w107 ho hb hg hat; rw [← Ny435.out] at ho; have n0_ := Aside0.mk (Kd.yxb_ (by (with_reducible repeat (first | apply Kd.yO_ | apply Kd.yN_ | apply Kd.S_drew)); exact HO_7.out) (Kd.yU_ (by (with_reducible repeat (first | apply Kd.yh_ | apply Kd.yi_ | apply Kd.R_drew)); exact HO_11.out)) (by decide) hg); have n1_ := Aside0.mk (Kd.yhb_ (by (with_reducible repeat (first | apply Kd.yh_ | apply Kd.yi_ | apply Kd.R_drew)); exact HL426_0.out) (Kd.yU_ (by (with_reducible repeat (first | apply Kd.yh_ | apply Kd.yi_ | apply Kd.R_drew)); exact HO_11.out)) (by decide) hg); have n2_ := Aside0.mk (Kd.yhb_ (by (with_reducible repeat (first | apply Kd.yh_ | apply Kd.yi_ | apply Kd.R_drew)); exact HL428_0.out) (Kd.yU_ (by (with_reducible repeat (first | apply Kd.yh_ | apply Kd.yi_ | apply Kd.R_drew)); exact HO_11.out)) (by decide) hg); have n3_ := Aside0.mk (hb); have n4_ := Aside0.mk (ho); clear HO_7; clear HL426_0; clear HL428_0; clear HB; clear HO_11; have HO_7 := n0_; have HL426_0 := n1_; have HL428_0 := n2_; have HB := n3_; have HO437 := n4_; clear n0_ n1_ n2_ n3_ n4_; clear ho hb hg hat)); try go_wp2_with (first | ((with_reducible refine yD_ (b := .append) (xs := #[.tmp 119, .tmp 125]) rfl ?_); at_builtin; refine Kd.y0_ k75 (w0 := w) w.heap.size rfl (.tmp 119) (.tmp 125) 72 75 (.agg #[(.int .u8 0), (.string ⟨#[]⟩)]) 24 rfl Tryd.underlying72 info75 rfl (by decide) (by omega) u11 x11_2 (⟨43, rdOf ByteArray.empty l1 x13_2⟩ : S75) [.int .u8 43, .string (rdOf ByteArray.empty l1 x13_2)] (fun _ => True) (fun _ => False) rfl rfl ?aP (fun _ hk => hk.elim) ?aF ?aO ?aB ?aS ?aL ?_; (case aP => exact yyb_ _ _ _ (⟨43, rdOf ByteArray.empty l1 x13_2⟩ : S75)); (case aB => exact (by repeat (with_reducible first | exact HB.out | apply yc_ | apply ya_ | apply yb_))); (case aF => exact (fun _ _ => trivial)); (case aO => exact (by (with_reducible repeat (first | apply Kd.yh_ | apply Kd.yi_ | apply Kd.R_drew)); exact HO_11.out)); (case aS => exact (yk_ (by repeat (with_reducible first | exact HB.out | apply yc_ | apply ya_ | apply yb_)))); (case aL => have := LMc105.out; omega); intro v436 w107 ho hb hg hat; rw [← Ny435.out] at ho; have n0_ := Aside0.mk (Kd.yxb_ (by (with_reducible repeat (first | apply Kd.yO_ | apply Kd.yN_ | apply Kd.S_drew)); exact HO_7.out) (Kd.yU_ (by (with_reducible repeat (first | apply Kd.yh_ | apply Kd.yi_ | apply Kd.R_drew)); exact HO_11.out)) (by decide) hg); have n1_ := Aside0.mk (Kd.yhb_ (by (with_reducible repeat (first | apply Kd.yh_ | apply Kd.yi_ | apply Kd.R_drew)); exact HL426_0.out) (Kd.yU_ (by (with_reducible repeat (first | apply Kd.yh_ | apply Kd.yi_ | apply Kd.R_drew)); exact HO_11.out)) (by decide) hg); have n2_ := Aside0.mk (Kd.yhb_ (by (with_reducible repeat (first | apply Kd.yh_ | apply Kd.yi_ | apply Kd.R_drew)); exact HL428_0.out) (Kd.yU_ (by (with_reducible repeat (first | apply Kd.yh_ | apply Kd.yi_ | apply Kd.R_drew)); exact HO_11.out)) (by decide) hg); have n3_ := Aside0.mk (hb); have n4_ := Aside0.mk (ho); clear HO_7; clear HL426_0; clear HL428_0; clear HB; clear HO_11; have HO_7 := n0_; have HL426_0 := n1_; have HL428_0 := n2_; have HB := n3_; have HO437 := n4_; clear n0_ n1_ n2_ n3_ n4_; clear ho hb hg hat)))
                           go_roundg kj70
                           case measure => have := HK1.out; have := HK2.out; have := HJ67.out; have := HJ70.out; omega
                           case rel => exact ⟨(y435), (x12_2), (ji96), (by first | rfl | (simp; done) | (simp [*]; done)), (by first | rfl | (simp; done) | (simp only [← hji96] <;> (first | rfl | simp)) | (simp [*]; done)), H', ⟨by have := HK1.out; have := HK2.out; have := HJ67.out; have := HJ70.out; omega⟩, ⟨by (with_reducible repeat (first | apply Kd.yO_ | apply Kd.yN_ | apply Kd.S_drew)); exact HO_7.out⟩, ⟨by (with_reducible repeat (first | apply Kd.yh_ | apply Kd.yi_ | apply Kd.R_drew)); exact HO437.out⟩, ⟨by repeat (with_reducible first | exact HB.out | apply yc_ | apply ya_ | apply yb_)⟩⟩
                          ·rw [if_neg c105] at H
                           exact absurd H (by simp)
                         ·rw [if_neg c104] at H
                          exact absurd H (by simp)
                       ·rw [if_neg c98] at H
                        exact absurd H (by simp)
                      ·rw [if_neg c97] at H
                       exact absurd H (by simp)
                     ·rw [if_neg c95] at H
                      exact absurd H (by simp)
                    ·rw [if_neg c94] at H
                     exact absurd H (by simp)
                   ·rw [if_neg c93] at H
                    exact absurd H (by simp)
                  ·rw [if_neg c92] at H
                   exact absurd H (by simp)
                 ·rw [if_neg c91] at H
                  exact absurd H (by simp)
                ·rw [if_neg c90] at H
                 exact absurd H (by simp)
              ·rw [if_neg c83] at H
               have c83b0 : decide (x12_2 < (l0.length : Int)) = false := decide_eq_false c83
               clear c83
               by_cases c108 : 0 ≤ x13_2
               ·rw [if_pos c108] at H
                have c108b0 : decide (0 ≤ x13_2) = true := decide_eq_true c108
                clear c108
                by_cases c109 : x13_2 < (l1.length : Int)
                ·rw [if_pos c109] at H
                 have c109b0 : decide (x13_2 < (l1.length : Int)) = true := decide_eq_true c109
                 clear c109
                 by_cases c110 : x11_2.length < 5864062014805
                 ·rw [if_pos c110] at H
                  have LMc110 := Aside0.mk c110
                  clear c110
                  obtain ⟨y439, hy439⟩ : ∃ y_ : List (S75), y_ = (x11_2 ++ [(⟨43, rdOf ByteArray.empty l1 x13_2⟩ : S75)]) := ⟨_, rfl⟩
                  replace H : (yd_.l2 kj70 l0 l1 (l0.length : Int) (l1.length : Int) x7_1 y439 x12_2 (wrap64 (x13_2 + 1))) = some r := by first | (rw [hy439]; with_reducible exact H) | (have H2_ := (Option.bind_some _ _).symm.trans H; rw [hy439]; with_reducible exact H2_) | (have H2_ := (Option.bind_some _ _).symm.trans H; with_reducible exact H2_) | with_reducible exact H | (rw [hy439]; exact H) | exact H
                  have Ny439 := Aside0.mk hy439
                  clear hy439
                  have H' := Aside0.mk H
                  clear H
                  have p438 : 0 ≤ (x13_2 : Int) := of_decide_eq_true (by assumption)
                  have q438 : x13_2 < (l1.length : Int) := of_decide_eq_true (by assumption)
                  obtain ⟨ad438, e438, hx438_0⟩ := Kd.yL_ HR1.out x13_2 p438 q438
                  cases e438
                  replace hx438_0 := (HB.out.cell (World.block_lt_of_cell? w _ hx438_0)).trans hx438_0
                  replace p438 := eq_true p438
                  replace q438 := eq_true q438
                  go_wp2_with (first | ((with_reducible refine yD_ (b := .append) (xs := #[.tmp 119, .tmp 125]) rfl ?_); at_builtin; refine Kd.y0_ k75 (w0 := w) w.heap.size rfl (.tmp 119) (.tmp 125) 72 75 (.agg #[(.int .u8 0), (.string ⟨#[]⟩)]) 24 rfl Tryd.underlying72 info75 rfl (by decide) (by omega) u11 x11_2 (⟨43, rdOf ByteArray.empty l1 x13_2⟩ : S75) [.int .u8 43, .string (rdOf ByteArray.empty l1 x13_2)] (fun _ => True) (fun _ => False) rfl rfl ?aP (fun _ hk => hk.elim) ?aF ?aO ?aB ?aS ?aL ?_; (case aP => exact yyb_ _ _ _ (⟨43, rdOf ByteArray.empty l1 x13_2⟩ : S75)); (case aB => exact (by repeat (with_reducible first | exact HB.out | apply yc_ | apply ya_ | apply yb_))); (case aF => exact (fun _ _ => trivial)); (case aO => exact (by (with_reducible repeat (first | apply Kd.yh_ | apply Kd.yi_ | apply Kd.R_drew)); exact HO_11.out)); (case aS => exact (yk_ (by repeat (with_reducible first | exact HB.out | apply yc_ | apply ya_ | apply yb_)))); (case aL => have := LMc110.out; omega); intro v440 w111 ho hb hg hat; rw [← Ny439.out] at ho; have n0_ := Aside0.mk (Kd.yxb_ (by (with_reducible repeat (first | apply Kd.yO_ | apply Kd.yN_ | apply Kd.S_drew)); exact HO_7.out) (Kd.yU_ (by (with_reducible repeat (first | apply Kd.yh_ | apply Kd.yi_ | apply Kd.R_drew)); exact HO_11.out)) (by decide) hg); have n1_ := Aside0.mk (hb); have n2_ := Aside0.mk (ho); clear HO_7; clear HB; clear HO_11; have HO_7 := n0_; have HB := n1_; have HO441 := n2_; clear n0_ n1_ n2_; clear ho hb hg hat))
                  repeat (go_quiet (first | ((with_reducible refine yD_ (b := .append) (xs := #[.tmp 119, .tmp 125]) rfl ?_); at_builtin; refine Kd.y0_ k75 (w0 := w) w.heap.size rfl (.tmp 119) (.tmp 125) 72 75 (.agg #[(.int .u8 0), (.string ⟨#[]⟩)]) 24 rfl Tryd.underlying72 info75 rfl (by decide) (by omega) u11 x11_2 (⟨43, rdOf ByteArray.empty l1 x13_2⟩ : S75) [.int .u8 43, .string (rdOf ByteArray.empty l1 x13_2)] (fun _ => True) (fun _ => False) rfl rfl ?aP (fun _ hk => hk.elim) ?aF ?aO ?aB ?aS ?aL ?_; (case aP => exact yyb_ _ _ _ (⟨43, rdOf ByteArray.empty l1 x13_2⟩ : S75)); (case aB => exact (by repeat (with_reducible first | exact HB.out | apply yc_ | apply ya_ | apply yb_))); (case aF => exact (fun _ _ => trivial)); (case aO => exact (by (with_reducible repeat (first | apply Kd.yh_ | apply Kd.yi_ | apply Kd.R_drew)); exact HO_11.out)); (case aS => exact (yk_ (by repeat (with_reducible first | exact HB.out | apply yc_ | apply ya_ | apply yb_)))); (case aL => have := LMc110.out; omega); intro v440 w111 ho hb hg hat; rw [← Ny439.out] at ho; have n0_ := Aside0.mk (Kd.yxb_ (by (with_reducible repeat (first | apply Kd.yO_ | apply Kd.yN_ | apply Kd.S_drew)); exact HO_7.out) (Kd.yU_ (by (with_reducible repeat (first | apply Kd.yh_ | apply Kd.yi_ | apply Kd.R_drew)); exact HO_11.out)) (by decide) hg); have n1_ := Aside0.mk (hb); have n2_ := Aside0.mk (ho); clear HO_7; clear HB; clear HO_11; have HO_7 := n0_; have HB := n1_; have HO441 := n2_; clear n0_ n1_ n2_; clear ho hb hg hat)); try go_wp2_with (first | ((with_reducible refine yD_ (b := .append) (xs := #[.tmp 119, .tmp 125]) rfl ?_); at_builtin; refine Kd.y0_ k75 (w0 := w) w.heap.size rfl (.tmp 119) (.tmp 125) 72 75 (.agg #[(.int .u8 0), (.string ⟨#[]⟩)]) 24 rfl Tryd.underlying72 info75 rfl (by decide) (by omega) u11 x11_2 (⟨43, rdOf ByteArray.empty l1 x13_2⟩ : S75) [.int .u8 43, .string (rdOf ByteArray.empty l1 x13_2)] (fun _ => True) (fun _ => False) rfl rfl ?aP (fun _ hk => hk.elim) ?aF ?aO ?aB ?aS ?aL ?_; (case aP => exact yyb_ _ _ _ (⟨43, rdOf ByteArray.empty l1 x13_2⟩ : S75)); (case aB => exact (by repeat (with_reducible first | exact HB.out | apply yc_ | apply ya_ | apply yb_))); (case aF => exact (fun _ _ => trivial)); (case aO => exact (by (with_reducible repeat (first | apply Kd.yh_ | apply Kd.yi_ | apply Kd.R_drew)); exact HO_11.out)); (case aS => exact (yk_ (by repeat (with_reducible first | exact HB.out | apply yc_ | apply ya_ | apply yb_)))); (case aL => have := LMc110.out; omega); intro v440 w111 ho hb hg hat; rw [← Ny439.out] at ho; have n0_ := Aside0.mk (Kd.yxb_ (by (with_reducible repeat (first | apply Kd.yO_ | apply Kd.yN_ | apply Kd.S_drew)); exact HO_7.out) (Kd.yU_ (by (with_reducible repeat (first | apply Kd.yh_ | apply Kd.yi_ | apply Kd.R_drew)); exact HO_11.out)) (by decide) hg); have n1_ := Aside0.mk (hb); have n2_ := Aside0.mk (ho); clear HO_7; clear HB; clear HO_11; have HO_7 := n0_; have HB := n1_; have HO441 := n2_; clear n0_ n1_ n2_; clear ho hb hg hat)))
                  go_roundg kj70
                  case measure => have := HK1.out; have := HK2.out; have := HJ67.out; have := HJ70.out; omega
                  case rel => exact ⟨(y439), (x12_2), (wrap64 (x13_2 + 1)), (by first | rfl | (simp; done) | (simp [*]; done)), (by first | rfl | (simp; done) | (simp [*]; done)), H', ⟨by have := HK1.out; have := HK2.out; have := HJ67.out; have := HJ70.out; omega⟩, ⟨by (with_reducible repeat (first | apply Kd.yO_ | apply Kd.yN_ | apply Kd.S_drew)); exact HO_7.out⟩, ⟨by (with_reducible repeat (first | apply Kd.yh_ | apply Kd.yi_ | apply Kd.R_drew)); exact HO441.out⟩, ⟨by repeat (with_reducible first | exact HB.out | apply yc_ | apply ya_ | apply yb_)⟩⟩
                 ·rw [if_neg c110] at H
                  exact absurd H (by simp)
                ·rw [if_neg c109] at H
                 exact absurd H (by simp)
               ·rw [if_neg c108] at H
                exact absurd H (by simp)
          ·replace c70 := Bool.eq_false_iff.mpr c70
           subst c70
           have H1 : (some x11_2) = some r := by rw [if_neg (show ¬ (false = true) by decide)] at H; exact H
           clear H
           have H := H1
           clear H1
           obtain rfl := Option.some.inj H
           go_wp2
           repeat (go_quiet (fail); try go_wp2)
           go_ret
           exact ⟨_, by first | rfl | (simp [yu_, yv_] <;> rfl) | (simp only [← hji3]; first | rfl | (simp [yu_, yv_] <;> rfl)) | (simp [*, yu_, yv_] <;> rfl), by (with_reducible repeat (first | apply Kd.yh_ | apply Kd.yi_ | apply Kd.R_drew)); exact HO_11.out, by repeat (with_reducible first | exact HB.out | apply yc_ | apply ya_ | apply yb_)⟩
  ·rw [if_neg c5] at H
   exact absurd H (by simp)
 ·rw [if_neg c4] at H
  exact absurd H (by simp)

end Go.Proofs.YthimblhfjfngiaaDoor.PText

-- mended25

