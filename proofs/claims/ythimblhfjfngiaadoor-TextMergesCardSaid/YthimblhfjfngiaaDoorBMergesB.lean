/- TextMerges holds: for every text and any two lists of edits the statement answers true, where the three listed package variables hold what the program's text lays. Part 2 of 5. -/
import Derived.Test.YthimblhfjfngiaaDoorBMergesA
namespace Go.Proofs.YthimblhfjfngiaaDoor.PText
open Go.RowKit Go.Proofs.YthimblhfjfngiaaDoorW.PrintWords Go.Proofs.YthimblhfjfngiaaDoorW.PrintLast Go.Proofs.YthimblhfjfngiaaDoorW.PrintMore
attribute [local go_sem] max2_int min2_int max_two min_two max_three min_three max_four min_four   -- for this text's walks alone
set_option linter.unusedVariables false
set_option linter.unusedSimpArgs false

def smockingref01_joined.l0 : Nat → List (S34) → List (S34) → Int → Option ((List (S34)))
 | 0, _, _, _ => none
 | k + 1, x0, x3, x4 => if x4 < (x0.length : Int) then (if (wrap64 ((x3.length : Int) - 1)) ≥ 0 then (if 0 ≤ x4 then (if ((rd_T34 x0 x4).f0) = ((rd_T34 x0 x4).f1) then (if 0 ≤ (wrap64 ((x3.length : Int) - 1)) then (if (wrap64 ((x3.length : Int) - 1)) < (x3.length : Int) then (if ((rd_T34 x3 (wrap64 ((x3.length : Int) - 1))).f0) = ((rd_T34 x0 x4).f0) then (if ((rd_T34 x3 (wrap64 ((x3.length : Int) - 1))).f1) = ((rd_T34 x0 x4).f0) then (if ((rd_T34 x3 (wrap64 ((x3.length : Int) - 1))).f2).size + ((rd_T34 x0 x4).f2).size ≤ 9223372036854775807 then (smockingref01_joined.l0 k x0 (x3.set ((wrap64 ((x3.length : Int) - 1)) : Int).toNat (⟨(rd_T34 x3 (wrap64 ((x3.length : Int) - 1))).f0, (rd_T34 x3 (wrap64 ((x3.length : Int) - 1))).f1, ((rd_T34 x3 (wrap64 ((x3.length : Int) - 1))).f2) ++ ((rd_T34 x0 x4).f2)⟩ : S34)) (wrap64 (x4 + 1))) else (none)) else (if x3.length < 4398046511104 then (smockingref01_joined.l0 k x0 (x3 ++ [(⟨(rd_T34 x0 x4).f0, (rd_T34 x0 x4).f1, (rd_T34 x0 x4).f2⟩ : S34)]) (wrap64 (x4 + 1))) else (none))) else (if x3.length < 4398046511104 then (smockingref01_joined.l0 k x0 (x3 ++ [(⟨(rd_T34 x0 x4).f0, (rd_T34 x0 x4).f1, (rd_T34 x0 x4).f2⟩ : S34)]) (wrap64 (x4 + 1))) else (none))) else (none)) else (none)) else (if x3.length < 4398046511104 then (smockingref01_joined.l0 k x0 (x3 ++ [(⟨(rd_T34 x0 x4).f0, (rd_T34 x0 x4).f1, (rd_T34 x0 x4).f2⟩ : S34)]) (wrap64 (x4 + 1))) else (none))) else (none)) else (if 0 ≤ x4 then (if x3.length < 4398046511104 then (smockingref01_joined.l0 k x0 (x3 ++ [(⟨(rd_T34 x0 x4).f0, (rd_T34 x0 x4).f1, (rd_T34 x0 x4).f2⟩ : S34)]) (wrap64 (x4 + 1))) else (none)) else (none))) else (some x3)
def smockingref01_joined.f (k : Nat) (l0 : List (S34)) : Option ((List (S34))) := smockingref01_joined.l0 k l0 ([] : List (S34)) 0
def smockingref01_joined.T6 : Bool × List (List Nat × List Nat) := (true, [([], []), ([0], [0]), ([1], [1]), ([2], [2]), ([2], [2]), ([3, 4, 2], [2, 3, 4]), ([5, 2], [2, 5]), ([6, 2], [2, 6]), ([2], [2]), ([2], [2]), ([8, 9, 2], [2, 8, 9]), ([10, 2], [2, 10]), ([11, 2], [2, 11]), ([7, 12, 2], [2, 7, 12]), ([2, 13], [2, 13]), ([14, 2], [14]), ([15], [15]), ([15], [15]), ([16, 17, 15], [15, 16, 17]), ([18, 15], [15, 18]), ([19, 15], [15, 19]), ([15], [15]), ([15], [15]), ([21, 22, 15], [15, 21, 22]), ([23, 15], [15, 23]), ([24, 15], [15, 24]), ([20, 25, 15], [15, 20, 25]), ([15, 26], [15, 26]), ([27, 15], [27]), ([28], [28]), ([28], [28]), ([29, 30, 28], [28, 29, 30]), ([31, 28], [28, 31]), ([32, 28], [28, 32]), ([28], [28]), ([28], [28]), ([34, 35, 28], [28, 34, 35]), ([36, 28], [28, 36]), ([37, 28], [28, 37]), ([33, 38, 28], [28, 33, 38]), ([28, 39], [28, 39])])
def smockingref01_joined.B6 : List Nat := [0, 1, 3, 7, 7, 31, 63, 127, 7, 7, 775, 1799, 3847, 8191, 16383, 32767, 65535, 65535, 262143, 524287, 1048575, 65535, 65535, 6356991, 14745599, 31522815, 67108863, 134217727, 268435455, 536870911, 536870911, 2147483647, 4294967295, 8589934591, 536870911, 536870911, 52076478463, 120795955199, 258234908671, 549755813887, 1099511627775]
theorem smockingref01_joined.tab6 : rtab .any (opsOf Tryd.f42 6) = smockingref01_joined.T6 := by kernel_rfl
theorem smockingref01_joined.bits6 : waitsOk smockingref01_joined.T6.2 smockingref01_joined.B6 = true := by kernel_rfl
def smockingref01_joined.T7 : Bool × List (List Nat × List Nat) := (true, [([], []), ([], []), ([], []), ([], []), ([2, 3], [2, 3]), ([4], [4]), ([5], [5]), ([], []), ([], []), ([7, 8], [7, 8]), ([9], [9]), ([10], [10]), ([6, 11], [6, 11]), ([0, 1, 0, 1, 2, 3, 4, 5, 6, 7, 8, 9, 10, 11, 12], [0, 1]), ([13, 0, 1, 2, 3, 4, 5, 6, 7, 8, 9, 10, 11, 12], [13]), ([14, 12, 0, 1, 2, 3, 4, 5, 6, 7, 8, 9, 10, 11, 12], [12, 14])])
def smockingref01_joined.B7 : List Nat := [0, 0, 0, 0, 12, 28, 60, 0, 0, 384, 896, 1920, 4092, 8191, 16383, 32767]
theorem smockingref01_joined.tab7 : rtab .any (opsOf Tryd.f42 7) = smockingref01_joined.T7 := by kernel_rfl
theorem smockingref01_joined.bits7 : waitsOk smockingref01_joined.T7.2 smockingref01_joined.B7 = true := by kernel_rfl
set_option maxHeartbeats 8000000 in
set_option maxRecDepth 100000 in
theorem smockingref01_joined.calls (k : Nat) (A0 : Option Addr) (c0 : Nat) (l0 : List (S34)) (r : List (S34)) (w : World) (hr0 : Kd.C k34 w A0 l0.length l0) (hc0 : l0.length ≤ c0) (h : smockingref01_joined.f k l0 = some r) :
  Calls Tryd.prog 42 #[.slice A0 l0.length c0] w fun e w' => ∃ v0_ : Value, e = .returned (v0_) ∧ Kd.R k34 34 w' w.heap.size (fun _ => True) v0_ r ∧ Below w.heap.size w w' := by
 have hu34 := Tryd.underlying34
 have HR0 := Aside0.mk hr0
 have HC0 := Aside0.mk hc0
 clear hr0 hc0
 have HB := Aside0.mk (Below.refl w.heap.size w)
 have H : (smockingref01_joined.l0 k l0 ([] : List (S34)) 0) = some r := h
 clear h
 have H' := Aside0.mk H
 clear H
 go_enter Tryd.func42, Tryd.ntmps42
 go_wp2
 try simp only [Act.put, List.setIfInBounds_toArray, List.set_cons_succ, List.set_cons_zero]
 go_loopg [3, 4] k (fun kq v3 v4 w' => ∃ (x3_1 : List (S34)) (x4_1 : Int), v4 = .int .i64 x4_1 ∧ Aside0 (smockingref01_joined.l0 kq l0 x3_1 x4_1 = some r) ∧ Aside0 (kq ≤ k) ∧ Aside0 (Kd.R k34 34 w' w.heap.size (fun _ => True) v3 x3_1) ∧ Aside0 (Below w.heap.size w w'))
 case atStart => exact ⟨(([] : List (S34))), (0), (by first | rfl | (simp; done) | (simp [*]; done)), H', ⟨Nat.le_refl _⟩, ⟨by first | exact Kd.R_nil _ _ _ _ _ | exact Kd.N_nil _ _ _ _ _ | exact Kd.V_nil _ _ _ _ _ | exact Kd.Q_nil _ _ _ _ _ | exact Kd.S_nil _ _ _ _ _⟩, ⟨by repeat (first | (with_reducible first | exact HB.out | apply below_alloc | apply pw_below_drewN | apply below_drew1) | exact HB.out)⟩⟩
 case round =>
  clear H'
  obtain ⟨x3_1, x4_1, rfl, HA, HK1, HO_3, HB⟩ := hrel
  cases gk with
  | zero => exact absurd HA.out (by simp [smockingref01_joined.l0])
  | succ k1 =>
   have H := HA.out
   clear HA
   simp only [smockingref01_joined.l0] at H
   by_cases c2 : x4_1 < (l0.length : Int)
   ·rw [if_pos c2] at H
    have c2b0 : decide (x4_1 < (l0.length : Int)) = true := decide_eq_true c2
    clear c2
    by_cases c3 : (wrap64 ((x3_1.length : Int) - 1)) ≥ 0
    ·rw [if_pos c3] at H
     have c3b0 : decide (0 ≤ (wrap64 ((x3_1.length : Int) - 1))) = true := decide_eq_true c3
     clear c3
     by_cases c4 : 0 ≤ x4_1
     ·rw [if_pos c4] at H
      have c4b0 : decide (0 ≤ x4_1) = true := decide_eq_true c4
      clear c4
      by_cases c5 : ((rd_T34 l0 x4_1).f0) = ((rd_T34 l0 x4_1).f1)
      ·rw [if_pos c5] at H
       have c5b0 : (((rd_T34 l0 x4_1).f0) == ((rd_T34 l0 x4_1).f1)) = true := beq_iff_eq.mpr c5
       have c5b1 : (((rd_T34 l0 x4_1).f0) != ((rd_T34 l0 x4_1).f1)) = false := bne_eq_false_iff_eq.mpr c5
       clear c5
       obtain ⟨ji6, hji6⟩ : ∃ j_ : Int, (wrap64 ((x3_1.length : Int) - 1)) = j_ := ⟨_, rfl⟩
       replace H : (if 0 ≤ (ji6) then (if (ji6) < (x3_1.length : Int) then (if ((rd_T34 x3_1 (ji6)).f0) = ((rd_T34 l0 x4_1).f0) then (if ((rd_T34 x3_1 (ji6)).f1) = ((rd_T34 l0 x4_1).f0) then (if ((rd_T34 x3_1 (ji6)).f2).size + ((rd_T34 l0 x4_1).f2).size ≤ 9223372036854775807 then (smockingref01_joined.l0 k1 l0 (x3_1.set ((ji6) : Int).toNat (⟨(rd_T34 x3_1 (ji6)).f0, (rd_T34 x3_1 (ji6)).f1, ((rd_T34 x3_1 (ji6)).f2) ++ ((rd_T34 l0 x4_1).f2)⟩ : S34)) (wrap64 (x4_1 + 1))) else (none)) else (if x3_1.length < 4398046511104 then (smockingref01_joined.l0 k1 l0 (x3_1 ++ [(⟨(rd_T34 l0 x4_1).f0, (rd_T34 l0 x4_1).f1, (rd_T34 l0 x4_1).f2⟩ : S34)]) (wrap64 (x4_1 + 1))) else (none))) else (if x3_1.length < 4398046511104 then (smockingref01_joined.l0 k1 l0 (x3_1 ++ [(⟨(rd_T34 l0 x4_1).f0, (rd_T34 l0 x4_1).f1, (rd_T34 l0 x4_1).f2⟩ : S34)]) (wrap64 (x4_1 + 1))) else (none))) else (none)) else (none)) = some r := by first | (rw [hji6] at H; exact H) | (simp only [hji6] at H ⊢; exact H)
       (try rw [hji6] at c3b0)
       have hji6w : (IntKind.i64.wrap ((x3_1.length : Int) - 1)) = ji6 := (i64_w _).trans hji6
       by_cases c7 : 0 ≤ (ji6)
       ·rw [if_pos c7] at H
        have c7b0 : decide (0 ≤ (ji6)) = true := decide_eq_true c7
        clear c7
        by_cases c8 : (ji6) < (x3_1.length : Int)
        ·rw [if_pos c8] at H
         have c8b0 : decide ((ji6) < (x3_1.length : Int)) = true := decide_eq_true c8
         clear c8
         by_cases c9 : ((rd_T34 x3_1 (ji6)).f0) = ((rd_T34 l0 x4_1).f0)
         ·rw [if_pos c9] at H
          have c9b0 : (((rd_T34 x3_1 (ji6)).f0) == ((rd_T34 l0 x4_1).f0)) = true := beq_iff_eq.mpr c9
          have c9b1 : (((rd_T34 x3_1 (ji6)).f0) != ((rd_T34 l0 x4_1).f0)) = false := bne_eq_false_iff_eq.mpr c9
          clear c9
          by_cases c10 : ((rd_T34 x3_1 (ji6)).f1) = ((rd_T34 l0 x4_1).f0)
          ·rw [if_pos c10] at H
           have c10b0 : (((rd_T34 x3_1 (ji6)).f1) == ((rd_T34 l0 x4_1).f0)) = true := beq_iff_eq.mpr c10
           have c10b1 : (((rd_T34 x3_1 (ji6)).f1) != ((rd_T34 l0 x4_1).f0)) = false := bne_eq_false_iff_eq.mpr c10
           clear c10
           by_cases c11 : ((rd_T34 x3_1 (ji6)).f2).size + ((rd_T34 l0 x4_1).f2).size ≤ 9223372036854775807
           ·rw [if_pos c11] at H
            have c11b0 := eq_true c11
            have c11b1 : decide (((rd_T34 x3_1 (ji6)).f2).size + ((rd_T34 l0 x4_1).f2).size ≤ 9223372036854775807) = true := decide_eq_true c11
            try have c11b2 : (9223372036854775807 < ((rd_T34 x3_1 (ji6)).f2).size + ((rd_T34 l0 x4_1).f2).size) = False := eq_false (Nat.not_lt.2 c11)
            obtain ⟨y223, hy223⟩ : ∃ y_ : List (S34), y_ = (x3_1.set ((ji6) : Int).toNat (⟨(rd_T34 x3_1 (ji6)).f0, (rd_T34 x3_1 (ji6)).f1, ((rd_T34 x3_1 (ji6)).f2) ++ ((rd_T34 l0 x4_1).f2)⟩ : S34)) := ⟨_, rfl⟩
            replace H : (smockingref01_joined.l0 k1 l0 y223 (wrap64 (x4_1 + 1))) = some r := by first | (rw [hy223]; with_reducible exact H) | (have H2_ := (Option.bind_some _ _).symm.trans H; rw [hy223]; with_reducible exact H2_) | (have H2_ := (Option.bind_some _ _).symm.trans H; with_reducible exact H2_) | with_reducible exact H | (rw [hy223]; exact H) | exact H
            have Ny223 := Aside0.mk hy223
            clear hy223
            have H' := Aside0.mk H
            clear H
            obtain ⟨Ao13, co13, eo13⟩ := Kd.R_slice HO_3.out
            subst eo13
            try go_wp2
            have n0_ := Aside0.mk (Kd.R_drew HO_3.out)
            have n1_ := Aside0.mk (below_drew1 HB.out)
            clear HO_3
            clear HB
            have HO_3 := n0_
            have HB := n1_
            clear n0_ n1_
            have p215 : 0 ≤ (x4_1 : Int) := of_decide_eq_true (by first | (with_reducible assumption) | assumption)
            have q215 : x4_1 < (l0.length : Int) := of_decide_eq_true (by first | (with_reducible assumption) | assumption)
            obtain ⟨ad215, e215, hx215_0, hx215_1, hx215_2⟩ := at_T34 HR0.out x4_1 p215 q215
            have hw215_2 := hx215_2
            have hw215_1 := hx215_1
            have hw215_0 := hx215_0
            cases e215
            replace hx215_0 := (HB.out.cell (World.block_lt_of_cell? w _ hx215_0)).trans hx215_0
            replace hx215_1 := (HB.out.cell (World.block_lt_of_cell? w _ hx215_1)).trans hx215_1
            replace hx215_2 := (HB.out.cell (World.block_lt_of_cell? w _ hx215_2)).trans hx215_2
            replace p215 := eq_true p215
            replace q215 := eq_true q215
            have p216 : 0 ≤ (x4_1 : Int) := of_decide_eq_true (by first | (with_reducible assumption) | assumption)
            have q216 : x4_1 < (l0.length : Int) := of_decide_eq_true (by first | (with_reducible assumption) | assumption)
            obtain ⟨ad216, e216, hx216_0, hx216_1, hx216_2⟩ := at_T34 HR0.out x4_1 p216 q216
            have hw216_2 := hx216_2
            have hw216_1 := hx216_1
            have hw216_0 := hx216_0
            obtain rfl : ad215 = ad216 := (by injection e216)
            replace hx216_0 := (HB.out.cell (World.block_lt_of_cell? w _ hx216_0)).trans hx216_0
            replace hx216_1 := (HB.out.cell (World.block_lt_of_cell? w _ hx216_1)).trans hx216_1
            replace hx216_2 := (HB.out.cell (World.block_lt_of_cell? w _ hx216_2)).trans hx216_2
            replace p216 := eq_true p216
            replace q216 := eq_true q216
            have p217 : 0 ≤ ((ji6) : Int) := of_decide_eq_true (by first | (with_reducible assumption) | assumption)
            have q217 : (ji6) < (x3_1.length : Int) := of_decide_eq_true (by first | (with_reducible assumption) | assumption)
            obtain ⟨ad217, e217, hx217_0, hx217_1, hx217_2⟩ := at_T34 (Kd.R_reads' HO_3.out).2.2 (ji6) p217 q217
            cases e217
            replace p217 := eq_true p217
            replace q217 := eq_true q217
            have p218 : 0 ≤ (x4_1 : Int) := of_decide_eq_true (by first | (with_reducible assumption) | assumption)
            have q218 : x4_1 < (l0.length : Int) := of_decide_eq_true (by first | (with_reducible assumption) | assumption)
            obtain ⟨ad218, e218, hx218_0, hx218_1, hx218_2⟩ := at_T34 HR0.out x4_1 p218 q218
            have hw218_2 := hx218_2
            have hw218_1 := hx218_1
            have hw218_0 := hx218_0
            obtain rfl : ad215 = ad218 := (by injection e218)
            replace hx218_0 := (HB.out.cell (World.block_lt_of_cell? w _ hx218_0)).trans hx218_0
            replace hx218_1 := (HB.out.cell (World.block_lt_of_cell? w _ hx218_1)).trans hx218_1
            replace hx218_2 := (HB.out.cell (World.block_lt_of_cell? w _ hx218_2)).trans hx218_2
            replace p218 := eq_true p218
            replace q218 := eq_true q218
            have p219 : 0 ≤ ((ji6) : Int) := of_decide_eq_true (by first | (with_reducible assumption) | assumption)
            have q219 : (ji6) < (x3_1.length : Int) := of_decide_eq_true (by first | (with_reducible assumption) | assumption)
            obtain ⟨ad219, e219, hx219_0, hx219_1, hx219_2⟩ := at_T34 (Kd.R_reads' HO_3.out).2.2 (ji6) p219 q219
            obtain rfl : ad217 = ad219 := (by injection e219)
            replace p219 := eq_true p219
            replace q219 := eq_true q219
            have p220 : 0 ≤ (x4_1 : Int) := of_decide_eq_true (by first | (with_reducible assumption) | assumption)
            have q220 : x4_1 < (l0.length : Int) := of_decide_eq_true (by first | (with_reducible assumption) | assumption)
            obtain ⟨ad220, e220, hx220_0, hx220_1, hx220_2⟩ := at_T34 HR0.out x4_1 p220 q220
            have hw220_2 := hx220_2
            have hw220_1 := hx220_1
            have hw220_0 := hx220_0
            obtain rfl : ad215 = ad220 := (by injection e220)
            replace hx220_0 := (HB.out.cell (World.block_lt_of_cell? w _ hx220_0)).trans hx220_0
            replace hx220_1 := (HB.out.cell (World.block_lt_of_cell? w _ hx220_1)).trans hx220_1
            replace hx220_2 := (HB.out.cell (World.block_lt_of_cell? w _ hx220_2)).trans hx220_2
            replace p220 := eq_true p220
            replace q220 := eq_true q220
            refine start_ (n := 41) (S := fun w' => w'.cell? (ad215.add ((x4_1).toNat * 3)) = some (.int .i64 ((rd_T34 l0 x4_1).f0)) ∧ w'.cell? ⟨(ad215.add ((x4_1).toNat * 3)).block, (ad215.add ((x4_1).toNat * 3)).off + 1, none⟩ = some (.int .i64 ((rd_T34 l0 x4_1).f1)) ∧ w'.cell? ⟨(ad215.add ((x4_1).toNat * 3)).block, (ad215.add ((x4_1).toNat * 3)).off + 2, none⟩ = some (.string ((rd_T34 l0 x4_1).f2)) ∧ w'.cell? (ad215.add ((x4_1).toNat * 3)) = some (.int .i64 ((rd_T34 l0 x4_1).f0)) ∧ w'.cell? ⟨(ad215.add ((x4_1).toNat * 3)).block, (ad215.add ((x4_1).toNat * 3)).off + 1, none⟩ = some (.int .i64 ((rd_T34 l0 x4_1).f1)) ∧ w'.cell? ⟨(ad215.add ((x4_1).toNat * 3)).block, (ad215.add ((x4_1).toNat * 3)).off + 2, none⟩ = some (.string ((rd_T34 l0 x4_1).f2)) ∧ w'.cell? (ad217.add (((ji6)).toNat * 3)) = some (.int .i64 ((rd_T34 x3_1 (ji6)).f0)) ∧ w'.cell? ⟨(ad217.add (((ji6)).toNat * 3)).block, (ad217.add (((ji6)).toNat * 3)).off + 1, none⟩ = some (.int .i64 ((rd_T34 x3_1 (ji6)).f1)) ∧ w'.cell? ⟨(ad217.add (((ji6)).toNat * 3)).block, (ad217.add (((ji6)).toNat * 3)).off + 2, none⟩ = some (.string ((rd_T34 x3_1 (ji6)).f2)) ∧ w'.cell? (ad215.add ((x4_1).toNat * 3)) = some (.int .i64 ((rd_T34 l0 x4_1).f0)) ∧ w'.cell? ⟨(ad215.add ((x4_1).toNat * 3)).block, (ad215.add ((x4_1).toNat * 3)).off + 1, none⟩ = some (.int .i64 ((rd_T34 l0 x4_1).f1)) ∧ w'.cell? ⟨(ad215.add ((x4_1).toNat * 3)).block, (ad215.add ((x4_1).toNat * 3)).off + 2, none⟩ = some (.string ((rd_T34 l0 x4_1).f2)) ∧ w'.cell? (ad217.add (((ji6)).toNat * 3)) = some (.int .i64 ((rd_T34 x3_1 (ji6)).f0)) ∧ w'.cell? ⟨(ad217.add (((ji6)).toNat * 3)).block, (ad217.add (((ji6)).toNat * 3)).off + 1, none⟩ = some (.int .i64 ((rd_T34 x3_1 (ji6)).f1)) ∧ w'.cell? ⟨(ad217.add (((ji6)).toNat * 3)).block, (ad217.add (((ji6)).toNat * 3)).off + 2, none⟩ = some (.string ((rd_T34 x3_1 (ji6)).f2)) ∧ w'.cell? (ad215.add ((x4_1).toNat * 3)) = some (.int .i64 ((rd_T34 l0 x4_1).f0)) ∧ w'.cell? ⟨(ad215.add ((x4_1).toNat * 3)).block, (ad215.add ((x4_1).toNat * 3)).off + 1, none⟩ = some (.int .i64 ((rd_T34 l0 x4_1).f1)) ∧ w'.cell? ⟨(ad215.add ((x4_1).toNat * 3)).block, (ad215.add ((x4_1).toNat * 3)).off + 2, none⟩ = some (.string ((rd_T34 l0 x4_1).f2))) (ds := []) (bA 41 0) (by kernel_rfl) rfl rfl ⟨((HB.out.cell (World.block_lt_of_cell? w _ hw215_0)).trans hw215_0), ((HB.out.cell (World.block_lt_of_cell? w _ hw215_1)).trans hw215_1), ((HB.out.cell (World.block_lt_of_cell? w _ hw215_2)).trans hw215_2), ((HB.out.cell (World.block_lt_of_cell? w _ hw216_0)).trans hw216_0), ((HB.out.cell (World.block_lt_of_cell? w _ hw216_1)).trans hw216_1), ((HB.out.cell (World.block_lt_of_cell? w _ hw216_2)).trans hw216_2), hx217_0, hx217_1, hx217_2, ((HB.out.cell (World.block_lt_of_cell? w _ hw218_0)).trans hw218_0), ((HB.out.cell (World.block_lt_of_cell? w _ hw218_1)).trans hw218_1), ((HB.out.cell (World.block_lt_of_cell? w _ hw218_2)).trans hw218_2), hx219_0, hx219_1, hx219_2, ((HB.out.cell (World.block_lt_of_cell? w _ hw220_0)).trans hw220_0), ((HB.out.cell (World.block_lt_of_cell? w _ hw220_1)).trans hw220_1), ((HB.out.cell (World.block_lt_of_cell? w _ hw220_2)).trans hw220_2)⟩ (fun hHeld => ?_); refine with_tabW smockingref01_joined.tab6 smockingref01_joined.bits6 (fun HT_ HW_ => ?_)
            generalize wr.drew = w14 at HO_3 HB hx215_0 hx215_1 hx215_2 hx216_0 hx216_1 hx216_2 hx217_0 hx217_1 hx217_2 hx218_0 hx218_1 hx218_2 hx219_0 hx219_1 hx219_2 hx220_0 hx220_1 hx220_2 hHeld ⊢
            refine pu_ 0 15 (bA 41 1) HT_ ?_
            refine pu_ 1 16 (bA 41 3) HT_ ?_
            refine pu_ 2 17 (bA 41 7) HT_ ?_
            refine pu_ 3 18 (bA 41 15) HT_ ?_
            refine pu_ 4 19 (bA 41 31) HT_ ?_
            refine pu_ 5 20 (bA 41 63) HT_ ?_
            refine pu_ 6 21 (bA 41 127) HT_ ?_
            refine pu_ 8 23 (bA 41 383) HT_ ?_
            refine pu_ 9 24 (bA 41 895) HT_ ?_
            refine pu_ 10 25 (bA 41 1919) HT_ ?_
            refine pu_ 11 26 (bA 41 3967) HT_ ?_
            refine tk_ 7 22 (bA 41 4095) rfl HT_ HW_ hHeld (by rintro w' ⟨s0, s1, s2, s3, s4, s5, s6, s7, s8, s9, s10, s11, s12, s13, s14, s15, s16, s17⟩; go_simp; with_reducible rfl) ?_
            refine tk_ 12 27 (bA 41 8191) rfl HT_ HW_ hHeld (by rintro w' ⟨s0, s1, s2, s3, s4, s5, s6, s7, s8, s9, s10, s11, s12, s13, s14, s15, s16, s17⟩; go_simp; with_reducible rfl) ?_
            refine pu_ 13 28 (bA 41 16383) HT_ ?_
            refine pu_ 14 29 (bA 41 32767) HT_ ?_
            refine pu_ 15 30 (bA 41 65535) HT_ ?_
            refine pu_ 16 31 (bA 41 131071) HT_ ?_
            refine pu_ 17 32 (bA 41 262143) HT_ ?_
            refine pu_ 18 33 (bA 41 524287) HT_ ?_
            refine pu_ 19 34 (bA 41 1048575) HT_ ?_
            refine pu_ 21 36 (bA 41 3145727) HT_ ?_
            refine pu_ 22 37 (bA 41 7340031) HT_ ?_
            refine pu_ 23 38 (bA 41 15728639) HT_ ?_
            refine pu_ 24 39 (bA 41 32505855) HT_ ?_
            refine tk_ 20 35 (bA 41 33554431) rfl HT_ HW_ hHeld (by rintro w' ⟨s0, s1, s2, s3, s4, s5, s6, s7, s8, s9, s10, s11, s12, s13, s14, s15, s16, s17⟩; go_simp; with_reducible rfl) ?_
            refine tk_ 25 40 (bA 41 67108863) rfl HT_ HW_ hHeld (by rintro w' ⟨s0, s1, s2, s3, s4, s5, s6, s7, s8, s9, s10, s11, s12, s13, s14, s15, s16, s17⟩; go_simp; with_reducible rfl) ?_
            refine pu_ 26 41 (bA 41 134217727) HT_ ?_
            refine pu_ 27 42 (bA 41 268435455) HT_ ?_
            refine pu_ 28 43 (bA 41 536870911) HT_ ?_
            refine pu_ 29 44 (bA 41 1073741823) HT_ ?_
            refine pu_ 30 45 (bA 41 2147483647) HT_ ?_
            refine pu_ 31 46 (bA 41 4294967295) HT_ ?_
            refine pu_ 32 47 (bA 41 8589934591) HT_ ?_
            refine pu_ 34 49 (bA 41 25769803775) HT_ ?_
            refine pu_ 35 50 (bA 41 60129542143) HT_ ?_
            refine pu_ 36 51 (bA 41 128849018879) HT_ ?_
            refine pu_ 37 52 (bA 41 266287972351) HT_ ?_
            refine tk_ 33 48 (bA 41 274877906943) rfl HT_ HW_ hHeld (by rintro w' ⟨s0, s1, s2, s3, s4, s5, s6, s7, s8, s9, s10, s11, s12, s13, s14, s15, s16, s17⟩; go_simp; with_reducible rfl) ?_
            refine tk_ 38 53 (bA 41 549755813887) rfl HT_ HW_ hHeld (by rintro w' ⟨s0, s1, s2, s3, s4, s5, s6, s7, s8, s9, s10, s11, s12, s13, s14, s15, s16, s17⟩; go_simp; with_reducible rfl) ?_
            refine pu_ 39 54 (bA 41 1099511627775) HT_ ?_
            refine pu_ 40 55 (bA 41 2199023255551) HT_ ?_
            refine done_ (done_of HT_.out (by kernel_rfl)) ?_
            try go_wp2
            have n0_ := Aside0.mk (Kd.R_drew HO_3.out)
            have n1_ := Aside0.mk (below_drew1 HB.out)
            clear HO_3
            clear HB
            have HO_3 := n0_
            have HB := n1_
            clear n0_ n1_
            have p221 : 0 ≤ ((ji6) : Int) := of_decide_eq_true (by first | (with_reducible assumption) | assumption)
            have q221 : (ji6) < (x3_1.length : Int) := of_decide_eq_true (by first | (with_reducible assumption) | assumption)
            obtain ⟨ad221, e221, hx221_0, hx221_1, hx221_2⟩ := at_T34 (Kd.R_reads' HO_3.out).2.2 (ji6) p221 q221
            obtain rfl : ad217 = ad221 := (by injection e221)
            replace p221 := eq_true p221
            replace q221 := eq_true q221
            have p222 : 0 ≤ (x4_1 : Int) := of_decide_eq_true (by first | (with_reducible assumption) | assumption)
            have q222 : x4_1 < (l0.length : Int) := of_decide_eq_true (by first | (with_reducible assumption) | assumption)
            obtain ⟨ad222, e222, hx222_0, hx222_1, hx222_2⟩ := at_T34 HR0.out x4_1 p222 q222
            have hw222_2 := hx222_2
            have hw222_1 := hx222_1
            have hw222_0 := hx222_0
            obtain rfl : ad215 = ad222 := (by injection e222)
            replace hx222_0 := (HB.out.cell (World.block_lt_of_cell? w _ hx222_0)).trans hx222_0
            replace hx222_1 := (HB.out.cell (World.block_lt_of_cell? w _ hx222_1)).trans hx222_1
            replace hx222_2 := (HB.out.cell (World.block_lt_of_cell? w _ hx222_2)).trans hx222_2
            replace p222 := eq_true p222
            replace q222 := eq_true q222
            have p12 : 0 ≤ ((ji6) : Int) := of_decide_eq_true (by first | (with_reducible assumption) | assumption)
            have q12 : ((ji6) : Int) < ((x3_1.length : Int) : Int) := of_decide_eq_true (by first | (with_reducible assumption) | assumption)
            obtain ⟨go12, co12, eo12, gb12, gl12, cl12, HG12⟩ := Kd.R_form HO_3.out (by omega)
            (first | cases eo12 | (injection eo12 with ea_ en_ ec_; (first | subst ea_ | (injection ea_ with ea_; subst ea_)); subst ec_; clear en_))
            have GB12 := Aside0.mk gb12
            have GG12 := Aside0.mk HG12
            clear gb12 gl12 HG12
            (first | simp only [add_plain] at hx217_0 | skip)
            (first | simp only [add_plain] at hx217_1 | skip)
            (first | simp only [add_plain] at hx217_2 | skip)
            (first | simp only [add_plain] at hx219_0 | skip)
            (first | simp only [add_plain] at hx219_1 | skip)
            (first | simp only [add_plain] at hx219_2 | skip)
            (first | simp only [add_plain] at hx221_0 | skip)
            (first | simp only [add_plain] at hx221_1 | skip)
            (first | simp only [add_plain] at hx221_2 | skip)
            obtain ⟨ce12, hcl12, hM12, hcc12, hfr12⟩ := Kd.R_elem HO_3.out z34 ((ji6) : Int) p12 q12
            obtain rfl := k34_openM hM12
            have hx12_0 : World.cell? _ ⟨go12, ((ji6) : Int).toNat * 3, none⟩ = some (.int .i64 ((rd_T34 x3_1 (ji6)).f0)) := hcc12 0 _ rfl
            have hx12_1 : World.cell? _ ⟨go12, ((ji6) : Int).toNat * 3 + 1, none⟩ = some (.int .i64 ((rd_T34 x3_1 (ji6)).f1)) := hcc12 1 _ rfl
            have hx12_2 : World.cell? _ ⟨go12, ((ji6) : Int).toNat * 3 + 2, none⟩ = some (.string ((rd_T34 x3_1 (ji6)).f2)) := hcc12 2 _ rfl
            have hf12_0 : World.frozen? _ ⟨go12, ((ji6) : Int).toNat * 3, none⟩ = false := hfr12 0
            have hf12_1 : World.frozen? _ ⟨go12, ((ji6) : Int).toNat * 3 + 1, none⟩ = false := hfr12 1
            have hf12_2 : World.frozen? _ ⟨go12, ((ji6) : Int).toNat * 3 + 2, none⟩ = false := hfr12 2
            clear hcl12 hcc12 hfr12 hM12
            replace p12 := eq_true p12
            replace q12 := eq_true q12
            obtain ⟨ce16, hcl16, hM16, hcc16, hfr16⟩ := Kd.R_elem HO_3.out z34 ((ji6) : Int) (of_decide_eq_true (by first | (with_reducible assumption) | assumption)) (by have h_ : ((ji6) : Int) < ((x3_1.length : Int) : Int) := of_decide_eq_true (by first | (with_reducible assumption) | assumption); first | exact h_ | (have e_ := (Kd.R_reads' HO_3.out).1; omega) | simpa using h_)
            obtain rfl := k34_openM hM16
            have HP16 := (Kd.R_seg HO_3.out ((ji6) : Int) (of_decide_eq_true (by first | (with_reducible assumption) | assumption)) (by have h_ : ((ji6) : Int) < ((x3_1.length : Int) : Int) := of_decide_eq_true (by first | (with_reducible assumption) | assumption); first | exact h_ | (have e_ := (Kd.R_reads' HO_3.out).1; omega) | simpa using h_) (seg := [.string (((rd_T34 x3_1 (ji6)).f2) ++ ((rd_T34 l0 x4_1).f2))]) (j := 2) hcl16 hcc16 (show 3 ≤ 3 from by decide) (x' := (⟨(rd_T34 x3_1 (ji6)).f0, (rd_T34 x3_1 (ji6)).f1, ((rd_T34 x3_1 (ji6)).f2) ++ ((rd_T34 l0 x4_1).f2)⟩ : S34)) (k34_mkM _ _ _ (⟨(rd_T34 x3_1 (ji6)).f0, (rd_T34 x3_1 (ji6)).f1, ((rd_T34 x3_1 (ji6)).f2) ++ ((rd_T34 l0 x4_1).f2)⟩ : S34) ) (fun _ hk => hk)).1
            rw [← Ny223.out] at HP16
            have HQ16 := Aside0.mk HP16
            clear hcl16 hcc16 hfr16 hM16 HP16
            refine start_ (n := 16) (S := fun w' => w'.cell? (⟨go12, (((ji6)).toNat * 3), none⟩ : Addr) = some (.int .i64 ((rd_T34 x3_1 (ji6)).f0)) ∧ w'.cell? ⟨(⟨go12, (((ji6)).toNat * 3), none⟩ : Addr).block, (⟨go12, (((ji6)).toNat * 3), none⟩ : Addr).off + 1, none⟩ = some (.int .i64 ((rd_T34 x3_1 (ji6)).f1)) ∧ w'.cell? ⟨(⟨go12, (((ji6)).toNat * 3), none⟩ : Addr).block, (⟨go12, (((ji6)).toNat * 3), none⟩ : Addr).off + 2, none⟩ = some (.string ((rd_T34 x3_1 (ji6)).f2)) ∧ w'.cell? (ad215.add ((x4_1).toNat * 3)) = some (.int .i64 ((rd_T34 l0 x4_1).f0)) ∧ w'.cell? ⟨(ad215.add ((x4_1).toNat * 3)).block, (ad215.add ((x4_1).toNat * 3)).off + 1, none⟩ = some (.int .i64 ((rd_T34 l0 x4_1).f1)) ∧ w'.cell? ⟨(ad215.add ((x4_1).toNat * 3)).block, (ad215.add ((x4_1).toNat * 3)).off + 2, none⟩ = some (.string ((rd_T34 l0 x4_1).f2))) (ds := [15]) (bA 16 0) (by kernel_rfl) rfl rfl ⟨hx221_0, hx221_1, hx221_2, ((HB.out.cell (World.block_lt_of_cell? w _ hw222_0)).trans hw222_0), ((HB.out.cell (World.block_lt_of_cell? w _ hw222_1)).trans hw222_1), ((HB.out.cell (World.block_lt_of_cell? w _ hw222_2)).trans hw222_2)⟩ (fun hHeld => ?_); refine with_tabW smockingref01_joined.tab7 smockingref01_joined.bits7 (fun HT_ HW_ => ?_)
            generalize w14.drew = w15 at HO_3 HB GG12 HQ16 hf12_0 hf12_1 hf12_2 hx12_0 hx12_1 hx12_2 hx217_0 hx217_1 hx217_2 hx219_0 hx219_1 hx219_2 hx221_0 hx221_1 hx221_2 hx222_0 hx222_1 hx222_2 hHeld ⊢
            refine pu_ 0 56 (bA 16 1) HT_ ?_
            refine pu_ 1 57 (bA 16 3) HT_ ?_
            refine pu_ 2 58 (bA 16 7) HT_ ?_
            refine pu_ 3 59 (bA 16 15) HT_ ?_
            refine pu_ 4 60 (bA 16 31) HT_ ?_
            refine pu_ 5 61 (bA 16 63) HT_ ?_
            refine pu_ 7 63 (bA 16 191) HT_ ?_
            refine pu_ 8 64 (bA 16 447) HT_ ?_
            refine pu_ 9 65 (bA 16 959) HT_ ?_
            refine pu_ 10 66 (bA 16 1983) HT_ ?_
            refine tk_ 6 62 (bA 16 2047) rfl HT_ HW_ hHeld (by rintro w' ⟨s0, s1, s2, s3, s4, s5⟩; go_simp; with_reducible rfl) ?_
            refine tk_ 11 67 (bA 16 4095) rfl HT_ HW_ hHeld (by rintro w' ⟨s0, s1, s2, s3, s4, s5⟩; go_simp; with_reducible rfl) ?_
            refine pu_ 12 68 (bA 16 8191) HT_ ?_
            refine pu_ 13 69 (bA 16 16383) HT_ ?_
            refine pu_ 14 70 (bA 16 32767) HT_ ?_
            refine last_ (i := 15) (N := none) (bA 16 65535) rfl rfl (one_of HT_.out (by kernel_rfl)) (by decide) (fun K hK => ?_)
            refine skip_ (w1 := ?_) (by rfl) rfl ?_ ?_
            rotate_left
            ·go_simp
             rfl
            refine hK.out _ _ ?_
            clear hK K
            refine done_ (done_of HT_.out (by kernel_rfl)) ?_
            try go_wp2
            go_roundg k1
            case measure => have := HK1.out; omega
            case rel => exact ⟨(y223), (wrap64 (x4_1 + 1)), (by first | rfl | (simp; done) | (simp [*]; done)), H', ⟨by have := HK1.out; omega⟩, ⟨by (with_reducible repeat (first | apply Kd.R_alloc | apply Kd.R_drewN | apply Kd.R_drew)); exact HQ16.out⟩, ⟨by repeat (first | (with_reducible first | exact HB.out | apply below_alloc | apply pw_below_drewN | apply below_drew1 | refine below_set ?_ GB12.out) | exact HB.out)⟩⟩
           ·rw [if_neg c11] at H
            exact absurd H (by simp)
          ·rw [if_neg c10] at H
           have c10b0 : (((rd_T34 x3_1 (ji6)).f1) == ((rd_T34 l0 x4_1).f0)) = false := beq_eq_false_iff_ne.mpr c10
           have c10b1 : (((rd_T34 x3_1 (ji6)).f1) != ((rd_T34 l0 x4_1).f0)) = true := bne_iff_ne.mpr c10
           by_cases c17 : x3_1.length < 4398046511104
           ·rw [if_pos c17] at H
            have LMc17 := Aside0.mk c17
            clear c17
            obtain ⟨y225, hy225⟩ : ∃ y_ : List (S34), y_ = (x3_1 ++ [(⟨(rd_T34 l0 x4_1).f0, (rd_T34 l0 x4_1).f1, (rd_T34 l0 x4_1).f2⟩ : S34)]) := ⟨_, rfl⟩
            replace H : (smockingref01_joined.l0 k1 l0 y225 (wrap64 (x4_1 + 1))) = some r := by first | (rw [hy225]; with_reducible exact H) | (have H2_ := (Option.bind_some _ _).symm.trans H; rw [hy225]; with_reducible exact H2_) | (have H2_ := (Option.bind_some _ _).symm.trans H; with_reducible exact H2_) | with_reducible exact H | (rw [hy225]; exact H) | exact H
            have Ny225 := Aside0.mk hy225
            clear hy225
            have H' := Aside0.mk H
            clear H
            obtain ⟨Ao18, co18, eo18⟩ := Kd.R_slice HO_3.out
            subst eo18
            try go_wp2
            have n0_ := Aside0.mk (Kd.R_drew HO_3.out)
            have n1_ := Aside0.mk (below_drew1 HB.out)
            clear HO_3
            clear HB
            have HO_3 := n0_
            have HB := n1_
            clear n0_ n1_
            have p215 : 0 ≤ (x4_1 : Int) := of_decide_eq_true (by first | (with_reducible assumption) | assumption)
            have q215 : x4_1 < (l0.length : Int) := of_decide_eq_true (by first | (with_reducible assumption) | assumption)
            obtain ⟨ad215, e215, hx215_0, hx215_1, hx215_2⟩ := at_T34 HR0.out x4_1 p215 q215
            have hw215_2 := hx215_2
            have hw215_1 := hx215_1
            have hw215_0 := hx215_0
            cases e215
            replace hx215_0 := (HB.out.cell (World.block_lt_of_cell? w _ hx215_0)).trans hx215_0
            replace hx215_1 := (HB.out.cell (World.block_lt_of_cell? w _ hx215_1)).trans hx215_1
            replace hx215_2 := (HB.out.cell (World.block_lt_of_cell? w _ hx215_2)).trans hx215_2
            replace p215 := eq_true p215
            replace q215 := eq_true q215
            have p216 : 0 ≤ (x4_1 : Int) := of_decide_eq_true (by first | (with_reducible assumption) | assumption)
            have q216 : x4_1 < (l0.length : Int) := of_decide_eq_true (by first | (with_reducible assumption) | assumption)
            obtain ⟨ad216, e216, hx216_0, hx216_1, hx216_2⟩ := at_T34 HR0.out x4_1 p216 q216
            have hw216_2 := hx216_2
            have hw216_1 := hx216_1
            have hw216_0 := hx216_0
            obtain rfl : ad215 = ad216 := (by injection e216)
            replace hx216_0 := (HB.out.cell (World.block_lt_of_cell? w _ hx216_0)).trans hx216_0
            replace hx216_1 := (HB.out.cell (World.block_lt_of_cell? w _ hx216_1)).trans hx216_1
            replace hx216_2 := (HB.out.cell (World.block_lt_of_cell? w _ hx216_2)).trans hx216_2
            replace p216 := eq_true p216
            replace q216 := eq_true q216
            have p217 : 0 ≤ ((ji6) : Int) := of_decide_eq_true (by first | (with_reducible assumption) | assumption)
            have q217 : (ji6) < (x3_1.length : Int) := of_decide_eq_true (by first | (with_reducible assumption) | assumption)
            obtain ⟨ad217, e217, hx217_0, hx217_1, hx217_2⟩ := at_T34 (Kd.R_reads' HO_3.out).2.2 (ji6) p217 q217
            cases e217
            replace p217 := eq_true p217
            replace q217 := eq_true q217
            have p218 : 0 ≤ (x4_1 : Int) := of_decide_eq_true (by first | (with_reducible assumption) | assumption)
            have q218 : x4_1 < (l0.length : Int) := of_decide_eq_true (by first | (with_reducible assumption) | assumption)
            obtain ⟨ad218, e218, hx218_0, hx218_1, hx218_2⟩ := at_T34 HR0.out x4_1 p218 q218
            have hw218_2 := hx218_2
            have hw218_1 := hx218_1
            have hw218_0 := hx218_0
            obtain rfl : ad215 = ad218 := (by injection e218)
            replace hx218_0 := (HB.out.cell (World.block_lt_of_cell? w _ hx218_0)).trans hx218_0
            replace hx218_1 := (HB.out.cell (World.block_lt_of_cell? w _ hx218_1)).trans hx218_1
            replace hx218_2 := (HB.out.cell (World.block_lt_of_cell? w _ hx218_2)).trans hx218_2
            replace p218 := eq_true p218
            replace q218 := eq_true q218
            have p219 : 0 ≤ ((ji6) : Int) := of_decide_eq_true (by first | (with_reducible assumption) | assumption)
            have q219 : (ji6) < (x3_1.length : Int) := of_decide_eq_true (by first | (with_reducible assumption) | assumption)
            obtain ⟨ad219, e219, hx219_0, hx219_1, hx219_2⟩ := at_T34 (Kd.R_reads' HO_3.out).2.2 (ji6) p219 q219
            obtain rfl : ad217 = ad219 := (by injection e219)
            replace p219 := eq_true p219
            replace q219 := eq_true q219
            have p220 : 0 ≤ (x4_1 : Int) := of_decide_eq_true (by first | (with_reducible assumption) | assumption)
            have q220 : x4_1 < (l0.length : Int) := of_decide_eq_true (by first | (with_reducible assumption) | assumption)
            obtain ⟨ad220, e220, hx220_0, hx220_1, hx220_2⟩ := at_T34 HR0.out x4_1 p220 q220
            have hw220_2 := hx220_2
            have hw220_1 := hx220_1
            have hw220_0 := hx220_0
            obtain rfl : ad215 = ad220 := (by injection e220)
            replace hx220_0 := (HB.out.cell (World.block_lt_of_cell? w _ hx220_0)).trans hx220_0
            replace hx220_1 := (HB.out.cell (World.block_lt_of_cell? w _ hx220_1)).trans hx220_1
            replace hx220_2 := (HB.out.cell (World.block_lt_of_cell? w _ hx220_2)).trans hx220_2
            replace p220 := eq_true p220
            replace q220 := eq_true q220
            refine start_ (n := 41) (S := fun w' => w'.cell? (ad215.add ((x4_1).toNat * 3)) = some (.int .i64 ((rd_T34 l0 x4_1).f0)) ∧ w'.cell? ⟨(ad215.add ((x4_1).toNat * 3)).block, (ad215.add ((x4_1).toNat * 3)).off + 1, none⟩ = some (.int .i64 ((rd_T34 l0 x4_1).f1)) ∧ w'.cell? ⟨(ad215.add ((x4_1).toNat * 3)).block, (ad215.add ((x4_1).toNat * 3)).off + 2, none⟩ = some (.string ((rd_T34 l0 x4_1).f2)) ∧ w'.cell? (ad215.add ((x4_1).toNat * 3)) = some (.int .i64 ((rd_T34 l0 x4_1).f0)) ∧ w'.cell? ⟨(ad215.add ((x4_1).toNat * 3)).block, (ad215.add ((x4_1).toNat * 3)).off + 1, none⟩ = some (.int .i64 ((rd_T34 l0 x4_1).f1)) ∧ w'.cell? ⟨(ad215.add ((x4_1).toNat * 3)).block, (ad215.add ((x4_1).toNat * 3)).off + 2, none⟩ = some (.string ((rd_T34 l0 x4_1).f2)) ∧ w'.cell? (ad217.add (((ji6)).toNat * 3)) = some (.int .i64 ((rd_T34 x3_1 (ji6)).f0)) ∧ w'.cell? ⟨(ad217.add (((ji6)).toNat * 3)).block, (ad217.add (((ji6)).toNat * 3)).off + 1, none⟩ = some (.int .i64 ((rd_T34 x3_1 (ji6)).f1)) ∧ w'.cell? ⟨(ad217.add (((ji6)).toNat * 3)).block, (ad217.add (((ji6)).toNat * 3)).off + 2, none⟩ = some (.string ((rd_T34 x3_1 (ji6)).f2)) ∧ w'.cell? (ad215.add ((x4_1).toNat * 3)) = some (.int .i64 ((rd_T34 l0 x4_1).f0)) ∧ w'.cell? ⟨(ad215.add ((x4_1).toNat * 3)).block, (ad215.add ((x4_1).toNat * 3)).off + 1, none⟩ = some (.int .i64 ((rd_T34 l0 x4_1).f1)) ∧ w'.cell? ⟨(ad215.add ((x4_1).toNat * 3)).block, (ad215.add ((x4_1).toNat * 3)).off + 2, none⟩ = some (.string ((rd_T34 l0 x4_1).f2)) ∧ w'.cell? (ad217.add (((ji6)).toNat * 3)) = some (.int .i64 ((rd_T34 x3_1 (ji6)).f0)) ∧ w'.cell? ⟨(ad217.add (((ji6)).toNat * 3)).block, (ad217.add (((ji6)).toNat * 3)).off + 1, none⟩ = some (.int .i64 ((rd_T34 x3_1 (ji6)).f1)) ∧ w'.cell? ⟨(ad217.add (((ji6)).toNat * 3)).block, (ad217.add (((ji6)).toNat * 3)).off + 2, none⟩ = some (.string ((rd_T34 x3_1 (ji6)).f2)) ∧ w'.cell? (ad215.add ((x4_1).toNat * 3)) = some (.int .i64 ((rd_T34 l0 x4_1).f0)) ∧ w'.cell? ⟨(ad215.add ((x4_1).toNat * 3)).block, (ad215.add ((x4_1).toNat * 3)).off + 1, none⟩ = some (.int .i64 ((rd_T34 l0 x4_1).f1)) ∧ w'.cell? ⟨(ad215.add ((x4_1).toNat * 3)).block, (ad215.add ((x4_1).toNat * 3)).off + 2, none⟩ = some (.string ((rd_T34 l0 x4_1).f2))) (ds := []) (bA 41 0) (by kernel_rfl) rfl rfl ⟨((HB.out.cell (World.block_lt_of_cell? w _ hw215_0)).trans hw215_0), ((HB.out.cell (World.block_lt_of_cell? w _ hw215_1)).trans hw215_1), ((HB.out.cell (World.block_lt_of_cell? w _ hw215_2)).trans hw215_2), ((HB.out.cell (World.block_lt_of_cell? w _ hw216_0)).trans hw216_0), ((HB.out.cell (World.block_lt_of_cell? w _ hw216_1)).trans hw216_1), ((HB.out.cell (World.block_lt_of_cell? w _ hw216_2)).trans hw216_2), hx217_0, hx217_1, hx217_2, ((HB.out.cell (World.block_lt_of_cell? w _ hw218_0)).trans hw218_0), ((HB.out.cell (World.block_lt_of_cell? w _ hw218_1)).trans hw218_1), ((HB.out.cell (World.block_lt_of_cell? w _ hw218_2)).trans hw218_2), hx219_0, hx219_1, hx219_2, ((HB.out.cell (World.block_lt_of_cell? w _ hw220_0)).trans hw220_0), ((HB.out.cell (World.block_lt_of_cell? w _ hw220_1)).trans hw220_1), ((HB.out.cell (World.block_lt_of_cell? w _ hw220_2)).trans hw220_2)⟩ (fun hHeld => ?_); refine with_tabW smockingref01_joined.tab6 smockingref01_joined.bits6 (fun HT_ HW_ => ?_)
            generalize wr.drew = w19 at HO_3 HB hx215_0 hx215_1 hx215_2 hx216_0 hx216_1 hx216_2 hx217_0 hx217_1 hx217_2 hx218_0 hx218_1 hx218_2 hx219_0 hx219_1 hx219_2 hx220_0 hx220_1 hx220_2 hHeld ⊢
            refine pu_ 0 15 (bA 41 1) HT_ ?_
            refine pu_ 1 16 (bA 41 3) HT_ ?_
            refine pu_ 2 17 (bA 41 7) HT_ ?_
            refine pu_ 3 18 (bA 41 15) HT_ ?_
            refine pu_ 4 19 (bA 41 31) HT_ ?_
            refine pu_ 5 20 (bA 41 63) HT_ ?_
            refine pu_ 6 21 (bA 41 127) HT_ ?_
            refine pu_ 8 23 (bA 41 383) HT_ ?_
            refine pu_ 9 24 (bA 41 895) HT_ ?_
            refine pu_ 10 25 (bA 41 1919) HT_ ?_
            refine pu_ 11 26 (bA 41 3967) HT_ ?_
            refine tk_ 7 22 (bA 41 4095) rfl HT_ HW_ hHeld (by rintro w' ⟨s0, s1, s2, s3, s4, s5, s6, s7, s8, s9, s10, s11, s12, s13, s14, s15, s16, s17⟩; go_simp; with_reducible rfl) ?_
            refine tk_ 12 27 (bA 41 8191) rfl HT_ HW_ hHeld (by rintro w' ⟨s0, s1, s2, s3, s4, s5, s6, s7, s8, s9, s10, s11, s12, s13, s14, s15, s16, s17⟩; go_simp; with_reducible rfl) ?_
            refine pu_ 13 28 (bA 41 16383) HT_ ?_
            refine pu_ 14 29 (bA 41 32767) HT_ ?_
            refine pu_ 15 30 (bA 41 65535) HT_ ?_
            refine pu_ 16 31 (bA 41 131071) HT_ ?_
            refine pu_ 17 32 (bA 41 262143) HT_ ?_
            refine pu_ 18 33 (bA 41 524287) HT_ ?_
            refine pu_ 19 34 (bA 41 1048575) HT_ ?_
            refine pu_ 21 36 (bA 41 3145727) HT_ ?_
            refine pu_ 22 37 (bA 41 7340031) HT_ ?_
            refine pu_ 23 38 (bA 41 15728639) HT_ ?_
            refine pu_ 24 39 (bA 41 32505855) HT_ ?_
            refine tk_ 20 35 (bA 41 33554431) rfl HT_ HW_ hHeld (by rintro w' ⟨s0, s1, s2, s3, s4, s5, s6, s7, s8, s9, s10, s11, s12, s13, s14, s15, s16, s17⟩; go_simp; with_reducible rfl) ?_
            refine tk_ 25 40 (bA 41 67108863) rfl HT_ HW_ hHeld (by rintro w' ⟨s0, s1, s2, s3, s4, s5, s6, s7, s8, s9, s10, s11, s12, s13, s14, s15, s16, s17⟩; go_simp; with_reducible rfl) ?_
            refine pu_ 26 41 (bA 41 134217727) HT_ ?_
            refine pu_ 27 42 (bA 41 268435455) HT_ ?_
            refine pu_ 28 43 (bA 41 536870911) HT_ ?_
            refine pu_ 29 44 (bA 41 1073741823) HT_ ?_
            refine pu_ 30 45 (bA 41 2147483647) HT_ ?_
            refine pu_ 31 46 (bA 41 4294967295) HT_ ?_
            refine pu_ 32 47 (bA 41 8589934591) HT_ ?_
            refine pu_ 34 49 (bA 41 25769803775) HT_ ?_
            refine pu_ 35 50 (bA 41 60129542143) HT_ ?_
            refine pu_ 36 51 (bA 41 128849018879) HT_ ?_
            refine pu_ 37 52 (bA 41 266287972351) HT_ ?_
            refine tk_ 33 48 (bA 41 274877906943) rfl HT_ HW_ hHeld (by rintro w' ⟨s0, s1, s2, s3, s4, s5, s6, s7, s8, s9, s10, s11, s12, s13, s14, s15, s16, s17⟩; go_simp; with_reducible rfl) ?_
            refine tk_ 38 53 (bA 41 549755813887) rfl HT_ HW_ hHeld (by rintro w' ⟨s0, s1, s2, s3, s4, s5, s6, s7, s8, s9, s10, s11, s12, s13, s14, s15, s16, s17⟩; go_simp; with_reducible rfl) ?_
            refine pu_ 39 54 (bA 41 1099511627775) HT_ ?_
            refine pu_ 40 55 (bA 41 2199023255551) HT_ ?_
            refine done_ (done_of HT_.out (by kernel_rfl)) ?_
            have p224 : 0 ≤ (x4_1 : Int) := of_decide_eq_true (by first | (with_reducible assumption) | assumption)
            have q224 : x4_1 < (l0.length : Int) := of_decide_eq_true (by first | (with_reducible assumption) | assumption)
            obtain ⟨ad224, e224, hx224_0, hx224_1, hx224_2⟩ := at_T34 HR0.out x4_1 p224 q224
            obtain rfl : ad215 = ad224 := (by injection e224)
            replace hx224_0 := (HB.out.cell (World.block_lt_of_cell? w _ hx224_0)).trans hx224_0
            replace hx224_1 := (HB.out.cell (World.block_lt_of_cell? w _ hx224_1)).trans hx224_1
            replace hx224_2 := (HB.out.cell (World.block_lt_of_cell? w _ hx224_2)).trans hx224_2
            replace p224 := eq_true p224
            replace q224 := eq_true q224
            try go_wp2_with (first | ((with_reducible refine gate_builtin (b := .append) (xs := #[.tmp 71, .tmp 76]) rfl ?_); at_builtin; refine Kd.R_append k34 (w0 := w) w.heap.size rfl (.tmp 71) (.tmp 76) 22 34 (.agg #[(.int .i64 0), (.int .i64 0), (.string ⟨#[]⟩)]) 32 rfl Tryd.underlying22 info34 rfl (by decide) (by omega) (.slice (some ad217) x3_1.length co18) x3_1 (⟨(rd_T34 l0 x4_1).f0, (rd_T34 l0 x4_1).f1, (rd_T34 l0 x4_1).f2⟩ : S34) [.int .i64 ((rd_T34 l0 x4_1).f0), .int .i64 ((rd_T34 l0 x4_1).f1), .string ((rd_T34 l0 x4_1).f2)] (fun _ => True) (fun _ => False) rfl rfl ?aP (fun _ hk => hk.elim) ?aF ?aO ?aB ?aS ?aL ?_; (case aP => exact k34_mkM _ _ _ (⟨(rd_T34 l0 x4_1).f0, (rd_T34 l0 x4_1).f1, (rd_T34 l0 x4_1).f2⟩ : S34)); (case aB => exact (by repeat (first | (with_reducible first | exact HB.out | apply below_alloc | apply pw_below_drewN | apply below_drew1) | exact HB.out))); (case aF => exact (fun _ _ => trivial)); (case aO => exact (by (with_reducible repeat (first | apply Kd.R_alloc | apply Kd.R_drewN | apply Kd.R_drew)); exact HO_3.out)); (case aS => exact (below_size (by repeat (first | (with_reducible first | exact HB.out | apply below_alloc | apply pw_below_drewN | apply below_drew1) | exact HB.out)))); (case aL => have := LMc17.out; omega); intro v226 w20 ho hb hg hat; rw [← Ny225.out] at ho; have n0_ := Aside0.mk (hb); have n1_ := Aside0.mk (ho); clear HB; clear HO_3; have HB := n0_; have HO227 := n1_; clear n0_ n1_; clear ho hb hg hat))
            go_roundg k1
            case measure => have := HK1.out; omega
            case rel => exact ⟨(y225), (wrap64 (x4_1 + 1)), (by first | rfl | (simp; done) | (simp [*]; done)), H', ⟨by have := HK1.out; omega⟩, ⟨by (with_reducible repeat (first | apply Kd.R_alloc | apply Kd.R_drewN | apply Kd.R_drew)); exact HO227.out⟩, ⟨by repeat (first | (with_reducible first | exact HB.out | apply below_alloc | apply pw_below_drewN | apply below_drew1) | exact HB.out)⟩⟩
           ·rw [if_neg c17] at H
            exact absurd H (by simp)
         ·rw [if_neg c9] at H
          have c9b0 : (((rd_T34 x3_1 (ji6)).f0) == ((rd_T34 l0 x4_1).f0)) = false := beq_eq_false_iff_ne.mpr c9
          have c9b1 : (((rd_T34 x3_1 (ji6)).f0) != ((rd_T34 l0 x4_1).f0)) = true := bne_iff_ne.mpr c9
          by_cases c21 : x3_1.length < 4398046511104
          ·rw [if_pos c21] at H
           have LMc21 := Aside0.mk c21
           clear c21
           obtain ⟨y229, hy229⟩ : ∃ y_ : List (S34), y_ = (x3_1 ++ [(⟨(rd_T34 l0 x4_1).f0, (rd_T34 l0 x4_1).f1, (rd_T34 l0 x4_1).f2⟩ : S34)]) := ⟨_, rfl⟩
           replace H : (smockingref01_joined.l0 k1 l0 y229 (wrap64 (x4_1 + 1))) = some r := by first | (rw [hy229]; with_reducible exact H) | (have H2_ := (Option.bind_some _ _).symm.trans H; rw [hy229]; with_reducible exact H2_) | (have H2_ := (Option.bind_some _ _).symm.trans H; with_reducible exact H2_) | with_reducible exact H | (rw [hy229]; exact H) | exact H
           have Ny229 := Aside0.mk hy229
           clear hy229
           have H' := Aside0.mk H
           clear H
           obtain ⟨Ao22, co22, eo22⟩ := Kd.R_slice HO_3.out
           subst eo22
           try go_wp2
           have n0_ := Aside0.mk (Kd.R_drew HO_3.out)
           have n1_ := Aside0.mk (below_drew1 HB.out)
           clear HO_3
           clear HB
           have HO_3 := n0_
           have HB := n1_
           clear n0_ n1_
           have p215 : 0 ≤ (x4_1 : Int) := of_decide_eq_true (by first | (with_reducible assumption) | assumption)
           have q215 : x4_1 < (l0.length : Int) := of_decide_eq_true (by first | (with_reducible assumption) | assumption)
           obtain ⟨ad215, e215, hx215_0, hx215_1, hx215_2⟩ := at_T34 HR0.out x4_1 p215 q215
           have hw215_2 := hx215_2
           have hw215_1 := hx215_1
           have hw215_0 := hx215_0
           cases e215
           replace hx215_0 := (HB.out.cell (World.block_lt_of_cell? w _ hx215_0)).trans hx215_0
           replace hx215_1 := (HB.out.cell (World.block_lt_of_cell? w _ hx215_1)).trans hx215_1
           replace hx215_2 := (HB.out.cell (World.block_lt_of_cell? w _ hx215_2)).trans hx215_2
           replace p215 := eq_true p215
           replace q215 := eq_true q215
           have p216 : 0 ≤ (x4_1 : Int) := of_decide_eq_true (by first | (with_reducible assumption) | assumption)
           have q216 : x4_1 < (l0.length : Int) := of_decide_eq_true (by first | (with_reducible assumption) | assumption)
           obtain ⟨ad216, e216, hx216_0, hx216_1, hx216_2⟩ := at_T34 HR0.out x4_1 p216 q216
           have hw216_2 := hx216_2
           have hw216_1 := hx216_1
           have hw216_0 := hx216_0
           obtain rfl : ad215 = ad216 := (by injection e216)
           replace hx216_0 := (HB.out.cell (World.block_lt_of_cell? w _ hx216_0)).trans hx216_0
           replace hx216_1 := (HB.out.cell (World.block_lt_of_cell? w _ hx216_1)).trans hx216_1
           replace hx216_2 := (HB.out.cell (World.block_lt_of_cell? w _ hx216_2)).trans hx216_2
           replace p216 := eq_true p216
           replace q216 := eq_true q216
           have p217 : 0 ≤ ((ji6) : Int) := of_decide_eq_true (by first | (with_reducible assumption) | assumption)
           have q217 : (ji6) < (x3_1.length : Int) := of_decide_eq_true (by first | (with_reducible assumption) | assumption)
           obtain ⟨ad217, e217, hx217_0, hx217_1, hx217_2⟩ := at_T34 (Kd.R_reads' HO_3.out).2.2 (ji6) p217 q217
           cases e217
           replace p217 := eq_true p217
           replace q217 := eq_true q217
           have p218 : 0 ≤ (x4_1 : Int) := of_decide_eq_true (by first | (with_reducible assumption) | assumption)
           have q218 : x4_1 < (l0.length : Int) := of_decide_eq_true (by first | (with_reducible assumption) | assumption)
           obtain ⟨ad218, e218, hx218_0, hx218_1, hx218_2⟩ := at_T34 HR0.out x4_1 p218 q218
           have hw218_2 := hx218_2
           have hw218_1 := hx218_1
           have hw218_0 := hx218_0
           obtain rfl : ad215 = ad218 := (by injection e218)
           replace hx218_0 := (HB.out.cell (World.block_lt_of_cell? w _ hx218_0)).trans hx218_0
           replace hx218_1 := (HB.out.cell (World.block_lt_of_cell? w _ hx218_1)).trans hx218_1
           replace hx218_2 := (HB.out.cell (World.block_lt_of_cell? w _ hx218_2)).trans hx218_2
           replace p218 := eq_true p218
           replace q218 := eq_true q218
           refine start_ (n := 41) (S := fun w' => w'.cell? (ad215.add ((x4_1).toNat * 3)) = some (.int .i64 ((rd_T34 l0 x4_1).f0)) ∧ w'.cell? ⟨(ad215.add ((x4_1).toNat * 3)).block, (ad215.add ((x4_1).toNat * 3)).off + 1, none⟩ = some (.int .i64 ((rd_T34 l0 x4_1).f1)) ∧ w'.cell? ⟨(ad215.add ((x4_1).toNat * 3)).block, (ad215.add ((x4_1).toNat * 3)).off + 2, none⟩ = some (.string ((rd_T34 l0 x4_1).f2)) ∧ w'.cell? (ad215.add ((x4_1).toNat * 3)) = some (.int .i64 ((rd_T34 l0 x4_1).f0)) ∧ w'.cell? ⟨(ad215.add ((x4_1).toNat * 3)).block, (ad215.add ((x4_1).toNat * 3)).off + 1, none⟩ = some (.int .i64 ((rd_T34 l0 x4_1).f1)) ∧ w'.cell? ⟨(ad215.add ((x4_1).toNat * 3)).block, (ad215.add ((x4_1).toNat * 3)).off + 2, none⟩ = some (.string ((rd_T34 l0 x4_1).f2)) ∧ w'.cell? (ad217.add (((ji6)).toNat * 3)) = some (.int .i64 ((rd_T34 x3_1 (ji6)).f0)) ∧ w'.cell? ⟨(ad217.add (((ji6)).toNat * 3)).block, (ad217.add (((ji6)).toNat * 3)).off + 1, none⟩ = some (.int .i64 ((rd_T34 x3_1 (ji6)).f1)) ∧ w'.cell? ⟨(ad217.add (((ji6)).toNat * 3)).block, (ad217.add (((ji6)).toNat * 3)).off + 2, none⟩ = some (.string ((rd_T34 x3_1 (ji6)).f2)) ∧ w'.cell? (ad215.add ((x4_1).toNat * 3)) = some (.int .i64 ((rd_T34 l0 x4_1).f0)) ∧ w'.cell? ⟨(ad215.add ((x4_1).toNat * 3)).block, (ad215.add ((x4_1).toNat * 3)).off + 1, none⟩ = some (.int .i64 ((rd_T34 l0 x4_1).f1)) ∧ w'.cell? ⟨(ad215.add ((x4_1).toNat * 3)).block, (ad215.add ((x4_1).toNat * 3)).off + 2, none⟩ = some (.string ((rd_T34 l0 x4_1).f2))) (ds := []) (bA 41 0) (by kernel_rfl) rfl rfl ⟨((HB.out.cell (World.block_lt_of_cell? w _ hw215_0)).trans hw215_0), ((HB.out.cell (World.block_lt_of_cell? w _ hw215_1)).trans hw215_1), ((HB.out.cell (World.block_lt_of_cell? w _ hw215_2)).trans hw215_2), ((HB.out.cell (World.block_lt_of_cell? w _ hw216_0)).trans hw216_0), ((HB.out.cell (World.block_lt_of_cell? w _ hw216_1)).trans hw216_1), ((HB.out.cell (World.block_lt_of_cell? w _ hw216_2)).trans hw216_2), hx217_0, hx217_1, hx217_2, ((HB.out.cell (World.block_lt_of_cell? w _ hw218_0)).trans hw218_0), ((HB.out.cell (World.block_lt_of_cell? w _ hw218_1)).trans hw218_1), ((HB.out.cell (World.block_lt_of_cell? w _ hw218_2)).trans hw218_2)⟩ (fun hHeld => ?_); refine with_tabW smockingref01_joined.tab6 smockingref01_joined.bits6 (fun HT_ HW_ => ?_)
           generalize wr.drew = w23 at HO_3 HB hx215_0 hx215_1 hx215_2 hx216_0 hx216_1 hx216_2 hx217_0 hx217_1 hx217_2 hx218_0 hx218_1 hx218_2 hHeld ⊢
           refine pu_ 0 15 (bA 41 1) HT_ ?_
           refine pu_ 1 16 (bA 41 3) HT_ ?_
           refine pu_ 2 17 (bA 41 7) HT_ ?_
           refine pu_ 3 18 (bA 41 15) HT_ ?_
           refine pu_ 4 19 (bA 41 31) HT_ ?_
           refine pu_ 5 20 (bA 41 63) HT_ ?_
           refine pu_ 6 21 (bA 41 127) HT_ ?_
           refine pu_ 8 23 (bA 41 383) HT_ ?_
           refine pu_ 9 24 (bA 41 895) HT_ ?_
           refine pu_ 10 25 (bA 41 1919) HT_ ?_
           refine pu_ 11 26 (bA 41 3967) HT_ ?_
           refine tk_ 7 22 (bA 41 4095) rfl HT_ HW_ hHeld (by rintro w' ⟨s0, s1, s2, s3, s4, s5, s6, s7, s8, s9, s10, s11⟩; go_simp; with_reducible rfl) ?_
           refine tk_ 12 27 (bA 41 8191) rfl HT_ HW_ hHeld (by rintro w' ⟨s0, s1, s2, s3, s4, s5, s6, s7, s8, s9, s10, s11⟩; go_simp; with_reducible rfl) ?_
           refine pu_ 13 28 (bA 41 16383) HT_ ?_
           refine pu_ 14 29 (bA 41 32767) HT_ ?_
           refine pu_ 15 30 (bA 41 65535) HT_ ?_
           refine pu_ 16 31 (bA 41 131071) HT_ ?_
           refine pu_ 17 32 (bA 41 262143) HT_ ?_
           refine pu_ 18 33 (bA 41 524287) HT_ ?_
           refine pu_ 19 34 (bA 41 1048575) HT_ ?_
           refine pu_ 21 36 (bA 41 3145727) HT_ ?_
           refine pu_ 22 37 (bA 41 7340031) HT_ ?_
           refine pu_ 23 38 (bA 41 15728639) HT_ ?_
           refine pu_ 24 39 (bA 41 32505855) HT_ ?_
           refine tk_ 20 35 (bA 41 33554431) rfl HT_ HW_ hHeld (by rintro w' ⟨s0, s1, s2, s3, s4, s5, s6, s7, s8, s9, s10, s11⟩; go_simp; with_reducible rfl) ?_
           refine tk_ 25 40 (bA 41 67108863) rfl HT_ HW_ hHeld (by rintro w' ⟨s0, s1, s2, s3, s4, s5, s6, s7, s8, s9, s10, s11⟩; go_simp; with_reducible rfl) ?_
           refine pu_ 26 41 (bA 41 134217727) HT_ ?_
           refine pu_ 27 42 (bA 41 268435455) HT_ ?_
           refine pu_ 28 43 (bA 41 536870911) HT_ ?_
           refine pz_ 29 44 (bA 41 1073741823) HT_ ?_
           refine pz_ 30 45 (bA 41 2147483647) HT_ ?_
           refine pz_ 31 46 (bA 41 4294967295) HT_ ?_
           refine pz_ 32 47 (bA 41 8589934591) HT_ ?_
           refine pz_ 33 48 (bA 41 17179869183) HT_ ?_
           refine pz_ 34 49 (bA 41 34359738367) HT_ ?_
           refine pz_ 35 50 (bA 41 68719476735) HT_ ?_
           refine pz_ 36 51 (bA 41 137438953471) HT_ ?_
           refine pz_ 37 52 (bA 41 274877906943) HT_ ?_
           refine pz_ 38 53 (bA 41 549755813887) HT_ ?_
           refine pz_ 39 54 (bA 41 1099511627775) HT_ ?_
           refine pu_ 40 55 (bA 41 2199023255551) HT_ ?_
           refine done_ (done_of HT_.out (by kernel_rfl)) ?_
           have p228 : 0 ≤ (x4_1 : Int) := of_decide_eq_true (by first | (with_reducible assumption) | assumption)
           have q228 : x4_1 < (l0.length : Int) := of_decide_eq_true (by first | (with_reducible assumption) | assumption)
           obtain ⟨ad228, e228, hx228_0, hx228_1, hx228_2⟩ := at_T34 HR0.out x4_1 p228 q228
           obtain rfl : ad215 = ad228 := (by injection e228)
           replace hx228_0 := (HB.out.cell (World.block_lt_of_cell? w _ hx228_0)).trans hx228_0
           replace hx228_1 := (HB.out.cell (World.block_lt_of_cell? w _ hx228_1)).trans hx228_1
           replace hx228_2 := (HB.out.cell (World.block_lt_of_cell? w _ hx228_2)).trans hx228_2
           replace p228 := eq_true p228
           replace q228 := eq_true q228
           try go_wp2_with (first | ((with_reducible refine gate_builtin (b := .append) (xs := #[.tmp 71, .tmp 76]) rfl ?_); at_builtin; refine Kd.R_append k34 (w0 := w) w.heap.size rfl (.tmp 71) (.tmp 76) 22 34 (.agg #[(.int .i64 0), (.int .i64 0), (.string ⟨#[]⟩)]) 32 rfl Tryd.underlying22 info34 rfl (by decide) (by omega) (.slice (some ad217) x3_1.length co22) x3_1 (⟨(rd_T34 l0 x4_1).f0, (rd_T34 l0 x4_1).f1, (rd_T34 l0 x4_1).f2⟩ : S34) [.int .i64 ((rd_T34 l0 x4_1).f0), .int .i64 ((rd_T34 l0 x4_1).f1), .string ((rd_T34 l0 x4_1).f2)] (fun _ => True) (fun _ => False) rfl rfl ?aP (fun _ hk => hk.elim) ?aF ?aO ?aB ?aS ?aL ?_; (case aP => exact k34_mkM _ _ _ (⟨(rd_T34 l0 x4_1).f0, (rd_T34 l0 x4_1).f1, (rd_T34 l0 x4_1).f2⟩ : S34)); (case aB => exact (by repeat (first | (with_reducible first | exact HB.out | apply below_alloc | apply pw_below_drewN | apply below_drew1) | exact HB.out))); (case aF => exact (fun _ _ => trivial)); (case aO => exact (by (with_reducible repeat (first | apply Kd.R_alloc | apply Kd.R_drewN | apply Kd.R_drew)); exact HO_3.out)); (case aS => exact (below_size (by repeat (first | (with_reducible first | exact HB.out | apply below_alloc | apply pw_below_drewN | apply below_drew1) | exact HB.out)))); (case aL => have := LMc21.out; omega); intro v230 w24 ho hb hg hat; rw [← Ny229.out] at ho; have n0_ := Aside0.mk (hb); have n1_ := Aside0.mk (ho); clear HB; clear HO_3; have HB := n0_; have HO231 := n1_; clear n0_ n1_; clear ho hb hg hat))
           go_roundg k1
           case measure => have := HK1.out; omega
           case rel => exact ⟨(y229), (wrap64 (x4_1 + 1)), (by first | rfl | (simp; done) | (simp [*]; done)), H', ⟨by have := HK1.out; omega⟩, ⟨by (with_reducible repeat (first | apply Kd.R_alloc | apply Kd.R_drewN | apply Kd.R_drew)); exact HO231.out⟩, ⟨by repeat (first | (with_reducible first | exact HB.out | apply below_alloc | apply pw_below_drewN | apply below_drew1) | exact HB.out)⟩⟩
          ·rw [if_neg c21] at H
           exact absurd H (by simp)
        ·rw [if_neg c8] at H
         exact absurd H (by simp)
       ·rw [if_neg c7] at H
        exact absurd H (by simp)
      ·rw [if_neg c5] at H
       have c5b0 : (((rd_T34 l0 x4_1).f0) == ((rd_T34 l0 x4_1).f1)) = false := beq_eq_false_iff_ne.mpr c5
       have c5b1 : (((rd_T34 l0 x4_1).f0) != ((rd_T34 l0 x4_1).f1)) = true := bne_iff_ne.mpr c5
       by_cases c25 : x3_1.length < 4398046511104
       ·rw [if_pos c25] at H
        have LMc25 := Aside0.mk c25
        clear c25
        obtain ⟨y233, hy233⟩ : ∃ y_ : List (S34), y_ = (x3_1 ++ [(⟨(rd_T34 l0 x4_1).f0, (rd_T34 l0 x4_1).f1, (rd_T34 l0 x4_1).f2⟩ : S34)]) := ⟨_, rfl⟩
        replace H : (smockingref01_joined.l0 k1 l0 y233 (wrap64 (x4_1 + 1))) = some r := by first | (rw [hy233]; with_reducible exact H) | (have H2_ := (Option.bind_some _ _).symm.trans H; rw [hy233]; with_reducible exact H2_) | (have H2_ := (Option.bind_some _ _).symm.trans H; with_reducible exact H2_) | with_reducible exact H | (rw [hy233]; exact H) | exact H
        have Ny233 := Aside0.mk hy233
        clear hy233
        have H' := Aside0.mk H
        clear H
        obtain ⟨Ao26, co26, eo26⟩ := Kd.R_slice HO_3.out
        subst eo26
        try go_wp2
        have n0_ := Aside0.mk (Kd.R_drew HO_3.out)
        have n1_ := Aside0.mk (below_drew1 HB.out)
        clear HO_3
        clear HB
        have HO_3 := n0_
        have HB := n1_
        clear n0_ n1_
        have p215 : 0 ≤ (x4_1 : Int) := of_decide_eq_true (by first | (with_reducible assumption) | assumption)
        have q215 : x4_1 < (l0.length : Int) := of_decide_eq_true (by first | (with_reducible assumption) | assumption)
        obtain ⟨ad215, e215, hx215_0, hx215_1, hx215_2⟩ := at_T34 HR0.out x4_1 p215 q215
        have hw215_2 := hx215_2
        have hw215_1 := hx215_1
        have hw215_0 := hx215_0
        cases e215
        replace hx215_0 := (HB.out.cell (World.block_lt_of_cell? w _ hx215_0)).trans hx215_0
        replace hx215_1 := (HB.out.cell (World.block_lt_of_cell? w _ hx215_1)).trans hx215_1
        replace hx215_2 := (HB.out.cell (World.block_lt_of_cell? w _ hx215_2)).trans hx215_2
        replace p215 := eq_true p215
        replace q215 := eq_true q215
        have p216 : 0 ≤ (x4_1 : Int) := of_decide_eq_true (by first | (with_reducible assumption) | assumption)
        have q216 : x4_1 < (l0.length : Int) := of_decide_eq_true (by first | (with_reducible assumption) | assumption)
        obtain ⟨ad216, e216, hx216_0, hx216_1, hx216_2⟩ := at_T34 HR0.out x4_1 p216 q216
        have hw216_2 := hx216_2
        have hw216_1 := hx216_1
        have hw216_0 := hx216_0
        obtain rfl : ad215 = ad216 := (by injection e216)
        replace hx216_0 := (HB.out.cell (World.block_lt_of_cell? w _ hx216_0)).trans hx216_0
        replace hx216_1 := (HB.out.cell (World.block_lt_of_cell? w _ hx216_1)).trans hx216_1
        replace hx216_2 := (HB.out.cell (World.block_lt_of_cell? w _ hx216_2)).trans hx216_2
        replace p216 := eq_true p216
        replace q216 := eq_true q216
        refine start_ (n := 41) (S := fun w' => w'.cell? (ad215.add ((x4_1).toNat * 3)) = some (.int .i64 ((rd_T34 l0 x4_1).f0)) ∧ w'.cell? ⟨(ad215.add ((x4_1).toNat * 3)).block, (ad215.add ((x4_1).toNat * 3)).off + 1, none⟩ = some (.int .i64 ((rd_T34 l0 x4_1).f1)) ∧ w'.cell? ⟨(ad215.add ((x4_1).toNat * 3)).block, (ad215.add ((x4_1).toNat * 3)).off + 2, none⟩ = some (.string ((rd_T34 l0 x4_1).f2)) ∧ w'.cell? (ad215.add ((x4_1).toNat * 3)) = some (.int .i64 ((rd_T34 l0 x4_1).f0)) ∧ w'.cell? ⟨(ad215.add ((x4_1).toNat * 3)).block, (ad215.add ((x4_1).toNat * 3)).off + 1, none⟩ = some (.int .i64 ((rd_T34 l0 x4_1).f1)) ∧ w'.cell? ⟨(ad215.add ((x4_1).toNat * 3)).block, (ad215.add ((x4_1).toNat * 3)).off + 2, none⟩ = some (.string ((rd_T34 l0 x4_1).f2))) (ds := []) (bA 41 0) (by kernel_rfl) rfl rfl ⟨((HB.out.cell (World.block_lt_of_cell? w _ hw215_0)).trans hw215_0), ((HB.out.cell (World.block_lt_of_cell? w _ hw215_1)).trans hw215_1), ((HB.out.cell (World.block_lt_of_cell? w _ hw215_2)).trans hw215_2), ((HB.out.cell (World.block_lt_of_cell? w _ hw216_0)).trans hw216_0), ((HB.out.cell (World.block_lt_of_cell? w _ hw216_1)).trans hw216_1), ((HB.out.cell (World.block_lt_of_cell? w _ hw216_2)).trans hw216_2)⟩ (fun hHeld => ?_); refine with_tabW smockingref01_joined.tab6 smockingref01_joined.bits6 (fun HT_ HW_ => ?_)
        generalize wr.drew = w27 at HO_3 HB hx215_0 hx215_1 hx215_2 hx216_0 hx216_1 hx216_2 hHeld ⊢
        refine pu_ 0 15 (bA 41 1) HT_ ?_
        refine pu_ 1 16 (bA 41 3) HT_ ?_
        refine pu_ 2 17 (bA 41 7) HT_ ?_
        refine pu_ 3 18 (bA 41 15) HT_ ?_
        refine pu_ 4 19 (bA 41 31) HT_ ?_
        refine pu_ 5 20 (bA 41 63) HT_ ?_
        refine pu_ 6 21 (bA 41 127) HT_ ?_
        refine pu_ 8 23 (bA 41 383) HT_ ?_
        refine pu_ 9 24 (bA 41 895) HT_ ?_
        refine pu_ 10 25 (bA 41 1919) HT_ ?_
        refine pu_ 11 26 (bA 41 3967) HT_ ?_
        refine tk_ 7 22 (bA 41 4095) rfl HT_ HW_ hHeld (by rintro w' ⟨s0, s1, s2, s3, s4, s5⟩; go_simp; with_reducible rfl) ?_
        refine tk_ 12 27 (bA 41 8191) rfl HT_ HW_ hHeld (by rintro w' ⟨s0, s1, s2, s3, s4, s5⟩; go_simp; with_reducible rfl) ?_
        refine pu_ 13 28 (bA 41 16383) HT_ ?_
        refine pu_ 14 29 (bA 41 32767) HT_ ?_
        refine pu_ 15 30 (bA 41 65535) HT_ ?_
        refine pz_ 16 31 (bA 41 131071) HT_ ?_
        refine pz_ 17 32 (bA 41 262143) HT_ ?_
        refine pz_ 18 33 (bA 41 524287) HT_ ?_
        refine pz_ 19 34 (bA 41 1048575) HT_ ?_
        refine pz_ 20 35 (bA 41 2097151) HT_ ?_
        refine pz_ 21 36 (bA 41 4194303) HT_ ?_
        refine pz_ 22 37 (bA 41 8388607) HT_ ?_
        refine pz_ 23 38 (bA 41 16777215) HT_ ?_
        refine pz_ 24 39 (bA 41 33554431) HT_ ?_
        refine pz_ 25 40 (bA 41 67108863) HT_ ?_
        refine pz_ 26 41 (bA 41 134217727) HT_ ?_
        refine pu_ 27 42 (bA 41 268435455) HT_ ?_
        refine pu_ 28 43 (bA 41 536870911) HT_ ?_
        refine pz_ 29 44 (bA 41 1073741823) HT_ ?_
        refine pz_ 30 45 (bA 41 2147483647) HT_ ?_
        refine pz_ 31 46 (bA 41 4294967295) HT_ ?_
        refine pz_ 32 47 (bA 41 8589934591) HT_ ?_
        refine pz_ 33 48 (bA 41 17179869183) HT_ ?_
        refine pz_ 34 49 (bA 41 34359738367) HT_ ?_
        refine pz_ 35 50 (bA 41 68719476735) HT_ ?_
        refine pz_ 36 51 (bA 41 137438953471) HT_ ?_
        refine pz_ 37 52 (bA 41 274877906943) HT_ ?_
        refine pz_ 38 53 (bA 41 549755813887) HT_ ?_
        refine pz_ 39 54 (bA 41 1099511627775) HT_ ?_
        refine pu_ 40 55 (bA 41 2199023255551) HT_ ?_
        refine done_ (done_of HT_.out (by kernel_rfl)) ?_
        have p232 : 0 ≤ (x4_1 : Int) := of_decide_eq_true (by first | (with_reducible assumption) | assumption)
        have q232 : x4_1 < (l0.length : Int) := of_decide_eq_true (by first | (with_reducible assumption) | assumption)
        obtain ⟨ad232, e232, hx232_0, hx232_1, hx232_2⟩ := at_T34 HR0.out x4_1 p232 q232
        obtain rfl : ad215 = ad232 := (by injection e232)
        replace hx232_0 := (HB.out.cell (World.block_lt_of_cell? w _ hx232_0)).trans hx232_0
        replace hx232_1 := (HB.out.cell (World.block_lt_of_cell? w _ hx232_1)).trans hx232_1
        replace hx232_2 := (HB.out.cell (World.block_lt_of_cell? w _ hx232_2)).trans hx232_2
        replace p232 := eq_true p232
        replace q232 := eq_true q232
        try go_wp2_with (first | ((with_reducible refine gate_builtin (b := .append) (xs := #[.tmp 71, .tmp 76]) rfl ?_); at_builtin; refine Kd.R_append k34 (w0 := w) w.heap.size rfl (.tmp 71) (.tmp 76) 22 34 (.agg #[(.int .i64 0), (.int .i64 0), (.string ⟨#[]⟩)]) 32 rfl Tryd.underlying22 info34 rfl (by decide) (by omega) (.slice Ao26 x3_1.length co26) x3_1 (⟨(rd_T34 l0 x4_1).f0, (rd_T34 l0 x4_1).f1, (rd_T34 l0 x4_1).f2⟩ : S34) [.int .i64 ((rd_T34 l0 x4_1).f0), .int .i64 ((rd_T34 l0 x4_1).f1), .string ((rd_T34 l0 x4_1).f2)] (fun _ => True) (fun _ => False) rfl rfl ?aP (fun _ hk => hk.elim) ?aF ?aO ?aB ?aS ?aL ?_; (case aP => exact k34_mkM _ _ _ (⟨(rd_T34 l0 x4_1).f0, (rd_T34 l0 x4_1).f1, (rd_T34 l0 x4_1).f2⟩ : S34)); (case aB => exact (by repeat (first | (with_reducible first | exact HB.out | apply below_alloc | apply pw_below_drewN | apply below_drew1) | exact HB.out))); (case aF => exact (fun _ _ => trivial)); (case aO => exact (by (with_reducible repeat (first | apply Kd.R_alloc | apply Kd.R_drewN | apply Kd.R_drew)); exact HO_3.out)); (case aS => exact (below_size (by repeat (first | (with_reducible first | exact HB.out | apply below_alloc | apply pw_below_drewN | apply below_drew1) | exact HB.out)))); (case aL => have := LMc25.out; omega); intro v234 w28 ho hb hg hat; rw [← Ny233.out] at ho; have n0_ := Aside0.mk (hb); have n1_ := Aside0.mk (ho); clear HB; clear HO_3; have HB := n0_; have HO235 := n1_; clear n0_ n1_; clear ho hb hg hat))
        go_roundg k1
        case measure => have := HK1.out; omega
        case rel => exact ⟨(y233), (wrap64 (x4_1 + 1)), (by first | rfl | (simp; done) | (simp [*]; done)), H', ⟨by have := HK1.out; omega⟩, ⟨by (with_reducible repeat (first | apply Kd.R_alloc | apply Kd.R_drewN | apply Kd.R_drew)); exact HO235.out⟩, ⟨by repeat (first | (with_reducible first | exact HB.out | apply below_alloc | apply pw_below_drewN | apply below_drew1) | exact HB.out)⟩⟩
       ·rw [if_neg c25] at H
        exact absurd H (by simp)
     ·rw [if_neg c4] at H
      exact absurd H (by simp)
    ·rw [if_neg c3] at H
     have c3b0 : decide (0 ≤ (wrap64 ((x3_1.length : Int) - 1))) = false := decide_eq_false c3
     clear c3
     by_cases c29 : 0 ≤ x4_1
     ·rw [if_pos c29] at H
      have c29b0 : decide (0 ≤ x4_1) = true := decide_eq_true c29
      clear c29
      by_cases c30 : x3_1.length < 4398046511104
      ·rw [if_pos c30] at H
       have LMc30 := Aside0.mk c30
       clear c30
       obtain ⟨y237, hy237⟩ : ∃ y_ : List (S34), y_ = (x3_1 ++ [(⟨(rd_T34 l0 x4_1).f0, (rd_T34 l0 x4_1).f1, (rd_T34 l0 x4_1).f2⟩ : S34)]) := ⟨_, rfl⟩
       replace H : (smockingref01_joined.l0 k1 l0 y237 (wrap64 (x4_1 + 1))) = some r := by first | (rw [hy237]; with_reducible exact H) | (have H2_ := (Option.bind_some _ _).symm.trans H; rw [hy237]; with_reducible exact H2_) | (have H2_ := (Option.bind_some _ _).symm.trans H; with_reducible exact H2_) | with_reducible exact H | (rw [hy237]; exact H) | exact H
       have Ny237 := Aside0.mk hy237
       clear hy237
       have H' := Aside0.mk H
       clear H
       obtain ⟨Ao31, co31, eo31⟩ := Kd.R_slice HO_3.out
       subst eo31
       try go_wp2
       have n0_ := Aside0.mk (Kd.R_drew HO_3.out)
       have n1_ := Aside0.mk (below_drew1 HB.out)
       clear HO_3
       clear HB
       have HO_3 := n0_
       have HB := n1_
       clear n0_ n1_
       refine start_ (n := 41) (S := fun w' => True) (ds := []) (bA 41 0) (by kernel_rfl) rfl rfl trivial (fun hHeld => ?_); refine with_tabW smockingref01_joined.tab6 smockingref01_joined.bits6 (fun HT_ HW_ => ?_)
       generalize wr.drew = w32 at HO_3 HB hHeld ⊢
       refine pu_ 0 15 (bA 41 1) HT_ ?_
       refine pu_ 1 16 (bA 41 3) HT_ ?_
       refine pu_ 2 17 (bA 41 7) HT_ ?_
       refine pz_ 3 18 (bA 41 15) HT_ ?_
       refine pz_ 4 19 (bA 41 31) HT_ ?_
       refine pz_ 5 20 (bA 41 63) HT_ ?_
       refine pz_ 6 21 (bA 41 127) HT_ ?_
       refine pz_ 7 22 (bA 41 255) HT_ ?_
       refine pz_ 8 23 (bA 41 511) HT_ ?_
       refine pz_ 9 24 (bA 41 1023) HT_ ?_
       refine pz_ 10 25 (bA 41 2047) HT_ ?_
       refine pz_ 11 26 (bA 41 4095) HT_ ?_
       refine pz_ 12 27 (bA 41 8191) HT_ ?_
       refine pz_ 13 28 (bA 41 16383) HT_ ?_
       refine pu_ 14 29 (bA 41 32767) HT_ ?_
       refine pu_ 15 30 (bA 41 65535) HT_ ?_
       refine pz_ 16 31 (bA 41 131071) HT_ ?_
       refine pz_ 17 32 (bA 41 262143) HT_ ?_
       refine pz_ 18 33 (bA 41 524287) HT_ ?_
       refine pz_ 19 34 (bA 41 1048575) HT_ ?_
       refine pz_ 20 35 (bA 41 2097151) HT_ ?_
       refine pz_ 21 36 (bA 41 4194303) HT_ ?_
       refine pz_ 22 37 (bA 41 8388607) HT_ ?_
       refine pz_ 23 38 (bA 41 16777215) HT_ ?_
       refine pz_ 24 39 (bA 41 33554431) HT_ ?_
       refine pz_ 25 40 (bA 41 67108863) HT_ ?_
       refine pz_ 26 41 (bA 41 134217727) HT_ ?_
       refine pu_ 27 42 (bA 41 268435455) HT_ ?_
       refine pu_ 28 43 (bA 41 536870911) HT_ ?_
       refine pz_ 29 44 (bA 41 1073741823) HT_ ?_
       refine pz_ 30 45 (bA 41 2147483647) HT_ ?_
       refine pz_ 31 46 (bA 41 4294967295) HT_ ?_
       refine pz_ 32 47 (bA 41 8589934591) HT_ ?_
       refine pz_ 33 48 (bA 41 17179869183) HT_ ?_
       refine pz_ 34 49 (bA 41 34359738367) HT_ ?_
       refine pz_ 35 50 (bA 41 68719476735) HT_ ?_
       refine pz_ 36 51 (bA 41 137438953471) HT_ ?_
       refine pz_ 37 52 (bA 41 274877906943) HT_ ?_
       refine pz_ 38 53 (bA 41 549755813887) HT_ ?_
       refine pz_ 39 54 (bA 41 1099511627775) HT_ ?_
       refine pu_ 40 55 (bA 41 2199023255551) HT_ ?_
       refine done_ (done_of HT_.out (by kernel_rfl)) ?_
       have p236 : 0 ≤ (x4_1 : Int) := of_decide_eq_true (by first | (with_reducible assumption) | assumption)
       have q236 : x4_1 < (l0.length : Int) := of_decide_eq_true (by first | (with_reducible assumption) | assumption)
       obtain ⟨ad236, e236, hx236_0, hx236_1, hx236_2⟩ := at_T34 HR0.out x4_1 p236 q236
       cases e236
       replace hx236_0 := (HB.out.cell (World.block_lt_of_cell? w _ hx236_0)).trans hx236_0
       replace hx236_1 := (HB.out.cell (World.block_lt_of_cell? w _ hx236_1)).trans hx236_1
       replace hx236_2 := (HB.out.cell (World.block_lt_of_cell? w _ hx236_2)).trans hx236_2
       replace p236 := eq_true p236
       replace q236 := eq_true q236
       try go_wp2_with (first | ((with_reducible refine gate_builtin (b := .append) (xs := #[.tmp 71, .tmp 76]) rfl ?_); at_builtin; refine Kd.R_append k34 (w0 := w) w.heap.size rfl (.tmp 71) (.tmp 76) 22 34 (.agg #[(.int .i64 0), (.int .i64 0), (.string ⟨#[]⟩)]) 32 rfl Tryd.underlying22 info34 rfl (by decide) (by omega) (.slice Ao31 x3_1.length co31) x3_1 (⟨(rd_T34 l0 x4_1).f0, (rd_T34 l0 x4_1).f1, (rd_T34 l0 x4_1).f2⟩ : S34) [.int .i64 ((rd_T34 l0 x4_1).f0), .int .i64 ((rd_T34 l0 x4_1).f1), .string ((rd_T34 l0 x4_1).f2)] (fun _ => True) (fun _ => False) rfl rfl ?aP (fun _ hk => hk.elim) ?aF ?aO ?aB ?aS ?aL ?_; (case aP => exact k34_mkM _ _ _ (⟨(rd_T34 l0 x4_1).f0, (rd_T34 l0 x4_1).f1, (rd_T34 l0 x4_1).f2⟩ : S34)); (case aB => exact (by repeat (first | (with_reducible first | exact HB.out | apply below_alloc | apply pw_below_drewN | apply below_drew1) | exact HB.out))); (case aF => exact (fun _ _ => trivial)); (case aO => exact (by (with_reducible repeat (first | apply Kd.R_alloc | apply Kd.R_drewN | apply Kd.R_drew)); exact HO_3.out)); (case aS => exact (below_size (by repeat (first | (with_reducible first | exact HB.out | apply below_alloc | apply pw_below_drewN | apply below_drew1) | exact HB.out)))); (case aL => have := LMc30.out; omega); intro v238 w33 ho hb hg hat; rw [← Ny237.out] at ho; have n0_ := Aside0.mk (hb); have n1_ := Aside0.mk (ho); clear HB; clear HO_3; have HB := n0_; have HO239 := n1_; clear n0_ n1_; clear ho hb hg hat))
       go_roundg k1
       case measure => have := HK1.out; omega
       case rel => exact ⟨(y237), (wrap64 (x4_1 + 1)), (by first | rfl | (simp; done) | (simp [*]; done)), H', ⟨by have := HK1.out; omega⟩, ⟨by (with_reducible repeat (first | apply Kd.R_alloc | apply Kd.R_drewN | apply Kd.R_drew)); exact HO239.out⟩, ⟨by repeat (first | (with_reducible first | exact HB.out | apply below_alloc | apply pw_below_drewN | apply below_drew1) | exact HB.out)⟩⟩
      ·rw [if_neg c30] at H
       exact absurd H (by simp)
     ·rw [if_neg c29] at H
      exact absurd H (by simp)
   ·rw [if_neg c2] at H
    have c2b0 : decide (x4_1 < (l0.length : Int)) = false := decide_eq_false c2
    clear c2
    obtain rfl := Option.some.inj H
    go_wp2
    go_ret
    exact ⟨_, by first | rfl | (simp [errW_none, errW_some] <;> rfl) | (simp [*, errW_none, errW_some] <;> rfl), by (with_reducible repeat (first | apply Kd.R_alloc | apply Kd.R_drewN | apply Kd.R_drew)); exact HO_3.out, by repeat (first | (with_reducible first | exact HB.out | apply below_alloc | apply pw_below_drewN | apply below_drew1) | exact HB.out)⟩

end Go.Proofs.YthimblhfjfngiaaDoor.PText

-- mended25

namespace Go.Proofs.YthimblhfjfngiaaDoor.PText
open Go.RowKit Go.Proofs.YthimblhfjfngiaaDoorW.PrintWords Go.Proofs.YthimblhfjfngiaaDoorW.PrintLast Go.Proofs.YthimblhfjfngiaaDoorW.PrintMore
attribute [local go_sem] max2_int min2_int max_two min_two max_three min_three max_four min_four   -- for this text's walks alone
set_option linter.unusedVariables false
set_option linter.unusedSimpArgs false

def smockingref01_moved.l0 : Nat → List (S34) → Int → Int → Int → Int → ByteArray → Option (Int)
 | 0, _, _, _, _, _, _ => none
 | k + 1, x1, x5, x6, x491000, x491001, x491002 => if x6 < (x1.length : Int) then (if 0 ≤ x6 then ((smockingref01_before.f ((rd_T34 x1 x6).f0) ((rd_T34 x1 x6).f1) ((rd_T34 x1 x6).f2) x491000 x491001 x491002).bind fun t492 => (if t492 = true then (if ((rd_T34 x1 x6).f1) ≤ x491000 then (smockingref01_moved.l0 k x1 (wrap64 ((wrap64 (x5 + (((rd_T34 x1 x6).f2).size : Int))) - (wrap64 (((rd_T34 x1 x6).f1) - ((rd_T34 x1 x6).f0))))) (wrap64 (x6 + 1)) x491000 x491001 x491002) else (smockingref01_moved.l0 k x1 x5 (wrap64 (x6 + 1)) x491000 x491001 x491002)) else (smockingref01_moved.l0 k x1 x5 (wrap64 (x6 + 1)) x491000 x491001 x491002))) else (none)) else (some x5)
def smockingref01_moved.f (k : Nat) (a0_0 : Int) (a0_1 : Int) (a0_2 : ByteArray) (l1 : List (S34)) : Option (Int) := smockingref01_moved.l0 k l1 0 0 a0_0 a0_1 a0_2
def smockingref01_moved.T5 : Bool × List (List Nat × List Nat) := (true, [([], []), ([], []), ([0, 1], [0, 1]), ([2], [2]), ([], []), ([3, 4], [3, 4]), ([5, 5], [5]), ([6], [6]), ([6], [6]), ([7, 8, 6], [6, 7, 8]), ([9, 6], [6, 9]), ([10, 6], [6, 10]), ([6], [6]), ([12, 6], [6, 12]), ([11, 13, 6], [6, 11, 13]), ([6, 14], [6, 14])])
def smockingref01_moved.B5 : List Nat := [0, 0, 3, 7, 0, 31, 63, 127, 127, 511, 1023, 2047, 127, 4223, 16383, 32767]
theorem smockingref01_moved.tab5 : rtab .any (opsOf Tryd.f51 5) = smockingref01_moved.T5 := by kernel_rfl
theorem smockingref01_moved.bits5 : waitsOk smockingref01_moved.T5.2 smockingref01_moved.B5 = true := by kernel_rfl
def smockingref01_moved.T6 : Bool × List (List Nat × List Nat) := (true, [([], []), ([], []), ([], []), ([1, 2], [1, 2]), ([3], [3]), ([4], [4]), ([5], [5]), ([0, 6], [0, 6]), ([], []), ([], []), ([8, 9], [8, 9]), ([10], [10]), ([11], [11]), ([], []), ([], []), ([13, 14], [13, 14]), ([15], [15]), ([16], [16]), ([12, 17], [12, 17]), ([7, 18], [7, 18]), ([19, 0, 1, 2, 3, 4, 5, 6, 7, 8, 9, 10, 11, 12, 13, 14, 15, 16, 17, 18, 19], [0, 19])])
def smockingref01_moved.B6 : List Nat := [0, 0, 0, 6, 14, 30, 62, 127, 0, 0, 768, 1792, 3840, 0, 0, 24576, 57344, 122880, 261888, 524287, 1048575]
theorem smockingref01_moved.tab6 : rtab .any (opsOf Tryd.f51 6) = smockingref01_moved.T6 := by kernel_rfl
theorem smockingref01_moved.bits6 : waitsOk smockingref01_moved.T6.2 smockingref01_moved.B6 = true := by kernel_rfl
set_option maxHeartbeats 8000000 in
set_option maxRecDepth 100000 in
theorem smockingref01_moved.calls (k : Nat) (a0_0 : Int) (a0_1 : Int) (a0_2 : ByteArray) (A1 : Option Addr) (c1 : Nat) (l1 : List (S34)) (r : Int) (w : World) (hr1 : Kd.C k34 w A1 l1.length l1) (hc1 : l1.length ≤ c1) (h : smockingref01_moved.f k a0_0 a0_1 a0_2 l1 = some r) :
  Calls Tryd.prog 51 #[.agg #[.int .i64 a0_0, .int .i64 a0_1, .string a0_2], .slice A1 l1.length c1] w fun e w' => e = .returned (.int .i64 r) ∧ Below w.heap.size w w' := by
 have hu34 := Tryd.underlying34
 have HR1 := Aside0.mk hr1
 have HC1 := Aside0.mk hc1
 clear hr1 hc1
 have HB := Aside0.mk (Below.refl w.heap.size w)
 have H : (smockingref01_moved.l0 k l1 0 0 a0_0 a0_1 a0_2) = some r := h
 clear h
 have H' := Aside0.mk H
 clear H
 go_enter Tryd.func51, Tryd.ntmps51
 go_wp2_with (first | ((with_reducible refine gate_dst (N := 2) rfl ?_); refine box_event ?hg (N := 2) ?hd (cs := #[.int .i64 a0_0, .int .i64 a0_1, .string a0_2]) (t := 34) ?hr ?_; (case hd => rfl); (case hg => rfl); (case hr => first | (go_simp; done) | (go_simp; rfl)); intro gb490 hg w3 hbox hb; have n0_ := Aside0.mk (below_step (by repeat (first | (with_reducible first | exact HB.out | apply below_alloc | apply pw_below_drewN | apply below_drew1) | exact HB.out)) hb); have n1_ := Aside0.mk (hbox); have n2_ := Aside0.mk ((by rw [hg]; exact (below_size (by repeat (first | (with_reducible first | exact HB.out | apply below_alloc | apply pw_below_drewN | apply below_drew1) | exact HB.out))) : w.heap.size ≤ gb490)); have n3_ := Aside0.mk ((by rw [hg]; exact (below_size (by repeat (first | (with_reducible first | exact HB.out | apply below_alloc | apply pw_below_drewN | apply below_drew1) | exact HB.out))) : w.heap.size ≤ gb490)); clear HB; have HB := n0_; have BK490 := n1_; have GW490 := n2_; have GE490 := n3_; clear n0_ n1_ n2_ n3_; clear hb hbox hg))
 try simp only [Act.put, List.setIfInBounds_toArray, List.set_cons_succ, List.set_cons_zero]
 go_loopg [5, 6] k (fun kq v5 v6 w' => ∃ (x5_1 : Int) (x6_1 : Int), v5 = .int .i64 x5_1 ∧ v6 = .int .i64 x6_1 ∧ Aside0 (smockingref01_moved.l0 kq l1 x5_1 x6_1 a0_0 a0_1 a0_2 = some r) ∧ Aside0 (kq ≤ k) ∧ Aside0 (w'.heap[gb490]? = some (.cells #[.int .i64 a0_0, .int .i64 a0_1, .string a0_2] 34 (0, 0))) ∧ Aside0 (Below w.heap.size w w'))
 case atStart => exact ⟨(0), (0), (by first | rfl | (simp; done) | (simp [*]; done)), (by first | rfl | (simp; done) | (simp [*]; done)), H', ⟨Nat.le_refl _⟩, ⟨by (with_reducible repeat (first | refine blk_drewN ?_ _ | refine blk_drew ?_ | refine blk_alloc ?_ _)); exact BK490.out⟩, ⟨by repeat (first | (with_reducible first | exact HB.out | apply below_alloc | apply pw_below_drewN | apply below_drew1 | refine below_set ?_ GE490.out) | exact HB.out)⟩⟩
 case round =>
  clear H'
  try clear c1
  try clear p2
  obtain ⟨x5_1, x6_1, rfl, rfl, HA, HK1, BK490, HB⟩ := hrel
  cases gk with
  | zero => exact absurd HA.out (by simp [smockingref01_moved.l0])
  | succ k1 =>
   have H := HA.out
   clear HA
   simp only [smockingref01_moved.l0] at H
   by_cases c4 : x6_1 < (l1.length : Int)
   ·rw [if_pos c4] at H
    have c4b0 : decide (x6_1 < (l1.length : Int)) = true := decide_eq_true c4
    clear c4
    by_cases c5 : 0 ≤ x6_1
    ·rw [if_pos c5] at H
     have c5b0 : decide (0 ≤ x6_1) = true := decide_eq_true c5
     clear c5
     replace H := Option.bind_eq_some_iff.mp H
     obtain ⟨t492, A60, H⟩ := H
     replace H : (if t492 = true then (if ((rd_T34 l1 x6_1).f1) ≤ a0_0 then (smockingref01_moved.l0 k1 l1 (wrap64 ((wrap64 (x5_1 + (((rd_T34 l1 x6_1).f2).size : Int))) - (wrap64 (((rd_T34 l1 x6_1).f1) - ((rd_T34 l1 x6_1).f0))))) (wrap64 (x6_1 + 1)) a0_0 a0_1 a0_2) else (smockingref01_moved.l0 k1 l1 x5_1 (wrap64 (x6_1 + 1)) a0_0 a0_1 a0_2)) else (smockingref01_moved.l0 k1 l1 x5_1 (wrap64 (x6_1 + 1)) a0_0 a0_1 a0_2)) = some r := H
     have A6 := Aside0.mk A60
     clear A60
     by_cases c7 : t492 = true
     ·subst c7
      have H1 : (if ((rd_T34 l1 x6_1).f1) ≤ a0_0 then (smockingref01_moved.l0 k1 l1 (wrap64 ((wrap64 (x5_1 + (((rd_T34 l1 x6_1).f2).size : Int))) - (wrap64 (((rd_T34 l1 x6_1).f1) - ((rd_T34 l1 x6_1).f0))))) (wrap64 (x6_1 + 1)) a0_0 a0_1 a0_2) else (smockingref01_moved.l0 k1 l1 x5_1 (wrap64 (x6_1 + 1)) a0_0 a0_1 a0_2)) = some r := by rw [if_pos rfl] at H; exact H
      clear H
      have H := H1
      clear H1
      by_cases c8 : ((rd_T34 l1 x6_1).f1) ≤ a0_0
      ·rw [if_pos c8] at H
       have c8b0 : decide (((rd_T34 l1 x6_1).f1) ≤ a0_0) = true := decide_eq_true c8
       clear c8
       have H' := Aside0.mk H
       clear H
       try go_wp2
       have n0_ := Aside0.mk (blk_drew BK490.out)
       have n1_ := Aside0.mk (below_drew1 HB.out)
       clear BK490
       clear HB
       have BK490 := n0_
       have HB := n1_
       clear n0_ n1_
       have p491 : 0 ≤ (x6_1 : Int) := of_decide_eq_true (by first | (with_reducible assumption) | assumption)
       have q491 : x6_1 < (l1.length : Int) := of_decide_eq_true (by first | (with_reducible assumption) | assumption)
       obtain ⟨ad491, e491, hx491_0, hx491_1, hx491_2⟩ := at_T34 HR1.out x6_1 p491 q491
       have hw491_2 := hx491_2
       have hw491_1 := hx491_1
       have hw491_0 := hx491_0
       cases e491
       replace hx491_0 := (HB.out.cell (World.block_lt_of_cell? w _ hx491_0)).trans hx491_0
       replace hx491_1 := (HB.out.cell (World.block_lt_of_cell? w _ hx491_1)).trans hx491_1
       replace hx491_2 := (HB.out.cell (World.block_lt_of_cell? w _ hx491_2)).trans hx491_2
       replace p491 := eq_true p491
       replace q491 := eq_true q491
       have p493 : 0 ≤ (x6_1 : Int) := of_decide_eq_true (by first | (with_reducible assumption) | assumption)
       have q493 : x6_1 < (l1.length : Int) := of_decide_eq_true (by first | (with_reducible assumption) | assumption)
       obtain ⟨ad493, e493, hx493_0, hx493_1, hx493_2⟩ := at_T34 HR1.out x6_1 p493 q493
       have hw493_2 := hx493_2
       have hw493_1 := hx493_1
       have hw493_0 := hx493_0
       obtain rfl : ad491 = ad493 := (by injection e493)
       replace hx493_0 := (HB.out.cell (World.block_lt_of_cell? w _ hx493_0)).trans hx493_0
       replace hx493_1 := (HB.out.cell (World.block_lt_of_cell? w _ hx493_1)).trans hx493_1
       replace hx493_2 := (HB.out.cell (World.block_lt_of_cell? w _ hx493_2)).trans hx493_2
       replace p493 := eq_true p493
       replace q493 := eq_true q493
       refine start_ (n := 16) (S := fun w' => w'.cell? ⟨gb490, 0, none⟩ = some (.int .i64 a0_0) ∧ w'.cell? ⟨gb490, 1, none⟩ = some (.int .i64 a0_1) ∧ w'.cell? ⟨gb490, 2, none⟩ = some (.string a0_2) ∧ w'.cell? (ad491.add ((x6_1).toNat * 3)) = some (.int .i64 ((rd_T34 l1 x6_1).f0)) ∧ w'.cell? ⟨(ad491.add ((x6_1).toNat * 3)).block, (ad491.add ((x6_1).toNat * 3)).off + 1, none⟩ = some (.int .i64 ((rd_T34 l1 x6_1).f1)) ∧ w'.cell? ⟨(ad491.add ((x6_1).toNat * 3)).block, (ad491.add ((x6_1).toNat * 3)).off + 2, none⟩ = some (.string ((rd_T34 l1 x6_1).f2)) ∧ w'.cell? (ad491.add ((x6_1).toNat * 3)) = some (.int .i64 ((rd_T34 l1 x6_1).f0)) ∧ w'.cell? ⟨(ad491.add ((x6_1).toNat * 3)).block, (ad491.add ((x6_1).toNat * 3)).off + 1, none⟩ = some (.int .i64 ((rd_T34 l1 x6_1).f1)) ∧ w'.cell? ⟨(ad491.add ((x6_1).toNat * 3)).block, (ad491.add ((x6_1).toNat * 3)).off + 2, none⟩ = some (.string ((rd_T34 l1 x6_1).f2))) (ds := []) (bA 16 0) (by kernel_rfl) rfl rfl ⟨(blk_cell BK490.out 0).trans rfl, (blk_cell BK490.out 1).trans rfl, (blk_cell BK490.out 2).trans rfl, ((HB.out.cell (World.block_lt_of_cell? w _ hw491_0)).trans hw491_0), ((HB.out.cell (World.block_lt_of_cell? w _ hw491_1)).trans hw491_1), ((HB.out.cell (World.block_lt_of_cell? w _ hw491_2)).trans hw491_2), ((HB.out.cell (World.block_lt_of_cell? w _ hw493_0)).trans hw493_0), ((HB.out.cell (World.block_lt_of_cell? w _ hw493_1)).trans hw493_1), ((HB.out.cell (World.block_lt_of_cell? w _ hw493_2)).trans hw493_2)⟩ (fun hHeld => ?_); refine with_tabW smockingref01_moved.tab5 smockingref01_moved.bits5 (fun HT_ HW_ => ?_)
       generalize wr.drew = w9 at BK490 HB hx491_0 hx491_1 hx491_2 hx493_0 hx493_1 hx493_2 hHeld ⊢
       refine pu_ 0 13 (bA 16 1) HT_ ?_
       refine pu_ 1 14 (bA 16 3) HT_ ?_
       refine pu_ 2 15 (bA 16 7) HT_ ?_
       refine tk_ 3 16 (bA 16 15) rfl HT_ HW_ hHeld (by rintro w' ⟨s0, s1, s2, s3, s4, s5, s6, s7, s8⟩; go_simp; with_reducible rfl) ?_
       refine tk_ 4 17 (bA 16 31) rfl HT_ HW_ hHeld (by rintro w' ⟨s0, s1, s2, s3, s4, s5, s6, s7, s8⟩; go_simp; with_reducible rfl) ?_
       refine one_ (i := 5) (N := some 18) (bA 16 63) rfl rfl (one_of HT_.out (by kernel_rfl)) (by decide) (fun K hK => ?_)
       refine goes_ Tryd.func69 (by kernel_rfl) rfl #[.agg #[.int .i64 ((rd_T34 l1 x6_1).f0), .int .i64 ((rd_T34 l1 x6_1).f1), .string ((rd_T34 l1 x6_1).f2)], .agg #[.int .i64 a0_0, .int .i64 a0_1, .string a0_2]] (by rfl) rfl rfl (by (try simp only [List.map_toArray, List.map_cons, List.map_nil]); first | done | rfl | (simp only [List.length_drop, List.length_take]; rfl)) ?_
       with_reducible refine (smockingref01_before.calls ((rd_T34 l1 x6_1).f0) ((rd_T34 l1 x6_1).f1) ((rd_T34 l1 x6_1).f2) a0_0 a0_1 a0_2 true _ A6.out).mono ?_
       rintro e w10 ⟨rfl, hb⟩
       refine ⟨_, rfl, ?_⟩
       have n0_ := Aside0.mk (blk_below (g := gb490) (o := .cells #[.int .i64 a0_0, .int .i64 a0_1, .string a0_2] 34 (0, 0)) (by (with_reducible repeat (first | refine blk_drewN ?_ _ | refine blk_drew ?_ | refine blk_alloc ?_ _)); exact BK490.out) hb)
       have n1_ := Aside0.mk (below_step (by repeat (first | (with_reducible first | exact HB.out | apply below_alloc | apply pw_below_drewN | apply below_drew1 | refine below_set ?_ GE490.out) | exact HB.out)) hb)
       clear BK490
       clear HB
       have BK490 := n0_
       have HB := n1_
       clear n0_ n1_
       (try clear hb)
       (try clear hb2)
       (try clear hk)
       (try clear hi)
       refine hK.out _ _ ⟨(blk_cell BK490.out 0).trans rfl, (blk_cell BK490.out 1).trans rfl, (blk_cell BK490.out 2).trans rfl, ((HB.out.cell (World.block_lt_of_cell? w _ hw491_0)).trans hw491_0), ((HB.out.cell (World.block_lt_of_cell? w _ hw491_1)).trans hw491_1), ((HB.out.cell (World.block_lt_of_cell? w _ hw491_2)).trans hw491_2), ((HB.out.cell (World.block_lt_of_cell? w _ hw493_0)).trans hw493_0), ((HB.out.cell (World.block_lt_of_cell? w _ hw493_1)).trans hw493_1), ((HB.out.cell (World.block_lt_of_cell? w _ hw493_2)).trans hw493_2)⟩ (fun hHeld => ?_)
       clear hK K
       refine norm_ (a' := ?_) ?_ ?_
       rotate_left
       ·show Act.put _ (some 18) _ = _
        simp only [Act.put, q1_, q2_, q3_, i64_w, i32_w]
        rfl
       refine pu_ 6 19 (bA 16 127) HT_ ?_
       refine pu_ 7 20 (bA 16 255) HT_ ?_
       refine pu_ 8 21 (bA 16 511) HT_ ?_
       refine pu_ 9 22 (bA 16 1023) HT_ ?_
       refine pu_ 10 23 (bA 16 2047) HT_ ?_
       refine pu_ 12 25 (bA 16 6143) HT_ ?_
       refine tk_ 11 24 (bA 16 8191) rfl HT_ HW_ hHeld (by rintro w' ⟨s0, s1, s2, s3, s4, s5, s6, s7, s8⟩; go_simp; with_reducible rfl) ?_
       refine tk_ 13 26 (bA 16 16383) rfl HT_ HW_ hHeld (by rintro w' ⟨s0, s1, s2, s3, s4, s5, s6, s7, s8⟩; go_simp; with_reducible rfl) ?_
       refine pu_ 14 27 (bA 16 32767) HT_ ?_
       refine pu_ 15 28 (bA 16 65535) HT_ ?_
       refine done_ (done_of HT_.out (by kernel_rfl)) ?_
       try go_wp2
       have n0_ := Aside0.mk (blk_drew BK490.out)
       have n1_ := Aside0.mk (below_drew1 HB.out)
       clear BK490
       clear HB
       have BK490 := n0_
       have HB := n1_
       clear n0_ n1_
       have p494 : 0 ≤ (x6_1 : Int) := of_decide_eq_true (by first | (with_reducible assumption) | assumption)
       have q494 : x6_1 < (l1.length : Int) := of_decide_eq_true (by first | (with_reducible assumption) | assumption)
       obtain ⟨ad494, e494, hx494_0, hx494_1, hx494_2⟩ := at_T34 HR1.out x6_1 p494 q494
       have hw494_2 := hx494_2
       have hw494_1 := hx494_1
       have hw494_0 := hx494_0
       obtain rfl : ad491 = ad494 := (by injection e494)
       replace hx494_0 := (HB.out.cell (World.block_lt_of_cell? w _ hx494_0)).trans hx494_0
       replace hx494_1 := (HB.out.cell (World.block_lt_of_cell? w _ hx494_1)).trans hx494_1
       replace hx494_2 := (HB.out.cell (World.block_lt_of_cell? w _ hx494_2)).trans hx494_2
       replace p494 := eq_true p494
       replace q494 := eq_true q494
       have p495 : 0 ≤ (x6_1 : Int) := of_decide_eq_true (by first | (with_reducible assumption) | assumption)
       have q495 : x6_1 < (l1.length : Int) := of_decide_eq_true (by first | (with_reducible assumption) | assumption)
       obtain ⟨ad495, e495, hx495_0, hx495_1, hx495_2⟩ := at_T34 HR1.out x6_1 p495 q495
       have hw495_2 := hx495_2
       have hw495_1 := hx495_1
       have hw495_0 := hx495_0
       obtain rfl : ad491 = ad495 := (by injection e495)
       replace hx495_0 := (HB.out.cell (World.block_lt_of_cell? w _ hx495_0)).trans hx495_0
       replace hx495_1 := (HB.out.cell (World.block_lt_of_cell? w _ hx495_1)).trans hx495_1
       replace hx495_2 := (HB.out.cell (World.block_lt_of_cell? w _ hx495_2)).trans hx495_2
       replace p495 := eq_true p495
       replace q495 := eq_true q495
       have p496 : 0 ≤ (x6_1 : Int) := of_decide_eq_true (by first | (with_reducible assumption) | assumption)
       have q496 : x6_1 < (l1.length : Int) := of_decide_eq_true (by first | (with_reducible assumption) | assumption)
       obtain ⟨ad496, e496, hx496_0, hx496_1, hx496_2⟩ := at_T34 HR1.out x6_1 p496 q496
       have hw496_2 := hx496_2
       have hw496_1 := hx496_1
       have hw496_0 := hx496_0
       obtain rfl : ad491 = ad496 := (by injection e496)
       replace hx496_0 := (HB.out.cell (World.block_lt_of_cell? w _ hx496_0)).trans hx496_0
       replace hx496_1 := (HB.out.cell (World.block_lt_of_cell? w _ hx496_1)).trans hx496_1
       replace hx496_2 := (HB.out.cell (World.block_lt_of_cell? w _ hx496_2)).trans hx496_2
       replace p496 := eq_true p496
       replace q496 := eq_true q496
       refine start_ (n := 21) (S := fun w' => w'.cell? (ad491.add ((x6_1).toNat * 3)) = some (.int .i64 ((rd_T34 l1 x6_1).f0)) ∧ w'.cell? ⟨(ad491.add ((x6_1).toNat * 3)).block, (ad491.add ((x6_1).toNat * 3)).off + 1, none⟩ = some (.int .i64 ((rd_T34 l1 x6_1).f1)) ∧ w'.cell? ⟨(ad491.add ((x6_1).toNat * 3)).block, (ad491.add ((x6_1).toNat * 3)).off + 2, none⟩ = some (.string ((rd_T34 l1 x6_1).f2)) ∧ w'.cell? (ad491.add ((x6_1).toNat * 3)) = some (.int .i64 ((rd_T34 l1 x6_1).f0)) ∧ w'.cell? ⟨(ad491.add ((x6_1).toNat * 3)).block, (ad491.add ((x6_1).toNat * 3)).off + 1, none⟩ = some (.int .i64 ((rd_T34 l1 x6_1).f1)) ∧ w'.cell? ⟨(ad491.add ((x6_1).toNat * 3)).block, (ad491.add ((x6_1).toNat * 3)).off + 2, none⟩ = some (.string ((rd_T34 l1 x6_1).f2)) ∧ w'.cell? (ad491.add ((x6_1).toNat * 3)) = some (.int .i64 ((rd_T34 l1 x6_1).f0)) ∧ w'.cell? ⟨(ad491.add ((x6_1).toNat * 3)).block, (ad491.add ((x6_1).toNat * 3)).off + 1, none⟩ = some (.int .i64 ((rd_T34 l1 x6_1).f1)) ∧ w'.cell? ⟨(ad491.add ((x6_1).toNat * 3)).block, (ad491.add ((x6_1).toNat * 3)).off + 2, none⟩ = some (.string ((rd_T34 l1 x6_1).f2))) (ds := []) (bA 21 0) (by kernel_rfl) rfl rfl ⟨((HB.out.cell (World.block_lt_of_cell? w _ hw494_0)).trans hw494_0), ((HB.out.cell (World.block_lt_of_cell? w _ hw494_1)).trans hw494_1), ((HB.out.cell (World.block_lt_of_cell? w _ hw494_2)).trans hw494_2), ((HB.out.cell (World.block_lt_of_cell? w _ hw495_0)).trans hw495_0), ((HB.out.cell (World.block_lt_of_cell? w _ hw495_1)).trans hw495_1), ((HB.out.cell (World.block_lt_of_cell? w _ hw495_2)).trans hw495_2), ((HB.out.cell (World.block_lt_of_cell? w _ hw496_0)).trans hw496_0), ((HB.out.cell (World.block_lt_of_cell? w _ hw496_1)).trans hw496_1), ((HB.out.cell (World.block_lt_of_cell? w _ hw496_2)).trans hw496_2)⟩ (fun hHeld => ?_); refine with_tabW smockingref01_moved.tab6 smockingref01_moved.bits6 (fun HT_ HW_ => ?_)
       generalize w10.drew = w11 at BK490 HB hx494_0 hx494_1 hx494_2 hx495_0 hx495_1 hx495_2 hx496_0 hx496_1 hx496_2 hHeld ⊢
       refine pu_ 0 29 (bA 21 1) HT_ ?_
       refine pu_ 1 30 (bA 21 3) HT_ ?_
       refine pu_ 2 31 (bA 21 7) HT_ ?_
       refine pu_ 3 32 (bA 21 15) HT_ ?_
       refine pu_ 4 33 (bA 21 31) HT_ ?_
       refine pu_ 8 37 (bA 21 287) HT_ ?_
       refine pu_ 9 38 (bA 21 799) HT_ ?_
       refine pu_ 10 39 (bA 21 1823) HT_ ?_
       refine pu_ 11 40 (bA 21 3871) HT_ ?_
       refine pu_ 13 42 (bA 21 12063) HT_ ?_
       refine pu_ 14 43 (bA 21 28447) HT_ ?_
       refine pu_ 15 44 (bA 21 61215) HT_ ?_
       refine pu_ 16 45 (bA 21 126751) HT_ ?_
       refine tk_ 5 34 (bA 21 126783) rfl HT_ HW_ hHeld (by rintro w' ⟨s0, s1, s2, s3, s4, s5, s6, s7, s8⟩; go_simp; with_reducible rfl) ?_
       refine pu_ 6 35 (bA 21 126847) HT_ ?_
       refine pu_ 7 36 (bA 21 126975) HT_ ?_
       refine tk_ 12 41 (bA 21 131071) rfl HT_ HW_ hHeld (by rintro w' ⟨s0, s1, s2, s3, s4, s5, s6, s7, s8⟩; go_simp; with_reducible rfl) ?_
       refine tk_ 17 46 (bA 21 262143) rfl HT_ HW_ hHeld (by rintro w' ⟨s0, s1, s2, s3, s4, s5, s6, s7, s8⟩; go_simp; with_reducible rfl) ?_
       refine pu_ 18 47 (bA 21 524287) HT_ ?_
       refine pu_ 19 48 (bA 21 1048575) HT_ ?_
       refine pu_ 20 5 (bA 21 2097151) HT_ ?_
       refine done_ (done_of HT_.out (by kernel_rfl)) ?_
       try go_wp2
       go_roundg k1
       case measure => have := HK1.out; omega
       case rel => exact ⟨(wrap64 ((wrap64 (x5_1 + (((rd_T34 l1 x6_1).f2).size : Int))) - (wrap64 (((rd_T34 l1 x6_1).f1) - ((rd_T34 l1 x6_1).f0))))), (wrap64 (x6_1 + 1)), (by first | rfl | (simp; done) | (simp [*]; done)), (by first | rfl | (simp; done) | (simp [*]; done)), H', ⟨by have := HK1.out; omega⟩, ⟨by (with_reducible repeat (first | refine blk_drewN ?_ _ | refine blk_drew ?_ | refine blk_alloc ?_ _)); exact BK490.out⟩, ⟨by repeat (first | (with_reducible first | exact HB.out | apply below_alloc | apply pw_below_drewN | apply below_drew1 | refine below_set ?_ GE490.out) | exact HB.out)⟩⟩
      ·rw [if_neg c8] at H
       have c8b0 : decide (((rd_T34 l1 x6_1).f1) ≤ a0_0) = false := decide_eq_false c8
       clear c8
       have H' := Aside0.mk H
       clear H
       try go_wp2
       have n0_ := Aside0.mk (blk_drew BK490.out)
       have n1_ := Aside0.mk (below_drew1 HB.out)
       clear BK490
       clear HB
       have BK490 := n0_
       have HB := n1_
       clear n0_ n1_
       have p491 : 0 ≤ (x6_1 : Int) := of_decide_eq_true (by first | (with_reducible assumption) | assumption)
       have q491 : x6_1 < (l1.length : Int) := of_decide_eq_true (by first | (with_reducible assumption) | assumption)
       obtain ⟨ad491, e491, hx491_0, hx491_1, hx491_2⟩ := at_T34 HR1.out x6_1 p491 q491
       have hw491_2 := hx491_2
       have hw491_1 := hx491_1
       have hw491_0 := hx491_0
       cases e491
       replace hx491_0 := (HB.out.cell (World.block_lt_of_cell? w _ hx491_0)).trans hx491_0
       replace hx491_1 := (HB.out.cell (World.block_lt_of_cell? w _ hx491_1)).trans hx491_1
       replace hx491_2 := (HB.out.cell (World.block_lt_of_cell? w _ hx491_2)).trans hx491_2
       replace p491 := eq_true p491
       replace q491 := eq_true q491
       have p493 : 0 ≤ (x6_1 : Int) := of_decide_eq_true (by first | (with_reducible assumption) | assumption)
       have q493 : x6_1 < (l1.length : Int) := of_decide_eq_true (by first | (with_reducible assumption) | assumption)
       obtain ⟨ad493, e493, hx493_0, hx493_1, hx493_2⟩ := at_T34 HR1.out x6_1 p493 q493
       have hw493_2 := hx493_2
       have hw493_1 := hx493_1
       have hw493_0 := hx493_0
       obtain rfl : ad491 = ad493 := (by injection e493)
       replace hx493_0 := (HB.out.cell (World.block_lt_of_cell? w _ hx493_0)).trans hx493_0
       replace hx493_1 := (HB.out.cell (World.block_lt_of_cell? w _ hx493_1)).trans hx493_1
       replace hx493_2 := (HB.out.cell (World.block_lt_of_cell? w _ hx493_2)).trans hx493_2
       replace p493 := eq_true p493
       replace q493 := eq_true q493
       refine start_ (n := 16) (S := fun w' => w'.cell? ⟨gb490, 0, none⟩ = some (.int .i64 a0_0) ∧ w'.cell? ⟨gb490, 1, none⟩ = some (.int .i64 a0_1) ∧ w'.cell? ⟨gb490, 2, none⟩ = some (.string a0_2) ∧ w'.cell? (ad491.add ((x6_1).toNat * 3)) = some (.int .i64 ((rd_T34 l1 x6_1).f0)) ∧ w'.cell? ⟨(ad491.add ((x6_1).toNat * 3)).block, (ad491.add ((x6_1).toNat * 3)).off + 1, none⟩ = some (.int .i64 ((rd_T34 l1 x6_1).f1)) ∧ w'.cell? ⟨(ad491.add ((x6_1).toNat * 3)).block, (ad491.add ((x6_1).toNat * 3)).off + 2, none⟩ = some (.string ((rd_T34 l1 x6_1).f2)) ∧ w'.cell? (ad491.add ((x6_1).toNat * 3)) = some (.int .i64 ((rd_T34 l1 x6_1).f0)) ∧ w'.cell? ⟨(ad491.add ((x6_1).toNat * 3)).block, (ad491.add ((x6_1).toNat * 3)).off + 1, none⟩ = some (.int .i64 ((rd_T34 l1 x6_1).f1)) ∧ w'.cell? ⟨(ad491.add ((x6_1).toNat * 3)).block, (ad491.add ((x6_1).toNat * 3)).off + 2, none⟩ = some (.string ((rd_T34 l1 x6_1).f2))) (ds := []) (bA 16 0) (by kernel_rfl) rfl rfl ⟨(blk_cell BK490.out 0).trans rfl, (blk_cell BK490.out 1).trans rfl, (blk_cell BK490.out 2).trans rfl, ((HB.out.cell (World.block_lt_of_cell? w _ hw491_0)).trans hw491_0), ((HB.out.cell (World.block_lt_of_cell? w _ hw491_1)).trans hw491_1), ((HB.out.cell (World.block_lt_of_cell? w _ hw491_2)).trans hw491_2), ((HB.out.cell (World.block_lt_of_cell? w _ hw493_0)).trans hw493_0), ((HB.out.cell (World.block_lt_of_cell? w _ hw493_1)).trans hw493_1), ((HB.out.cell (World.block_lt_of_cell? w _ hw493_2)).trans hw493_2)⟩ (fun hHeld => ?_); refine with_tabW smockingref01_moved.tab5 smockingref01_moved.bits5 (fun HT_ HW_ => ?_)
       generalize wr.drew = w12 at BK490 HB hx491_0 hx491_1 hx491_2 hx493_0 hx493_1 hx493_2 hHeld ⊢
       refine pu_ 0 13 (bA 16 1) HT_ ?_
       refine pu_ 1 14 (bA 16 3) HT_ ?_
       refine pu_ 2 15 (bA 16 7) HT_ ?_
       refine tk_ 3 16 (bA 16 15) rfl HT_ HW_ hHeld (by rintro w' ⟨s0, s1, s2, s3, s4, s5, s6, s7, s8⟩; go_simp; with_reducible rfl) ?_
       refine tk_ 4 17 (bA 16 31) rfl HT_ HW_ hHeld (by rintro w' ⟨s0, s1, s2, s3, s4, s5, s6, s7, s8⟩; go_simp; with_reducible rfl) ?_
       refine one_ (i := 5) (N := some 18) (bA 16 63) rfl rfl (one_of HT_.out (by kernel_rfl)) (by decide) (fun K hK => ?_)
       refine goes_ Tryd.func69 (by kernel_rfl) rfl #[.agg #[.int .i64 ((rd_T34 l1 x6_1).f0), .int .i64 ((rd_T34 l1 x6_1).f1), .string ((rd_T34 l1 x6_1).f2)], .agg #[.int .i64 a0_0, .int .i64 a0_1, .string a0_2]] (by rfl) rfl rfl (by (try simp only [List.map_toArray, List.map_cons, List.map_nil]); first | done | rfl | (simp only [List.length_drop, List.length_take]; rfl)) ?_
       with_reducible refine (smockingref01_before.calls ((rd_T34 l1 x6_1).f0) ((rd_T34 l1 x6_1).f1) ((rd_T34 l1 x6_1).f2) a0_0 a0_1 a0_2 true _ A6.out).mono ?_
       rintro e w13 ⟨rfl, hb⟩
       refine ⟨_, rfl, ?_⟩
       have n0_ := Aside0.mk (blk_below (g := gb490) (o := .cells #[.int .i64 a0_0, .int .i64 a0_1, .string a0_2] 34 (0, 0)) (by (with_reducible repeat (first | refine blk_drewN ?_ _ | refine blk_drew ?_ | refine blk_alloc ?_ _)); exact BK490.out) hb)
       have n1_ := Aside0.mk (below_step (by repeat (first | (with_reducible first | exact HB.out | apply below_alloc | apply pw_below_drewN | apply below_drew1 | refine below_set ?_ GE490.out) | exact HB.out)) hb)
       clear BK490
       clear HB
       have BK490 := n0_
       have HB := n1_
       clear n0_ n1_
       (try clear hb)
       (try clear hb2)
       (try clear hk)
       (try clear hi)
       refine hK.out _ _ ⟨(blk_cell BK490.out 0).trans rfl, (blk_cell BK490.out 1).trans rfl, (blk_cell BK490.out 2).trans rfl, ((HB.out.cell (World.block_lt_of_cell? w _ hw491_0)).trans hw491_0), ((HB.out.cell (World.block_lt_of_cell? w _ hw491_1)).trans hw491_1), ((HB.out.cell (World.block_lt_of_cell? w _ hw491_2)).trans hw491_2), ((HB.out.cell (World.block_lt_of_cell? w _ hw493_0)).trans hw493_0), ((HB.out.cell (World.block_lt_of_cell? w _ hw493_1)).trans hw493_1), ((HB.out.cell (World.block_lt_of_cell? w _ hw493_2)).trans hw493_2)⟩ (fun hHeld => ?_)
       clear hK K
       refine norm_ (a' := ?_) ?_ ?_
       rotate_left
       ·show Act.put _ (some 18) _ = _
        simp only [Act.put, q1_, q2_, q3_, i64_w, i32_w]
        rfl
       refine pu_ 6 19 (bA 16 127) HT_ ?_
       refine pu_ 7 20 (bA 16 255) HT_ ?_
       refine pu_ 8 21 (bA 16 511) HT_ ?_
       refine pu_ 9 22 (bA 16 1023) HT_ ?_
       refine pu_ 10 23 (bA 16 2047) HT_ ?_
       refine pu_ 12 25 (bA 16 6143) HT_ ?_
       refine tk_ 11 24 (bA 16 8191) rfl HT_ HW_ hHeld (by rintro w' ⟨s0, s1, s2, s3, s4, s5, s6, s7, s8⟩; go_simp; with_reducible rfl) ?_
       refine tk_ 13 26 (bA 16 16383) rfl HT_ HW_ hHeld (by rintro w' ⟨s0, s1, s2, s3, s4, s5, s6, s7, s8⟩; go_simp; with_reducible rfl) ?_
       refine pu_ 14 27 (bA 16 32767) HT_ ?_
       refine pu_ 15 28 (bA 16 65535) HT_ ?_
       refine done_ (done_of HT_.out (by kernel_rfl)) ?_
       try go_wp2
       go_roundg k1
       case measure => have := HK1.out; omega
       case rel => exact ⟨(x5_1), (wrap64 (x6_1 + 1)), (by first | rfl | (simp; done) | (simp [*]; done)), (by first | rfl | (simp; done) | (simp [*]; done)), H', ⟨by have := HK1.out; omega⟩, ⟨by (with_reducible repeat (first | refine blk_drewN ?_ _ | refine blk_drew ?_ | refine blk_alloc ?_ _)); exact BK490.out⟩, ⟨by repeat (first | (with_reducible first | exact HB.out | apply below_alloc | apply pw_below_drewN | apply below_drew1 | refine below_set ?_ GE490.out) | exact HB.out)⟩⟩
     ·replace c7 := Bool.eq_false_iff.mpr c7
      subst c7
      have H1 : (smockingref01_moved.l0 k1 l1 x5_1 (wrap64 (x6_1 + 1)) a0_0 a0_1 a0_2) = some r := by rw [if_neg (show ¬ (false = true) by decide)] at H; exact H
      clear H
      have H := H1
      clear H1
      have H' := Aside0.mk H
      clear H
      try go_wp2
      have n0_ := Aside0.mk (blk_drew BK490.out)
      have n1_ := Aside0.mk (below_drew1 HB.out)
      clear BK490
      clear HB
      have BK490 := n0_
      have HB := n1_
      clear n0_ n1_
      have p491 : 0 ≤ (x6_1 : Int) := of_decide_eq_true (by first | (with_reducible assumption) | assumption)
      have q491 : x6_1 < (l1.length : Int) := of_decide_eq_true (by first | (with_reducible assumption) | assumption)
      obtain ⟨ad491, e491, hx491_0, hx491_1, hx491_2⟩ := at_T34 HR1.out x6_1 p491 q491
      have hw491_2 := hx491_2
      have hw491_1 := hx491_1
      have hw491_0 := hx491_0
      cases e491
      replace hx491_0 := (HB.out.cell (World.block_lt_of_cell? w _ hx491_0)).trans hx491_0
      replace hx491_1 := (HB.out.cell (World.block_lt_of_cell? w _ hx491_1)).trans hx491_1
      replace hx491_2 := (HB.out.cell (World.block_lt_of_cell? w _ hx491_2)).trans hx491_2
      replace p491 := eq_true p491
      replace q491 := eq_true q491
      refine start_ (n := 16) (S := fun w' => w'.cell? ⟨gb490, 0, none⟩ = some (.int .i64 a0_0) ∧ w'.cell? ⟨gb490, 1, none⟩ = some (.int .i64 a0_1) ∧ w'.cell? ⟨gb490, 2, none⟩ = some (.string a0_2) ∧ w'.cell? (ad491.add ((x6_1).toNat * 3)) = some (.int .i64 ((rd_T34 l1 x6_1).f0)) ∧ w'.cell? ⟨(ad491.add ((x6_1).toNat * 3)).block, (ad491.add ((x6_1).toNat * 3)).off + 1, none⟩ = some (.int .i64 ((rd_T34 l1 x6_1).f1)) ∧ w'.cell? ⟨(ad491.add ((x6_1).toNat * 3)).block, (ad491.add ((x6_1).toNat * 3)).off + 2, none⟩ = some (.string ((rd_T34 l1 x6_1).f2))) (ds := []) (bA 16 0) (by kernel_rfl) rfl rfl ⟨(blk_cell BK490.out 0).trans rfl, (blk_cell BK490.out 1).trans rfl, (blk_cell BK490.out 2).trans rfl, ((HB.out.cell (World.block_lt_of_cell? w _ hw491_0)).trans hw491_0), ((HB.out.cell (World.block_lt_of_cell? w _ hw491_1)).trans hw491_1), ((HB.out.cell (World.block_lt_of_cell? w _ hw491_2)).trans hw491_2)⟩ (fun hHeld => ?_); refine with_tabW smockingref01_moved.tab5 smockingref01_moved.bits5 (fun HT_ HW_ => ?_)
      generalize wr.drew = w14 at BK490 HB hx491_0 hx491_1 hx491_2 hHeld ⊢
      refine pu_ 0 13 (bA 16 1) HT_ ?_
      refine pu_ 1 14 (bA 16 3) HT_ ?_
      refine pu_ 2 15 (bA 16 7) HT_ ?_
      refine tk_ 3 16 (bA 16 15) rfl HT_ HW_ hHeld (by rintro w' ⟨s0, s1, s2, s3, s4, s5⟩; go_simp; with_reducible rfl) ?_
      refine tk_ 4 17 (bA 16 31) rfl HT_ HW_ hHeld (by rintro w' ⟨s0, s1, s2, s3, s4, s5⟩; go_simp; with_reducible rfl) ?_
      refine one_ (i := 5) (N := some 18) (bA 16 63) rfl rfl (one_of HT_.out (by kernel_rfl)) (by decide) (fun K hK => ?_)
      refine goes_ Tryd.func69 (by kernel_rfl) rfl #[.agg #[.int .i64 ((rd_T34 l1 x6_1).f0), .int .i64 ((rd_T34 l1 x6_1).f1), .string ((rd_T34 l1 x6_1).f2)], .agg #[.int .i64 a0_0, .int .i64 a0_1, .string a0_2]] (by rfl) rfl rfl (by (try simp only [List.map_toArray, List.map_cons, List.map_nil]); first | done | rfl | (simp only [List.length_drop, List.length_take]; rfl)) ?_
      with_reducible refine (smockingref01_before.calls ((rd_T34 l1 x6_1).f0) ((rd_T34 l1 x6_1).f1) ((rd_T34 l1 x6_1).f2) a0_0 a0_1 a0_2 false _ A6.out).mono ?_
      rintro e w15 ⟨rfl, hb⟩
      refine ⟨_, rfl, ?_⟩
      have n0_ := Aside0.mk (blk_below (g := gb490) (o := .cells #[.int .i64 a0_0, .int .i64 a0_1, .string a0_2] 34 (0, 0)) (by (with_reducible repeat (first | refine blk_drewN ?_ _ | refine blk_drew ?_ | refine blk_alloc ?_ _)); exact BK490.out) hb)
      have n1_ := Aside0.mk (below_step (by repeat (first | (with_reducible first | exact HB.out | apply below_alloc | apply pw_below_drewN | apply below_drew1 | refine below_set ?_ GE490.out) | exact HB.out)) hb)
      clear BK490
      clear HB
      have BK490 := n0_
      have HB := n1_
      clear n0_ n1_
      (try clear hb)
      (try clear hb2)
      (try clear hk)
      (try clear hi)
      refine hK.out _ _ ⟨(blk_cell BK490.out 0).trans rfl, (blk_cell BK490.out 1).trans rfl, (blk_cell BK490.out 2).trans rfl, ((HB.out.cell (World.block_lt_of_cell? w _ hw491_0)).trans hw491_0), ((HB.out.cell (World.block_lt_of_cell? w _ hw491_1)).trans hw491_1), ((HB.out.cell (World.block_lt_of_cell? w _ hw491_2)).trans hw491_2)⟩ (fun hHeld => ?_)
      clear hK K
      refine norm_ (a' := ?_) ?_ ?_
      rotate_left
      ·show Act.put _ (some 18) _ = _
       simp only [Act.put, q1_, q2_, q3_, i64_w, i32_w]
       rfl
      refine pu_ 6 19 (bA 16 127) HT_ ?_
      refine pz_ 7 20 (bA 16 255) HT_ ?_
      refine pz_ 8 21 (bA 16 511) HT_ ?_
      refine pz_ 9 22 (bA 16 1023) HT_ ?_
      refine pz_ 10 23 (bA 16 2047) HT_ ?_
      refine pz_ 11 24 (bA 16 4095) HT_ ?_
      refine pz_ 12 25 (bA 16 8191) HT_ ?_
      refine pz_ 13 26 (bA 16 16383) HT_ ?_
      refine pz_ 14 27 (bA 16 32767) HT_ ?_
      refine pu_ 15 28 (bA 16 65535) HT_ ?_
      refine done_ (done_of HT_.out (by kernel_rfl)) ?_
      try go_wp2
      go_roundg k1
      case measure => have := HK1.out; omega
      case rel => exact ⟨(x5_1), (wrap64 (x6_1 + 1)), (by first | rfl | (simp; done) | (simp [*]; done)), (by first | rfl | (simp; done) | (simp [*]; done)), H', ⟨by have := HK1.out; omega⟩, ⟨by (with_reducible repeat (first | refine blk_drewN ?_ _ | refine blk_drew ?_ | refine blk_alloc ?_ _)); exact BK490.out⟩, ⟨by repeat (first | (with_reducible first | exact HB.out | apply below_alloc | apply pw_below_drewN | apply below_drew1 | refine below_set ?_ GE490.out) | exact HB.out)⟩⟩
    ·rw [if_neg c5] at H
     exact absurd H (by simp)
   ·rw [if_neg c4] at H
    have c4b0 : decide (x6_1 < (l1.length : Int)) = false := decide_eq_false c4
    clear c4
    obtain rfl := Option.some.inj H
    go_wp2
    go_ret
    exact ⟨by first | rfl | (simp [errW_none, errW_some] <;> rfl) | (simp [*, errW_none, errW_some] <;> rfl), by repeat (first | (with_reducible first | exact HB.out | apply below_alloc | apply pw_below_drewN | apply below_drew1 | refine below_set ?_ GE490.out) | exact HB.out)⟩

end Go.Proofs.YthimblhfjfngiaaDoor.PText

namespace Go.Proofs.YthimblhfjfngiaaDoor.PText
open Go.RowKit Go.Proofs.YthimblhfjfngiaaDoorW.PrintWords Go.Proofs.YthimblhfjfngiaaDoorW.PrintLast Go.Proofs.YthimblhfjfngiaaDoorW.PrintMore
attribute [local go_sem] max2_int min2_int max_two min_two max_three min_three max_four min_four   -- for this text's walks alone
set_option linter.unusedVariables false
set_option linter.unusedSimpArgs false

attribute [local go_sem high] eqA34
mutual
def smockingref01_Over.l0 : Nat → List (S34) → List (S34) → List (S34) → Int → Option ((List (S34)) × Int)
 | 0, _, _, _, _ => none
 | k + 1, x1, x2, x9, x10 => if x10 < (x2.length : Int) then (smockingref01_Over.l1 k x1 x2 x9 x10 false 0) else ((smockingref01_joined.f k x9).bind fun t504 => (some (t504, 0)))
def smockingref01_Over.l1 : Nat → List (S34) → List (S34) → List (S34) → Int → Bool → Int → Option ((List (S34)) × Int)
 | 0, _, _, _, _, _, _ => none
 | k + 1, x1, x2, x9, x10, x11, x12 => if x12 < (x1.length : Int) then (if x11 = true then (smockingref01_Over.l1 k x1 x2 x9 x10 true (wrap64 (x12 + 1))) else (if 0 ≤ x12 then (if 0 ≤ x10 then (if x10 < (x2.length : Int) then (smockingref01_Over.l1 k x1 x2 x9 x10 (((rd_T34 x1 x12).f0) == ((rd_T34 x2 x10).f0) && (((rd_T34 x1 x12).f1) == ((rd_T34 x2 x10).f1) && ((((rd_T34 x1 x12).f2).toList) == (((rd_T34 x2 x10).f2).toList)))) (wrap64 (x12 + 1))) else (none)) else (none)) else (none))) else (if x11 = true then (smockingref01_Over.l0 k x1 x2 x9 (wrap64 (x10 + 1))) else (if 0 ≤ x10 then (if x10 < (x2.length : Int) then ((smockingref01_moved.f k ((rd_T34 x2 x10).f0) ((rd_T34 x2 x10).f1) ((rd_T34 x2 x10).f2) x1).bind fun t510 => (if x9.length < 4398046511104 then (smockingref01_Over.l0 k x1 x2 (x9 ++ [(⟨wrap64 (((rd_T34 x2 x10).f0) + t510), wrap64 (((rd_T34 x2 x10).f1) + t510), (rd_T34 x2 x10).f2⟩ : S34)]) (wrap64 (x10 + 1))) else (none))) else (none)) else (none)))
end
def smockingref01_Over.f (k : Nat) (a0 : ByteArray) (l1 : List (S34)) (l2 : List (S34)) : Option ((List (S34)) × Int) := (smockingref01_together.f k a0 l1 l2).bind fun t497 => (if t497 = 0 then ((smockingref01_ordered.f k l1).bind fun t498 => ((smockingref01_ordered.f k l2).bind fun t501 => (smockingref01_Over.l0 k t498 t501 ([] : List (S34)) 0))) else (some (([] : List (S34)), t497)))
def smockingref01_Over.T14 : Bool × List (List Nat × List Nat) := (true, [([], []), ([0], [0]), ([1], [1]), ([1], [1]), ([2, 3, 1], [1, 2, 3]), ([4, 1], [1, 4]), ([1], [1]), ([1], [1]), ([6, 7, 1], [1, 6, 7]), ([8, 1], [1, 8]), ([5, 9, 1], [1, 5, 9]), ([1, 10], [1, 10]), ([11, 1, 0, 1, 2, 3, 4, 5, 6, 7, 8, 9, 10, 11], [0, 11])])
def smockingref01_Over.B14 : List Nat := [0, 1, 3, 3, 15, 31, 3, 3, 195, 451, 1023, 2047, 4095]
theorem smockingref01_Over.tab14 : rtab .any (opsOf Tryd.f26 14) = smockingref01_Over.T14 := by kernel_rfl
theorem smockingref01_Over.bits14 : waitsOk smockingref01_Over.T14.2 smockingref01_Over.B14 = true := by kernel_rfl
def smockingref01_Over.T17 : Bool × List (List Nat × List Nat) := (true, [([], []), ([], []), ([], []), ([1, 2], [1, 2]), ([3], [3]), ([4], [4]), ([], []), ([5, 6], [5, 6]), ([], []), ([], []), ([8, 9], [8, 9]), ([10], [10]), ([11], [11]), ([], []), ([12, 13], [12, 13]), ([], []), ([], []), ([15, 16], [15, 16]), ([17], [17]), ([18], [18]), ([7, 14, 19], [7, 14, 19]), ([20], [20]), ([0, 21], [0, 21]), ([22, 22, 0, 1, 2, 3, 4, 5, 6, 7, 8, 9, 10, 11, 12, 13, 14, 15, 16, 17, 18, 19, 20, 21, 22], [0, 22])])
def smockingref01_Over.B17 : List Nat := [0, 0, 0, 6, 14, 30, 0, 126, 0, 0, 768, 1792, 3840, 0, 16128, 0, 0, 98304, 229376, 491520, 1048574, 2097150, 4194303, 8388607]
theorem smockingref01_Over.tab17 : rtab .any (opsOf Tryd.f26 17) = smockingref01_Over.T17 := by kernel_rfl
theorem smockingref01_Over.bits17 : waitsOk smockingref01_Over.T17.2 smockingref01_Over.B17 = true := by kernel_rfl
set_option maxHeartbeats 8000000 in
set_option maxRecDepth 100000 in
theorem smockingref01_Over.calls (k : Nat) (a0 : ByteArray) (A1 : Option Addr) (c1 : Nat) (l1 : List (S34)) (A2 : Option Addr) (c2 : Nat) (l2 : List (S34)) (r1 : List (S34)) (r2 : Int) (w : World) (hr1 : Kd.C k34 w A1 l1.length l1) (hc1 : l1.length ≤ c1) (hr2 : Kd.C k34 w A2 l2.length l2) (hc2 : l2.length ≤ c2) (h : smockingref01_Over.f k a0 l1 l2 = some (r1, r2)) :
  Calls Tryd.prog 26 #[.string a0, .slice A1 l1.length c1, .slice A2 l2.length c2] w fun e w' => ∃ v0_ : Value, e = .returned (.tuple #[v0_, .int .i64 r2]) ∧ Kd.R k34 34 w' w.heap.size (fun _ => True) v0_ r1 ∧ Below w.heap.size w w' := by
 have hu34 := Tryd.underlying34
 have HR1 := Aside0.mk hr1
 have HC1 := Aside0.mk hc1
 clear hr1 hc1
 have HR2 := Aside0.mk hr2
 have HC2 := Aside0.mk hc2
 clear hr2 hc2
 have HB := Aside0.mk (Below.refl w.heap.size w)
 have H : ((smockingref01_together.f k a0 l1 l2).bind fun t497 => (if t497 = 0 then ((smockingref01_ordered.f k l1).bind fun t498 => ((smockingref01_ordered.f k l2).bind fun t501 => (smockingref01_Over.l0 k t498 t501 ([] : List (S34)) 0))) else (some (([] : List (S34)), t497)))) = some (r1, r2) := h
 clear h
 replace H := Option.bind_eq_some_iff.mp H
 obtain ⟨t497, A40, H⟩ := H
 replace H : (if t497 = 0 then ((smockingref01_ordered.f k l1).bind fun t498 => ((smockingref01_ordered.f k l2).bind fun t501 => (smockingref01_Over.l0 k t498 t501 ([] : List (S34)) 0))) else (some (([] : List (S34)), t497))) = some (r1, r2) := H
 have A4 := Aside0.mk A40
 clear A40
 by_cases c5 : t497 = 0
 ·rw [if_pos c5] at H
  have c5b0 : (t497 == 0) = true := beq_iff_eq.mpr c5
  have c5b1 : (t497 != 0) = false := bne_eq_false_iff_eq.mpr c5
  clear c5
  replace H := Option.bind_eq_some_iff.mp H
  obtain ⟨t498, A60, H⟩ := H
  replace H : ((smockingref01_ordered.f k l2).bind fun t501 => (smockingref01_Over.l0 k t498 t501 ([] : List (S34)) 0)) = some (r1, r2) := H
  have A6 := Aside0.mk A60
  clear A60
  replace H := Option.bind_eq_some_iff.mp H
  obtain ⟨t501, A70, H⟩ := H
  replace H : (smockingref01_Over.l0 k t498 t501 ([] : List (S34)) 0) = some (r1, r2) := H
  have A7 := Aside0.mk A70
  clear A70
  have H' := Aside0.mk H
  clear H
  go_enter Tryd.func26, Tryd.ntmps26
  go_wp2_with (first | ((with_reducible refine gate_callee (f := 49) rfl ?_); refine goesL_ (some 17) rfl rfl Tryd.func49 (by kernel_rfl) rfl #[.string a0, .slice A1 l1.length c1, .slice A2 l2.length c2] rfl (by (try simp only [List.map_toArray, List.map_cons, List.map_nil]); first | done | rfl | (simp only [List.length_drop, List.length_take]; rfl)) ?_; (with_reducible refine (smockingref01_together.calls k a0 _ _ l1 _ _ l2 t497 _ ?side1 ?side2 ?side3 ?side4 A4.out).mono ?_); (case side1 => repeat (first | exact HR1.out | (with_reducible refine Kd.C_alloc ?_ _) | (with_reducible refine Kd.C_drewN ?_ _) | (with_reducible refine Kd.C_drew ?_))); (case side2 => exact HC1.out); (case side3 => repeat (first | exact HR2.out | (with_reducible refine Kd.C_alloc ?_ _) | (with_reducible refine Kd.C_drewN ?_ _) | (with_reducible refine Kd.C_drew ?_))); (case side4 => exact HC2.out); rintro e w8 ⟨rfl, hb⟩; refine ⟨_, rfl, ?_⟩; have n0_ := Aside0.mk (below_step (by repeat (first | (with_reducible first | exact HB.out | apply below_alloc | apply pw_below_drewN | apply below_drew1) | exact HB.out)) hb); clear HB; have HB := n0_; clear n0_; (try clear hb); (try clear hb2); (try clear hk); (try clear hi)) | ((with_reducible refine gate_callee (f := 50) rfl ?_); refine goesL_ (some 22) rfl rfl Tryd.func50 (by kernel_rfl) rfl #[.slice A1 l1.length c1] rfl (by (try simp only [List.map_toArray, List.map_cons, List.map_nil]); first | done | rfl | (simp only [List.length_drop, List.length_take]; rfl)) ?_; (with_reducible refine (smockingref01_ordered.calls k _ _ l1 t498 _ ?side1 ?side2 A6.out).mono ?_); (case side1 => repeat (first | exact (Kd.C_below HR1.out HB.out) | (with_reducible refine Kd.C_alloc ?_ _) | (with_reducible refine Kd.C_drewN ?_ _) | (with_reducible refine Kd.C_drew ?_))); (case side2 => exact HC1.out); rintro e w9 ⟨v499, rfl, ho0, hb⟩; refine ⟨_, rfl, ?_⟩; have n0_ := Aside0.mk (Kd.R_lower ho0 (below_size (by repeat (first | (with_reducible first | exact HB.out | apply below_alloc | apply pw_below_drewN | apply below_drew1) | exact HB.out)))); have n1_ := Aside0.mk (below_step (by repeat (first | (with_reducible first | exact HB.out | apply below_alloc | apply pw_below_drewN | apply below_drew1) | exact HB.out)) hb); clear HB; have HO500 := n0_; have HB := n1_; clear n0_ n1_; (try clear hb); (try clear hb2); (try clear hk); (try clear hi); (try clear ho0)) | ((with_reducible refine gate_callee (f := 50) rfl ?_); refine goesL_ (some 24) rfl rfl Tryd.func50 (by kernel_rfl) rfl #[.slice A2 l2.length c2] rfl (by (try simp only [List.map_toArray, List.map_cons, List.map_nil]); first | done | rfl | (simp only [List.length_drop, List.length_take]; rfl)) ?_; (with_reducible refine (smockingref01_ordered.calls k _ _ l2 t501 _ ?side1 ?side2 A7.out).mono ?_); (case side1 => repeat (first | exact (Kd.C_below HR2.out HB.out) | (with_reducible refine Kd.C_alloc ?_ _) | (with_reducible refine Kd.C_drewN ?_ _) | (with_reducible refine Kd.C_drew ?_))); (case side2 => exact HC2.out); rintro e w10 ⟨v502, rfl, ho0, hb⟩; refine ⟨_, rfl, ?_⟩; have n0_ := Aside0.mk (Kd.R_elder' (by (with_reducible repeat (first | apply Kd.R_alloc | apply Kd.R_drewN | apply Kd.R_drew)); exact HO500.out) (Kd.R_base ho0) hb); have n1_ := Aside0.mk (Kd.R_lower (Kd.R_new' ho0 (Kd.R_lt (by (with_reducible repeat (first | apply Kd.R_alloc | apply Kd.R_drewN | apply Kd.R_drew)); exact HO500.out))) (below_size (by repeat (first | (with_reducible first | exact HB.out | apply below_alloc | apply pw_below_drewN | apply below_drew1) | exact HB.out)))); have n2_ := Aside0.mk (below_step (by repeat (first | (with_reducible first | exact HB.out | apply below_alloc | apply pw_below_drewN | apply below_drew1) | exact HB.out)) hb); clear HO500; clear HB; have HO500 := n0_; have HO503 := n1_; have HB := n2_; clear n0_ n1_ n2_; (try clear hb); (try clear hb2); (try clear hk); (try clear hi); (try clear ho0)))
  try simp only [Act.put, List.setIfInBounds_toArray, List.set_cons_succ, List.set_cons_zero]
  go_loopg [9, 10] k (fun kq v9 v10 w' => ∃ (x9_1 : List (S34)) (x10_1 : Int), v10 = .int .i64 x10_1 ∧ Aside0 (smockingref01_Over.l0 kq t498 t501 x9_1 x10_1 = some (r1, r2)) ∧ Aside0 (kq ≤ k) ∧ Aside0 (Kd.R k34 34 w' w.heap.size (fun k_ => some k_ ≠ (v502 : Value).ownBlock ∧ some k_ ≠ (v9 : Value).ownBlock) v499 t498) ∧ Aside0 (Kd.R k34 34 w' w.heap.size (fun k_ => some k_ ≠ (v499 : Value).ownBlock ∧ some k_ ≠ (v9 : Value).ownBlock) v502 t501) ∧ Aside0 (Kd.R k34 34 w' w.heap.size (fun k_ => some k_ ≠ (v499 : Value).ownBlock ∧ some k_ ≠ (v502 : Value).ownBlock) v9 x9_1) ∧ Aside0 (Below w.heap.size w w'))
  case atStart => exact ⟨(([] : List (S34))), (0), (by first | rfl | (simp; done) | (simp [*]; done)), H', ⟨Nat.le_refl _⟩, ⟨by (with_reducible repeat (first | apply Kd.R_alloc | apply Kd.R_drewN | apply Kd.R_drew)); exact Kd.R_mono HO500.out (fun _ hk => ⟨hk.2, (by simp [Value.ownBlock])⟩)⟩, ⟨by (with_reducible repeat (first | apply Kd.R_alloc | apply Kd.R_drewN | apply Kd.R_drew)); exact Kd.R_mono HO503.out (fun _ hk => ⟨hk.2, (by simp [Value.ownBlock])⟩)⟩, ⟨by first | exact Kd.R_nil _ _ _ _ _ | exact Kd.N_nil _ _ _ _ _ | exact Kd.V_nil _ _ _ _ _ | exact Kd.Q_nil _ _ _ _ _ | exact Kd.S_nil _ _ _ _ _⟩, ⟨by repeat (first | (with_reducible first | exact HB.out | apply below_alloc | apply pw_below_drewN | apply below_drew1) | exact HB.out)⟩⟩
  case round =>
   clear H'
   try clear c1
   try clear c2
   try clear p2
   try clear c4
   try clear c5
   try clear c5b0
   try clear c5b1
   obtain ⟨x9_1, x10_1, rfl, HA, HK1, HO_1, HO_2, HO_9, HB⟩ := hrel
   cases gk with
   | zero => exact absurd HA.out (by simp [smockingref01_Over.l0])
   | succ k1 =>
    have H := HA.out
    clear HA
    simp only [smockingref01_Over.l0] at H
    by_cases c11 : x10_1 < (t501.length : Int)
    ·rw [if_pos c11] at H
     have c11b0 : decide (x10_1 < (t501.length : Int)) = true := decide_eq_true c11
     clear c11
     have H' := Aside0.mk H
     clear H
     obtain ⟨Ao12, co12, eo12⟩ := Kd.R_slice HO_2.out
     subst eo12
     go_wp2
     try simp only [Act.put, List.setIfInBounds_toArray, List.set_cons_succ, List.set_cons_zero]
     go_loopg [11, 12] k1 (fun kq v11 v12 w' => ∃ (x11_2 : Bool) (x12_2 : Int), v11 = .bool x11_2 ∧ v12 = .int .i64 x12_2 ∧ Aside0 (smockingref01_Over.l1 kq t498 t501 x9_1 x10_1 x11_2 x12_2 = some (r1, r2)) ∧ Aside0 (kq ≤ k1) ∧ Aside0 (Kd.R k34 34 w' w.heap.size (fun k_ => some k_ ≠ ((.slice Ao12 t501.length co12) : Value).ownBlock ∧ some k_ ≠ (u9 : Value).ownBlock) v499 t498) ∧ Aside0 (Kd.R k34 34 w' w.heap.size (fun k_ => some k_ ≠ (v499 : Value).ownBlock ∧ some k_ ≠ (u9 : Value).ownBlock) (.slice Ao12 t501.length co12) t501) ∧ Aside0 (Kd.R k34 34 w' w.heap.size (fun k_ => some k_ ≠ (v499 : Value).ownBlock ∧ some k_ ≠ ((.slice Ao12 t501.length co12) : Value).ownBlock) u9 x9_1) ∧ Aside0 (Below w.heap.size w w'))
     case atStart => exact ⟨(false), (0), (by first | rfl | (simp; done) | (simp [*]; done)), (by first | rfl | (simp; done) | (simp [*]; done)), H', ⟨Nat.le_refl _⟩, ⟨by (with_reducible repeat (first | apply Kd.R_alloc | apply Kd.R_drewN | apply Kd.R_drew)); exact HO_1.out⟩, ⟨by (with_reducible repeat (first | apply Kd.R_alloc | apply Kd.R_drewN | apply Kd.R_drew)); exact HO_2.out⟩, ⟨by (with_reducible repeat (first | apply Kd.R_alloc | apply Kd.R_drewN | apply Kd.R_drew)); exact HO_9.out⟩, ⟨by repeat (first | (with_reducible first | exact HB.out | apply below_alloc | apply pw_below_drewN | apply below_drew1) | exact HB.out)⟩⟩
     case round =>
      clear H'
      try clear c1
      try clear c2
      try clear p2
      try clear c4
      try clear c5
      try clear c5b0
      try clear c5b1
      try clear c11
      try clear c11b0
      try clear p2
      obtain ⟨x11_2, x12_2, rfl, rfl, HA, HK2, HO_1, HO_2, HO_9, HB⟩ := hrel
      cases gk with
      | zero => exact absurd HA.out (by simp [smockingref01_Over.l1])
      | succ k2 =>
       have H := HA.out
       clear HA
       simp only [smockingref01_Over.l1] at H
       by_cases c13 : x12_2 < (t498.length : Int)
       ·rw [if_pos c13] at H
        have c13b0 : decide (x12_2 < (t498.length : Int)) = true := decide_eq_true c13
        clear c13
        by_cases c14 : x11_2 = true
        ·subst c14
         have H1 : (smockingref01_Over.l1 k2 t498 t501 x9_1 x10_1 true (wrap64 (x12_2 + 1))) = some (r1, r2) := by rw [if_pos rfl] at H; exact H
         clear H
         have H := H1
         clear H1
         have H' := Aside0.mk H
         clear H
         obtain ⟨Ao15, co15, eo15⟩ := Kd.R_slice HO_1.out
         subst eo15
         try go_wp2
         have n0_ := Aside0.mk (Kd.R_drew HO_1.out)
         have n1_ := Aside0.mk (Kd.R_drew HO_2.out)
         have n2_ := Aside0.mk (Kd.R_drew HO_9.out)
         have n3_ := Aside0.mk (below_drew1 HB.out)
         clear HO_1
         clear HO_2
         clear HO_9
         clear HB
         have HO_1 := n0_
         have HO_2 := n1_
         have HO_9 := n2_
         have HB := n3_
         clear n0_ n1_ n2_ n3_
         refine start_ (n := 13) (S := fun w' => True) (ds := []) (bA 13 0) (by kernel_rfl) rfl rfl trivial (fun hHeld => ?_); refine with_tabW smockingref01_Over.tab14 smockingref01_Over.bits14 (fun HT_ HW_ => ?_)
         generalize wr.drew = w16 at HO_1 HO_2 HO_9 HB hHeld ⊢
         refine pu_ 0 37 (bA 13 1) HT_ ?_
         refine pu_ 1 38 (bA 13 3) HT_ ?_
         refine pz_ 2 39 (bA 13 7) HT_ ?_
         refine pz_ 3 40 (bA 13 15) HT_ ?_
         refine pz_ 4 41 (bA 13 31) HT_ ?_
         refine pz_ 5 42 (bA 13 63) HT_ ?_
         refine pz_ 6 43 (bA 13 127) HT_ ?_
         refine pz_ 7 44 (bA 13 255) HT_ ?_
         refine pz_ 8 45 (bA 13 511) HT_ ?_
         refine pz_ 9 46 (bA 13 1023) HT_ ?_
         refine pz_ 10 47 (bA 13 2047) HT_ ?_
         refine pu_ 11 48 (bA 13 4095) HT_ ?_
         refine pu_ 12 11 (bA 13 8191) HT_ ?_
         refine done_ (done_of HT_.out (by kernel_rfl)) ?_
         try go_wp2
         go_roundg k2
         case measure => have := HK1.out; have := HK2.out; omega
         case rel => exact ⟨(true), (wrap64 (x12_2 + 1)), (by first | rfl | (simp; done) | (simp [*]; done)), (by first | rfl | (simp; done) | (simp [*]; done)), H', ⟨by have := HK1.out; have := HK2.out; omega⟩, ⟨by (with_reducible repeat (first | apply Kd.R_alloc | apply Kd.R_drewN | apply Kd.R_drew)); exact HO_1.out⟩, ⟨by (with_reducible repeat (first | apply Kd.R_alloc | apply Kd.R_drewN | apply Kd.R_drew)); exact HO_2.out⟩, ⟨by (with_reducible repeat (first | apply Kd.R_alloc | apply Kd.R_drewN | apply Kd.R_drew)); exact HO_9.out⟩, ⟨by repeat (first | (with_reducible first | exact HB.out | apply below_alloc | apply pw_below_drewN | apply below_drew1) | exact HB.out)⟩⟩
        ·replace c14 := Bool.eq_false_iff.mpr c14
         subst c14
         have H1 : (if 0 ≤ x12_2 then (if 0 ≤ x10_1 then (if x10_1 < (t501.length : Int) then (smockingref01_Over.l1 k2 t498 t501 x9_1 x10_1 (((rd_T34 t498 x12_2).f0) == ((rd_T34 t501 x10_1).f0) && (((rd_T34 t498 x12_2).f1) == ((rd_T34 t501 x10_1).f1) && ((((rd_T34 t498 x12_2).f2).toList) == (((rd_T34 t501 x10_1).f2).toList)))) (wrap64 (x12_2 + 1))) else (none)) else (none)) else (none)) = some (r1, r2) := by rw [if_neg (show ¬ (false = true) by decide)] at H; exact H
         clear H
         have H := H1
         clear H1
         by_cases c17 : 0 ≤ x12_2
         ·rw [if_pos c17] at H
          have c17b0 : decide (0 ≤ x12_2) = true := decide_eq_true c17
          clear c17
          by_cases c18 : 0 ≤ x10_1
          ·rw [if_pos c18] at H
           have c18b0 : decide (0 ≤ x10_1) = true := decide_eq_true c18
           clear c18
           by_cases c19 : x10_1 < (t501.length : Int)
           ·rw [if_pos c19] at H
            have c19b0 : decide (x10_1 < (t501.length : Int)) = true := decide_eq_true c19
            clear c19
            have H' := Aside0.mk H
            clear H
            obtain ⟨Ao20, co20, eo20⟩ := Kd.R_slice HO_1.out
            subst eo20
            try go_wp2
            have n0_ := Aside0.mk (Kd.R_drew HO_1.out)
            have n1_ := Aside0.mk (Kd.R_drew HO_2.out)
            have n2_ := Aside0.mk (Kd.R_drew HO_9.out)
            have n3_ := Aside0.mk (below_drew1 HB.out)
            clear HO_1
            clear HO_2
            clear HO_9
            clear HB
            have HO_1 := n0_
            have HO_2 := n1_
            have HO_9 := n2_
            have HB := n3_
            clear n0_ n1_ n2_ n3_
            have p507 : 0 ≤ (x12_2 : Int) := of_decide_eq_true (by first | (with_reducible assumption) | assumption)
            have q507 : x12_2 < (t498.length : Int) := of_decide_eq_true (by first | (with_reducible assumption) | assumption)
            obtain ⟨ad507, e507, hx507_0, hx507_1, hx507_2⟩ := at_T34 (Kd.R_reads' HO_1.out).2.2 x12_2 p507 q507
            cases e507
            replace p507 := eq_true p507
            replace q507 := eq_true q507
            have p508 : 0 ≤ (x10_1 : Int) := of_decide_eq_true (by first | (with_reducible assumption) | assumption)
            have q508 : x10_1 < (t501.length : Int) := of_decide_eq_true (by first | (with_reducible assumption) | assumption)
            obtain ⟨ad508, e508, hx508_0, hx508_1, hx508_2⟩ := at_T34 (Kd.R_reads' HO_2.out).2.2 x10_1 p508 q508
            cases e508
            replace p508 := eq_true p508
            replace q508 := eq_true q508
            refine start_ (n := 13) (S := fun w' => w'.cell? (ad507.add ((x12_2).toNat * 3)) = some (.int .i64 ((rd_T34 t498 x12_2).f0)) ∧ w'.cell? ⟨(ad507.add ((x12_2).toNat * 3)).block, (ad507.add ((x12_2).toNat * 3)).off + 1, none⟩ = some (.int .i64 ((rd_T34 t498 x12_2).f1)) ∧ w'.cell? ⟨(ad507.add ((x12_2).toNat * 3)).block, (ad507.add ((x12_2).toNat * 3)).off + 2, none⟩ = some (.string ((rd_T34 t498 x12_2).f2)) ∧ w'.cell? (ad508.add ((x10_1).toNat * 3)) = some (.int .i64 ((rd_T34 t501 x10_1).f0)) ∧ w'.cell? ⟨(ad508.add ((x10_1).toNat * 3)).block, (ad508.add ((x10_1).toNat * 3)).off + 1, none⟩ = some (.int .i64 ((rd_T34 t501 x10_1).f1)) ∧ w'.cell? ⟨(ad508.add ((x10_1).toNat * 3)).block, (ad508.add ((x10_1).toNat * 3)).off + 2, none⟩ = some (.string ((rd_T34 t501 x10_1).f2))) (ds := []) (bA 13 0) (by kernel_rfl) rfl rfl ⟨hx507_0, hx507_1, hx507_2, hx508_0, hx508_1, hx508_2⟩ (fun hHeld => ?_); refine with_tabW smockingref01_Over.tab14 smockingref01_Over.bits14 (fun HT_ HW_ => ?_)
            generalize wr.drew = w21 at HO_1 HO_2 HO_9 HB hx507_0 hx507_1 hx507_2 hx508_0 hx508_1 hx508_2 hHeld ⊢
            refine pu_ 0 37 (bA 13 1) HT_ ?_
            refine pu_ 1 38 (bA 13 3) HT_ ?_
            refine pu_ 2 39 (bA 13 7) HT_ ?_
            refine pu_ 3 40 (bA 13 15) HT_ ?_
            refine pu_ 4 41 (bA 13 31) HT_ ?_
            refine pu_ 6 43 (bA 13 95) HT_ ?_
            refine pu_ 7 44 (bA 13 223) HT_ ?_
            refine pu_ 8 45 (bA 13 479) HT_ ?_
            refine tk_ 5 42 (bA 13 511) rfl HT_ HW_ hHeld (by rintro w' ⟨s0, s1, s2, s3, s4, s5⟩; go_simp; with_reducible rfl) ?_
            refine tk_ 9 46 (bA 13 1023) rfl HT_ HW_ hHeld (by rintro w' ⟨s0, s1, s2, s3, s4, s5⟩; go_simp; with_reducible rfl) ?_
            refine pu_ 10 47 (bA 13 2047) HT_ ?_
            refine pu_ 11 48 (bA 13 4095) HT_ ?_
            refine pu_ 12 11 (bA 13 8191) HT_ ?_
            refine done_ (done_of HT_.out (by kernel_rfl)) ?_
            try go_wp2
            go_roundg k2
            case measure => have := HK1.out; have := HK2.out; omega
            case rel => exact ⟨((((rd_T34 t498 x12_2).f0) == ((rd_T34 t501 x10_1).f0) && (((rd_T34 t498 x12_2).f1) == ((rd_T34 t501 x10_1).f1) && ((((rd_T34 t498 x12_2).f2).toList) == (((rd_T34 t501 x10_1).f2).toList))))), (wrap64 (x12_2 + 1)), (by first | rfl | (simp; done) | (simp [*]; done)), (by first | rfl | (simp; done) | (simp [*]; done)), H', ⟨by have := HK1.out; have := HK2.out; omega⟩, ⟨by (with_reducible repeat (first | apply Kd.R_alloc | apply Kd.R_drewN | apply Kd.R_drew)); exact HO_1.out⟩, ⟨by (with_reducible repeat (first | apply Kd.R_alloc | apply Kd.R_drewN | apply Kd.R_drew)); exact HO_2.out⟩, ⟨by (with_reducible repeat (first | apply Kd.R_alloc | apply Kd.R_drewN | apply Kd.R_drew)); exact HO_9.out⟩, ⟨by repeat (first | (with_reducible first | exact HB.out | apply below_alloc | apply pw_below_drewN | apply below_drew1) | exact HB.out)⟩⟩
           ·rw [if_neg c19] at H
            exact absurd H (by simp)
          ·rw [if_neg c18] at H
           exact absurd H (by simp)
         ·rw [if_neg c17] at H
          exact absurd H (by simp)
       ·rw [if_neg c13] at H
        have c13b0 : decide (x12_2 < (t498.length : Int)) = false := decide_eq_false c13
        clear c13
        by_cases c22 : x11_2 = true
        ·subst c22
         have H1 : (smockingref01_Over.l0 k2 t498 t501 x9_1 (wrap64 (x10_1 + 1))) = some (r1, r2) := by rw [if_pos rfl] at H; exact H
         clear H
         have H := H1
         clear H1
         have H' := Aside0.mk H
         clear H
         obtain ⟨Ao23, co23, eo23⟩ := Kd.R_slice HO_1.out
         subst eo23
         go_wp2
         go_roundg k2
         case measure => have := HK1.out; have := HK2.out; omega
         case rel => exact ⟨(x9_1), (wrap64 (x10_1 + 1)), (by first | rfl | (simp; done) | (simp [*]; done)), H', ⟨by have := HK1.out; have := HK2.out; omega⟩, ⟨by (with_reducible repeat (first | apply Kd.R_alloc | apply Kd.R_drewN | apply Kd.R_drew)); exact HO_1.out⟩, ⟨by (with_reducible repeat (first | apply Kd.R_alloc | apply Kd.R_drewN | apply Kd.R_drew)); exact HO_2.out⟩, ⟨by (with_reducible repeat (first | apply Kd.R_alloc | apply Kd.R_drewN | apply Kd.R_drew)); exact HO_9.out⟩, ⟨by repeat (first | (with_reducible first | exact HB.out | apply below_alloc | apply pw_below_drewN | apply below_drew1) | exact HB.out)⟩⟩
        ·replace c22 := Bool.eq_false_iff.mpr c22
         subst c22
         have H1 : (if 0 ≤ x10_1 then (if x10_1 < (t501.length : Int) then ((smockingref01_moved.f k2 ((rd_T34 t501 x10_1).f0) ((rd_T34 t501 x10_1).f1) ((rd_T34 t501 x10_1).f2) t498).bind fun t510 => (if x9_1.length < 4398046511104 then (smockingref01_Over.l0 k2 t498 t501 (x9_1 ++ [(⟨wrap64 (((rd_T34 t501 x10_1).f0) + t510), wrap64 (((rd_T34 t501 x10_1).f1) + t510), (rd_T34 t501 x10_1).f2⟩ : S34)]) (wrap64 (x10_1 + 1))) else (none))) else (none)) else (none)) = some (r1, r2) := by rw [if_neg (show ¬ (false = true) by decide)] at H; exact H
         clear H
         have H := H1
         clear H1
         by_cases c24 : 0 ≤ x10_1
         ·rw [if_pos c24] at H
          have c24b0 : decide (0 ≤ x10_1) = true := decide_eq_true c24
          clear c24
          by_cases c25 : x10_1 < (t501.length : Int)
          ·rw [if_pos c25] at H
           have c25b0 : decide (x10_1 < (t501.length : Int)) = true := decide_eq_true c25
           clear c25
           replace H := Option.bind_eq_some_iff.mp H
           obtain ⟨t510, A260, H⟩ := H
           replace H : (if x9_1.length < 4398046511104 then (smockingref01_Over.l0 k2 t498 t501 (x9_1 ++ [(⟨wrap64 (((rd_T34 t501 x10_1).f0) + t510), wrap64 (((rd_T34 t501 x10_1).f1) + t510), (rd_T34 t501 x10_1).f2⟩ : S34)]) (wrap64 (x10_1 + 1))) else (none)) = some (r1, r2) := H
           have A26 := Aside0.mk A260
           clear A260
           by_cases c27 : x9_1.length < 4398046511104
           ·rw [if_pos c27] at H
            have LMc27 := Aside0.mk c27
            clear c27
            obtain ⟨y514, hy514⟩ : ∃ y_ : List (S34), y_ = (x9_1 ++ [(⟨wrap64 (((rd_T34 t501 x10_1).f0) + t510), wrap64 (((rd_T34 t501 x10_1).f1) + t510), (rd_T34 t501 x10_1).f2⟩ : S34)]) := ⟨_, rfl⟩
            replace H : (smockingref01_Over.l0 k2 t498 t501 y514 (wrap64 (x10_1 + 1))) = some (r1, r2) := by first | (rw [hy514]; with_reducible exact H) | (have H2_ := (Option.bind_some _ _).symm.trans H; rw [hy514]; with_reducible exact H2_) | (have H2_ := (Option.bind_some _ _).symm.trans H; with_reducible exact H2_) | with_reducible exact H | (rw [hy514]; exact H) | exact H
            have Ny514 := Aside0.mk hy514
            clear hy514
            have H' := Aside0.mk H
            clear H
            obtain ⟨Ao28, co28, eo28⟩ := Kd.R_slice HO_1.out
            subst eo28
            have p509 : 0 ≤ (x10_1 : Int) := of_decide_eq_true (by first | (with_reducible assumption) | assumption)
            have q509 : x10_1 < (t501.length : Int) := of_decide_eq_true (by first | (with_reducible assumption) | assumption)
            obtain ⟨ad509, e509, hx509_0, hx509_1, hx509_2⟩ := at_T34 (Kd.R_reads' HO_2.out).2.2 x10_1 p509 q509
            cases e509
            replace p509 := eq_true p509
            replace q509 := eq_true q509
            try go_wp2_with (first | ((with_reducible refine gate_callee (f := 51) rfl ?_); refine goesL_ (some 55) rfl rfl Tryd.func51 (by kernel_rfl) rfl #[.agg #[.int .i64 ((rd_T34 t501 x10_1).f0), .int .i64 ((rd_T34 t501 x10_1).f1), .string ((rd_T34 t501 x10_1).f2)], .slice Ao28 t498.length co28] rfl (by (try simp only [List.map_toArray, List.map_cons, List.map_nil]); first | done | rfl | (simp only [List.length_drop, List.length_take]; rfl)) ?_; (with_reducible refine (smockingref01_moved.calls k2 ((rd_T34 t501 x10_1).f0) ((rd_T34 t501 x10_1).f1) ((rd_T34 t501 x10_1).f2) _ _ t498 t510 _ ?side1 ?side2 A26.out).mono ?_); (case side1 => repeat (first | exact (Kd.R_reads' HO_1.out).2.2 | (with_reducible refine Kd.C_alloc ?_ _) | (with_reducible refine Kd.C_drewN ?_ _) | (with_reducible refine Kd.C_drew ?_))); (case side2 => exact (Kd.R_reads' HO_1.out).2.1); rintro e w29 ⟨rfl, hb⟩; refine ⟨_, rfl, ?_⟩; have n0_ := Aside0.mk (Kd.R_below (by (with_reducible repeat (first | apply Kd.R_alloc | apply Kd.R_drewN | apply Kd.R_drew)); exact HO_1.out) hb); have n1_ := Aside0.mk (Kd.R_below (by (with_reducible repeat (first | apply Kd.R_alloc | apply Kd.R_drewN | apply Kd.R_drew)); exact HO_2.out) hb); have n2_ := Aside0.mk (Kd.R_below (by (with_reducible repeat (first | apply Kd.R_alloc | apply Kd.R_drewN | apply Kd.R_drew)); exact HO_9.out) hb); have n3_ := Aside0.mk (below_step (by repeat (first | (with_reducible first | exact HB.out | apply below_alloc | apply pw_below_drewN | apply below_drew1) | exact HB.out)) hb); clear HO_1; clear HO_2; clear HO_9; clear HB; have HO_1 := n0_; have HO_2 := n1_; have HO_9 := n2_; have HB := n3_; clear n0_ n1_ n2_ n3_; (try clear hb); (try clear hb2); (try clear hk); (try clear hi)))
            have n0_ := Aside0.mk (Kd.R_drew HO_1.out)
            have n1_ := Aside0.mk (Kd.R_drew HO_2.out)
            have n2_ := Aside0.mk (Kd.R_drew HO_9.out)
            have n3_ := Aside0.mk (below_drew1 HB.out)
            clear HO_1
            clear HO_2
            clear HO_9
            clear HB
            have HO_1 := n0_
            have HO_2 := n1_
            have HO_9 := n2_
            have HB := n3_
            clear n0_ n1_ n2_ n3_
            have p511 : 0 ≤ (x10_1 : Int) := of_decide_eq_true (by first | (with_reducible assumption) | assumption)
            have q511 : x10_1 < (t501.length : Int) := of_decide_eq_true (by first | (with_reducible assumption) | assumption)
            obtain ⟨ad511, e511, hx511_0, hx511_1, hx511_2⟩ := at_T34 (Kd.R_reads' HO_2.out).2.2 x10_1 p511 q511
            obtain rfl : ad509 = ad511 := (by injection e511)
            replace p511 := eq_true p511
            replace q511 := eq_true q511
            have p512 : 0 ≤ (x10_1 : Int) := of_decide_eq_true (by first | (with_reducible assumption) | assumption)
            have q512 : x10_1 < (t501.length : Int) := of_decide_eq_true (by first | (with_reducible assumption) | assumption)
            obtain ⟨ad512, e512, hx512_0, hx512_1, hx512_2⟩ := at_T34 (Kd.R_reads' HO_2.out).2.2 x10_1 p512 q512
            obtain rfl : ad509 = ad512 := (by injection e512)
            replace p512 := eq_true p512
            replace q512 := eq_true q512
            have p513 : 0 ≤ (x10_1 : Int) := of_decide_eq_true (by first | (with_reducible assumption) | assumption)
            have q513 : x10_1 < (t501.length : Int) := of_decide_eq_true (by first | (with_reducible assumption) | assumption)
            obtain ⟨ad513, e513, hx513_0, hx513_1, hx513_2⟩ := at_T34 (Kd.R_reads' HO_2.out).2.2 x10_1 p513 q513
            obtain rfl : ad509 = ad513 := (by injection e513)
            replace p513 := eq_true p513
            replace q513 := eq_true q513
            refine start_ (n := 24) (S := fun w' => w'.cell? (ad509.add ((x10_1).toNat * 3)) = some (.int .i64 ((rd_T34 t501 x10_1).f0)) ∧ w'.cell? ⟨(ad509.add ((x10_1).toNat * 3)).block, (ad509.add ((x10_1).toNat * 3)).off + 1, none⟩ = some (.int .i64 ((rd_T34 t501 x10_1).f1)) ∧ w'.cell? ⟨(ad509.add ((x10_1).toNat * 3)).block, (ad509.add ((x10_1).toNat * 3)).off + 2, none⟩ = some (.string ((rd_T34 t501 x10_1).f2)) ∧ w'.cell? (ad509.add ((x10_1).toNat * 3)) = some (.int .i64 ((rd_T34 t501 x10_1).f0)) ∧ w'.cell? ⟨(ad509.add ((x10_1).toNat * 3)).block, (ad509.add ((x10_1).toNat * 3)).off + 1, none⟩ = some (.int .i64 ((rd_T34 t501 x10_1).f1)) ∧ w'.cell? ⟨(ad509.add ((x10_1).toNat * 3)).block, (ad509.add ((x10_1).toNat * 3)).off + 2, none⟩ = some (.string ((rd_T34 t501 x10_1).f2)) ∧ w'.cell? (ad509.add ((x10_1).toNat * 3)) = some (.int .i64 ((rd_T34 t501 x10_1).f0)) ∧ w'.cell? ⟨(ad509.add ((x10_1).toNat * 3)).block, (ad509.add ((x10_1).toNat * 3)).off + 1, none⟩ = some (.int .i64 ((rd_T34 t501 x10_1).f1)) ∧ w'.cell? ⟨(ad509.add ((x10_1).toNat * 3)).block, (ad509.add ((x10_1).toNat * 3)).off + 2, none⟩ = some (.string ((rd_T34 t501 x10_1).f2))) (ds := [21, 22]) (bA 24 0) (by kernel_rfl) rfl rfl ⟨hx511_0, hx511_1, hx511_2, hx512_0, hx512_1, hx512_2, hx513_0, hx513_1, hx513_2⟩ (fun hHeld => ?_); refine with_tabW smockingref01_Over.tab17 smockingref01_Over.bits17 (fun HT_ HW_ => ?_)
            generalize w29.drew = w30 at HO_1 HO_2 HO_9 HB hx511_0 hx511_1 hx511_2 hx512_0 hx512_1 hx512_2 hx513_0 hx513_1 hx513_2 hHeld ⊢
            refine pu_ 0 56 (bA 24 1) HT_ ?_
            refine pu_ 1 57 (bA 24 3) HT_ ?_
            refine pu_ 2 58 (bA 24 7) HT_ ?_
            refine pu_ 3 59 (bA 24 15) HT_ ?_
            refine pu_ 4 60 (bA 24 31) HT_ ?_
            refine pu_ 6 62 (bA 24 95) HT_ ?_
            refine pu_ 8 64 (bA 24 351) HT_ ?_
            refine pu_ 9 65 (bA 24 863) HT_ ?_
            refine pu_ 10 66 (bA 24 1887) HT_ ?_
            refine pu_ 11 67 (bA 24 3935) HT_ ?_
            refine pu_ 13 69 (bA 24 12127) HT_ ?_
            refine pu_ 15 71 (bA 24 44895) HT_ ?_
            refine pu_ 16 72 (bA 24 110431) HT_ ?_
            refine pu_ 17 73 (bA 24 241503) HT_ ?_
            refine pu_ 18 74 (bA 24 503647) HT_ ?_
            refine tk_ 5 61 (bA 24 503679) rfl HT_ HW_ hHeld (by rintro w' ⟨s0, s1, s2, s3, s4, s5, s6, s7, s8⟩; go_simp; with_reducible rfl) ?_
            refine pu_ 7 63 (bA 24 503807) HT_ ?_
            refine tk_ 12 68 (bA 24 507903) rfl HT_ HW_ hHeld (by rintro w' ⟨s0, s1, s2, s3, s4, s5, s6, s7, s8⟩; go_simp; with_reducible rfl) ?_
            refine pu_ 14 70 (bA 24 524287) HT_ ?_
            refine tk_ 19 75 (bA 24 1048575) rfl HT_ HW_ hHeld (by rintro w' ⟨s0, s1, s2, s3, s4, s5, s6, s7, s8⟩; go_simp; with_reducible rfl) ?_
            refine pu_ 20 76 (bA 24 2097151) HT_ ?_
            refine last_ (i := 21) (N := some 77) (bA 24 4194303) rfl rfl (one_of HT_.out (by kernel_rfl)) (by decide) (fun K hK => ?_)
            refine value_ (w1 := ?_) (v := ?_) (by rfl) rfl ?_ ?_
            rotate_left 2
            ·go_simp
             constructor
             ·rfl
             ·rfl
            refine hK.out _ _ ?_
            clear hK K
            refine norm_ (a' := ?_) ?_ ?_
            rotate_left
            ·show Act.put _ (some 77) _ = _
             simp only [Act.put, q1_, q2_, q3_, i64_w, i32_w]
             rfl
            refine last_ (i := 22) (N := some 78) (bA 24 8388607) rfl rfl (one_of HT_.out (by kernel_rfl)) (by decide) (fun K hK => ?_)
            refine Kd.R_append_step k34 (w0 := w) w.heap.size (by rfl) (.tmp 56) (.tmp 77) 22 34 (.agg #[(.int .i64 0), (.int .i64 0), (.string ⟨#[]⟩)]) 32 rfl Tryd.underlying22 info34 rfl (by decide) (by omega) u9 x9_1 (⟨wrap64 (((rd_T34 t501 x10_1).f0) + t510), wrap64 (((rd_T34 t501 x10_1).f1) + t510), (rd_T34 t501 x10_1).f2⟩ : S34) [.int .i64 (wrap64 (((rd_T34 t501 x10_1).f0) + t510)), .int .i64 (wrap64 (((rd_T34 t501 x10_1).f1) + t510)), .string ((rd_T34 t501 x10_1).f2)] (fun k_ => some k_ ≠ (.slice Ao28 t498.length co28 : Value).ownBlock ∧ some k_ ≠ (.slice (some ad509) t501.length co12 : Value).ownBlock) (fun _ => False) rfl rfl ?aP (fun _ hk => hk.elim) ?aF ?aO ?aB ?aS ?aL ?_
            (case aP => exact k34_mkM _ _ _ (⟨wrap64 (((rd_T34 t501 x10_1).f0) + t510), wrap64 (((rd_T34 t501 x10_1).f1) + t510), (rd_T34 t501 x10_1).f2⟩ : S34))
            (case aB => exact (by repeat (first | (with_reducible first | exact HB.out | apply below_alloc | apply pw_below_drewN | apply below_drew1) | exact HB.out)))
            (case aF => exact (fun k_ hk => ⟨Kd.fresh' (Kd.R_lt (by (with_reducible repeat (first | apply Kd.R_alloc | apply Kd.R_drewN | apply Kd.R_drew)); exact HO_1.out)) k_ hk, Kd.fresh' (Kd.R_lt (by (with_reducible repeat (first | apply Kd.R_alloc | apply Kd.R_drewN | apply Kd.R_drew)); exact HO_2.out)) k_ hk⟩))
            (case aO => exact (by (with_reducible repeat (first | apply Kd.R_alloc | apply Kd.R_drewN | apply Kd.R_drew)); exact HO_9.out))
            (case aS => exact (below_size (by repeat (first | (with_reducible first | exact HB.out | apply below_alloc | apply pw_below_drewN | apply below_drew1) | exact HB.out))))
            (case aL => have := LMc27.out; omega)
            intro v515 w31 ho hb hg hat
            rw [← Ny514.out] at ho
            have n0_ := Aside0.mk (Kd.R_after (ok := (fun k_ => some k_ ≠ (.slice (some ad509) t501.length co12 : Value).ownBlock)) (by (with_reducible repeat (first | apply Kd.R_alloc | apply Kd.R_drewN | apply Kd.R_drew)); exact HO_1.out) hg hat)
            have n1_ := Aside0.mk (Kd.R_after (ok := (fun k_ => some k_ ≠ (.slice Ao28 t498.length co28 : Value).ownBlock)) (by (with_reducible repeat (first | apply Kd.R_alloc | apply Kd.R_drewN | apply Kd.R_drew)); exact HO_2.out) hg hat)
            have n2_ := Aside0.mk (hb)
            have n3_ := Aside0.mk (ho)
            clear HO_1
            clear HO_2
            clear HB
            clear HO_9
            have HO_1 := n0_
            have HO_2 := n1_
            have HB := n2_
            have HO516 := n3_
            clear n0_ n1_ n2_ n3_
            clear ho hb hg hat
            refine hK.out _ _ ?_
            clear hK K
            refine norm_ (a' := ?_) ?_ ?_
            rotate_left
            ·show Act.put _ (some 78) _ = _
             simp only [Act.put, q1_, q2_, q3_, i64_w, i32_w]
             rfl
            refine pu_ 23 9 (bA 24 16777215) HT_ ?_
            refine done_ (done_of HT_.out (by kernel_rfl)) ?_
            try go_wp2
            go_roundg k2
            case measure => have := HK1.out; have := HK2.out; omega
            case rel => exact ⟨(y514), (wrap64 (x10_1 + 1)), (by first | rfl | (simp; done) | (simp [*]; done)), H', ⟨by have := HK1.out; have := HK2.out; omega⟩, ⟨by (with_reducible repeat (first | apply Kd.R_alloc | apply Kd.R_drewN | apply Kd.R_drew)); exact HO_1.out⟩, ⟨by (with_reducible repeat (first | apply Kd.R_alloc | apply Kd.R_drewN | apply Kd.R_drew)); exact HO_2.out⟩, ⟨by (with_reducible repeat (first | apply Kd.R_alloc | apply Kd.R_drewN | apply Kd.R_drew)); exact HO516.out⟩, ⟨by repeat (first | (with_reducible first | exact HB.out | apply below_alloc | apply pw_below_drewN | apply below_drew1) | exact HB.out)⟩⟩
           ·rw [if_neg c27] at H
            exact absurd H (by simp)
          ·rw [if_neg c25] at H
           exact absurd H (by simp)
         ·rw [if_neg c24] at H
          exact absurd H (by simp)
    ·rw [if_neg c11] at H
     have c11b0 : decide (x10_1 < (t501.length : Int)) = false := decide_eq_false c11
     clear c11
     replace H := Option.bind_eq_some_iff.mp H
     obtain ⟨t504, A320, H⟩ := H
     replace H : (some (t504, 0)) = some (r1, r2) := H
     have A32 := Aside0.mk A320
     clear A320
     simp only [Option.some.injEq, Prod.mk.injEq] at H
     obtain ⟨rfl, rfl⟩ := H
     obtain ⟨Ao33, co33, eo33⟩ := Kd.R_slice HO_2.out
     subst eo33
     obtain ⟨Ao34, co34, eo34⟩ := Kd.R_slice HO_9.out
     subst eo34
     go_wp2_with (first | ((with_reducible refine gate_callee (f := 42) rfl ?_); refine goesL_ (some 80) rfl rfl Tryd.func42 (by kernel_rfl) rfl #[.slice Ao34 x9_1.length co34] rfl (by (try simp only [List.map_toArray, List.map_cons, List.map_nil]); first | done | rfl | (simp only [List.length_drop, List.length_take]; rfl)) ?_; (with_reducible refine (smockingref01_joined.calls k1 _ _ x9_1 t504 _ ?side1 ?side2 A32.out).mono ?_); (case side1 => repeat (first | exact (Kd.R_reads' HO_9.out).2.2 | (with_reducible refine Kd.C_alloc ?_ _) | (with_reducible refine Kd.C_drewN ?_ _) | (with_reducible refine Kd.C_drew ?_))); (case side2 => exact (Kd.R_reads' HO_9.out).2.1); rintro e w35 ⟨v505, rfl, ho0, hb⟩; refine ⟨_, rfl, ?_⟩; have n0_ := Aside0.mk (Kd.R_elder' (by (with_reducible repeat (first | apply Kd.R_alloc | apply Kd.R_drewN | apply Kd.R_drew)); exact HO_1.out) (Kd.R_base ho0) hb); have n1_ := Aside0.mk (Kd.R_elder' (by (with_reducible repeat (first | apply Kd.R_alloc | apply Kd.R_drewN | apply Kd.R_drew)); exact HO_2.out) (Kd.R_base ho0) hb); have n2_ := Aside0.mk (Kd.R_elder' (by (with_reducible repeat (first | apply Kd.R_alloc | apply Kd.R_drewN | apply Kd.R_drew)); exact HO_9.out) (Kd.R_base ho0) hb); have n3_ := Aside0.mk (Kd.R_lower (Kd.R_new' (Kd.R_new' (Kd.R_new' ho0 (Kd.R_lt (by (with_reducible repeat (first | apply Kd.R_alloc | apply Kd.R_drewN | apply Kd.R_drew)); exact HO_1.out))) (Kd.R_lt (by (with_reducible repeat (first | apply Kd.R_alloc | apply Kd.R_drewN | apply Kd.R_drew)); exact HO_2.out))) (Kd.R_lt (by (with_reducible repeat (first | apply Kd.R_alloc | apply Kd.R_drewN | apply Kd.R_drew)); exact HO_9.out))) (below_size (by repeat (first | (with_reducible first | exact HB.out | apply below_alloc | apply pw_below_drewN | apply below_drew1) | exact HB.out)))); have n4_ := Aside0.mk (below_step (by repeat (first | (with_reducible first | exact HB.out | apply below_alloc | apply pw_below_drewN | apply below_drew1) | exact HB.out)) hb); clear HO_1; clear HO_2; clear HO_9; clear HB; have HO_1 := n0_; have HO_2 := n1_; have HO_9 := n2_; have HO506 := n3_; have HB := n4_; clear n0_ n1_ n2_ n3_ n4_; (try clear hb); (try clear hb2); (try clear hk); (try clear hi); (try clear ho0)))
     go_ret2
     exact ⟨_, by first | rfl | (simp [errW_none, errW_some] <;> rfl) | (simp [*, errW_none, errW_some] <;> rfl), by (with_reducible repeat (first | apply Kd.R_alloc | apply Kd.R_drewN | apply Kd.R_drew)); exact Kd.R_mono HO506.out (fun _ hk => trivial), by repeat (first | (with_reducible first | exact HB.out | apply below_alloc | apply pw_below_drewN | apply below_drew1) | exact HB.out)⟩
 ·rw [if_neg c5] at H
  have c5b0 : (t497 == 0) = false := beq_eq_false_iff_ne.mpr c5
  have c5b1 : (t497 != 0) = true := bne_iff_ne.mpr c5
  simp only [Option.some.injEq, Prod.mk.injEq] at H
  obtain ⟨rfl, rfl⟩ := H
  go_enter Tryd.func26, Tryd.ntmps26
  go_wp2_with (first | ((with_reducible refine gate_callee (f := 49) rfl ?_); refine goesL_ (some 17) rfl rfl Tryd.func49 (by kernel_rfl) rfl #[.string a0, .slice A1 l1.length c1, .slice A2 l2.length c2] rfl (by (try simp only [List.map_toArray, List.map_cons, List.map_nil]); first | done | rfl | (simp only [List.length_drop, List.length_take]; rfl)) ?_; (with_reducible refine (smockingref01_together.calls k a0 _ _ l1 _ _ l2 t497 _ ?side1 ?side2 ?side3 ?side4 A4.out).mono ?_); (case side1 => repeat (first | exact HR1.out | (with_reducible refine Kd.C_alloc ?_ _) | (with_reducible refine Kd.C_drewN ?_ _) | (with_reducible refine Kd.C_drew ?_))); (case side2 => exact HC1.out); (case side3 => repeat (first | exact HR2.out | (with_reducible refine Kd.C_alloc ?_ _) | (with_reducible refine Kd.C_drewN ?_ _) | (with_reducible refine Kd.C_drew ?_))); (case side4 => exact HC2.out); rintro e w36 ⟨rfl, hb⟩; refine ⟨_, rfl, ?_⟩; have n0_ := Aside0.mk (below_step (by repeat (first | (with_reducible first | exact HB.out | apply below_alloc | apply pw_below_drewN | apply below_drew1) | exact HB.out)) hb); clear HB; have HB := n0_; clear n0_; (try clear hb); (try clear hb2); (try clear hk); (try clear hi)))
  go_ret2
  exact ⟨_, by first | rfl | (simp [errW_none, errW_some] <;> rfl) | (simp [*, errW_none, errW_some] <;> rfl), by first | exact Kd.R_nil _ _ _ _ _ | exact Kd.N_nil _ _ _ _ _ | exact Kd.V_nil _ _ _ _ _ | exact Kd.Q_nil _ _ _ _ _ | exact Kd.S_nil _ _ _ _ _, by repeat (first | (with_reducible first | exact HB.out | apply below_alloc | apply pw_below_drewN | apply below_drew1) | exact HB.out)⟩

end Go.Proofs.YthimblhfjfngiaaDoor.PText

namespace Go.Proofs.YthimblhfjfngiaaDoor.PText
open Go.RowKit Go.Lib Go.Proofs.YthimblhfjfngiaaDoorW.PrintWords Go.Proofs.YthimblhfjfngiaaDoorW.PrintLast Go.Proofs.YthimblhfjfngiaaDoorW.PrintMore
theorem before_f (x y : S34) : smockingref01_before.f x.f0 x.f1 x.f2 y.f0 y.f1 y.f2 = some (eltS x y) := by
  unfold smockingref01_before.f eltS Tx.elt toE
  by_cases h0 : x.f0 = y.f0
  · have n0 : ¬ x.f0 < y.f0 := by omega
    rw [if_pos h0]
    by_cases h1 : x.f1 = y.f1
    · have n1 : ¬ x.f1 < y.f1 := by omega
      rw [if_pos h1, bl_lt]
      simp [h0, h1]
    · rw [if_neg h1]
      simp [h0, h1]
  · rw [if_neg h0]
    simp [h0]
theorem touch_f (k : Nat) (x y : S34) : smockingref01_touch.f (k + 1) x.f0 x.f1 x.f2 y.f0 y.f1 y.f2 = some (Tx.touch (toE x) (toE y)) := by
  unfold smockingref01_touch.f Tx.touch toE
  simp only [smockingref01_touch.j0]
  by_cases h1 : x.f0 = x.f1
  · rw [if_pos h1]
    by_cases h2 : y.f0 = y.f1
    · have b : (y.f0 == y.f1) = true := beq_iff_eq.2 h2
      rw [b, if_pos rfl, if_pos ⟨h1, h2⟩]
      rfl
    · have b : (y.f0 == y.f1) = false := beq_eq_false_iff_ne.2 h2
      rw [b, if_neg (show ¬ (false = true) by decide), if_pos h1, if_neg (show ¬ (x.f0 = x.f1 ∧ y.f0 = y.f1) from fun q => h2 q.2), if_pos h1]
      by_cases h3 : y.f0 < x.f0
      · rw [if_pos h3]; simp [h3]
      · rw [if_neg h3]; simp [h3]
  · rw [if_neg h1, if_neg (show ¬ (false = true) by decide), if_neg h1, if_neg (show ¬ (x.f0 = x.f1 ∧ y.f0 = y.f1) from fun q => h1 q.1), if_neg h1]
    by_cases h2 : y.f0 = y.f1
    · rw [if_pos h2, if_pos h2]
      by_cases h3 : x.f0 < y.f0
      · rw [if_pos h3]; simp [h3]
      · rw [if_neg h3]; simp [h3]
    · rw [if_neg h2, if_neg h2]
      by_cases h3 : x.f0 < y.f1
      · rw [if_pos h3]; simp [h3]
      · rw [if_neg h3]; simp [h3]
end Go.Proofs.YthimblhfjfngiaaDoor.PText

namespace Go.Proofs.YthimblhfjfngiaaDoor.PText
open Go.RowKit Go.Lib Go.Proofs.YthimblhfjfngiaaDoorW.PrintWords Go.Proofs.YthimblhfjfngiaaDoorW.PrintLast Go.Proofs.YthimblhfjfngiaaDoorW.PrintMore
theorem eqS34 (x y : S34) : (x.f0 == y.f0 && (x.f1 == y.f1 && (x.f2.toList == y.f2.toList))) = decide (x = y) := by
  rw [Bool.eq_iff_iff, decide_eq_true_iff]
  simp only [Bool.and_eq_true, beq_iff_eq]
  constructor
  · rintro ⟨h0, h1, h2⟩
    refine toE_inj ?_
    unfold toE
    rw [h0, h1, h2]
  · rintro rfl; exact ⟨rfl, rfl, rfl⟩
theorem ordered_l1 (x0 : List S34) (hx0 : x0.length ≤ 1000000) (i : Nat) (hi : i < x0.length) (x3 : List S34) (hx : x3.length ≤ 1000000) : ∀ (m j k B : Nat) (b : Bool), x3.length - j = m → j ≤ x3.length → m + 1 + B ≤ k →
    ∃ k', B ≤ k' ∧ smockingref01_ordered.l1 k x0 x3 (i : Int) b (j : Int) = if b = true ∨ x0[i] ∈ x3.drop j then smockingref01_ordered.l0 k' x0 x3 (((i + 1 : Nat)) : Int) else smockingref01_ordered.l2 k' x0 (x3 ++ [x0[i]]) (i : Int) (x3.length : Int) := by
  intro m
  induction m with
  | zero =>
    intro j k B b hm hj hk
    obtain ⟨k, rfl⟩ : ∃ q, k = q + 1 := ⟨k - 1, by omega⟩
    refine ⟨k, by omega, ?_⟩
    rw [smockingref01_ordered.l1, if_neg (by omega), List.drop_of_length_le (by omega)]
    cases b with
    | true => rw [if_pos rfl, if_pos (Or.inl rfl), nx i (by omega)]
    | false =>
      rw [if_neg (show ¬ (false = true) by decide), if_neg (show ¬ (false = true ∨ x0[i] ∈ []) by rintro (q | q) <;> cases q), if_pos (by omega), if_pos (by omega), if_pos (by omega), Option.bind_some, rd34_at x0 i hi]
      have e : wrap64 (((x3 ++ [(⟨x0[i].f0, x0[i].f1, x0[i].f2⟩ : S34)]).length : Int) - 1) = (x3.length : Int) := by
        rw [List.length_append, List.length_singleton, w64 (by omega) (by omega)]; omega
      rw [e]
  | succ m ih =>
    intro j k B b hm hj hk
    obtain ⟨k, rfl⟩ : ∃ q, k = q + 1 := ⟨k - 1, by omega⟩
    have hlt : j < x3.length := by omega
    have hd : x3.drop j = x3[j] :: x3.drop (j + 1) := List.drop_eq_getElem_cons hlt
    rw [smockingref01_ordered.l1, if_pos (by omega), nx j (by omega)]
    cases b with
    | true =>
      obtain ⟨k', h1, h2⟩ := ih (j + 1) k B true (by omega) (by omega) (by omega)
      refine ⟨k', h1, ?_⟩
      rw [if_pos rfl, h2, if_pos (Or.inl rfl), if_pos (Or.inl rfl)]
    | false =>
      obtain ⟨k', h1, h2⟩ := ih (j + 1) k B (decide (x3[j] = x0[i])) (by omega) (by omega) (by omega)
      refine ⟨k', h1, ?_⟩
      rw [if_neg (show ¬ (false = true) by decide), if_pos (by omega), if_pos (by omega), if_pos (by omega), rd34_at x0 i hi, rd34_at x3 j hlt, eqS34, h2, hd]
      by_cases q : x3[j] = x0[i]
      · rw [if_pos (Or.inl (decide_eq_true q)), if_pos (Or.inr (by rw [q]; exact List.mem_cons_self))]
      · by_cases q2 : x0[i] ∈ x3.drop (j + 1)
        · rw [if_pos (Or.inr q2), if_pos (Or.inr (List.mem_cons_of_mem _ q2))]
        · rw [if_neg (by rintro (c | c); exact q (of_decide_eq_true c); exact q2 c), if_neg (by
            rintro (c | c)
            · cases c
            · rcases List.mem_cons.1 c with c | c
              · exact q c.symm
              · exact q2 c)]
theorem swap_last (A : List S34) (y x : S34) (C : List S34) (p : Nat) (h : A.length = p) : ((A ++ [y] ++ x :: C).set (p + 1) y).set p x = A ++ x :: y :: C := by
  subst h
  rw [List.append_assoc, List.set_append_right _ _ (by omega), List.set_append_right _ _ (by omega)]
  simp
theorem ordered_l2 (x0 : List S34) (i : Nat) (hi : i ≤ 1000000) : ∀ (p k B : Nat) (A : List S34) (x : S34) (C : List S34), A.length = p → Tx.Asc eltS (A ++ C) → (∀ c ∈ C, eltS x c = true) → x ∉ A → A.length + C.length ≤ 1000000 → p + 1 + B ≤ k →
    ∃ k' L, B ≤ k' ∧ smockingref01_ordered.l2 k x0 (A ++ x :: C) (i : Int) (p : Int) = smockingref01_ordered.l0 k' x0 L ((i + 1 : Nat) : Int) ∧ Tx.Asc eltS L ∧ (∀ a, a ∈ L ↔ a ∈ A ++ x :: C) := by
  intro p
  induction p with
  | zero =>
    intro k B A x C hA hs hc hx hl hk
    obtain ⟨k, rfl⟩ : ∃ q, k = q + 1 := ⟨k - 1, by omega⟩
    obtain rfl := List.eq_nil_of_length_eq_zero hA
    refine ⟨k, x :: C, by omega, ?_, Tx.asc_cons.2 ⟨hc, hs⟩, fun a => Iff.rfl⟩
    rw [smockingref01_ordered.l2, if_neg (by omega), nx i hi]
    rfl
  | succ p ih =>
    intro k B A x C hA hs hc hx hl hk
    obtain ⟨k, rfl⟩ : ∃ q, k = q + 1 := ⟨k - 1, by omega⟩
    obtain ⟨A', y, rfl⟩ : ∃ A' y, A = A' ++ [y] := by
      rcases List.eq_nil_or_concat A with h | ⟨A', y, h⟩
      · subst h; cases hA
      · exact ⟨A', y, by rw [h, List.concat_eq_append]⟩
    have hA' : A'.length = p := by rw [List.length_append, List.length_singleton] at hA; omega
    have hlen : (A' ++ [y] ++ x :: C).length = p + 1 + (C.length + 1) := by
      rw [List.length_append, List.length_append, List.length_singleton, List.length_cons, hA']
    have e1 : rd_T34 (A' ++ [y] ++ x :: C) ((p + 1 : Nat) : Int) = x := by
      rw [rd34_at _ (p + 1) (by omega), List.getElem_append_right (by rw [List.length_append, List.length_singleton]; omega)]
      simp [hA']
    have e2 : rd_T34 (A' ++ [y] ++ x :: C) (p : Int) = y := by
      rw [rd34_at _ p (by omega), List.getElem_append_left (by rw [List.length_append, List.length_singleton]; omega), List.getElem_append_right (by omega)]
      simp [hA']
    have e3 : wrap64 (((p + 1 : Nat) : Int) - 1) = (p : Int) := by
      rw [List.length_append, List.length_singleton] at hl
      rw [w64 (by omega) (by omega)]; omega
    have hs' : Tx.Asc eltS (A' ++ y :: C) := by rwa [List.append_assoc] at hs
    rw [smockingref01_ordered.l2, if_pos (by omega), if_pos (by omega), if_pos (by rw [hlen]; omega), e3, if_pos (by omega), if_pos (by rw [hlen]; omega), e1, e2, before_f, Option.bind_some]
    cases q : eltS x y with
    | true =>
      rw [if_pos rfl]
      obtain ⟨k', L, h1, h2, h3, h4⟩ := ih k B A' x (y :: C) hA' hs' (fun c m => by
        rcases List.mem_cons.1 m with m | m
        · rw [m]; exact q
        · exact hc c m) (fun m => hx (List.mem_append_left _ m)) (by rw [List.length_append, List.length_singleton] at hl; rw [List.length_cons]; omega) (by omega)
      refine ⟨k', L, h1, ?_, h3, fun a => ?_⟩
      · rw [← h2, Int.toNat_natCast, Int.toNat_natCast]
        have := swap_last A' y x C p hA'
        rw [show (⟨y.f0, y.f1, y.f2⟩ : S34) = y from rfl, show (⟨x.f0, x.f1, x.f2⟩ : S34) = x from rfl, this]
      · rw [h4 a]
        simp only [List.mem_append, List.mem_cons, List.not_mem_nil, or_false]
        constructor
        · rintro (m | m | m | m)
          · exact .inl (.inl m)
          · exact .inr (.inl m)
          · exact .inl (.inr m)
          · exact .inr (.inr m)
        · rintro ((m | m) | m | m)
          · exact .inl m
          · exact .inr (.inr (.inl m))
          · exact .inr (.inl m)
          · exact .inr (.inr (.inr m))
    | false =>
      rw [if_neg (show ¬ (false = true) by decide), nx i hi]
      refine ⟨k, A' ++ [y] ++ x :: C, by omega, rfl, ?_, fun a => Iff.rfl⟩
      have hyx : eltS y x = true := by
        cases q2 : eltS y x with
        | true => rfl
        | false => exact absurd (eltS_lin.tri q q2) (fun e => hx (by rw [e]; exact List.mem_append_right _ List.mem_cons_self))
      obtain ⟨s1, s2, s3⟩ := Tx.asc_append.1 hs
      refine Tx.asc_append.2 ⟨s1, Tx.asc_cons.2 ⟨hc, s2⟩, fun a ma b mb => ?_⟩
      rcases List.mem_cons.1 mb with mb | mb
      · rw [mb]
        rcases List.mem_append.1 ma with ma | ma
        · exact eltS_lin.tr ((Tx.asc_append.1 s1).2.2 a ma y List.mem_cons_self) hyx
        · rw [List.mem_singleton.1 ma]; exact hyx
      · exact s3 a ma b mb
theorem ordered_l0 (x0 : List S34) (N : Nat) (hN : x0.length ≤ N) (hN2 : N ≤ 1000000) : ∀ (m i k : Nat), x0.length - i = m → i ≤ x0.length → m * (2 * N + 5) + 1 ≤ k →
    smockingref01_ordered.l0 k x0 (Tx.ord eltS (x0.take i)) (i : Int) = some (Tx.ord eltS x0) := by
  intro m
  induction m with
  | zero =>
    intro i k hm hi hk
    obtain ⟨k, rfl⟩ : ∃ q, k = q + 1 := ⟨k - 1, by omega⟩
    rw [smockingref01_ordered.l0, if_neg (by omega), List.take_of_length_le (by omega)]
  | succ m ih =>
    intro i k hm hi hk
    rw [Nat.succ_mul] at hk
    obtain ⟨k, rfl⟩ : ∃ q, k = q + 1 := ⟨k - 1, by omega⟩
    have hlt : i < x0.length := by omega
    have hlo : (Tx.ord eltS (x0.take i)).length ≤ N := Nat.le_trans (Tx.ord_len _) (by rw [List.length_take]; omega)
    have ht : x0.take (i + 1) = x0.take i ++ [x0[i]] := List.take_succ_eq_append_getElem hlt
    have ih1 := fun k => ih (i + 1) k (by omega) (by omega)
    rw [smockingref01_ordered.l0, if_pos (by omega)]
    obtain ⟨k1, h1, h2⟩ := ordered_l1 x0 (by omega) i hlt (Tx.ord eltS (x0.take i)) (by omega) _ 0 k (m * (2 * N + 5) + 1 + (N + 2)) false rfl (by omega) (by omega)
    rw [show ((0 : Nat) : Int) = 0 from rfl, List.drop_zero] at h2
    rw [h2]
    by_cases q : x0[i] ∈ Tx.ord eltS (x0.take i)
    · rw [if_pos (Or.inr q)]
      have := ih1 k1 (by omega)
      rw [ht, Tx.ord_snoc_mem eltS_lin ((Tx.mem_ord eltS_lin).1 q)] at this
      exact this
    · rw [if_neg (by rintro (c | c); cases c; exact q c)]
      obtain ⟨k2, L, g1, g2, g3, g4⟩ := ordered_l2 x0 i (by omega) (Tx.ord eltS (x0.take i)).length k1 (m * (2 * N + 5) + 1) (Tx.ord eltS (x0.take i)) x0[i] [] rfl (by rw [List.append_nil]; exact Tx.asc_ord eltS_lin) (fun c m => by cases m) q (by rw [List.length_nil]; omega) (by omega)
      rw [g2]
      have e : L = Tx.ord eltS (x0.take (i + 1)) := Tx.ord_of_asc eltS_lin g3 (fun a => by
        rw [g4 a, ht, List.mem_append, List.mem_append, Tx.mem_ord eltS_lin])
      rw [e]
      exact ih1 k2 (by omega)
theorem ordered_f (x0 : List S34) (N : Nat) (hN : x0.length ≤ N) (hN2 : N ≤ 1000000) (k : Nat) (hk : N * (2 * N + 5) + 1 ≤ k) : smockingref01_ordered.f k x0 = some (Tx.ord eltS x0) := by
  have h := ordered_l0 x0 N hN hN2 x0.length 0 k (by omega) (by omega) (Nat.le_trans (Nat.add_le_add_right (Nat.mul_le_mul_right _ hN) 1) hk)
  exact h
end Go.Proofs.YthimblhfjfngiaaDoor.PText

namespace Go.Proofs.YthimblhfjfngiaaDoor.PText
open Go.RowKit Go.Lib Go.Proofs.YthimblhfjfngiaaDoorW.PrintWords Go.Proofs.YthimblhfjfngiaaDoorW.PrintLast Go.Proofs.YthimblhfjfngiaaDoorW.PrintMore
/-- two edits that do not go together -/
def clE (x y : S34) : Bool := decide (x ≠ y) && Tx.touch (toE x) (toE y)
theorem neS34 (x y : S34) : (!(x.f0 == y.f0) || (!(x.f1 == y.f1) || !(x.f2.toList == y.f2.toList))) = decide (x ≠ y) := by
  have h := eqS34 x y
  rw [show decide (x ≠ y) = !decide (x = y) by simp, ← h]
  simp only [Bool.not_and]
theorem fine_l0 (s : ByteArray) (l : List S34) (hl : l.length ≤ 1000000) : ∀ (m i k B : Nat), l.length - i = m → i ≤ l.length → m + 1 + B ≤ k →
    ∃ k', B ≤ k' ∧ smockingref01_Fine.l0 k s l (i : Int) = if (l.drop i).any (badE s.size) = true then some 1 else smockingref01_Fine.l1 k' l 0 := by
  intro m
  induction m with
  | zero =>
    intro i k B hm hi hk
    obtain ⟨k, rfl⟩ : ∃ q, k = q + 1 := ⟨k - 1, by omega⟩
    refine ⟨k, by omega, ?_⟩
    rw [smockingref01_Fine.l0, if_neg (by omega), List.drop_of_length_le (by omega)]
    rfl
  | succ m ih =>
    intro i k B hm hi hk
    obtain ⟨k, rfl⟩ : ∃ q, k = q + 1 := ⟨k - 1, by omega⟩
    have hlt : i < l.length := by omega
    have hd : l.drop i = l[i] :: l.drop (i + 1) := List.drop_eq_getElem_cons hlt
    obtain ⟨k', h1, h2⟩ := ih (i + 1) k B (by omega) (by omega) (by omega)
    refine ⟨k', h1, ?_⟩
    rw [smockingref01_Fine.l0, if_pos (by omega), if_pos (by omega), rd34_at l i hlt, nx i (by omega), h2, hd, List.any_cons]
    unfold badE
    by_cases c1 : l[i].f0 < 0
    · rw [if_pos c1]; simp [c1]
    · rw [if_neg c1]
      by_cases c2 : l[i].f1 > (s.size : Int)
      · rw [if_pos c2]; simp [c2]
      · rw [if_neg c2]
        by_cases c3 : l[i].f0 > l[i].f1
        · rw [if_pos c3]; simp [c3]
        · rw [if_neg c3]
          have d1 : decide (l[i].f0 < 0) = false := decide_eq_false c1
          have d2 : decide ((s.size : Int) < l[i].f1) = false := decide_eq_false (by omega)
          have d3 : decide (l[i].f1 < l[i].f0) = false := decide_eq_false (by omega)
          rw [d1, d2, d3]
          rfl
theorem fine_l2 (l : List S34) (hl : l.length ≤ 1000000) (i : Nat) (hi : i < l.length) : ∀ (m j k B : Nat), i - j = m → j ≤ i → m + 2 + B ≤ k →
    ((∃ q, ∃ _ : q < l.length, q < i ∧ clE l[i] l[q] = true) ∧ smockingref01_Fine.l2 k l (i : Int) (j : Int) = some 10) ∨
    ((∀ q, ∀ _ : q < l.length, j ≤ q → q < i → clE l[i] l[q] = false) ∧ ∃ k', B ≤ k' ∧ smockingref01_Fine.l2 k l (i : Int) (j : Int) = smockingref01_Fine.l1 k' l ((i + 1 : Nat) : Int)) := by
  intro m
  induction m with
  | zero =>
    intro j k B hm hj hk
    obtain ⟨k, rfl⟩ : ∃ q, k = q + 1 := ⟨k - 1, by omega⟩
    refine .inr ⟨fun q _ h1 h2 => by omega, k, by omega, ?_⟩
    rw [smockingref01_Fine.l2, if_neg (by omega), nx i (by omega)]
  | succ m ih =>
    intro j k B hm hj hk
    obtain ⟨k, rfl⟩ : ∃ q, k = q + 2 := ⟨k - 2, by omega⟩
    have hlt : j < l.length := by omega
    have hh := ih (j + 1) (k + 1) B (by omega) (by omega) (by omega)
    rw [smockingref01_Fine.l2, if_pos (by omega), if_pos (by omega), if_pos (by omega), if_pos (by omega), if_pos (by omega), rd34_at l i hi, rd34_at l j hlt, neS34, nx j (by omega), touch_f, Option.bind_some]
    by_cases c1 : l[i] ≠ l[j]
    · rw [if_pos (decide_eq_true c1)]
      cases c2 : Tx.touch (toE l[i]) (toE l[j]) with
      | true =>
        rw [if_pos rfl]
        exact .inl ⟨⟨j, hlt, by omega, by unfold clE; rw [c2, decide_eq_true c1]; rfl⟩, rfl⟩
      | false =>
        rw [if_neg (show ¬ (false = true) by decide)]
        have c3 : clE l[i] l[j] = false := by unfold clE; rw [c2, Bool.and_false]
        rcases hh with ⟨h1, h2⟩ | ⟨h1, h2⟩
        · exact .inl ⟨h1, h2⟩
        · refine .inr ⟨fun q hq g1 g2 => ?_, h2⟩
          rcases Nat.eq_or_lt_of_le g1 with e | e
          · subst e; exact c3
          · exact h1 q hq e g2
    · rw [if_neg (show ¬ (decide (l[i] ≠ l[j]) = true) by rw [decide_eq_false c1]; decide)]
      have c3 : clE l[i] l[j] = false := by unfold clE; rw [decide_eq_false c1, Bool.false_and]
      rcases hh with ⟨h1, h2⟩ | ⟨h1, h2⟩
      · exact .inl ⟨h1, h2⟩
      · refine .inr ⟨fun q hq g1 g2 => ?_, h2⟩
        rcases Nat.eq_or_lt_of_le g1 with e | e
        · subst e; exact c3
        · exact h1 q hq e g2
theorem fine_l1 (l : List S34) (N : Nat) (hN : l.length ≤ N) (hN2 : N ≤ 1000000) : ∀ (m i k : Nat), l.length - i = m → i ≤ l.length → m * (N + 4) + 1 ≤ k →
    ((∃ p, ∃ _ : p < l.length, ∃ q, ∃ _ : q < l.length, clE l[p] l[q] = true) ∧ smockingref01_Fine.l1 k l (i : Int) = some 10) ∨
    ((∀ p, ∀ _ : p < l.length, ∀ q, ∀ _ : q < l.length, i ≤ p → q < p → clE l[p] l[q] = false) ∧ smockingref01_Fine.l1 k l (i : Int) = some 0) := by
  intro m
  induction m with
  | zero =>
    intro i k hm hi hk
    obtain ⟨k, rfl⟩ : ∃ q, k = q + 1 := ⟨k - 1, by omega⟩
    refine .inr ⟨fun p _ q _ h1 h2 => by omega, ?_⟩
    rw [smockingref01_Fine.l1, if_neg (by omega)]
  | succ m ih =>
    intro i k hm hi hk
    rw [Nat.succ_mul] at hk
    obtain ⟨k, rfl⟩ : ∃ q, k = q + 1 := ⟨k - 1, by omega⟩
    have hlt : i < l.length := by omega
    rw [smockingref01_Fine.l1, if_pos (by omega)]
    rcases fine_l2 l (by omega) i hlt i 0 k (m * (N + 4) + 1) (by omega) (by omega) (by omega) with ⟨⟨q, hq, h1, h2⟩, h3⟩ | ⟨h1, k', h2, h3⟩
    · exact .inl ⟨⟨i, hlt, q, hq, h2⟩, h3⟩
    · rw [show (0 : Int) = ((0 : Nat) : Int) from rfl, h3]
      rcases ih (i + 1) k' (by omega) (by omega) h2 with ⟨g1, g2⟩ | ⟨g1, g2⟩
      · exact .inl ⟨g1, g2⟩
      · refine .inr ⟨fun p hp q hq e1 e2 => ?_, g2⟩
        rcases Nat.eq_or_lt_of_le e1 with e | e
        · subst e; exact h1 q hq (Nat.zero_le _) e2
        · exact g1 p hp q hq e e2
theorem clE_symm (x y : S34) : clE x y = clE y x := by
  unfold clE
  rw [Tx.touch_symm, show decide (x ≠ y) = decide (y ≠ x) from decide_eq_decide.2 ⟨fun h e => h e.symm, fun h e => h e.symm⟩]
theorem fine_f (s : ByteArray) (l : List S34) (N : Nat) (hN : l.length ≤ N) (hN2 : N ≤ 1000000) (k : Nat) (hk : N * (N + 4) + N + 5 ≤ k) : smockingref01_Fine.f k s l = some (fineE s.size l) := by
  obtain ⟨k, rfl⟩ : ∃ q, k = q + 1 := ⟨k - 1, by omega⟩
  have hmul : l.length * (N + 4) ≤ N * (N + 4) := Nat.mul_le_mul_right _ hN
  unfold smockingref01_Fine.f fineE
  by_cases c1 : 200000 < s.size
  · rw [if_pos (by omega), if_pos (Or.inl c1), smockingref01_Fine.j0, if_pos rfl]
  · rw [if_neg (by omega)]
    by_cases c2 : 10000 < l.length
    · rw [if_pos (Or.inr c2), smockingref01_Fine.j0, if_pos (decide_eq_true (by omega))]
    · rw [if_neg (show ¬ (200000 < s.size ∨ 10000 < l.length) by rintro (q | q); exact c1 q; exact c2 q), smockingref01_Fine.j0, if_neg (show ¬ (decide ((l.length : Int) > 10000) = true) by rw [decide_eq_false (by omega)]; decide)]
      obtain ⟨k', h1, h2⟩ := fine_l0 s l (by omega) l.length 0 k (l.length * (N + 4) + 1) (by omega) (by omega) (by omega)
      rw [show ((0 : Nat) : Int) = 0 from rfl, List.drop_zero] at h2
      rw [h2]
      by_cases c3 : l.any (badE s.size) = true
      · rw [if_pos c3, if_pos c3]
      · rw [if_neg c3, if_neg c3]
        have hok : Tx.Okay (s.size : Int) ((Tx.ord eltS l).map toE) := fun e he => by
          obtain ⟨x, hx, rfl⟩ := List.mem_map.1 he
          have hx' := (Tx.mem_ord eltS_lin).1 hx
          have hb : badE s.size x = false := by
            cases q : badE s.size x with
            | false => rfl
            | true => exact absurd (List.any_eq_true.2 ⟨x, hx', q⟩) c3
          unfold badE at hb
          simp only [Bool.or_eq_false_iff, decide_eq_false_iff_not] at hb
          show 0 ≤ x.f0 ∧ x.f0 ≤ x.f1 ∧ x.f1 ≤ (s.size : Int)
          omega
        have hasc : Tx.Asc Tx.elt ((Tx.ord eltS l).map toE) := List.pairwise_map.2 (Tx.asc_ord eltS_lin)
        have hci := Tx.clash_iff hok hasc
        rcases fine_l1 l N hN hN2 l.length 0 k' (by omega) (by omega) h1 with ⟨⟨p, hp, q, hq, g1⟩, g2⟩ | ⟨g1, g2⟩
        · rw [show ((0 : Nat) : Int) = 0 from rfl] at g2
          rw [g2, if_pos]
          unfold clE at g1
          rw [Bool.and_eq_true] at g1
          refine hci.2 ⟨_, List.mem_map.2 ⟨l[p], (Tx.mem_ord eltS_lin).2 (List.getElem_mem hp), rfl⟩, _, List.mem_map.2 ⟨l[q], (Tx.mem_ord eltS_lin).2 (List.getElem_mem hq), rfl⟩, fun e => of_decide_eq_true g1.1 (toE_inj e), g1.2⟩
        · rw [show ((0 : Nat) : Int) = 0 from rfl] at g2
          rw [g2, if_neg]
          intro hc
          obtain ⟨a, ha, b, hb, hab, ht⟩ := hci.1 hc
          obtain ⟨x, hx, rfl⟩ := List.mem_map.1 ha
          obtain ⟨y, hy, rfl⟩ := List.mem_map.1 hb
          obtain ⟨p, hp, rfl⟩ := List.mem_iff_getElem.1 ((Tx.mem_ord eltS_lin).1 hx)
          obtain ⟨q, hq, rfl⟩ := List.mem_iff_getElem.1 ((Tx.mem_ord eltS_lin).1 hy)
          have hcl : clE l[p] l[q] = true := by
            unfold clE
            rw [ht, Bool.and_true]
            exact decide_eq_true (fun e => hab (by rw [e]))
          rcases Nat.lt_trichotomy p q with e | e | e
          · have := g1 q hq p hp (Nat.zero_le _) e
            rw [clE_symm, hcl] at this; cases this
          · subst e; exact hab rfl
          · have := g1 p hp q hq (Nat.zero_le _) e
            rw [hcl] at this; cases this
end Go.Proofs.YthimblhfjfngiaaDoor.PText

namespace Go.Proofs.YthimblhfjfngiaaDoor.PText
open Go.RowKit Go.Lib Go.Proofs.YthimblhfjfngiaaDoorW.PrintWords Go.Proofs.YthimblhfjfngiaaDoorW.PrintLast Go.Proofs.YthimblhfjfngiaaDoorW.PrintMore
theorem rjoined_l0 (l : List S34) (hl : l.length ≤ 1000000) : ∀ (m i k : Nat) (D : List S34) (c : S34), l.length - i = m → i ≤ l.length → m + 1 ≤ k → D.length ≤ i → c.f2.size + sumS (l.drop i) ≤ 1000000000000000 →
    smockingref01_joined.l0 k l (D ++ [c]) (i : Int) = some (D ++ jgoS c (l.drop i)) := by
  intro m
  induction m with
  | zero =>
    intro i k D c hm hi hk hD hz
    obtain ⟨k, rfl⟩ : ∃ q, k = q + 1 := ⟨k - 1, by omega⟩
    rw [smockingref01_joined.l0, if_neg (by omega), List.drop_of_length_le (by omega)]
    rfl
  | succ m ih =>
    intro i k D c hm hi hk hD hz
    obtain ⟨k, rfl⟩ : ∃ q, k = q + 1 := ⟨k - 1, by omega⟩
    have hlt : i < l.length := by omega
    have hd : l.drop i = l[i] :: l.drop (i + 1) := List.drop_eq_getElem_cons hlt
    rw [hd, sumS_cons] at hz
    obtain ⟨w1, w2, w3⟩ := last_rd D c (by omega)
    have e2 : (D ++ [c]).length = D.length + 1 := by rw [List.length_append, List.length_singleton]
    have nomatch_ : (¬ (l[i].f0 = l[i].f1 ∧ c.f0 = l[i].f0 ∧ c.f1 = l[i].f0)) → smockingref01_joined.l0 k l (D ++ [c] ++ [(⟨l[i].f0, l[i].f1, l[i].f2⟩ : S34)]) ((i + 1 : Nat) : Int) = some (D ++ jgoS c (l[i] :: l.drop (i + 1))) := by
      intro hn
      rw [ih (i + 1) k (D ++ [c]) ⟨l[i].f0, l[i].f1, l[i].f2⟩ (by omega) (by omega) (by omega) (by omega) (by show l[i].f2.size + _ ≤ _; omega)]
      have e : jgoS c (l[i] :: l.drop (i + 1)) = if l[i].f0 = l[i].f1 ∧ c.f0 = l[i].f0 ∧ c.f1 = l[i].f0 then jgoS ⟨c.f0, c.f1, c.f2 ++ l[i].f2⟩ (l.drop (i + 1)) else c :: jgoS l[i] (l.drop (i + 1)) := rfl
      rw [e, if_neg hn, List.append_assoc, List.singleton_append]
    rw [smockingref01_joined.l0, if_pos (by omega), w1, if_pos (by omega), if_pos (by omega), rd34_at l i hlt, nx i (by omega), hd, w2, e2]
    by_cases c1 : l[i].f0 = l[i].f1
    · rw [if_pos c1, if_pos (by omega), if_pos (by omega)]
      by_cases c2 : c.f0 = l[i].f0
      · rw [if_pos c2]
        by_cases c3 : c.f1 = l[i].f0
        · rw [if_pos c3, if_pos (by omega), Int.toNat_natCast, set_last]
          rw [ih (i + 1) k D ⟨c.f0, c.f1, c.f2 ++ l[i].f2⟩ (by omega) (by omega) (by omega) (by omega) (by show (c.f2 ++ l[i].f2).size + _ ≤ _; rw [ByteArray.size_append]; omega)]
          have e : jgoS c (l[i] :: l.drop (i + 1)) = if l[i].f0 = l[i].f1 ∧ c.f0 = l[i].f0 ∧ c.f1 = l[i].f0 then jgoS ⟨c.f0, c.f1, c.f2 ++ l[i].f2⟩ (l.drop (i + 1)) else c :: jgoS l[i] (l.drop (i + 1)) := rfl
          rw [e, if_pos ⟨c1, c2, c3⟩]
        · rw [if_neg c3, if_pos (by omega)]
          exact nomatch_ (fun q => c3 q.2.2)
      · rw [if_neg c2, if_pos (by omega)]
        exact nomatch_ (fun q => c2 q.2.1)
    · rw [if_neg c1, if_pos (by omega)]
      exact nomatch_ (fun q => c1 q.1)
theorem rjoined_f (l : List S34) (hl : l.length ≤ 1000000) (hz : sumS l ≤ 1000000000000000) (k : Nat) (hk : l.length + 1 ≤ k) : smockingref01_joined.f k l = some (jnS l) := by
  obtain ⟨k, rfl⟩ : ∃ q, k = q + 1 := ⟨k - 1, by omega⟩
  unfold smockingref01_joined.f
  cases l with
  | nil => rw [smockingref01_joined.l0, if_neg (by simp)]; rfl
  | cons x l =>
    rw [List.length_cons] at hl hk
    have h := rjoined_l0 (x :: l) hl l.length 1 k [] x (by simp) (by simp) (by omega) (Nat.zero_le _) (by rw [sumS_cons] at hz; exact hz)
    rw [smockingref01_joined.l0, if_pos (by rw [List.length_cons]; omega), neg1, if_neg (by omega), if_pos (by omega), if_pos (by simp)]
    rw [show wrap64 (0 + 1) = ((1 : Nat) : Int) by unfold wrap64; omega]
    exact h
end Go.Proofs.YthimblhfjfngiaaDoor.PText

namespace Go.Proofs.YthimblhfjfngiaaDoor.PText
open Go.RowKit Go.Lib Go.Proofs.YthimblhfjfngiaaDoorW.PrintWords Go.Proofs.YthimblhfjfngiaaDoorW.PrintLast Go.Proofs.YthimblhfjfngiaaDoorW.PrintMore
theorem eqEdits_l0 (l : List S34) (hl : l.length ≤ 1000000) : ∀ (m i k : Nat), l.length - i = m → i ≤ l.length → m + 1 ≤ k → rf0_EqEdits.l0 k l l (i : Int) = some true := by
  intro m
  induction m with
  | zero =>
    intro i k hm hi hk
    obtain ⟨k, rfl⟩ : ∃ q, k = q + 1 := ⟨k - 1, by omega⟩
    rw [rf0_EqEdits.l0, if_neg (by omega)]
  | succ m ih =>
    intro i k hm hi hk
    obtain ⟨k, rfl⟩ : ∃ q, k = q + 1 := ⟨k - 1, by omega⟩
    have hlt : i < l.length := by omega
    rw [rf0_EqEdits.l0, if_pos (by omega), if_pos (by omega), if_pos (by omega), neS34, if_neg (show ¬ (decide (rd_T34 l (i : Int) ≠ rd_T34 l (i : Int)) = true) by simp), nx i (by omega)]
    exact ih (i + 1) k (by omega) (by omega) (by omega)
theorem eqEdits_f (l : List S34) (hl : l.length ≤ 1000000) (k : Nat) (hk : l.length + 1 ≤ k) : rf0_EqEdits.f k l l = some true := by
  unfold rf0_EqEdits.f
  rw [if_pos rfl]
  exact eqEdits_l0 l hl l.length 0 k (by omega) (by omega) hk
end Go.Proofs.YthimblhfjfngiaaDoor.PText

