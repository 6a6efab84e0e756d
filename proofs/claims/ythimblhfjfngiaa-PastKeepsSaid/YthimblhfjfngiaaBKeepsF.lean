/- PastKeeps holds: for all steps and every file's name the statement answers true. Part 6 of 20. -/
import Derived.Test.YthimblhfjfngiaaBKeepsE
import Derived.Lib.Walk
namespace Go.Proofs.Ythimblhfjfngiaa.PText
open Go.RowKit Go.Proofs.YthimblhfjfngiaaW.PrintWords Go.Proofs.YthimblhfjfngiaaW.PrintLast Go.Proofs.YthimblhfjfngiaaW.PrintMore
attribute [local go_sem] max2_int min2_int max_two min_two max_three min_three max_four min_four   -- for this text's walks alone
set_option linter.unusedVariables false
set_option linter.unusedSimpArgs false

def smockingref01_Lines.l0 : Nat → ByteArray → List ByteArray → Int → Int → Option (List ByteArray)
 | 0, _, _, _, _ => none
 | k + 1, x0, x3, x4, x5 => if x5 < (x0.size : Int) then (if 0 ≤ x5 then (if (bt x0 x5) = 10 then (if 0 ≤ x4 then (if x4 ≤ (wrap64 (x5 + 1)) then (if (wrap64 (x5 + 1)) ≤ (x0.size : Int) then (if x3.length < 8796093022208 then (smockingref01_Lines.l0 k x0 (x3 ++ [x0.extract (x4 : Int).toNat ((wrap64 (x5 + 1)) : Int).toNat]) (wrap64 (x5 + 1)) (wrap64 (x5 + 1))) else (none)) else (none)) else (none)) else (none)) else (smockingref01_Lines.l0 k x0 x3 x4 (wrap64 (x5 + 1)))) else (none)) else (if x4 < (x0.size : Int) then (if 0 ≤ x4 then (if x4 ≤ (x0.size : Int) then (if x3.length < 8796093022208 then (some (x3 ++ [x0.extract (x4 : Int).toNat x0.size])) else (none)) else (none)) else (none)) else (some x3))
def smockingref01_Lines.f (k : Nat) (a0 : ByteArray) : Option (List ByteArray) := smockingref01_Lines.l0 k a0 ([] : List ByteArray) 0 0
set_option maxHeartbeats 8000000 in
set_option maxRecDepth 100000 in
theorem smockingref01_Lines.calls (k : Nat) (a0 : ByteArray) (r : List ByteArray) (w : World) (h : smockingref01_Lines.f k a0 = some r) :
  Calls Try.prog 13 #[.string a0] w fun e w' => ∃ v0_ : Value, e = .returned (v0_) ∧ Kd.R Kd.string 9 w' w.heap.size (fun _ => True) v0_ r ∧ Below w.heap.size w w' := by
 have HB := Aside0.mk (Below.refl w.heap.size w)
 have H : (smockingref01_Lines.l0 k a0 ([] : List ByteArray) 0 0) = some r := h
 clear h
 have H' := Aside0.mk H
 clear H
 go_enter Try.func13, Try.ntmps13
 go_wp2
 try simp only [Act.put, List.setIfInBounds_toArray, List.set_cons_succ, List.set_cons_zero]
 go_loopg [3, 4, 5] k (fun kq v3 v4 v5 w' => ∃ (x3_1 : List ByteArray) (x4_1 : Int) (x5_1 : Int), v4 = .int .i64 x4_1 ∧ v5 = .int .i64 x5_1 ∧ Aside0 (smockingref01_Lines.l0 kq a0 x3_1 x4_1 x5_1 = some r) ∧ Aside0 (kq ≤ k) ∧ Aside0 (Kd.R Kd.string 9 w' w.heap.size (fun _ => True) v3 x3_1) ∧ Aside0 (Below w.heap.size w w'))
 case atStart => exact ⟨(([] : List ByteArray)), (0), (0), (by first | rfl | (simp; done) | (simp [*]; done)), (by first | rfl | (simp; done) | (simp [*]; done)), H', ⟨Nat.le_refl _⟩, ⟨by first | exact Kd.R_nil _ _ _ _ _ | exact Kd.N_nil _ _ _ _ _ | exact Kd.V_nil _ _ _ _ _ | exact Kd.Q_nil _ _ _ _ _ | exact Kd.S_nil _ _ _ _ _⟩, ⟨by repeat (with_reducible first | exact HB.out | apply below_alloc | apply pw_below_drewN | apply below_drew1)⟩⟩
 case round =>
  clear H'
  try clear c1
  obtain ⟨x3_1, x4_1, x5_1, rfl, rfl, HA, HK1, HO_3, HB⟩ := hrel
  cases gk with
  | zero => exact absurd HA.out (by simp [smockingref01_Lines.l0])
  | succ k1 =>
   have H := HA.out
   clear HA
   simp only [smockingref01_Lines.l0] at H
   by_cases c2 : x5_1 < (a0.size : Int)
   ·rw [if_pos c2] at H
    have c2b0 : decide (x5_1 < (a0.size : Int)) = true := decide_eq_true c2
    clear c2
    by_cases c3 : 0 ≤ x5_1
    ·rw [if_pos c3] at H
     have c3b0 : decide (0 ≤ x5_1) = true := decide_eq_true c3
     clear c3
     by_cases c5 : (bt a0 x5_1) = 10
     ·rw [if_pos c5] at H
      have c5b0 : ((bt a0 x5_1) == 10) = true := beq_iff_eq.mpr c5
      have c5b1 : ((bt a0 x5_1) != 10) = false := bne_eq_false_iff_eq.mpr c5
      clear c5
      by_cases c6 : 0 ≤ x4_1
      ·rw [if_pos c6] at H
       have c6b0 := eq_true c6
       have c6b1 : decide (0 ≤ x4_1) = true := decide_eq_true c6
       clear c6
       by_cases c7 : x4_1 ≤ (wrap64 (x5_1 + 1))
       ·rw [if_pos c7] at H
        have c7b0 := eq_true c7
        have c7b1 : decide (x4_1 ≤ (wrap64 (x5_1 + 1))) = true := decide_eq_true c7
        by_cases c8 : (wrap64 (x5_1 + 1)) ≤ (a0.size : Int)
        ·rw [if_pos c8] at H
         have c8b0 := eq_true c8
         have c8b1 : decide ((wrap64 (x5_1 + 1)) ≤ (a0.size : Int)) = true := decide_eq_true c8
         by_cases c9 : x3_1.length < 8796093022208
         ·rw [if_pos c9] at H
          have LMc9 := Aside0.mk c9
          clear c9
          obtain ⟨y196, hy196⟩ : ∃ y_ : List ByteArray, y_ = (x3_1 ++ [a0.extract (x4_1 : Int).toNat ((wrap64 (x5_1 + 1)) : Int).toNat]) := ⟨_, rfl⟩
          replace H : (smockingref01_Lines.l0 k1 a0 y196 (wrap64 (x5_1 + 1)) (wrap64 (x5_1 + 1))) = some r := by first | (rw [hy196]; with_reducible exact H) | (have H2_ := (Option.bind_some _ _).symm.trans H; rw [hy196]; with_reducible exact H2_) | (have H2_ := (Option.bind_some _ _).symm.trans H; with_reducible exact H2_) | with_reducible exact H | (rw [hy196]; exact H) | exact H
          have Ny196 := Aside0.mk hy196
          clear hy196
          have H' := Aside0.mk H
          clear H
          have p4 : 0 ≤ (x5_1 : Int) := of_decide_eq_true (by assumption)
          have q4 : x5_1 < (a0.size : Int) := of_decide_eq_true (by assumption)
          have hx4 := bt_at a0 x5_1
          replace p4 := eq_true p4
          replace q4 := eq_true q4
          go_wp2_with (first | ((with_reducible refine gate_builtin (b := .append) (xs := #[.tmp 16, .tmp 22]) rfl ?_); at_builtin; refine Kd.R_append Kd.string (w0 := w) w.heap.size rfl (.tmp 16) (.tmp 22) 32 9 (.string ⟨#[]⟩) 16 rfl Try.underlying32 info9 rfl (by decide) (by omega) u3 x3_1 (a0.extract (x4_1 : Int).toNat ((wrap64 (x5_1 + 1)) : Int).toNat) [.string (a0.extract (x4_1 : Int).toNat ((wrap64 (x5_1 + 1)) : Int).toNat)] (fun _ => True) (fun _ => False) rfl rfl ?aP (fun _ hk => hk.elim) ?aF ?aO ?aB ?aS ?aL ?_; (case aP => exact rfl); (case aB => exact (by repeat (with_reducible first | exact HB.out | apply below_alloc | apply pw_below_drewN | apply below_drew1))); (case aF => exact (fun _ _ => trivial)); (case aO => exact (by (with_reducible repeat (first | apply Kd.R_alloc | apply Kd.R_drewN | apply Kd.R_drew)); exact HO_3.out)); (case aS => exact (below_size (by repeat (with_reducible first | exact HB.out | apply below_alloc | apply pw_below_drewN | apply below_drew1)))); (case aL => have := LMc9.out; omega); intro v197 w10 ho hb hg hat; rw [← Ny196.out] at ho; have n0_ := Aside0.mk (hb); have n1_ := Aside0.mk (ho); clear HB; clear HO_3; have HB := n0_; have HO198 := n1_; clear n0_ n1_; clear ho hb hg hat))
          go_roundg k1
          case measure => have := HK1.out; omega
          case rel => exact ⟨(y196), (wrap64 (x5_1 + 1)), (wrap64 (x5_1 + 1)), (by first | rfl | (simp; done) | (simp [*]; done)), (by first | rfl | (simp; done) | (simp [*]; done)), H', ⟨by have := HK1.out; omega⟩, ⟨by (with_reducible repeat (first | apply Kd.R_alloc | apply Kd.R_drewN | apply Kd.R_drew)); exact HO198.out⟩, ⟨by repeat (with_reducible first | exact HB.out | apply below_alloc | apply pw_below_drewN | apply below_drew1)⟩⟩
         ·rw [if_neg c9] at H
          exact absurd H (by simp)
        ·rw [if_neg c8] at H
         exact absurd H (by simp)
       ·rw [if_neg c7] at H
        exact absurd H (by simp)
      ·rw [if_neg c6] at H
       exact absurd H (by simp)
     ·rw [if_neg c5] at H
      have c5b0 : ((bt a0 x5_1) == 10) = false := beq_eq_false_iff_ne.mpr c5
      have c5b1 : ((bt a0 x5_1) != 10) = true := bne_iff_ne.mpr c5
      have H' := Aside0.mk H
      clear H
      have p4 : 0 ≤ (x5_1 : Int) := of_decide_eq_true (by assumption)
      have q4 : x5_1 < (a0.size : Int) := of_decide_eq_true (by assumption)
      have hx4 := bt_at a0 x5_1
      replace p4 := eq_true p4
      replace q4 := eq_true q4
      go_wp2
      go_roundg k1
      case measure => have := HK1.out; omega
      case rel => exact ⟨(x3_1), (x4_1), (wrap64 (x5_1 + 1)), (by first | rfl | (simp; done) | (simp [*]; done)), (by first | rfl | (simp; done) | (simp [*]; done)), H', ⟨by have := HK1.out; omega⟩, ⟨by (with_reducible repeat (first | apply Kd.R_alloc | apply Kd.R_drewN | apply Kd.R_drew)); exact HO_3.out⟩, ⟨by repeat (with_reducible first | exact HB.out | apply below_alloc | apply pw_below_drewN | apply below_drew1)⟩⟩
    ·rw [if_neg c3] at H
     exact absurd H (by simp)
   ·rw [if_neg c2] at H
    have c2b0 : decide (x5_1 < (a0.size : Int)) = false := decide_eq_false c2
    clear c2
    by_cases c11 : x4_1 < (a0.size : Int)
    ·rw [if_pos c11] at H
     have c11b0 : decide (x4_1 < (a0.size : Int)) = true := decide_eq_true c11
     clear c11
     by_cases c12 : 0 ≤ x4_1
     ·rw [if_pos c12] at H
      have c12b0 := eq_true c12
      have c12b1 : decide (0 ≤ x4_1) = true := decide_eq_true c12
      clear c12
      by_cases c13 : x4_1 ≤ (a0.size : Int)
      ·rw [if_pos c13] at H
       have c13b0 := eq_true c13
       have c13b1 : decide (x4_1 ≤ (a0.size : Int)) = true := decide_eq_true c13
       clear c13
       by_cases c14 : x3_1.length < 8796093022208
       ·rw [if_pos c14] at H
        have LMc14 := Aside0.mk c14
        clear c14
        obtain ⟨y199, hy199⟩ : ∃ y_ : List ByteArray, y_ = (x3_1 ++ [a0.extract (x4_1 : Int).toNat a0.size]) := ⟨_, rfl⟩
        replace H : (some y199) = some r := by first | (rw [hy199]; with_reducible exact H) | (have H2_ := (Option.bind_some _ _).symm.trans H; rw [hy199]; with_reducible exact H2_) | (have H2_ := (Option.bind_some _ _).symm.trans H; with_reducible exact H2_) | with_reducible exact H | (rw [hy199]; exact H) | exact H
        have Ny199 := Aside0.mk hy199
        clear hy199
        obtain rfl := Option.some.inj H
        go_wp2_with (first | ((with_reducible refine gate_builtin (b := .append) (xs := #[.tmp 30, .tmp 34]) rfl ?_); at_builtin; refine Kd.R_append Kd.string (w0 := w) w.heap.size rfl (.tmp 30) (.tmp 34) 32 9 (.string ⟨#[]⟩) 16 rfl Try.underlying32 info9 rfl (by decide) (by omega) u3 x3_1 (a0.extract (x4_1 : Int).toNat a0.size) [.string (a0.extract (x4_1 : Int).toNat a0.size)] (fun _ => True) (fun _ => False) rfl rfl ?aP (fun _ hk => hk.elim) ?aF ?aO ?aB ?aS ?aL ?_; (case aP => exact rfl); (case aB => exact (by repeat (with_reducible first | exact HB.out | apply below_alloc | apply pw_below_drewN | apply below_drew1))); (case aF => exact (fun _ _ => trivial)); (case aO => exact (by (with_reducible repeat (first | apply Kd.R_alloc | apply Kd.R_drewN | apply Kd.R_drew)); exact HO_3.out)); (case aS => exact (below_size (by repeat (with_reducible first | exact HB.out | apply below_alloc | apply pw_below_drewN | apply below_drew1)))); (case aL => have := LMc14.out; omega); intro v200 w15 ho hb hg hat; rw [← Ny199.out] at ho; have n0_ := Aside0.mk (hb); have n1_ := Aside0.mk (ho); clear HB; clear HO_3; have HB := n0_; have HO201 := n1_; clear n0_ n1_; clear ho hb hg hat))
        go_ret
        exact ⟨_, by first | rfl | (simp [errW_none, errW_some] <;> rfl) | (simp [*, errW_none, errW_some] <;> rfl), by (with_reducible repeat (first | apply Kd.R_alloc | apply Kd.R_drewN | apply Kd.R_drew)); exact HO201.out, by repeat (with_reducible first | exact HB.out | apply below_alloc | apply pw_below_drewN | apply below_drew1)⟩
       ·rw [if_neg c14] at H
        exact absurd H (by simp)
      ·rw [if_neg c13] at H
       exact absurd H (by simp)
     ·rw [if_neg c12] at H
      exact absurd H (by simp)
    ·rw [if_neg c11] at H
     have c11b0 : decide (x4_1 < (a0.size : Int)) = false := decide_eq_false c11
     clear c11
     obtain rfl := Option.some.inj H
     go_wp2
     go_ret
     exact ⟨_, by first | rfl | (simp [errW_none, errW_some] <;> rfl) | (simp [*, errW_none, errW_some] <;> rfl), by (with_reducible repeat (first | apply Kd.R_alloc | apply Kd.R_drewN | apply Kd.R_drew)); exact HO_3.out, by repeat (with_reducible first | exact HB.out | apply below_alloc | apply pw_below_drewN | apply below_drew1)⟩

end Go.Proofs.Ythimblhfjfngiaa.PText

namespace Go.Proofs.Ythimblhfjfngiaa.PText
open Go.RowKit Go.Proofs.YthimblhfjfngiaaW.PrintWords Go.Proofs.YthimblhfjfngiaaW.PrintLast Go.Proofs.YthimblhfjfngiaaW.PrintMore
attribute [local go_sem] max2_int min2_int max_two min_two max_three min_three max_four min_four   -- for this text's walks alone
set_option linter.unusedVariables false
set_option linter.unusedSimpArgs false

attribute [local go_sem high] eqA59
def past_meet.f (a0_0 : Int) (a0_1 : Int) (a0_2 : ByteArray) (a1_0 : Int) (a1_1 : Int) (a1_2 : ByteArray) : Option (Bool) := if (!(a0_0 == a1_0) || (!(a0_1 == a1_1) || (!(a0_2.toList == a1_2.toList)))) = true then (if a0_0 ≤ a1_1 then (some (decide (a1_0 ≤ a0_1))) else (some false)) else (some false)
set_option maxHeartbeats 8000000 in
set_option maxRecDepth 100000 in
theorem past_meet.calls (a0_0 : Int) (a0_1 : Int) (a0_2 : ByteArray) (a1_0 : Int) (a1_1 : Int) (a1_2 : ByteArray) (r : Bool) (w : World) (h : past_meet.f a0_0 a0_1 a0_2 a1_0 a1_1 a1_2 = some r) :
  Calls Try.prog 26 #[.agg #[.int .i64 a0_0, .int .i64 a0_1, .string a0_2], .agg #[.int .i64 a1_0, .int .i64 a1_1, .string a1_2]] w fun e w' => e = .returned (.bool r) ∧ Below w.heap.size w w' := by
 have hu59 := Try.underlying59
 have HB := Aside0.mk (Below.refl w.heap.size w)
 have H : (if (!(a0_0 == a1_0) || (!(a0_1 == a1_1) || (!(a0_2.toList == a1_2.toList)))) = true then (if a0_0 ≤ a1_1 then (some (decide (a1_0 ≤ a0_1))) else (some false)) else (some false)) = some r := h
 clear h
 by_cases c3 : (!(a0_0 == a1_0) || (!(a0_1 == a1_1) || (!(a0_2.toList == a1_2.toList)))) = true
 ·rw [if_pos c3] at H
  have c3b0 : (!(a0_0 == a1_0) || (!(a0_1 == a1_1) || (!(a0_2.toList == a1_2.toList)))) = true := c3
  clear c3
  by_cases c4 : a0_0 ≤ a1_1
  ·rw [if_pos c4] at H
   have c4b0 : decide (a0_0 ≤ a1_1) = true := decide_eq_true c4
   clear c4
   obtain rfl := Option.some.inj H
   go_enter Try.func26, Try.ntmps26
   go_wp2_with (first | ((with_reducible refine gate_dst (N := 2) rfl ?_); refine box_event ?hg (N := 2) ?hd (cs := #[.int .i64 a0_0, .int .i64 a0_1, .string a0_2]) (t := 59) ?hr ?_; (case hd => rfl); (case hg => rfl); (case hr => first | (go_simp; done) | (go_simp; rfl)); intro gb387 hg w5 hbox hb; have n0_ := Aside0.mk (below_step (by repeat (with_reducible first | exact HB.out | apply below_alloc | apply pw_below_drewN | apply below_drew1)) hb); have n1_ := Aside0.mk (hbox); have n2_ := Aside0.mk ((by rw [hg]; exact (below_size (by repeat (with_reducible first | exact HB.out | apply below_alloc | apply pw_below_drewN | apply below_drew1))) : w.heap.size ≤ gb387)); have n3_ := Aside0.mk ((by rw [hg]; exact (below_size (by repeat (with_reducible first | exact HB.out | apply below_alloc | apply pw_below_drewN | apply below_drew1))) : w.heap.size ≤ gb387)); clear HB; have HB := n0_; have BK387 := n1_; have GW387 := n2_; have GE387 := n3_; clear n0_ n1_ n2_ n3_; clear hb hbox hg) | ((with_reducible refine gate_dst (N := 3) rfl ?_); refine box_event ?hg (N := 3) ?hd (cs := #[.int .i64 a1_0, .int .i64 a1_1, .string a1_2]) (t := 59) ?hr ?_; (case hd => rfl); (case hg => rfl); (case hr => first | (go_simp; done) | (go_simp; rfl)); intro gb388 hg w6 hbox hb; have n0_ := Aside0.mk (blk_below (g := gb387) (o := .cells #[.int .i64 a0_0, .int .i64 a0_1, .string a0_2] 59 (0, 0)) (by (with_reducible repeat (first | refine blk_drewN ?_ _ | refine blk_drew ?_ | refine blk_alloc ?_ _)); exact BK387.out) hb); have n1_ := Aside0.mk (below_step (by repeat (with_reducible first | exact HB.out | apply below_alloc | apply pw_below_drewN | apply below_drew1 | refine below_set ?_ GE387.out)) hb); have n2_ := Aside0.mk (hbox); have n3_ := Aside0.mk ((by rw [hg]; exact (below_size (by repeat (with_reducible first | exact HB.out | apply below_alloc | apply pw_below_drewN | apply below_drew1 | refine below_set ?_ GE387.out))) : w.heap.size ≤ gb388)); have n4_ := Aside0.mk ((by rw [hg]; exact (below_size (by repeat (with_reducible first | exact HB.out | apply below_alloc | apply pw_below_drewN | apply below_drew1 | refine below_set ?_ GE387.out))) : w.heap.size ≤ gb388)); have n5_ := Aside0.mk ((by rw [hg]; exact Nat.ne_of_lt (blk_lt (g := gb387) (o := .cells #[.int .i64 a0_0, .int .i64 a0_1, .string a0_2] 59 (0, 0)) (by (with_reducible repeat (first | refine blk_drewN ?_ _ | refine blk_drew ?_ | refine blk_alloc ?_ _)); exact BK387.out)) : gb387 ≠ gb388)); have n6_ := Aside0.mk ((by rw [hg]; exact Nat.ne_of_gt (blk_lt (g := gb387) (o := .cells #[.int .i64 a0_0, .int .i64 a0_1, .string a0_2] 59 (0, 0)) (by (with_reducible repeat (first | refine blk_drewN ?_ _ | refine blk_drew ?_ | refine blk_alloc ?_ _)); exact BK387.out)) : gb388 ≠ gb387)); clear BK387; clear HB; have BK387 := n0_; have HB := n1_; have BK388 := n2_; have GW388 := n3_; have GE388 := n4_; have NB387_388 := n5_; have NB388_387 := n6_; clear n0_ n1_ n2_ n3_ n4_ n5_ n6_; clear hb hbox hg; have hnb7 := NB387_388.out; have hnc7 := NB388_387.out; have hcz8_0 : w6.cell? ⟨gb387, 0, none⟩ = some (.int .i64 a0_0) := (blk_cell BK387.out 0).trans rfl; have hcz8_1 : w6.cell? ⟨gb387, 1, none⟩ = some (.int .i64 a0_1) := (blk_cell BK387.out 1).trans rfl; have hcz8_2 : w6.cell? ⟨gb387, 2, none⟩ = some (.string a0_2) := (blk_cell BK387.out 2).trans rfl; have hfz8_0 := blk_frozen BK387.out 0; have hfz8_1 := blk_frozen BK387.out 1; have hfz8_2 := blk_frozen BK387.out 2; have hcz9_0 : w6.cell? ⟨gb388, 0, none⟩ = some (.int .i64 a1_0) := (blk_cell BK388.out 0).trans rfl; have hcz9_1 : w6.cell? ⟨gb388, 1, none⟩ = some (.int .i64 a1_1) := (blk_cell BK388.out 1).trans rfl; have hcz9_2 : w6.cell? ⟨gb388, 2, none⟩ = some (.string a1_2) := (blk_cell BK388.out 2).trans rfl; have hfz9_0 := blk_frozen BK388.out 0; have hfz9_1 := blk_frozen BK388.out 1; have hfz9_2 := blk_frozen BK388.out 2))
   go_ret
   exact ⟨by first | rfl | (simp [errW_none, errW_some] <;> rfl) | (simp [*, errW_none, errW_some] <;> rfl), by repeat (with_reducible first | exact HB.out | apply below_alloc | apply pw_below_drewN | apply below_drew1 | refine below_set ?_ GE387.out | refine below_set ?_ GE388.out)⟩
  ·rw [if_neg c4] at H
   have c4b0 : decide (a0_0 ≤ a1_1) = false := decide_eq_false c4
   clear c4
   obtain rfl := Option.some.inj H
   go_enter Try.func26, Try.ntmps26
   go_wp2_with (first | ((with_reducible refine gate_dst (N := 2) rfl ?_); refine box_event ?hg (N := 2) ?hd (cs := #[.int .i64 a0_0, .int .i64 a0_1, .string a0_2]) (t := 59) ?hr ?_; (case hd => rfl); (case hg => rfl); (case hr => first | (go_simp; done) | (go_simp; rfl)); intro gb387 hg w10 hbox hb; have n0_ := Aside0.mk (below_step (by repeat (with_reducible first | exact HB.out | apply below_alloc | apply pw_below_drewN | apply below_drew1)) hb); have n1_ := Aside0.mk (hbox); have n2_ := Aside0.mk ((by rw [hg]; exact (below_size (by repeat (with_reducible first | exact HB.out | apply below_alloc | apply pw_below_drewN | apply below_drew1))) : w.heap.size ≤ gb387)); have n3_ := Aside0.mk ((by rw [hg]; exact (below_size (by repeat (with_reducible first | exact HB.out | apply below_alloc | apply pw_below_drewN | apply below_drew1))) : w.heap.size ≤ gb387)); clear HB; have HB := n0_; have BK387 := n1_; have GW387 := n2_; have GE387 := n3_; clear n0_ n1_ n2_ n3_; clear hb hbox hg) | ((with_reducible refine gate_dst (N := 3) rfl ?_); refine box_event ?hg (N := 3) ?hd (cs := #[.int .i64 a1_0, .int .i64 a1_1, .string a1_2]) (t := 59) ?hr ?_; (case hd => rfl); (case hg => rfl); (case hr => first | (go_simp; done) | (go_simp; rfl)); intro gb388 hg w11 hbox hb; have n0_ := Aside0.mk (blk_below (g := gb387) (o := .cells #[.int .i64 a0_0, .int .i64 a0_1, .string a0_2] 59 (0, 0)) (by (with_reducible repeat (first | refine blk_drewN ?_ _ | refine blk_drew ?_ | refine blk_alloc ?_ _)); exact BK387.out) hb); have n1_ := Aside0.mk (below_step (by repeat (with_reducible first | exact HB.out | apply below_alloc | apply pw_below_drewN | apply below_drew1 | refine below_set ?_ GE387.out)) hb); have n2_ := Aside0.mk (hbox); have n3_ := Aside0.mk ((by rw [hg]; exact (below_size (by repeat (with_reducible first | exact HB.out | apply below_alloc | apply pw_below_drewN | apply below_drew1 | refine below_set ?_ GE387.out))) : w.heap.size ≤ gb388)); have n4_ := Aside0.mk ((by rw [hg]; exact (below_size (by repeat (with_reducible first | exact HB.out | apply below_alloc | apply pw_below_drewN | apply below_drew1 | refine below_set ?_ GE387.out))) : w.heap.size ≤ gb388)); have n5_ := Aside0.mk ((by rw [hg]; exact Nat.ne_of_lt (blk_lt (g := gb387) (o := .cells #[.int .i64 a0_0, .int .i64 a0_1, .string a0_2] 59 (0, 0)) (by (with_reducible repeat (first | refine blk_drewN ?_ _ | refine blk_drew ?_ | refine blk_alloc ?_ _)); exact BK387.out)) : gb387 ≠ gb388)); have n6_ := Aside0.mk ((by rw [hg]; exact Nat.ne_of_gt (blk_lt (g := gb387) (o := .cells #[.int .i64 a0_0, .int .i64 a0_1, .string a0_2] 59 (0, 0)) (by (with_reducible repeat (first | refine blk_drewN ?_ _ | refine blk_drew ?_ | refine blk_alloc ?_ _)); exact BK387.out)) : gb388 ≠ gb387)); clear BK387; clear HB; have BK387 := n0_; have HB := n1_; have BK388 := n2_; have GW388 := n3_; have GE388 := n4_; have NB387_388 := n5_; have NB388_387 := n6_; clear n0_ n1_ n2_ n3_ n4_ n5_ n6_; clear hb hbox hg; have hnb12 := NB387_388.out; have hnc12 := NB388_387.out; have hcz13_0 : w11.cell? ⟨gb387, 0, none⟩ = some (.int .i64 a0_0) := (blk_cell BK387.out 0).trans rfl; have hcz13_1 : w11.cell? ⟨gb387, 1, none⟩ = some (.int .i64 a0_1) := (blk_cell BK387.out 1).trans rfl; have hcz13_2 : w11.cell? ⟨gb387, 2, none⟩ = some (.string a0_2) := (blk_cell BK387.out 2).trans rfl; have hfz13_0 := blk_frozen BK387.out 0; have hfz13_1 := blk_frozen BK387.out 1; have hfz13_2 := blk_frozen BK387.out 2; have hcz14_0 : w11.cell? ⟨gb388, 0, none⟩ = some (.int .i64 a1_0) := (blk_cell BK388.out 0).trans rfl; have hcz14_1 : w11.cell? ⟨gb388, 1, none⟩ = some (.int .i64 a1_1) := (blk_cell BK388.out 1).trans rfl; have hcz14_2 : w11.cell? ⟨gb388, 2, none⟩ = some (.string a1_2) := (blk_cell BK388.out 2).trans rfl; have hfz14_0 := blk_frozen BK388.out 0; have hfz14_1 := blk_frozen BK388.out 1; have hfz14_2 := blk_frozen BK388.out 2))
   go_ret
   exact ⟨by first | rfl | (simp [errW_none, errW_some] <;> rfl) | (simp [*, errW_none, errW_some] <;> rfl), by repeat (with_reducible first | exact HB.out | apply below_alloc | apply pw_below_drewN | apply below_drew1 | refine below_set ?_ GE387.out | refine below_set ?_ GE388.out)⟩
 ·rw [if_neg c3] at H
  have c3b0 : (!(a0_0 == a1_0) || (!(a0_1 == a1_1) || (!(a0_2.toList == a1_2.toList)))) = false := by simpa using c3
  clear c3
  obtain rfl := Option.some.inj H
  go_enter Try.func26, Try.ntmps26
  go_wp2_with (first | ((with_reducible refine gate_dst (N := 2) rfl ?_); refine box_event ?hg (N := 2) ?hd (cs := #[.int .i64 a0_0, .int .i64 a0_1, .string a0_2]) (t := 59) ?hr ?_; (case hd => rfl); (case hg => rfl); (case hr => first | (go_simp; done) | (go_simp; rfl)); intro gb387 hg w15 hbox hb; have n0_ := Aside0.mk (below_step (by repeat (with_reducible first | exact HB.out | apply below_alloc | apply pw_below_drewN | apply below_drew1)) hb); have n1_ := Aside0.mk (hbox); have n2_ := Aside0.mk ((by rw [hg]; exact (below_size (by repeat (with_reducible first | exact HB.out | apply below_alloc | apply pw_below_drewN | apply below_drew1))) : w.heap.size ≤ gb387)); have n3_ := Aside0.mk ((by rw [hg]; exact (below_size (by repeat (with_reducible first | exact HB.out | apply below_alloc | apply pw_below_drewN | apply below_drew1))) : w.heap.size ≤ gb387)); clear HB; have HB := n0_; have BK387 := n1_; have GW387 := n2_; have GE387 := n3_; clear n0_ n1_ n2_ n3_; clear hb hbox hg) | ((with_reducible refine gate_dst (N := 3) rfl ?_); refine box_event ?hg (N := 3) ?hd (cs := #[.int .i64 a1_0, .int .i64 a1_1, .string a1_2]) (t := 59) ?hr ?_; (case hd => rfl); (case hg => rfl); (case hr => first | (go_simp; done) | (go_simp; rfl)); intro gb388 hg w16 hbox hb; have n0_ := Aside0.mk (blk_below (g := gb387) (o := .cells #[.int .i64 a0_0, .int .i64 a0_1, .string a0_2] 59 (0, 0)) (by (with_reducible repeat (first | refine blk_drewN ?_ _ | refine blk_drew ?_ | refine blk_alloc ?_ _)); exact BK387.out) hb); have n1_ := Aside0.mk (below_step (by repeat (with_reducible first | exact HB.out | apply below_alloc | apply pw_below_drewN | apply below_drew1 | refine below_set ?_ GE387.out)) hb); have n2_ := Aside0.mk (hbox); have n3_ := Aside0.mk ((by rw [hg]; exact (below_size (by repeat (with_reducible first | exact HB.out | apply below_alloc | apply pw_below_drewN | apply below_drew1 | refine below_set ?_ GE387.out))) : w.heap.size ≤ gb388)); have n4_ := Aside0.mk ((by rw [hg]; exact (below_size (by repeat (with_reducible first | exact HB.out | apply below_alloc | apply pw_below_drewN | apply below_drew1 | refine below_set ?_ GE387.out))) : w.heap.size ≤ gb388)); have n5_ := Aside0.mk ((by rw [hg]; exact Nat.ne_of_lt (blk_lt (g := gb387) (o := .cells #[.int .i64 a0_0, .int .i64 a0_1, .string a0_2] 59 (0, 0)) (by (with_reducible repeat (first | refine blk_drewN ?_ _ | refine blk_drew ?_ | refine blk_alloc ?_ _)); exact BK387.out)) : gb387 ≠ gb388)); have n6_ := Aside0.mk ((by rw [hg]; exact Nat.ne_of_gt (blk_lt (g := gb387) (o := .cells #[.int .i64 a0_0, .int .i64 a0_1, .string a0_2] 59 (0, 0)) (by (with_reducible repeat (first | refine blk_drewN ?_ _ | refine blk_drew ?_ | refine blk_alloc ?_ _)); exact BK387.out)) : gb388 ≠ gb387)); clear BK387; clear HB; have BK387 := n0_; have HB := n1_; have BK388 := n2_; have GW388 := n3_; have GE388 := n4_; have NB387_388 := n5_; have NB388_387 := n6_; clear n0_ n1_ n2_ n3_ n4_ n5_ n6_; clear hb hbox hg; have hnb17 := NB387_388.out; have hnc17 := NB388_387.out; have hcz18_0 : w16.cell? ⟨gb387, 0, none⟩ = some (.int .i64 a0_0) := (blk_cell BK387.out 0).trans rfl; have hcz18_1 : w16.cell? ⟨gb387, 1, none⟩ = some (.int .i64 a0_1) := (blk_cell BK387.out 1).trans rfl; have hcz18_2 : w16.cell? ⟨gb387, 2, none⟩ = some (.string a0_2) := (blk_cell BK387.out 2).trans rfl; have hfz18_0 := blk_frozen BK387.out 0; have hfz18_1 := blk_frozen BK387.out 1; have hfz18_2 := blk_frozen BK387.out 2; have hcz19_0 : w16.cell? ⟨gb388, 0, none⟩ = some (.int .i64 a1_0) := (blk_cell BK388.out 0).trans rfl; have hcz19_1 : w16.cell? ⟨gb388, 1, none⟩ = some (.int .i64 a1_1) := (blk_cell BK388.out 1).trans rfl; have hcz19_2 : w16.cell? ⟨gb388, 2, none⟩ = some (.string a1_2) := (blk_cell BK388.out 2).trans rfl; have hfz19_0 := blk_frozen BK388.out 0; have hfz19_1 := blk_frozen BK388.out 1; have hfz19_2 := blk_frozen BK388.out 2))
  go_ret
  exact ⟨by first | rfl | (simp [errW_none, errW_some] <;> rfl) | (simp [*, errW_none, errW_some] <;> rfl), by repeat (with_reducible first | exact HB.out | apply below_alloc | apply pw_below_drewN | apply below_drew1 | refine below_set ?_ GE387.out | refine below_set ?_ GE388.out)⟩

end Go.Proofs.Ythimblhfjfngiaa.PText

namespace Go.Proofs.Ythimblhfjfngiaa.PText
open Go.RowKit Go.Proofs.YthimblhfjfngiaaW.PrintWords Go.Proofs.YthimblhfjfngiaaW.PrintLast Go.Proofs.YthimblhfjfngiaaW.PrintMore
attribute [local go_sem] max2_int min2_int max_two min_two max_three min_three max_four min_four   -- for this text's walks alone
set_option linter.unusedVariables false
set_option linter.unusedSimpArgs false

def rf0_Has.l0 : Nat → List ByteArray → ByteArray → Int → Option (Int)
 | 0, _, _, _ => none
 | k + 1, x0, x1, x5 => if x5 < (x0.length : Int) then (if 0 ≤ x5 then (if (rdOf ByteArray.empty x0 x5).toList = x1.toList then (some x5) else (rf0_Has.l0 k x0 x1 (wrap64 (x5 + 1)))) else (none)) else (some (-1))
def rf0_Has.f (k : Nat) (l0 : List ByteArray) (a1 : ByteArray) : Option (Int) := rf0_Has.l0 k l0 a1 0
set_option maxHeartbeats 8000000 in
set_option maxRecDepth 100000 in
theorem rf0_Has.calls (k : Nat) (A0 : Option Addr) (c0 : Nat) (l0 : List ByteArray) (a1 : ByteArray) (r : Int) (w : World) (hr0 : Kd.C Kd.string w A0 l0.length l0) (hc0 : l0.length ≤ c0) (h : rf0_Has.f k l0 a1 = some r) :
  Calls Try.prog 14 #[.slice A0 l0.length c0, .string a1] w fun e w' => e = .returned (.int .i64 r) ∧ Drawn0 w w' := by
 have HR0 := Aside0.mk hr0
 have HC0 := Aside0.mk hc0
 clear hr0 hc0
 have H : (rf0_Has.l0 k l0 a1 0) = some r := h
 clear h
 have H' := Aside0.mk H
 clear H
 go_enter Try.func14, Try.ntmps14
 go_wp2
 try simp only [Act.put, List.setIfInBounds_toArray, List.set_cons_succ, List.set_cons_zero]
 go_loopg [5] k (fun kq v5 w' => ∃ (x5_1 : Int), v5 = .int .i64 x5_1 ∧ Aside0 (rf0_Has.l0 kq l0 a1 x5_1 = some r) ∧ Aside0 (kq ≤ k) ∧ Drawn0 w w')
 case atStart => exact ⟨(0), (by first | rfl | (simp; done) | (simp [*]; done)), H', ⟨Nat.le_refl _⟩, by repeat (first | exact Drawn0.refl _ | apply Drawn0.step)⟩
 case round =>
  clear H'
  try clear c1
  try clear p2
  obtain ⟨x5_1, rfl, HA, HK1, ⟨m1, rfl⟩⟩ := hrel
  cases gk with
  | zero => exact absurd HA.out (by simp [rf0_Has.l0])
  | succ k1 =>
   have H := HA.out
   clear HA
   simp only [rf0_Has.l0] at H
   by_cases c3 : x5_1 < (l0.length : Int)
   ·rw [if_pos c3] at H
    have c3b0 : decide (x5_1 < (l0.length : Int)) = true := decide_eq_true c3
    clear c3
    by_cases c4 : 0 ≤ x5_1
    ·rw [if_pos c4] at H
     have c4b0 : decide (0 ≤ x5_1) = true := decide_eq_true c4
     clear c4
     by_cases c5 : (rdOf ByteArray.empty l0 x5_1).toList = a1.toList
     ·rw [if_pos c5] at H
      have c5b0 : ((rdOf ByteArray.empty l0 x5_1).toList == a1.toList) = true := beq_iff_eq.mpr c5
      have c5b1 : ((rdOf ByteArray.empty l0 x5_1).toList != a1.toList) = false := bne_eq_false_iff_eq.mpr c5
      clear c5
      obtain rfl := Option.some.inj H
      have p424 : 0 ≤ (x5_1 : Int) := of_decide_eq_true (by assumption)
      have q424 : x5_1 < (l0.length : Int) := of_decide_eq_true (by assumption)
      obtain ⟨ad424, e424, hx424_0⟩ := Kd.at_string HR0.out x5_1 p424 q424
      cases e424
      replace p424 := eq_true p424
      replace q424 := eq_true q424
      go_wp2
      go_ret
      exact ⟨by first | rfl | (simp; done) | (simp [*]; done), by repeat (first | exact Drawn0.refl _ | apply Drawn0.step)⟩
     ·rw [if_neg c5] at H
      have c5b0 : ((rdOf ByteArray.empty l0 x5_1).toList == a1.toList) = false := beq_eq_false_iff_ne.mpr c5
      have c5b1 : ((rdOf ByteArray.empty l0 x5_1).toList != a1.toList) = true := bne_iff_ne.mpr c5
      have H' := Aside0.mk H
      clear H
      have p424 : 0 ≤ (x5_1 : Int) := of_decide_eq_true (by assumption)
      have q424 : x5_1 < (l0.length : Int) := of_decide_eq_true (by assumption)
      obtain ⟨ad424, e424, hx424_0⟩ := Kd.at_string HR0.out x5_1 p424 q424
      cases e424
      replace p424 := eq_true p424
      replace q424 := eq_true q424
      go_wp2
      go_roundg k1
      case measure => have := HK1.out; omega
      case rel => exact ⟨(wrap64 (x5_1 + 1)), (by first | rfl | (simp; done) | (simp [*]; done)), H', ⟨by have := HK1.out; omega⟩, by repeat (first | exact Drawn0.refl _ | apply Drawn0.step)⟩
    ·rw [if_neg c4] at H
     exact absurd H (by simp)
   ·rw [if_neg c3] at H
    have c3b0 : decide (x5_1 < (l0.length : Int)) = false := decide_eq_false c3
    clear c3
    obtain rfl := Option.some.inj H
    go_wp2
    go_ret
    exact ⟨by first | rfl | (simp; done) | (simp [*]; done), by repeat (first | exact Drawn0.refl _ | apply Drawn0.step)⟩

end Go.Proofs.Ythimblhfjfngiaa.PText

namespace Go.Proofs.Ythimblhfjfngiaa.PText
open Go.RowKit Go.Proofs.YthimblhfjfngiaaW.PrintWords Go.Proofs.YthimblhfjfngiaaW.PrintLast Go.Proofs.YthimblhfjfngiaaW.PrintMore
attribute [local go_sem] max2_int min2_int max_two min_two max_three min_three max_four min_four   -- for this text's walks alone
set_option linter.unusedVariables false
set_option linter.unusedSimpArgs false

def rf0_EqInts.l0 : Nat → List Int → List Int → Int → Option (Bool)
 | 0, _, _, _ => none
 | k + 1, x0, x1, x5 => if x5 < (x0.length : Int) then (if 0 ≤ x5 then (if x5 < (x1.length : Int) then (if (rd x0 x5) = (rd x1 x5) then (rf0_EqInts.l0 k x0 x1 (wrap64 (x5 + 1))) else (some false)) else (none)) else (none)) else (some true)
def rf0_EqInts.f (k : Nat) (l0 : List Int) (l1 : List Int) : Option (Bool) := if (l0.length : Int) = (l1.length : Int) then (rf0_EqInts.l0 k l0 l1 0) else (some false)
set_option maxHeartbeats 8000000 in
set_option maxRecDepth 100000 in
theorem rf0_EqInts.calls (k : Nat) (A0 : Option Addr) (c0 : Nat) (l0 : List Int) (A1 : Option Addr) (c1 : Nat) (l1 : List Int) (r : Bool) (w : World) (hr0 : Kd.C (Kd.int .i64) w A0 l0.length l0) (hc0 : l0.length ≤ c0) (hr1 : Kd.C (Kd.int .i64) w A1 l1.length l1) (hc1 : l1.length ≤ c1) (h : rf0_EqInts.f k l0 l1 = some r) :
  Calls Try.prog 22 #[.slice A0 l0.length c0, .slice A1 l1.length c1] w fun e w' => e = .returned (.bool r) ∧ Drawn0 w w' := by
 have HR0 := Aside0.mk hr0
 have HC0 := Aside0.mk hc0
 clear hr0 hc0
 have HR1 := Aside0.mk hr1
 have HC1 := Aside0.mk hc1
 clear hr1 hc1
 have H : (if (l0.length : Int) = (l1.length : Int) then (rf0_EqInts.l0 k l0 l1 0) else (some false)) = some r := h
 clear h
 by_cases c3 : (l0.length : Int) = (l1.length : Int)
 ·rw [if_pos c3] at H
  have c3b0 : ((l0.length : Int) == (l1.length : Int)) = true := beq_iff_eq.mpr c3
  have c3b1 : ((l0.length : Int) != (l1.length : Int)) = false := bne_eq_false_iff_eq.mpr c3
  have c3b2 : (l0.length == l1.length) = true := by first | simpa using c3 | (simp at c3 ⊢; omega)
  clear c3
  have H' := Aside0.mk H
  clear H
  go_enter Try.func22, Try.ntmps22
  go_wp2
  repeat (go_quiet (fail); try go_wp2)
  try simp only [Act.put, List.setIfInBounds_toArray, List.set_cons_succ, List.set_cons_zero]
  go_loopg [5] k (fun kq v5 w' => ∃ (x5_1 : Int), v5 = .int .i64 x5_1 ∧ Aside0 (rf0_EqInts.l0 kq l0 l1 x5_1 = some r) ∧ Aside0 (kq ≤ k) ∧ Drawn0 w w')
  case atStart => exact ⟨(0), (by first | rfl | (simp; done) | (simp [*]; done)), H', ⟨Nat.le_refl _⟩, by repeat (first | exact Drawn0.refl _ | apply Drawn0.step)⟩
  case round =>
   clear H'
   try clear c1
   try clear c2
   try clear p2
   try clear c3
   try clear c3b0
   try clear c3b1
   try clear c3b2
   obtain ⟨x5_1, rfl, HA, HK1, ⟨m1, rfl⟩⟩ := hrel
   cases gk with
   | zero => exact absurd HA.out (by simp [rf0_EqInts.l0])
   | succ k1 =>
    have H := HA.out
    clear HA
    simp only [rf0_EqInts.l0] at H
    by_cases c4 : x5_1 < (l0.length : Int)
    ·rw [if_pos c4] at H
     have c4b0 : decide (x5_1 < (l0.length : Int)) = true := decide_eq_true c4
     clear c4
     by_cases c5 : 0 ≤ x5_1
     ·rw [if_pos c5] at H
      have c5b0 : decide (0 ≤ x5_1) = true := decide_eq_true c5
      clear c5
      by_cases c6 : x5_1 < (l1.length : Int)
      ·rw [if_pos c6] at H
       have c6b0 : decide (x5_1 < (l1.length : Int)) = true := decide_eq_true c6
       clear c6
       by_cases c7 : (rd l0 x5_1) = (rd l1 x5_1)
       ·rw [if_pos c7] at H
        have c7b0 : ((rd l0 x5_1) == (rd l1 x5_1)) = true := beq_iff_eq.mpr c7
        have c7b1 : ((rd l0 x5_1) != (rd l1 x5_1)) = false := bne_eq_false_iff_eq.mpr c7
        clear c7
        have H' := Aside0.mk H
        clear H
        have p404 : 0 ≤ (x5_1 : Int) := of_decide_eq_true (by assumption)
        have q404 : x5_1 < (l0.length : Int) := of_decide_eq_true (by assumption)
        obtain ⟨ad404, e404, hx404_0⟩ := Kd.at_int HR0.out x5_1 p404 q404
        cases e404
        replace p404 := eq_true p404
        replace q404 := eq_true q404
        have p405 : 0 ≤ (x5_1 : Int) := of_decide_eq_true (by assumption)
        have q405 : x5_1 < (l1.length : Int) := of_decide_eq_true (by assumption)
        obtain ⟨ad405, e405, hx405_0⟩ := Kd.at_int HR1.out x5_1 p405 q405
        cases e405
        replace p405 := eq_true p405
        replace q405 := eq_true q405
        go_wp2
        repeat (go_quiet (fail); try go_wp2)
        go_roundg k1
        case measure => have := HK1.out; omega
        case rel => exact ⟨(wrap64 (x5_1 + 1)), (by first | rfl | (simp; done) | (simp [*]; done)), H', ⟨by have := HK1.out; omega⟩, by repeat (first | exact Drawn0.refl _ | apply Drawn0.step)⟩
       ·rw [if_neg c7] at H
        have c7b0 : ((rd l0 x5_1) == (rd l1 x5_1)) = false := beq_eq_false_iff_ne.mpr c7
        have c7b1 : ((rd l0 x5_1) != (rd l1 x5_1)) = true := bne_iff_ne.mpr c7
        obtain rfl := Option.some.inj H
        have p404 : 0 ≤ (x5_1 : Int) := of_decide_eq_true (by assumption)
        have q404 : x5_1 < (l0.length : Int) := of_decide_eq_true (by assumption)
        obtain ⟨ad404, e404, hx404_0⟩ := Kd.at_int HR0.out x5_1 p404 q404
        cases e404
        replace p404 := eq_true p404
        replace q404 := eq_true q404
        have p405 : 0 ≤ (x5_1 : Int) := of_decide_eq_true (by assumption)
        have q405 : x5_1 < (l1.length : Int) := of_decide_eq_true (by assumption)
        obtain ⟨ad405, e405, hx405_0⟩ := Kd.at_int HR1.out x5_1 p405 q405
        cases e405
        replace p405 := eq_true p405
        replace q405 := eq_true q405
        go_wp2
        repeat (go_quiet (fail); try go_wp2)
        go_ret
        exact ⟨by first | rfl | (simp; done) | (simp [*]; done), by repeat (first | exact Drawn0.refl _ | apply Drawn0.step)⟩
      ·rw [if_neg c6] at H
       exact absurd H (by simp)
     ·rw [if_neg c5] at H
      exact absurd H (by simp)
    ·rw [if_neg c4] at H
     have c4b0 : decide (x5_1 < (l0.length : Int)) = false := decide_eq_false c4
     clear c4
     obtain rfl := Option.some.inj H
     go_wp2
     repeat (go_quiet (fail); try go_wp2)
     go_ret
     exact ⟨by first | rfl | (simp; done) | (simp [*]; done), by repeat (first | exact Drawn0.refl _ | apply Drawn0.step)⟩
 ·rw [if_neg c3] at H
  have c3b0 : ((l0.length : Int) == (l1.length : Int)) = false := beq_eq_false_iff_ne.mpr c3
  have c3b1 : ((l0.length : Int) != (l1.length : Int)) = true := bne_iff_ne.mpr c3
  have c3b2 : (l0.length == l1.length) = false := by first | simpa using c3 | (simp at c3 ⊢; omega)
  obtain rfl := Option.some.inj H
  go_enter Try.func22, Try.ntmps22
  go_wp2
  repeat (go_quiet (fail); try go_wp2)
  go_ret
  exact ⟨by first | rfl | (simp; done) | (simp [*]; done), by repeat (first | exact Drawn0.refl _ | apply Drawn0.step)⟩

end Go.Proofs.Ythimblhfjfngiaa.PText

namespace Go.Proofs.Ythimblhfjfngiaa.PText
open Go.RowKit Go.Proofs.YthimblhfjfngiaaW.PrintWords Go.Proofs.YthimblhfjfngiaaW.PrintLast Go.Proofs.YthimblhfjfngiaaW.PrintMore
attribute [local go_sem] max2_int min2_int max_two min_two max_three min_three max_four min_four   -- for this text's walks alone
set_option linter.unusedVariables false
set_option linter.unusedSimpArgs false

attribute [local go_sem high] eqA59
def smockingref01_ordered.T9 : Bool × List (List Nat × List Nat) := (true, [([], []), ([0], [0]), ([1], [1]), ([1], [1]), ([2, 3, 1], [1, 2, 3]), ([4, 1], [1, 4]), ([1], [1]), ([1], [1]), ([6, 7, 1], [1, 6, 7]), ([8, 1], [1, 8]), ([5, 9, 1], [1, 5, 9]), ([1, 10], [1, 10]), ([11, 1, 0, 1, 2, 3, 4, 5, 6, 7, 8, 9, 10, 11], [0, 11])])
def smockingref01_ordered.B9 : List Nat := [0, 1, 3, 3, 15, 31, 3, 3, 195, 451, 1023, 2047, 4095]
theorem smockingref01_ordered.tab9 : rtab .any (opsOf Try.f70 9) = smockingref01_ordered.T9 := by kernel_rfl
theorem smockingref01_ordered.bits9 : waitsOk smockingref01_ordered.T9.2 smockingref01_ordered.B9 = true := by kernel_rfl
end Go.Proofs.Ythimblhfjfngiaa.PText

namespace Go.Proofs.Ythimblhfjfngiaa.PText
open Go.RowKit Go.Proofs.YthimblhfjfngiaaW.PrintWords Go.Proofs.YthimblhfjfngiaaW.PrintLast Go.Proofs.YthimblhfjfngiaaW.PrintMore
attribute [local go_sem] max2_int min2_int max_two min_two max_three min_three max_four min_four   -- for this text's walks alone
set_option linter.unusedVariables false
set_option linter.unusedSimpArgs false

def smockingref01_made.T11 : Bool × List (List Nat × List Nat) := (true, [([], []), ([], []), ([], []), ([2], [2]), ([], []), ([], []), ([], []), ([5, 6], [5, 6]), ([7], [7]), ([8], [8]), ([], []), ([], []), ([10, 11], [10, 11]), ([12], [12]), ([13], [13]), ([4, 9, 14], [4, 9, 14]), ([1, 3, 15], [1, 3, 15]), ([16], [16]), ([0, 17], [0, 17]), ([18, 18, 0, 1, 2, 3, 4, 5, 6, 7, 8, 9, 10, 11, 12, 13, 14, 15, 16, 17, 18], [0, 18])])
def smockingref01_made.B11 : List Nat := [0, 0, 0, 4, 0, 0, 0, 96, 224, 480, 0, 0, 3072, 7168, 15360, 32752, 65534, 131070, 262143, 524287]
theorem smockingref01_made.tab11 : rtab .any (opsOf Try.f51 11) = smockingref01_made.T11 := by kernel_rfl
theorem smockingref01_made.bits11 : waitsOk smockingref01_made.T11.2 smockingref01_made.B11 = true := by kernel_rfl
end Go.Proofs.Ythimblhfjfngiaa.PText

namespace Go.Proofs.Ythimblhfjfngiaa.PText
open Go.RowKit Go.Proofs.YthimblhfjfngiaaW.PrintWords Go.Proofs.YthimblhfjfngiaaW.PrintLast Go.Proofs.YthimblhfjfngiaaW.PrintMore
attribute [local go_sem] max2_int min2_int max_two min_two max_three min_three max_four min_four   -- for this text's walks alone
set_option linter.unusedVariables false
set_option linter.unusedSimpArgs false

mutual
def smockinglaw25_heavy.l0 : Nat → List (S70) → Int → Int → Option (Bool)
 | 0, _, _, _ => none
 | k + 1, x0, x3, x4 => if x4 < (x0.length : Int) then (smockinglaw25_heavy.j1 k x0 x3 x4 (decide (x3 ≤ 6000))) else (smockinglaw25_heavy.j1 k x0 x3 x4 false)
def smockinglaw25_heavy.j1 : Nat → List (S70) → Int → Int → Bool → Option (Bool)
 | 0, _, _, _, _ => none
 | k + 1, x0, x3, x4, x13 => if x13 = true then (smockinglaw25_heavy.l1 k x0 x3 x4 0) else (if x3 > 6000 then (some true) else (some (decide ((x0.length : Int) > 30))))
def smockinglaw25_heavy.l1 : Nat → List (S70) → Int → Int → Int → Option (Bool)
 | 0, _, _, _, _ => none
 | k + 1, x0, x3, x4, x5 => if 0 ≤ x4 then (if x4 < (x0.length : Int) then (if x5 < (((rd_T70 x0 x4).f1).length : Int) then (if x3 ≤ 6000 then (if 0 ≤ x5 then (smockinglaw25_heavy.l1 k x0 (wrap64 ((wrap64 ((wrap64 (x3 + 1)) + (((rd_T53 ((rd_T70 x0 x4).f1) x5).f0).size : Int))) + (((rd_T53 ((rd_T70 x0 x4).f1) x5).f1).size : Int))) x4 (wrap64 (x5 + 1))) else (none)) else (smockinglaw25_heavy.l0 k x0 x3 (wrap64 (x4 + 1)))) else (smockinglaw25_heavy.l0 k x0 x3 (wrap64 (x4 + 1)))) else (none)) else (none)
end
def smockinglaw25_heavy.f (k : Nat) (l0 : List (S70)) : Option (Bool) := smockinglaw25_heavy.l0 k l0 0 0
set_option maxHeartbeats 8000000 in
set_option maxRecDepth 100000 in
theorem smockinglaw25_heavy.calls (k : Nat) (A0 : Option Addr) (c0 : Nat) (l0 : List (S70)) (r : Bool) (w : World) (hr0 : Kd.C k70 w A0 l0.length l0) (hc0 : l0.length ≤ c0) (h : smockinglaw25_heavy.f k l0 = some r) :
  Calls Try.prog 16 #[.slice A0 l0.length c0] w fun e w' => e = .returned (.bool r) ∧ Drawn0 w w' := by
 have HR0 := Aside0.mk hr0
 have HC0 := Aside0.mk hc0
 clear hr0 hc0
 have H : (smockinglaw25_heavy.l0 k l0 0 0) = some r := h
 clear h
 have H' := Aside0.mk H
 clear H
 go_enter Try.func16, Try.ntmps16
 go_wp2
 repeat (go_quiet (fail); try go_wp2)
 try simp only [Act.put, List.setIfInBounds_toArray, List.set_cons_succ, List.set_cons_zero]
 go_loopg [3, 4] k (fun kq v3 v4 w' => ∃ (x3_1 : Int) (x4_1 : Int), v3 = .int .i64 x3_1 ∧ v4 = .int .i64 x4_1 ∧ Aside0 (smockinglaw25_heavy.l0 kq l0 x3_1 x4_1 = some r) ∧ Aside0 (kq ≤ k) ∧ Drawn0 w w')
 case atStart => exact ⟨(0), (0), (by first | rfl | (simp; done) | (simp [*]; done)), (by first | rfl | (simp; done) | (simp [*]; done)), H', ⟨Nat.le_refl _⟩, by repeat (first | exact Drawn0.refl _ | apply Drawn0.step)⟩
 case round =>
  clear H'
  try clear c1
  obtain ⟨x3_1, x4_1, rfl, rfl, HA, HK1, ⟨m1, rfl⟩⟩ := hrel
  cases gk with
  | zero => exact absurd HA.out (by simp [smockinglaw25_heavy.l0])
  | succ k1 =>
   have H := HA.out
   clear HA
   simp only [smockinglaw25_heavy.l0] at H
   have HC2 := Aside0.mk H
   clear H
   go_upto_region 3 with (fail)
   repeat (go_quiet (fail); go_upto_region 3 with (fail))
   go_cut [13] (fun v13 wc => ∃ (kq : Nat) (x13_1 : Bool), v13 = .bool x13_1 ∧ Aside0 (smockinglaw25_heavy.j1 kq l0 x3_1 x4_1 x13_1 = some r) ∧ Aside0 (kq ≤ k1) ∧ Drawn0 w wc)
   case first =>
    have H := HC2.out
    clear HC2
    by_cases c3 : x4_1 < (l0.length : Int)
    ·rw [if_pos c3] at H
     have c3b0 : decide (x4_1 < (l0.length : Int)) = true := decide_eq_true c3
     clear c3
     (first | rw [c3b0] | (simp only [i64_w, i32_w]; rw [c3b0]) | skip)
     have H' := Aside0.mk H
     clear H
     go_wp2
     repeat (go_quiet (fail); try go_wp2)
     go_meet
     case rel => exact ⟨_, (decide (x3_1 ≤ 6000)), (by first | rfl | (simp; done) | (simp [*]; done)), H', ⟨by have := HK1.out; first | omega | exact Nat.le_refl _⟩, by repeat (first | exact Drawn0.refl _ | apply Drawn0.step)⟩
    ·rw [if_neg c3] at H
     have c3b0 : decide (x4_1 < (l0.length : Int)) = false := decide_eq_false c3
     clear c3
     (first | rw [c3b0] | (simp only [i64_w, i32_w]; rw [c3b0]) | skip)
     have H' := Aside0.mk H
     clear H
     go_wp2
     repeat (go_quiet (fail); try go_wp2)
     go_meet
     case rel => exact ⟨_, (false), (by first | rfl | (simp; done) | (simp [*]; done)), H', ⟨by have := HK1.out; first | omega | exact Nat.le_refl _⟩, by repeat (first | exact Drawn0.refl _ | apply Drawn0.step)⟩
   case rest =>
    clear HC2
    try clear c1
    try clear p2
    try clear c3
    try clear c3b0
    obtain ⟨kq, x13_1, rfl, HA, HJ1, ⟨mc1, rfl⟩⟩ := hcut
    cases kq with
    | zero => exact absurd HA.out (by simp [smockinglaw25_heavy.j1])
    | succ kj1 =>
     have H := HA.out
     clear HA
     simp only [smockinglaw25_heavy.j1] at H
     by_cases c4 : x13_1 = true
     ·subst c4
      have H1 : (smockinglaw25_heavy.l1 kj1 l0 x3_1 x4_1 0) = some r := by rw [if_pos rfl] at H; exact H
      clear H
      have H := H1
      clear H1
      have H' := Aside0.mk H
      clear H
      go_wp2
      repeat (go_quiet (fail); try go_wp2)
      try simp only [Act.put, List.setIfInBounds_toArray, List.set_cons_succ, List.set_cons_zero]
      go_loopg [3, 5] kj1 (fun kq v3 v5 w' => ∃ (x3_3 : Int) (x5_3 : Int), v3 = .int .i64 x3_3 ∧ v5 = .int .i64 x5_3 ∧ Aside0 (smockinglaw25_heavy.l1 kq l0 x3_3 x4_1 x5_3 = some r) ∧ Aside0 (kq ≤ kj1) ∧ Drawn0 w w')
      case atStart => exact ⟨(x3_1), (0), (by first | rfl | (simp; done) | (simp [*]; done)), (by first | rfl | (simp; done) | (simp [*]; done)), H', ⟨Nat.le_refl _⟩, by repeat (first | exact Drawn0.refl _ | apply Drawn0.step)⟩
      case round =>
       clear H'
       try clear c1
       try clear p2
       try clear c3
       try clear c3b0
       try clear c4
       try clear p2
       obtain ⟨x3_3, x5_3, rfl, rfl, HA, HK3, ⟨m3, rfl⟩⟩ := hrel
       cases gk with
       | zero => exact absurd HA.out (by simp [smockinglaw25_heavy.l1])
       | succ k3 =>
        have H := HA.out
        clear HA
        simp only [smockinglaw25_heavy.l1] at H
        by_cases c5 : 0 ≤ x4_1
        ·rw [if_pos c5] at H
         have c5b0 : decide (0 ≤ x4_1) = true := decide_eq_true c5
         clear c5
         by_cases c6 : x4_1 < (l0.length : Int)
         ·rw [if_pos c6] at H
          have c6b0 : decide (x4_1 < (l0.length : Int)) = true := decide_eq_true c6
          clear c6
          by_cases c7 : x5_3 < (((rd_T70 l0 x4_1).f1).length : Int)
          ·rw [if_pos c7] at H
           have c7b0 : decide (x5_3 < (((rd_T70 l0 x4_1).f1).length : Int)) = true := decide_eq_true c7
           clear c7
           by_cases c8 : x3_3 ≤ 6000
           ·rw [if_pos c8] at H
            have c8b0 : decide (x3_3 ≤ 6000) = true := decide_eq_true c8
            clear c8
            by_cases c9 : 0 ≤ x5_3
            ·rw [if_pos c9] at H
             have c9b0 : decide (0 ≤ x5_3) = true := decide_eq_true c9
             clear c9
             have H' := Aside0.mk H
             clear H
             have p478 : 0 ≤ (x4_1 : Int) := of_decide_eq_true (by assumption)
             have q478 : x4_1 < (l0.length : Int) := of_decide_eq_true (by assumption)
             obtain ⟨ad478, A478_1, c478_1, e478, hx478_0, hx478_1, hl478_1, hi478_1⟩ := at_T70 HR0.out x4_1 p478 q478
             cases e478
             have HR478_1 := Aside0.mk hi478_1
             have HC478_1 := Aside0.mk hl478_1
             clear hi478_1 hl478_1
             replace p478 := eq_true p478
             replace q478 := eq_true q478
             have p479 : 0 ≤ (x4_1 : Int) := of_decide_eq_true (by assumption)
             have q479 : x4_1 < (l0.length : Int) := of_decide_eq_true (by assumption)
             obtain ⟨ad479, A479_1, c479_1, e479, hx479_0, hx479_1, hl479_1, hi479_1⟩ := at_T70 HR0.out x4_1 p479 q479
             obtain rfl : ad478 = ad479 := (by injection e479)
             have HR479_1 := Aside0.mk hi479_1
             have HC479_1 := Aside0.mk hl479_1
             clear hi479_1 hl479_1
             replace p479 := eq_true p479
             replace q479 := eq_true q479
             have ea_ := Option.some.inj (hx478_1.symm.trans hx479_1)
             injection ea_ with ea_ en_ ec_
             subst ea_
             subst ec_
             clear en_
             have p480 : 0 ≤ (x5_3 : Int) := of_decide_eq_true (by assumption)
             have q480 : x5_3 < (((rd_T70 l0 x4_1).f1).length : Int) := of_decide_eq_true (by assumption)
             obtain ⟨ad480, e480, hx480_0, hx480_1⟩ := at_T53 HR479_1.out x5_3 p480 q480
             cases e480
             replace p480 := eq_true p480
             replace q480 := eq_true q480
             have p481 : 0 ≤ (x4_1 : Int) := of_decide_eq_true (by assumption)
             have q481 : x4_1 < (l0.length : Int) := of_decide_eq_true (by assumption)
             obtain ⟨ad481, A481_1, c481_1, e481, hx481_0, hx481_1, hl481_1, hi481_1⟩ := at_T70 HR0.out x4_1 p481 q481
             obtain rfl : ad478 = ad481 := (by injection e481)
             have HR481_1 := Aside0.mk hi481_1
             have HC481_1 := Aside0.mk hl481_1
             clear hi481_1 hl481_1
             replace p481 := eq_true p481
             replace q481 := eq_true q481
             have ea_ := Option.some.inj (hx478_1.symm.trans hx481_1)
             injection ea_ with ea_ en_ ec_
             subst ea_
             subst ec_
             clear en_
             have p482 : 0 ≤ (x5_3 : Int) := of_decide_eq_true (by assumption)
             have q482 : x5_3 < (((rd_T70 l0 x4_1).f1).length : Int) := of_decide_eq_true (by assumption)
             obtain ⟨ad482, e482, hx482_0, hx482_1⟩ := at_T53 HR481_1.out x5_3 p482 q482
             cases e482
             replace p482 := eq_true p482
             replace q482 := eq_true q482
             go_wp2
             repeat (go_quiet (fail); try go_wp2)
             go_roundg k3
             case measure => have := HK1.out; have := HJ1.out; have := HK3.out; omega
             case rel => exact ⟨(wrap64 ((wrap64 ((wrap64 (x3_3 + 1)) + (((rd_T53 ((rd_T70 l0 x4_1).f1) x5_3).f0).size : Int))) + (((rd_T53 ((rd_T70 l0 x4_1).f1) x5_3).f1).size : Int))), (wrap64 (x5_3 + 1)), (by first | rfl | (simp; done) | (simp [*]; done)), (by first | rfl | (simp; done) | (simp [*]; done)), H', ⟨by have := HK1.out; have := HJ1.out; have := HK3.out; omega⟩, by repeat (first | exact Drawn0.refl _ | apply Drawn0.step)⟩
            ·rw [if_neg c9] at H
             exact absurd H (by simp)
           ·rw [if_neg c8] at H
            have c8b0 : decide (x3_3 ≤ 6000) = false := decide_eq_false c8
            clear c8
            have H' := Aside0.mk H
            clear H
            have p478 : 0 ≤ (x4_1 : Int) := of_decide_eq_true (by assumption)
            have q478 : x4_1 < (l0.length : Int) := of_decide_eq_true (by assumption)
            obtain ⟨ad478, A478_1, c478_1, e478, hx478_0, hx478_1, hl478_1, hi478_1⟩ := at_T70 HR0.out x4_1 p478 q478
            cases e478
            have HR478_1 := Aside0.mk hi478_1
            have HC478_1 := Aside0.mk hl478_1
            clear hi478_1 hl478_1
            replace p478 := eq_true p478
            replace q478 := eq_true q478
            go_wp2
            repeat (go_quiet (fail); try go_wp2)
            go_roundg k3
            case measure => have := HK1.out; have := HJ1.out; have := HK3.out; omega
            case rel => exact ⟨(x3_3), (wrap64 (x4_1 + 1)), (by first | rfl | (simp; done) | (simp [*]; done)), (by first | rfl | (simp; done) | (simp [*]; done)), H', ⟨by have := HK1.out; have := HJ1.out; have := HK3.out; omega⟩, by repeat (first | exact Drawn0.refl _ | apply Drawn0.step)⟩
          ·rw [if_neg c7] at H
           have c7b0 : decide (x5_3 < (((rd_T70 l0 x4_1).f1).length : Int)) = false := decide_eq_false c7
           clear c7
           have H' := Aside0.mk H
           clear H
           have p478 : 0 ≤ (x4_1 : Int) := of_decide_eq_true (by assumption)
           have q478 : x4_1 < (l0.length : Int) := of_decide_eq_true (by assumption)
           obtain ⟨ad478, A478_1, c478_1, e478, hx478_0, hx478_1, hl478_1, hi478_1⟩ := at_T70 HR0.out x4_1 p478 q478
           cases e478
           have HR478_1 := Aside0.mk hi478_1
           have HC478_1 := Aside0.mk hl478_1
           clear hi478_1 hl478_1
           replace p478 := eq_true p478
           replace q478 := eq_true q478
           go_wp2
           repeat (go_quiet (fail); try go_wp2)
           go_roundg k3
           case measure => have := HK1.out; have := HJ1.out; have := HK3.out; omega
           case rel => exact ⟨(x3_3), (wrap64 (x4_1 + 1)), (by first | rfl | (simp; done) | (simp [*]; done)), (by first | rfl | (simp; done) | (simp [*]; done)), H', ⟨by have := HK1.out; have := HJ1.out; have := HK3.out; omega⟩, by repeat (first | exact Drawn0.refl _ | apply Drawn0.step)⟩
         ·rw [if_neg c6] at H
          exact absurd H (by simp)
        ·rw [if_neg c5] at H
         exact absurd H (by simp)
     ·replace c4 := Bool.eq_false_iff.mpr c4
      subst c4
      have H1 : (if x3_1 > 6000 then (some true) else (some (decide ((l0.length : Int) > 30)))) = some r := by rw [if_neg (show ¬ (false = true) by decide)] at H; exact H
      clear H
      have H := H1
      clear H1
      by_cases c10 : x3_1 > 6000
      ·rw [if_pos c10] at H
       have c10b0 : decide (6000 < x3_1) = true := decide_eq_true c10
       clear c10
       obtain rfl := Option.some.inj H
       go_wp2
       repeat (go_quiet (fail); try go_wp2)
       go_ret
       exact ⟨by first | rfl | (simp; done) | (simp [*]; done), by repeat (first | exact Drawn0.refl _ | apply Drawn0.step)⟩
      ·rw [if_neg c10] at H
       have c10b0 : decide (6000 < x3_1) = false := decide_eq_false c10
       clear c10
       obtain rfl := Option.some.inj H
       go_wp2
       repeat (go_quiet (fail); try go_wp2)
       go_ret
       exact ⟨by first | rfl | (simp; done) | (simp [*]; done), by repeat (first | exact Drawn0.refl _ | apply Drawn0.step)⟩

end Go.Proofs.Ythimblhfjfngiaa.PText

namespace Go.Proofs.Ythimblhfjfngiaa.Tx
section
variable {α : Type} [DecidableEq α] {lt : α → α → Bool}
structure Lin (lt : α → α → Bool) : Prop where
  irr : ∀ a, lt a a = false
  tr : ∀ {a b c}, lt a b = true → lt b c = true → lt a c = true
  tri : ∀ {a b}, lt a b = false → lt b a = false → a = b
omit [DecidableEq α] in
theorem Lin.asym (h : Lin lt) {a b : α} (q : lt a b = true) : lt b a = false := by
  cases e : lt b a with
  | false => rfl
  | true => have := h.tr q e; rw [h.irr] at this; cases this
def Asc (lt : α → α → Bool) (l : List α) : Prop := l.Pairwise fun a b => lt a b = true
omit [DecidableEq α] in
theorem Asc.nil : Asc lt ([] : List α) := List.Pairwise.nil
omit [DecidableEq α] in
theorem asc_cons {a : α} {l : List α} : Asc lt (a :: l) ↔ (∀ b ∈ l, lt a b = true) ∧ Asc lt l := List.pairwise_cons
omit [DecidableEq α] in
theorem asc_append {l m : List α} : Asc lt (l ++ m) ↔ Asc lt l ∧ Asc lt m ∧ ∀ a ∈ l, ∀ b ∈ m, lt a b = true := List.pairwise_append
omit [DecidableEq α] in
theorem asc_unique (h : Lin lt) : ∀ {l m : List α}, Asc lt l → Asc lt m → (∀ a, a ∈ l ↔ a ∈ m) → l = m
  | [], [], _, _, _ => rfl
  | [], b :: m, _, _, q => by have := (q b).2 List.mem_cons_self; cases this
  | a :: l, [], _, _, q => by have := (q a).1 List.mem_cons_self; cases this
  | a :: l, b :: m, p1, p2, q => by
    obtain ⟨u1, v1⟩ := asc_cons.1 p1
    obtain ⟨u2, v2⟩ := asc_cons.1 p2
    have e : a = b := by
      rcases List.mem_cons.1 ((q a).1 List.mem_cons_self) with e | e
      · exact e
      rcases List.mem_cons.1 ((q b).2 List.mem_cons_self) with e' | e'
      · exact e'.symm
      have := h.asym (u2 a e)
      rw [u1 b e'] at this; cases this
    subst e
    rw [asc_unique h v1 v2 fun c => ⟨fun k => ?_, fun k => ?_⟩]
    · rcases List.mem_cons.1 ((q c).1 (List.mem_cons_of_mem _ k)) with e | e
      · subst e; have := u1 c k; rw [h.irr] at this; cases this
      · exact e
    · rcases List.mem_cons.1 ((q c).2 (List.mem_cons_of_mem _ k)) with e | e
      · subst e; have := u2 c k; rw [h.irr] at this; cases this
      · exact e
/-- The ascending list of a list's members. -/
def ord (lt : α → α → Bool) : List α → List α
  | [] => []
  | a :: l => ins a (ord lt l)
where ins (a : α) : List α → List α
  | [] => [a]
  | b :: l => if lt a b then a :: b :: l else if a = b then b :: l else b :: ins a l
theorem mem_ins (h : Lin lt) {a c : α} : ∀ {l : List α}, c ∈ ord.ins lt a l ↔ c = a ∨ c ∈ l
  | [] => by simp [ord.ins]
  | b :: l => by
    unfold ord.ins
    by_cases e : lt a b = true
    · rw [if_pos e, List.mem_cons]
    · rw [if_neg e]
      by_cases e' : a = b
      · rw [if_pos e']; subst e'; simp
      · rw [if_neg e', List.mem_cons, mem_ins h, List.mem_cons]
        constructor <;> rintro (k | k | k) <;> simp [k]
theorem asc_ins (h : Lin lt) {a : α} : ∀ {l : List α}, Asc lt l → Asc lt (ord.ins lt a l)
  | [], _ => List.pairwise_singleton _ _
  | b :: l, q => by
    obtain ⟨u, v⟩ := asc_cons.1 q
    unfold ord.ins
    by_cases e : lt a b = true
    · rw [if_pos e]
      exact asc_cons.2 ⟨fun c hc => (List.mem_cons.1 hc).elim (fun k => k ▸ e) fun k => h.tr e (u c k), q⟩
    · rw [if_neg e]
      by_cases e' : a = b
      · rw [if_pos e']; exact q
      · rw [if_neg e']
        refine asc_cons.2 ⟨fun c hc => ?_, asc_ins h v⟩
        rcases (mem_ins h).1 hc with k | k
        · subst k
          cases k : lt b c with
          | true => rfl
          | false => exact absurd (h.tri (by simpa using e) k) e'
        · exact u c k
theorem mem_ord (h : Lin lt) {c : α} : ∀ {l : List α}, c ∈ ord lt l ↔ c ∈ l
  | [] => Iff.rfl
  | a :: l => by unfold ord; rw [mem_ins h, mem_ord h, List.mem_cons]
theorem asc_ord (h : Lin lt) : ∀ {l : List α}, Asc lt (ord lt l)
  | [] => List.Pairwise.nil
  | a :: l => by unfold ord; exact asc_ins h (asc_ord h)
theorem ord_of_asc (h : Lin lt) {l m : List α} (q : Asc lt m) (k : ∀ a, a ∈ m ↔ a ∈ l) : m = ord lt l :=
  asc_unique h q (asc_ord h) fun a => by rw [mem_ord h]; exact k a
theorem ord_ord (h : Lin lt) {l : List α} (q : Asc lt l) : ord lt l = l := (ord_of_asc h q fun _ => Iff.rfl).symm
theorem ord_len (l : List α) : (ord lt l).length ≤ l.length := by
  have hi : ∀ (a : α) (m : List α), (ord.ins lt a m).length ≤ m.length + 1 := by
    intro a m
    induction m with
    | nil => simp [ord.ins]
    | cons b m ih =>
      unfold ord.ins
      split
      · simp
      split
      · simp
      · simp only [List.length_cons]; omega
  induction l with
  | nil => exact Nat.le_refl _
  | cons a l ih => unfold ord; have := hi a (ord lt l); simp only [List.length_cons]; omega
end
end Go.Proofs.Ythimblhfjfngiaa.Tx

namespace Go.Proofs.Ythimblhfjfngiaa.Tx
structure Ed where
  f : Int
  t : Int
  x : List UInt8
theorem Ed.ext' {a b : Ed} (h1 : a.f = b.f) (h2 : a.t = b.t) (h3 : a.x = b.x) : a = b := by cases a; cases b; simp_all
instance : DecidableEq Ed := fun a b => decidable_of_iff (a.f = b.f ∧ a.t = b.t ∧ a.x = b.x) ⟨fun h => Ed.ext' h.1 h.2.1 h.2.2, fun h => by subst h; exact ⟨rfl, rfl, rfl⟩⟩
/-- the order of edits -/
def elt (a b : Ed) : Bool := decide (a.f < b.f) || (decide (a.f = b.f) && (decide (a.t < b.t) || (decide (a.t = b.t) && decide (a.x < b.x))))
theorem elt_iff {a b : Ed} : elt a b = true ↔ a.f < b.f ∨ (a.f = b.f ∧ (a.t < b.t ∨ (a.t = b.t ∧ a.x < b.x))) := by
  unfold elt
  simp only [Bool.or_eq_true, Bool.and_eq_true, decide_eq_true_eq]
theorem elt_lin : Lin elt where
  irr a := by
    cases h : elt a a with
    | false => rfl
    | true =>
      rcases elt_iff.1 h with k | ⟨_, k | ⟨_, k⟩⟩
      · omega
      · omega
      · exact absurd k (List.lt_irrefl _)
  tr := by
    intro a b c h1 h2
    rw [elt_iff] at h1 h2 ⊢
    rcases h1 with h1 | ⟨e1, h1 | ⟨e1', h1⟩⟩
    · rcases h2 with h2 | ⟨e2, h2⟩
      · exact Or.inl (by omega)
      · exact Or.inl (by omega)
    · rcases h2 with h2 | ⟨e2, h2 | ⟨e2', h2⟩⟩
      · exact Or.inl (by omega)
      · exact Or.inr ⟨by omega, Or.inl (by omega)⟩
      · exact Or.inr ⟨by omega, Or.inl (by omega)⟩
    · rcases h2 with h2 | ⟨e2, h2 | ⟨e2', h2⟩⟩
      · exact Or.inl (by omega)
      · exact Or.inr ⟨by omega, Or.inl (by omega)⟩
      · exact Or.inr ⟨by omega, Or.inr ⟨by omega, List.lt_trans h1 h2⟩⟩
  tri := by
    intro a b h1 h2
    have n1 : ¬ (elt a b = true) := by rw [h1]; decide
    have n2 : ¬ (elt b a = true) := by rw [h2]; decide
    rw [elt_iff] at n1 n2
    have ef : a.f = b.f := by
      rcases Int.lt_trichotomy a.f b.f with k | k | k
      · exact absurd (Or.inl k) n1
      · exact k
      · exact absurd (Or.inl k) n2
    have et : a.t = b.t := by
      rcases Int.lt_trichotomy a.t b.t with k | k | k
      · exact absurd (Or.inr ⟨ef, Or.inl k⟩) n1
      · exact k
      · exact absurd (Or.inr ⟨ef.symm, Or.inl k⟩) n2
    have n1' : ¬ a.x < b.x := fun k => n1 (Or.inr ⟨ef, Or.inr ⟨et, k⟩⟩)
    have n2' : ¬ b.x < a.x := fun k => n2 (Or.inr ⟨ef.symm, Or.inr ⟨et.symm, k⟩⟩)
    exact Ed.ext' ef et (List.le_antisymm (List.not_lt.1 n2') (List.not_lt.1 n1'))
/-- two edits touch -/
def touch (a b : Ed) : Bool :=
  if a.f = a.t ∧ b.f = b.t then decide (a.f = b.f)
  else if a.f = a.t then decide (b.f < a.f) && decide (a.f < b.t)
  else if b.f = b.t then decide (a.f < b.f) && decide (b.f < a.t)
  else decide (a.f < b.t) && decide (b.f < a.t)
def Okay (n : Int) (l : List Ed) : Prop := ∀ e ∈ l, 0 ≤ e.f ∧ e.f ≤ e.t ∧ e.t ≤ n
/-- does one of the sorted edits touch one before it -/
def clash (e last : Int) : List Ed → Bool
  | [] => false
  | x :: l => if x.f < e ∨ (x.f = x.t ∧ x.f = last) then true else clash (max e x.t) (if x.f = x.t then x.f else last) l
/-- edits one behind the other -/
def Ch (n : Int) : Int → List Ed → Prop
  | p, [] => p ≤ n
  | p, e :: l => p ≤ e.f ∧ e.f ≤ e.t ∧ Ch n e.t l
theorem clash_ch {n : Int} : ∀ (l : List Ed) (e last : Int), Okay n l → e ≤ n → clash e last l = false → Ch n e l
  | [], e, last, _, h, _ => h
  | x :: l, e, last, ho, hn, hc => by
    have hx := ho x List.mem_cons_self
    unfold clash at hc
    by_cases k : x.f < e ∨ (x.f = x.t ∧ x.f = last)
    · rw [if_pos k] at hc; cases hc
    · rw [if_neg k] at hc
      have e1 : max e x.t = x.t := by omega
      rw [e1] at hc
      exact ⟨by omega, hx.2.1, clash_ch l x.t _ (fun a m => ho a (List.mem_cons_of_mem _ m)) hx.2.2 hc⟩
end Go.Proofs.Ythimblhfjfngiaa.Tx

namespace Go.Proofs.Ythimblhfjfngiaa.Tx
/-- a part of a text -/
def sl (s : List UInt8) (a b : Int) : List UInt8 := (s.drop a.toNat).take (b.toNat - a.toNat)
theorem sl_len {s : List UInt8} {a b : Int} (h0 : 0 ≤ a) (h1 : a ≤ b) (h2 : b ≤ s.length) : ((sl s a b).length : Int) = b - a := by
  unfold sl
  rw [List.length_take, List.length_drop]; omega
theorem sl_drop {s : List UInt8} {a b : Int} (h1 : a ≤ b) : sl s a b ++ s.drop b.toNat = s.drop a.toNat := by
  unfold sl
  have e : s.drop b.toNat = (s.drop a.toNat).drop (b.toNat - a.toNat) := by rw [List.drop_drop]; congr 1; omega
  rw [e, List.take_append_drop]
theorem sl_sl {s : List UInt8} {a b c : Int} (h1 : a ≤ b) (h2 : b ≤ c) : sl s a b ++ sl s b c = sl s a c := by
  unfold sl
  have e : (s.drop b.toNat) = (s.drop a.toNat).drop (b.toNat - a.toNat) := by rw [List.drop_drop]; congr 1; omega
  have e2 : c.toNat - a.toNat = (b.toNat - a.toNat) + (c.toNat - b.toNat) := by omega
  rw [e, e2, List.take_add]
theorem sl_same (s : List UInt8) (a : Int) : sl s a a = [] := by unfold sl; rw [Nat.sub_self, List.take_zero]
/-- the text from a place on, behind edits -/
def ap (s : List UInt8) : Int → List Ed → List UInt8
  | p, [] => s.drop p.toNat
  | p, e :: l => sl s p e.f ++ e.x ++ ap s e.t l
theorem ch_le {n : Int} : ∀ {l : List Ed} {p : Int}, Ch n p l → p ≤ n
  | [], _, h => h
  | e :: l, p, h => by have := ch_le h.2.2; have := h.1; have := h.2.1; omega
end Go.Proofs.Ythimblhfjfngiaa.Tx

namespace Go.Proofs.Ythimblhfjfngiaa.Tx
end Go.Proofs.Ythimblhfjfngiaa.Tx

namespace Go.Proofs.Ythimblhfjfngiaa.Tx
/-- the lines of a text, the first part of the first one is told -/
def lgo (cur : List UInt8) : List UInt8 → List (List UInt8)
  | [] => if cur = [] then [] else [cur]
  | c :: r => if c = 10 then (cur ++ [c]) :: lgo [] r else lgo (cur ++ [c]) r
def lines (s : List UInt8) : List (List UInt8) := lgo [] s
theorem lgo_flat : ∀ (s cur : List UInt8), (lgo cur s).flatten = cur ++ s
  | [], cur => by
    unfold lgo
    by_cases h : cur = []
    · rw [if_pos h, h]; rfl
    · rw [if_neg h]; simp
  | c :: r, cur => by
    unfold lgo
    by_cases h : c = 10
    · rw [if_pos h, List.flatten_cons, lgo_flat r []]; simp
    · rw [if_neg h, lgo_flat r]; simp
theorem lines_flat (s : List UInt8) : (lines s).flatten = s := lgo_flat s []
theorem lgo_ne : ∀ (s cur : List UInt8), ∀ x ∈ lgo cur s, x ≠ []
  | [], cur, x, hx => by
    unfold lgo at hx
    by_cases h : cur = []
    · rw [if_pos h] at hx; cases hx
    · rw [if_neg h] at hx; rw [List.mem_singleton.1 hx]; exact h
  | c :: r, cur, x, hx => by
    unfold lgo at hx
    by_cases h : c = 10
    · rw [if_pos h] at hx
      rcases List.mem_cons.1 hx with k | k
      · subst k; simp
      · exact lgo_ne r [] x k
    · rw [if_neg h] at hx; exact lgo_ne r _ x hx
theorem lines_ne (s : List UInt8) : ∀ x ∈ lines s, x ≠ [] := lgo_ne s []
/-- a first line that ends -/
theorem lgo_line : ∀ (a cur r : List UInt8), (10 : UInt8) ∉ a → lgo cur (a ++ 10 :: r) = (cur ++ a ++ [10]) :: lgo [] r
  | [], cur, r, _ => by
    have e : lgo cur (10 :: r) = if (10 : UInt8) = 10 then (cur ++ [10]) :: lgo [] r else lgo (cur ++ [10]) r := rfl
    rw [List.nil_append, e, if_pos rfl, List.append_nil]
  | c :: a, cur, r, h => by
    have hc : c ≠ 10 := fun e => h (e ▸ List.mem_cons_self)
    show lgo cur (c :: (a ++ 10 :: r)) = _
    rw [lgo, if_neg hc, lgo_line a _ r fun k => h (List.mem_cons_of_mem _ k)]
    simp only [List.append_assoc, List.cons_append, List.nil_append]
theorem lgo_last : ∀ (a cur : List UInt8), (10 : UInt8) ∉ a → lgo cur a = if cur ++ a = [] then [] else [cur ++ a]
  | [], cur, _ => by unfold lgo; rw [List.append_nil]
  | c :: a, cur, h => by
    have hc : c ≠ 10 := fun e => h (e ▸ List.mem_cons_self)
    rw [lgo, if_neg hc, lgo_last a _ fun k => h (List.mem_cons_of_mem _ k), List.append_assoc, List.singleton_append]
section
variable {α : Type} [DecidableEq α]
/-- how many can be kept -/
def lcs : List α → List α → Nat
  | a :: l, b :: m => if a = b then lcs l m + 1 else max (lcs l (b :: m)) (lcs (a :: l) m)
  | _, _ => 0
termination_by l m => l.length + m.length
theorem lcs_nil_l (m : List α) : lcs [] m = 0 := by rw [lcs]; intro a l b m' h; cases h
theorem lcs_nil_r (l : List α) : lcs l [] = 0 := by rw [lcs]; intro a l' b m' _ h; cases h
theorem lcs_cons (a b : α) (l m : List α) : lcs (a :: l) (b :: m) = if a = b then lcs l m + 1 else max (lcs l (b :: m)) (lcs (a :: l) m) := by rw [lcs]
theorem lcs_step : ∀ (k : Nat) (l m : List α), l.length + m.length ≤ k →
    (∀ b, lcs l m ≤ lcs l (b :: m) ∧ lcs l (b :: m) ≤ lcs l m + 1) ∧ (∀ a, lcs l m ≤ lcs (a :: l) m ∧ lcs (a :: l) m ≤ lcs l m + 1) := by
  intro k
  induction k with
  | zero =>
    intro l m h
    have hl : l = [] := List.eq_nil_of_length_eq_zero (by omega)
    have hm : m = [] := List.eq_nil_of_length_eq_zero (by omega)
    subst hl hm
    refine ⟨fun b => ?_, fun a => ?_⟩
    · rw [lcs_nil_l, lcs_nil_l]; omega
    · rw [lcs_nil_r, lcs_nil_r]; omega
  | succ k ih =>
    intro l m h
    constructor
    · intro b
      cases l with
      | nil => rw [lcs_nil_l, lcs_nil_l]; omega
      | cons a l =>
        simp only [List.length_cons] at h
        have h1 := (ih l m (by omega)).1 b
        have h2 := (ih l m (by omega)).2 a
        rw [lcs_cons]
        by_cases e : a = b
        · rw [if_pos e]; omega
        · rw [if_neg e]; omega
    · intro a
      cases m with
      | nil => rw [lcs_nil_r, lcs_nil_r]; omega
      | cons b m =>
        simp only [List.length_cons] at h
        have h1 := (ih l m (by omega)).1 b
        have h2 := (ih l m (by omega)).2 a
        rw [lcs_cons]
        by_cases e : a = b
        · rw [if_pos e]; omega
        · rw [if_neg e]; omega
theorem lcs_len_l (l m : List α) : lcs l m ≤ l.length := by
  induction l with
  | nil => rw [lcs_nil_l]; exact Nat.le_refl _
  | cons a l ih => have := ((lcs_step _ l m (Nat.le_refl _)).2 a).2; simp only [List.length_cons]; omega
/-- the steps: 32 is kept, 45 goes, 43 comes -/
def stp : List α → List α → List (UInt8 × α)
  | a :: l, b :: m => if a = b then (32, a) :: stp l m else if lcs (a :: l) m ≤ lcs l (b :: m) then (45, a) :: stp l (b :: m) else (43, b) :: stp (a :: l) m
  | a :: l, [] => (45, a) :: stp l []
  | [], b :: m => (43, b) :: stp [] m
  | [], [] => []
termination_by l m => l.length + m.length
def olds (l : List (UInt8 × α)) : List α := (l.filter fun x => x.1 != 43).map (·.2)
def news (l : List (UInt8 × α)) : List α := (l.filter fun x => x.1 != 45).map (·.2)
theorem stp_olds : ∀ (k : Nat) (l m : List α), l.length + m.length ≤ k → olds (stp l m) = l ∧ news (stp l m) = m := by
  intro k
  induction k with
  | zero =>
    intro l m h
    have hl : l = [] := List.eq_nil_of_length_eq_zero (by omega)
    have hm : m = [] := List.eq_nil_of_length_eq_zero (by omega)
    subst hl hm
    rw [stp]; exact ⟨rfl, rfl⟩
  | succ k ih =>
    intro l m h
    match l, m, h with
    | [], [], _ => rw [stp]; exact ⟨rfl, rfl⟩
    | a :: l, [], h =>
      simp only [List.length_cons, List.length_nil] at h
      obtain ⟨h1, h2⟩ := ih l [] (by simp; omega)
      rw [stp]
      exact ⟨congrArg (a :: ·) h1, h2⟩
    | [], b :: m, h =>
      simp only [List.length_cons, List.length_nil] at h
      obtain ⟨h1, h2⟩ := ih [] m (by simp; omega)
      rw [stp]
      exact ⟨h1, congrArg (b :: ·) h2⟩
    | a :: l, b :: m, h =>
      simp only [List.length_cons] at h
      rw [stp]
      by_cases e : a = b
      · rw [if_pos e]
        obtain ⟨h1, h2⟩ := ih l m (by omega)
        exact ⟨congrArg (a :: ·) h1, by subst e; exact congrArg (a :: ·) h2⟩
      · rw [if_neg e]
        split
        · obtain ⟨h1, h2⟩ := ih l (b :: m) (by simp only [List.length_cons]; omega)
          exact ⟨congrArg (a :: ·) h1, h2⟩
        · obtain ⟨h1, h2⟩ := ih (a :: l) m (by simp only [List.length_cons]; omega)
          exact ⟨h1, congrArg (b :: ·) h2⟩
theorem stp_op : ∀ (k : Nat) (l m : List α), l.length + m.length ≤ k → ∀ x ∈ stp l m, (x.1 = 32 ∨ x.1 = 45 ∨ x.1 = 43) ∧ (x.2 ∈ l ∨ x.2 ∈ m) := by
  intro k
  induction k with
  | zero =>
    intro l m h
    have hl : l = [] := List.eq_nil_of_length_eq_zero (by omega)
    have hm : m = [] := List.eq_nil_of_length_eq_zero (by omega)
    subst hl hm
    rw [stp]; intro x hx; cases hx
  | succ k ih =>
    intro l m h x hx
    match l, m, h, hx with
    | [], [], _, hx => rw [stp] at hx; cases hx
    | a :: l, [], h, hx =>
      simp only [List.length_cons, List.length_nil] at h
      rw [stp] at hx
      rcases List.mem_cons.1 hx with q | q
      · subst q; exact ⟨Or.inr (Or.inl rfl), Or.inl List.mem_cons_self⟩
      · obtain ⟨h1, h2⟩ := ih l [] (by simp; omega) x q
        exact ⟨h1, h2.imp (List.mem_cons_of_mem _) id⟩
    | [], b :: m, h, hx =>
      simp only [List.length_cons, List.length_nil] at h
      rw [stp] at hx
      rcases List.mem_cons.1 hx with q | q
      · subst q; exact ⟨Or.inr (Or.inr rfl), Or.inr List.mem_cons_self⟩
      · obtain ⟨h1, h2⟩ := ih [] m (by simp; omega) x q
        exact ⟨h1, h2.imp id (List.mem_cons_of_mem _)⟩
    | a :: l, b :: m, h, hx =>
      simp only [List.length_cons] at h
      rw [stp] at hx
      by_cases e : a = b
      · rw [if_pos e] at hx
        rcases List.mem_cons.1 hx with q | q
        · subst q; exact ⟨Or.inl rfl, Or.inl List.mem_cons_self⟩
        · obtain ⟨h1, h2⟩ := ih l m (by omega) x q
          exact ⟨h1, h2.imp (List.mem_cons_of_mem _) (List.mem_cons_of_mem _)⟩
      · rw [if_neg e] at hx
        split at hx
        · rcases List.mem_cons.1 hx with q | q
          · subst q; exact ⟨Or.inr (Or.inl rfl), Or.inl List.mem_cons_self⟩
          · obtain ⟨h1, h2⟩ := ih l (b :: m) (by simp only [List.length_cons]; omega) x q
            exact ⟨h1, h2.imp (List.mem_cons_of_mem _) id⟩
        · rcases List.mem_cons.1 hx with q | q
          · subst q; exact ⟨Or.inr (Or.inr rfl), Or.inr List.mem_cons_self⟩
          · obtain ⟨h1, h2⟩ := ih (a :: l) m (by simp only [List.length_cons]; omega) x q
            exact ⟨h1, h2.imp id (List.mem_cons_of_mem _)⟩
end
end Go.Proofs.Ythimblhfjfngiaa.Tx

namespace Go.Proofs.Ythimblhfjfngiaa.Tx
abbrev St := UInt8 × List UInt8
/-- the edits of steps; the one that is not yet shut is told -/
def eg : Int → Option Ed → List St → List Ed
  | _, c, [] => c.toList
  | at_, c, (o, x) :: l =>
    if o = 32 then c.toList ++ eg (at_ + x.length) none l
    else
      let d := c.getD ⟨at_, at_, []⟩
      if o = 45 then eg (at_ + x.length) (some ⟨d.f, at_ + x.length, d.x⟩) l else eg at_ (some ⟨d.f, d.t, d.x ++ x⟩) l
theorem eg_keep (a : Int) (c : Option Ed) (x : List UInt8) (l : List St) : eg a c ((32, x) :: l) = c.toList ++ eg (a + x.length) none l := by
  rw [eg, if_pos rfl]
theorem eg_gone (a : Int) (c : Option Ed) (x : List UInt8) (l : List St) : eg a c ((45, x) :: l) = eg (a + x.length) (some ⟨(c.getD ⟨a, a, []⟩).f, a + x.length, (c.getD ⟨a, a, []⟩).x⟩) l := by
  rw [eg, if_neg (by decide), if_pos rfl]
theorem eg_come (a : Int) (c : Option Ed) (o : UInt8) (x : List UInt8) (l : List St) (h1 : o ≠ 32) (h2 : o ≠ 45) : eg a c ((o, x) :: l) = eg a (some ⟨(c.getD ⟨a, a, []⟩).f, (c.getD ⟨a, a, []⟩).t, (c.getD ⟨a, a, []⟩).x ++ x⟩) l := by
  rw [eg, if_neg h1, if_neg h2]
/-- what the steps keep and lay down is what the edits make -/
theorem eg_ap (s : List UInt8) : ∀ (l : List St) (a p : Int) (c : Option Ed), 0 ≤ p → 0 ≤ a → (∀ x ∈ l, x.1 = 32 ∨ x.1 = 45 ∨ x.1 = 43) → s.drop a.toNat = (olds l).flatten →
    (c = none → p ≤ a) → (∀ d, c = some d → p ≤ d.f ∧ d.f ≤ d.t ∧ d.t = a) →
    ap s p (eg a c l) = (match c with | none => sl s p a | some d => sl s p d.f ++ d.x) ++ (news l).flatten
  | [], a, p, none, h0, ha, ho, hs, h1, h2 => by
    show s.drop p.toNat = sl s p a ++ []
    rw [List.append_nil, ← sl_drop (h1 rfl), hs]
    simp [olds]
  | [], a, p, some d, h0, ha, ho, hs, h1, h2 => by
    obtain ⟨q1, q2, q3⟩ := h2 d rfl
    show sl s p d.f ++ d.x ++ s.drop d.t.toNat = _
    rw [q3, hs]; rfl
  | (o, x) :: l, a, p, c, h0, ha, ho, hs, h1, h2 => by
    have hoh := ho (o, x) List.mem_cons_self
    have ho' : ∀ x ∈ l, x.1 = 32 ∨ x.1 = 45 ∨ x.1 = 43 := fun y m => ho y (List.mem_cons_of_mem _ m)
    have drop_x : o ≠ 43 → s.drop (a + x.length).toNat = (olds l).flatten ∧ sl s a (a + x.length) = x := by
      intro k
      have e : (olds ((o, x) :: l)).flatten = x ++ (olds l).flatten := by
        unfold olds
        rw [List.filter_cons_of_pos (by simpa using k), List.map_cons, List.flatten_cons]
      rw [e] at hs
      have e2 : (a + x.length).toNat = a.toNat + x.length := by omega
      refine ⟨by rw [e2, ← List.drop_drop, hs, List.drop_left], ?_⟩
      unfold sl
      rw [hs, show (a + x.length).toNat - a.toNat = x.length by omega, List.take_left]
    have news_keep : o ≠ 45 → (news ((o, x) :: l)).flatten = x ++ (news l).flatten := by
      intro k
      unfold news
      rw [List.filter_cons_of_pos (by simpa using k), List.map_cons, List.flatten_cons]
    rcases hoh with e | e | e <;> (replace e : o = _ := e; subst e)
    · obtain ⟨d1, d2⟩ := drop_x (by decide)
      rw [eg_keep, news_keep (by decide)]
      cases c with
      | none =>
        have ih := eg_ap s l (a + x.length) p none h0 (by omega) ho' d1 (fun _ => by have := h1 rfl; omega) (fun d q => by cases q)
        show ap s p (eg (a + x.length) none l) = _
        rw [ih, ← sl_sl (h1 rfl) (show a ≤ a + x.length by omega), d2, List.append_assoc]
      | some d =>
        obtain ⟨q1, q2, q3⟩ := h2 d rfl
        have ih := eg_ap s l (a + x.length) a none ha (by omega) ho' d1 (fun _ => by omega) (fun d q => by cases q)
        show sl s p d.f ++ d.x ++ ap s d.t (eg (a + x.length) none l) = _
        rw [q3, ih, d2]
    · obtain ⟨d1, d2⟩ := drop_x (by decide)
      have en : (news ((45, x) :: l)).flatten = (news l).flatten := by unfold news; rw [List.filter_cons_of_neg (by simp)]
      rw [eg_gone, en]
      cases c with
      | none =>
        have := h1 rfl
        rw [eg_ap s l (a + x.length) p _ h0 (by omega) ho' d1 (fun q => by cases q) (fun d q => by cases q; exact ⟨by simp; omega, by simp; omega, rfl⟩)]
        show sl s p a ++ [] ++ _ = _
        rw [List.append_nil]
      | some d =>
        obtain ⟨q1, q2, q3⟩ := h2 d rfl
        rw [eg_ap s l (a + x.length) p _ h0 (by omega) ho' d1 (fun q => by cases q) (fun d' q => by cases q; exact ⟨q1, by simp; omega, rfl⟩)]
        rfl
    · have eo : (olds ((43, x) :: l)).flatten = (olds l).flatten := by unfold olds; rw [List.filter_cons_of_neg (by simp)]
      rw [eo] at hs
      rw [eg_come a c 43 x l (by decide) (by decide), news_keep (by decide)]
      cases c with
      | none =>
        have := h1 rfl
        rw [eg_ap s l a p _ h0 ha ho' hs (fun q => by cases q) (fun d q => by cases q; exact ⟨by simp; omega, Int.le_refl _, rfl⟩)]
        show sl s p a ++ ([] ++ x) ++ _ = _
        rw [List.nil_append, List.append_assoc]
      | some d =>
        obtain ⟨q1, q2, q3⟩ := h2 d rfl
        rw [eg_ap s l a p _ h0 ha ho' hs (fun q => by cases q) (fun d' q => by cases q; exact ⟨q1, q2, q3⟩)]
        show sl s p d.f ++ (d.x ++ x) ++ _ = _
        simp only [List.append_assoc]
/-- edits with at least a byte between -/
def Apart (n : Int) : Int → List Ed → Prop
  | p, [] => p ≤ n + 1
  | p, e :: l => p ≤ e.f ∧ e.f ≤ e.t ∧ e.t ≤ n ∧ Apart n (e.t + 1) l
theorem apart_mono {n : Int} {l : List Ed} {p q : Int} (h : Apart n p l) (k : q ≤ p) : Apart n q l := by
  cases l with
  | nil => exact Int.le_trans k h
  | cons e l => exact ⟨by have := h.1; omega, h.2⟩
theorem apart_cons {n p : Int} {d : Ed} {l : List Ed} (h1 : p ≤ d.f) (h2 : d.f ≤ d.t) (h3 : d.t ≤ n) (h : Apart n (d.t + 1) l) : Apart n p (d :: l) := ⟨h1, h2, h3, h⟩
theorem eg_apart (n : Int) : ∀ (l : List St) (a p : Int) (c : Option Ed), (∀ x ∈ l, (x.1 = 32 ∨ x.1 = 45 ∨ x.1 = 43) ∧ x.2 ≠ []) → a + (olds l).flatten.length = n →
    (c = none → p ≤ a) → (∀ d, c = some d → p ≤ d.f ∧ d.f ≤ d.t ∧ d.t = a) → Apart n p (eg a c l)
  | [], a, p, none, ho, hs, h1, h2 => by
    have := h1 rfl
    have e : ((olds ([] : List St)).flatten.length : Int) = 0 := rfl
    show p ≤ n + 1
    omega
  | [], a, p, some d, ho, hs, h1, h2 => by
    obtain ⟨q1, q2, q3⟩ := h2 d rfl
    have e : ((olds ([] : List St)).flatten.length : Int) = 0 := rfl
    exact ⟨q1, q2, by omega, show d.t + 1 ≤ n + 1 by omega⟩
  | (o, x) :: l, a, p, c, ho, hs, h1, h2 => by
    have hoh := ho (o, x) List.mem_cons_self
    have hx : 0 < x.length := List.length_pos_iff.2 hoh.2
    have ho' : ∀ x ∈ l, (x.1 = 32 ∨ x.1 = 45 ∨ x.1 = 43) ∧ x.2 ≠ [] := fun y m => ho y (List.mem_cons_of_mem _ m)
    have old_x : o ≠ 43 → (a + x.length) + (olds l).flatten.length = n := by
      intro k
      have e : (olds ((o, x) :: l)).flatten = x ++ (olds l).flatten := by
        unfold olds
        rw [List.filter_cons_of_pos (by simpa using k), List.map_cons, List.flatten_cons]
      rw [e, List.length_append] at hs; omega
    rcases hoh.1 with e | e | e <;> (replace e : o = _ := e; subst e)
    · have d1 := old_x (by decide)
      rw [eg_keep]
      cases c with
      | none => exact eg_apart n l (a + x.length) p none ho' d1 (fun _ => by have := h1 rfl; omega) (fun d q => by cases q)
      | some d =>
        obtain ⟨q1, q2, q3⟩ := h2 d rfl
        exact apart_cons q1 q2 (by omega) (eg_apart n l (a + x.length) _ none ho' d1 (fun _ => by omega) (fun d q => by cases q))
    · have d1 := old_x (by decide)
      rw [eg_gone]
      cases c with
      | none =>
        have := h1 rfl
        exact eg_apart n l _ p _ ho' d1 (fun q => by cases q) (fun d q => by cases q; exact ⟨by simp; omega, by simp; omega, rfl⟩)
      | some d =>
        obtain ⟨q1, q2, q3⟩ := h2 d rfl
        exact eg_apart n l _ p _ ho' d1 (fun q => by cases q) (fun d' q => by cases q; exact ⟨q1, by simp; omega, rfl⟩)
    · have eo : (olds ((43, x) :: l)).flatten = (olds l).flatten := by unfold olds; rw [List.filter_cons_of_neg (by simp)]
      rw [eo] at hs
      rw [eg_come a c 43 x l (by decide) (by decide)]
      cases c with
      | none =>
        have := h1 rfl
        exact eg_apart n l _ p _ ho' hs (fun q => by cases q) (fun d q => by cases q; exact ⟨by simp; omega, Int.le_refl _, rfl⟩)
      | some d =>
        obtain ⟨q1, q2, q3⟩ := h2 d rfl
        exact eg_apart n l _ p _ ho' hs (fun q => by cases q) (fun d' q => by cases q; exact ⟨q1, q2, q3⟩)
/-- the edits from a text to another one -/
def edits (a b : List UInt8) : List Ed := eg 0 none (stp (lines a) (lines b))
theorem edits_apart (a b : List UInt8) : Apart a.length 0 (edits a b) := by
  have h := stp_op _ (lines a) (lines b) (Nat.le_refl _)
  have ho := (stp_olds _ (lines a) (lines b) (Nat.le_refl _)).1
  refine eg_apart _ _ 0 0 none (fun x hx => ⟨(h x hx).1, ?_⟩) (by rw [ho, lines_flat]; omega) (fun _ => Int.le_refl _) (fun d q => by cases q)
  rcases (h x hx).2 with k | k
  · exact lines_ne a _ k
  · exact lines_ne b _ k
theorem edits_ap (a b : List UInt8) : ap a 0 (edits a b) = b := by
  have h := stp_op _ (lines a) (lines b) (Nat.le_refl _)
  have ho := stp_olds _ (lines a) (lines b) (Nat.le_refl _)
  have := eg_ap a (stp (lines a) (lines b)) 0 0 none (Int.le_refl _) (Int.le_refl _) (fun x hx => (h x hx).1) (by rw [ho.1, lines_flat]; rfl) (fun _ => Int.le_refl _) (fun d q => by cases q)
  unfold edits
  rw [this, ho.2, lines_flat]
  show sl a 0 0 ++ b = b
  rw [sl_same]; rfl
end Go.Proofs.Ythimblhfjfngiaa.Tx

namespace Go.Proofs.Ythimblhfjfngiaa.Tx
/-- a line that ends -/
def Ln (x : List UInt8) : Prop := ∃ a : List UInt8, (10 : UInt8) ∉ a ∧ x = a ++ [10]
/-- lines, of which the last one may lack its end -/
def Lns : List (List UInt8) → Prop
  | [] => True
  | x :: l => (Ln x ∧ Lns l) ∨ (l = [] ∧ (10 : UInt8) ∉ x ∧ x ≠ [])
def AllLn (l : List (List UInt8)) : Prop := ∀ x ∈ l, Ln x
theorem lgo_lns : ∀ (s cur : List UInt8), (10 : UInt8) ∉ cur → Lns (lgo cur s)
  | [], cur, h => by
    unfold lgo
    by_cases c : cur = []
    · rw [if_pos c]; trivial
    · rw [if_neg c]; exact Or.inr ⟨rfl, h, c⟩
  | c :: r, cur, h => by
    unfold lgo
    by_cases q : c = 10
    · rw [if_pos q]; subst q; exact Or.inl ⟨⟨cur, h, rfl⟩, lgo_lns r [] (by simp)⟩
    · rw [if_neg q]
      refine lgo_lns r _ fun m => ?_
      rcases List.mem_append.1 m with m | m
      · exact h m
      · exact q (List.mem_singleton.1 m).symm
theorem lines_lns (s : List UInt8) : Lns (lines s) := lgo_lns s [] (by simp)
theorem lines_of_lns : ∀ {L : List (List UInt8)}, Lns L → lines L.flatten = L
  | [], _ => rfl
  | x :: l, h => by
    rcases h with ⟨⟨a, ha, rfl⟩, hl⟩ | ⟨rfl, hx, hn⟩
    · have e : (((a ++ [10]) :: l).flatten : List UInt8) = a ++ 10 :: l.flatten := by simp
      unfold lines
      rw [e, lgo_line a [] _ ha, List.nil_append]
      exact congrArg (_ :: ·) (lines_of_lns hl)
    · have e : ([x].flatten : List UInt8) = x := by simp
      unfold lines
      rw [e, lgo_last x [] hx, List.nil_append, if_neg hn]
theorem lns_ne : ∀ {L : List (List UInt8)}, Lns L → ∀ x ∈ L, x ≠ []
  | [], _, _, m => by cases m
  | y :: l, h, x, m => by
    rcases h with ⟨⟨a, ha, rfl⟩, hl⟩ | ⟨rfl, hx, hn⟩
    · rcases List.mem_cons.1 m with rfl | m
      · simp
      · exact lns_ne hl x m
    · rw [List.mem_singleton.1 m]; exact hn
theorem lns_app {A B : List (List UInt8)} (hA : AllLn A) (hB : Lns B) : Lns (A ++ B) := by
  induction A with
  | nil => exact hB
  | cons x l ih => exact Or.inl ⟨hA x List.mem_cons_self, ih fun y m => hA y (List.mem_cons_of_mem _ m)⟩
theorem allLn_app {A B : List (List UInt8)} (hA : AllLn A) (hB : AllLn B) : AllLn (A ++ B) := fun x m => by
  rcases List.mem_append.1 m with m | m
  · exact hA x m
  · exact hB x m
theorem lns_split : ∀ {A B : List (List UInt8)}, Lns (A ++ B) → Lns A ∧ Lns B ∧ (B = [] ∨ AllLn A)
  | [], B, h => ⟨trivial, h, Or.inr fun _ m => by cases m⟩
  | x :: A, B, h => by
    rcases h with ⟨hx, hl⟩ | ⟨hl, hx, hn⟩
    · obtain ⟨q1, q2, q3⟩ := lns_split hl
      refine ⟨Or.inl ⟨hx, q1⟩, q2, ?_⟩
      rcases q3 with q3 | q3
      · exact Or.inl q3
      · refine Or.inr fun y m => ?_
        rcases List.mem_cons.1 m with rfl | m
        · exact hx
        · exact q3 y m
    · obtain ⟨rfl, rfl⟩ := List.append_eq_nil_iff.1 hl
      exact ⟨Or.inr ⟨rfl, hx, hn⟩, trivial, Or.inl rfl⟩
/-- an edit that takes whole lines for whole lines -/
def EP (lb la : List (List UInt8)) (d : Ed) : Prop :=
  ∃ O D R T : List (List UInt8), lb = O ++ D ++ R ∧ d.f = (O.flatten.length : Int) ∧ d.t = ((O ++ D).flatten.length : Int) ∧ d.x = T.flatten ∧ (∀ x ∈ T, x ∈ la) ∧ Lns T ∧ (T = [] ∨ AllLn O) ∧ (AllLn T ∨ R = [])
theorem olds_keep (o : UInt8) (x : List UInt8) (l : List St) (h : o ≠ 43) : olds ((o, x) :: l) = x :: olds l := by
  unfold olds
  rw [List.filter_cons_of_pos (by simpa using h), List.map_cons]
theorem olds_come (x : List UInt8) (l : List St) : olds ((43, x) :: l) = olds l := by
  unfold olds
  rw [List.filter_cons_of_neg (by simp)]
theorem news_keep (o : UInt8) (x : List UInt8) (l : List St) (h : o ≠ 45) : news ((o, x) :: l) = x :: news l := by
  unfold news
  rw [List.filter_cons_of_pos (by simpa using h), List.map_cons]
theorem news_gone (x : List UInt8) (l : List St) : news ((45, x) :: l) = news l := by
  unfold news
  rw [List.filter_cons_of_neg (by simp)]
theorem flat_snoc (A : List (List UInt8)) (x : List UInt8) : (((A ++ [x]).flatten.length : Nat) : Int) = (A.flatten.length : Int) + (x.length : Int) := by
  rw [List.flatten_append, List.length_append]; simp
/-- an edit that is not yet shut -/
def Half (O N : List (List UInt8)) (nw : List (List UInt8)) (d : Ed) : Prop :=
  ∃ O0 D N0 T : List (List UInt8), O = O0 ++ D ∧ N = N0 ++ T ∧ d.f = (O0.flatten.length : Int) ∧ d.t = (O.flatten.length : Int) ∧ d.x = T.flatten ∧ (AllLn O0 ∨ T ++ nw = [])
theorem half_ep {lb la O N R nw : List (List UInt8)} {d : Ed} (hb : lb = O ++ R) (ha : la = N ++ nw) (hl : Lns la) (h : Half O N nw d) (hR : R = [] ∨ nw ≠ []) : EP lb la d := by
  obtain ⟨O0, D, N0, T, rfl, rfl, h1, h2, h3, h4⟩ := h
  rw [ha] at hl
  have hs := lns_split hl
  have hT := lns_split hs.1
  have hT2 : AllLn T ∨ R = [] := by
    rcases hR with e | e
    · exact Or.inr e
    · rcases hs.2.2 with q | q
      · exact absurd q e
      · exact Or.inl fun x m => q x (List.mem_append_right _ m)
  refine ⟨O0, D, R, T, hb, h1, h2, h3, fun x m => ?_, hT.2.1, ?_, hT2⟩
  · rw [ha]; exact List.mem_append_left _ (List.mem_append_right _ m)
  · rcases h4 with q | q
    · exact Or.inr q
    · exact Or.inl (List.append_eq_nil_iff.1 q).1
theorem eg_ep (lb la : List (List UInt8)) (hb : Lns lb) (ha : Lns la) : ∀ (l : List St) (O N : List (List UInt8)) (c : Option Ed), lb = O ++ olds l → la = N ++ news l →
    (∀ x ∈ l, x.1 = 32 ∨ x.1 = 45 ∨ x.1 = 43) → (c = none → AllLn O ∨ news l = []) → (∀ d, c = some d → Half O N (news l) d) → ∀ e ∈ eg (O.flatten.length : Int) c l, EP lb la e
  | [], O, N, none, e1, e2, ho, h1, h2, e, m => by cases m
  | [], O, N, some d, e1, e2, ho, h1, h2, e, m => by
    rw [show eg (O.flatten.length : Int) (some d) [] = [d] from rfl] at m
    rw [List.mem_singleton.1 m]
    exact half_ep e1 e2 ha (h2 d rfl) (Or.inl rfl)
  | (o, x) :: l, O, N, c, e1, e2, ho, h1, h2, e, m => by
    have hoh := ho (o, x) List.mem_cons_self
    have ho' : ∀ x ∈ l, x.1 = 32 ∨ x.1 = 45 ∨ x.1 = 43 := fun y m => ho y (List.mem_cons_of_mem _ m)
    rcases hoh with q | q | q <;> (replace q : o = _ := q; subst q)
    · rw [olds_keep _ _ _ (by decide)] at e1
      rw [news_keep _ _ _ (by decide)] at e2 h1 h2
      rw [eg_keep, ← flat_snoc] at m
      have e1' : lb = (O ++ [x]) ++ olds l := by rw [e1, List.append_assoc, List.singleton_append]
      have e2' : la = (N ++ [x]) ++ news l := by rw [e2, List.append_assoc, List.singleton_append]
      rcases List.mem_append.1 m with m | m
      · cases c with
        | none => cases m
        | some d =>
          rw [show (some d).toList = [d] from rfl] at m
          rw [List.mem_singleton.1 m]
          exact half_ep e1 e2 ha (h2 d rfl) (Or.inr (by simp))
      · refine eg_ep lb la hb ha l (O ++ [x]) (N ++ [x]) none e1' e2' ho' (fun _ => ?_) (fun d q => by cases q) e m
        by_cases z : news l = []
        · exact Or.inr z
        · have ha' := ha
          have hb' := hb
          rw [e2'] at ha'
          rw [e1] at hb'
          refine Or.inl (allLn_app ?_ ?_)
          · rcases (lns_split hb').2.2 with q | q
            · cases q
            · exact q
          · rcases (lns_split ha').2.2 with q | q
            · exact absurd q z
            · exact fun y my => q y (List.mem_append_right _ my)
    · rw [olds_keep _ _ _ (by decide)] at e1
      rw [news_gone] at e2 h1 h2
      rw [eg_gone, ← flat_snoc] at m
      have e1' : lb = (O ++ [x]) ++ olds l := by rw [e1, List.append_assoc, List.singleton_append]
      refine eg_ep lb la hb ha l (O ++ [x]) N _ e1' e2 ho' (fun q => by cases q) (fun d q => ?_) e m
      cases q
      cases c with
      | none => exact ⟨O, [x], N, [], rfl, (List.append_nil N).symm, rfl, rfl, rfl, h1 rfl⟩
      | some d =>
        obtain ⟨O0, D, N0, T, q1, q2, q3, q4, q5, q6⟩ := h2 d rfl
        exact ⟨O0, D ++ [x], N0, T, by rw [q1, List.append_assoc], q2, q3, rfl, q5, q6⟩
    · rw [olds_come] at e1
      rw [news_keep _ _ _ (by decide)] at e2 h1 h2
      rw [eg_come _ _ _ _ _ (by decide) (by decide)] at m
      have e2' : la = (N ++ [x]) ++ news l := by rw [e2, List.append_assoc, List.singleton_append]
      refine eg_ep lb la hb ha l O (N ++ [x]) _ e1 e2' ho' (fun q => by cases q) (fun d q => ?_) e m
      cases q
      cases c with
      | none =>
        refine ⟨O, [], N, [x], (List.append_nil O).symm, rfl, rfl, rfl, by simp, ?_⟩
        rcases h1 rfl with q | q
        · exact Or.inl q
        · cases q
      | some d =>
        obtain ⟨O0, D, N0, T, q1, q2, q3, q4, q5, q6⟩ := h2 d rfl
        refine ⟨O0, D, N0, T ++ [x], q1, by rw [q2, List.append_assoc], q3, q4, by show d.x ++ x = _; rw [q5]; simp, ?_⟩
        rcases q6 with q | q
        · exact Or.inl q
        · have := (List.append_eq_nil_iff.1 q).2; cases this
theorem edits_ep (a b : List UInt8) : ∀ e ∈ edits a b, EP (lines a) (lines b) e := by
  have h := stp_op _ (lines a) (lines b) (Nat.le_refl _)
  have ho := stp_olds _ (lines a) (lines b) (Nat.le_refl _)
  exact eg_ep (lines a) (lines b) (lines_lns a) (lines_lns b) (stp (lines a) (lines b)) [] [] none ho.1.symm ho.2.symm (fun x hx => (h x hx).1) (fun _ => Or.inl fun _ m => by cases m) (fun d q => by cases q)
theorem flat_zero : ∀ {L : List (List UInt8)}, (∀ x ∈ L, x ≠ []) → L.flatten.length = 0 → L = []
  | [], _, _ => rfl
  | x :: l, h, k => by
    have := List.length_pos_iff.2 (h x List.mem_cons_self)
    rw [List.flatten_cons, List.length_append] at k; omega
theorem sl_part (P Q X : List (List UInt8)) : sl (P ++ Q ++ X).flatten (P.flatten.length : Int) ((P ++ Q).flatten.length : Int) = Q.flatten := by
  have e1 : (P ++ Q ++ X).flatten = P.flatten ++ (Q.flatten ++ X.flatten) := by simp
  have e2 : (P ++ Q).flatten.length - P.flatten.length = Q.flatten.length := by rw [List.flatten_append, List.length_append]; omega
  unfold sl
  rw [Int.toNat_natCast, Int.toNat_natCast, e1, e2, List.drop_left, List.take_left]
theorem apart_end {n : Int} {l : List Ed} (h : Apart n (n + 1) l) : l = [] := by
  cases l with
  | nil => rfl
  | cons e l => have := h.1; have := h.2.1; have := h.2.2.1; omega
/-- no steps between a text and itself -/
theorem stp_self : ∀ (l : List (List UInt8)), stp l l = l.map fun x => (32, x)
  | [] => by rw [stp]; rfl
  | x :: l => by rw [stp, if_pos rfl, stp_self l]; rfl
theorem eg_keeps : ∀ (l : List (List UInt8)) (a : Int), eg a none (l.map fun x => (32, x)) = []
  | [], _ => rfl
  | x :: l, a => by rw [List.map_cons, eg_keep, eg_keeps l]; rfl
theorem edits_self (b : List UInt8) : edits b b = [] := by unfold edits; rw [stp_self, eg_keeps]
end Go.Proofs.Ythimblhfjfngiaa.Tx

namespace Go.Proofs.Ythimblhfjfngiaa.Tx
/-- the bytes before a line -/
def off (L : List (List UInt8)) (i : Nat) : Nat := (L.take i).flatten.length
/-- the first line at or behind a byte -/
def adv : List (List UInt8) → Int → Nat
  | [], _ => 0
  | x :: l, n => if 0 < n then adv l (n - x.length) + 1 else 0
theorem off_succ {L : List (List UInt8)} {i : Nat} (h : i < L.length) : off L (i + 1) = off L i + L[i].length := by
  unfold off
  rw [List.take_succ_eq_append_getElem h, List.flatten_append, List.length_append]; simp
theorem off_all {L : List (List UInt8)} {i : Nat} (h : L.length ≤ i) : off L i = L.flatten.length := by
  unfold off
  rw [List.take_of_length_le h]
theorem off_mono {L : List (List UInt8)} {i j : Nat} (h : i ≤ j) : off L i ≤ off L j := by
  have e : L.take j = L.take i ++ (L.drop i).take (j - i) := by
    have := List.take_add (l := L) (i := i) (j := j - i)
    rwa [show i + (j - i) = j by omega] at this
  unfold off
  rw [e, List.flatten_append, List.length_append]; omega
theorem off_lt {L : List (List UInt8)} (hn : ∀ x ∈ L, x ≠ []) {i j : Nat} (h : i < j) (hj : j ≤ L.length) : off L i < off L j := by
  have h1 := off_succ (L := L) (i := i) (by omega)
  have h2 := List.length_pos_iff.2 (hn L[i] (List.getElem_mem (by omega)))
  have h3 := off_mono (L := L) (show i + 1 ≤ j by omega)
  omega
theorem off_pre (O X : List (List UInt8)) : off (O ++ X) O.length = O.flatten.length := by
  unfold off
  rw [List.take_left]
theorem adv_at : ∀ (L : List (List UInt8)) (_ : ∀ x ∈ L, x ≠ []) (i : Nat), i ≤ L.length → adv L (off L i : Int) = i
  | [], _, i, hi => by
    have : i = 0 := by simpa using hi
    subst this; rfl
  | x :: l, hn, 0, _ => by
    show (if (0 : Int) < ((off (x :: l) 0 : Nat) : Int) then _ else 0) = 0
    rw [if_neg]
    unfold off; simp
  | x :: l, hn, i + 1, hi => by
    have hx := List.length_pos_iff.2 (hn x List.mem_cons_self)
    have e : off (x :: l) (i + 1) = x.length + off l i := by unfold off; simp
    rw [e]
    show (if (0 : Int) < ((x.length + off l i : Nat) : Int) then adv l (((x.length + off l i : Nat) : Int) - x.length) + 1 else 0) = i + 1
    rw [if_pos (by omega), show (((x.length + off l i : Nat) : Int) - x.length) = ((off l i : Nat) : Int) by omega, adv_at l (fun y m => hn y (List.mem_cons_of_mem _ m)) i (by simpa using hi)]
/-- whose the lines are behind the edits, from a line on -/
def bl (lb : List (List UInt8)) (who : List Int) (k : Int) : Nat → List Ed → List Int
  | i, [] => who.drop i
  | i, e :: M => (who.drop i).take (adv lb e.f - i) ++ List.replicate (lines e.x).length k ++ bl lb who k (adv lb e.t) M
/-- where an edit of whole lines begins and ends -/
theorem ep_ix {lb la : List (List UInt8)} {d : Ed} (hb : Lns lb) (h : EP lb la d) : adv lb d.f ≤ adv lb d.t ∧ adv lb d.t ≤ lb.length ∧ (off lb (adv lb d.f) : Int) = d.f ∧ (off lb (adv lb d.t) : Int) = d.t ∧ ((lines d.x).flatten = d.x ∧ ∀ x ∈ lines d.x, x ∈ la) ∧ 0 ≤ d.f := by
  obtain ⟨O, D, R, T, rfl, h1, h2, h3, h4, h5, -, -⟩ := h
  have hn := lns_ne hb
  have a1 : adv (O ++ D ++ R) d.f = O.length := by
    have := adv_at (O ++ D ++ R) hn O.length (by simp)
    rw [List.append_assoc, off_pre, ← h1, ← List.append_assoc] at this
    exact this
  have a2 : adv (O ++ D ++ R) d.t = (O ++ D).length := by
    have := adv_at (O ++ D ++ R) hn (O ++ D).length (by simp)
    rw [off_pre, ← h2] at this
    exact this
  rw [a1, a2]
  refine ⟨by simp, by simp, ?_, ?_, ⟨lines_flat _, fun x m => ?_⟩, by omega⟩
  · rw [List.append_assoc, off_pre, h1]
  · rw [off_pre, h2]
  · rw [h3, lines_of_lns h5] at m; exact h4 x m
theorem off_inj {L : List (List UInt8)} (hn : ∀ x ∈ L, x ≠ []) {i j : Nat} (_ : i ≤ L.length) (h : off L j ≤ off L i) (hj : j ≤ L.length) : j ≤ i := by
  rcases Nat.lt_or_ge i j with q | q
  · have := off_lt hn q hj; omega
  · exact q
/-- the lines behind the edits, and whose they are: kept ones keep theirs, new ones are k's -/
theorem bl_lines (lb : List (List UInt8)) (hb : Lns lb) (la : List (List UInt8)) (who : List Int) (k : Int) (hw : who.length = lb.length) (G : List UInt8 → Int → Prop) (hG : ∀ i, ∀ h : i < lb.length, G lb[i] (who[i]'(by omega))) (hk : ∀ x ∈ la, G x k) :
    ∀ (M : List Ed) (i : Nat), i ≤ lb.length → Apart (lb.flatten.length : Int) (off lb i : Int) M → (∀ e ∈ M, EP lb la e) →
    ∃ L, Lns L ∧ L.flatten = ap lb.flatten (off lb i : Int) M ∧ L.length = (bl lb who k i M).length ∧ ∀ j, ∀ h : j < L.length, ∀ h' : j < (bl lb who k i M).length, G L[j] (bl lb who k i M)[j]
  | [], i, hi, _, _ => by
    refine ⟨lb.drop i, ?_, ?_, by simp [bl, hw], fun j h h' => ?_⟩
    · have := hb
      rw [← List.take_append_drop i lb] at this
      exact (lns_split this).2.1
    · show _ = lb.flatten.drop _
      have e : lb.flatten = (lb.take i).flatten ++ (lb.drop i).flatten := by rw [← List.flatten_append, List.take_append_drop]
      rw [Int.toNat_natCast]
      unfold off
      rw [e, List.drop_left]
    · simp only [bl, List.getElem_drop]
      rw [List.length_drop] at h
      exact hG (i + j) (by omega)
  | d :: M, i, hi, hA, hE => by
    have hd := hE d List.mem_cons_self
    obtain ⟨x1, x2, x3, x4, x5, -⟩ := ep_ix hb hd
    have hf := hA.1
    have hn := lns_ne hb
    have hif : i ≤ adv lb d.f := off_inj hn (by omega) (by omega) hi
    obtain ⟨L, l1, l2, l3, l4⟩ := bl_lines lb hb la who k hw G hG hk M (adv lb d.t) x2 (by rw [x4]; exact apart_mono hA.2.2.2 (by omega)) (fun e m => hE e (List.mem_cons_of_mem _ m))
    rw [x4] at l2
    obtain ⟨O, D, R, T, q1, q2, q3, q4, q5, q6, q7, q8⟩ := hd
    have hT : lines d.x = T := by rw [q4, lines_of_lns q6]
    -- the lines that stand before the edit
    have a1 : adv lb d.f = O.length := by
      have := adv_at lb hn O.length (by rw [q1]; simp)
      rw [show off lb O.length = O.flatten.length by rw [q1, List.append_assoc, off_pre], ← q2] at this
      exact this
    have hO : O = lb.take i ++ (O.drop i) := by
      have e : lb.take i = O.take i := by rw [q1, List.append_assoc, List.take_append_of_le_length (by omega)]
      rw [e, List.take_append_drop]
    have hQ : O.drop i = (lb.drop i).take (adv lb d.f - i) := by
      rw [a1, q1, List.append_assoc, List.drop_append_of_le_length (by omega), List.take_append_of_le_length (by rw [List.length_drop]; omega), List.take_of_length_le (by rw [List.length_drop]; omega)]
    have hsl : sl lb.flatten (off lb i : Int) d.f = (O.drop i).flatten := by
      have e1 : lb = lb.take i ++ O.drop i ++ (D ++ R) := by rw [← hO, ← List.append_assoc]; exact q1
      have := sl_part (lb.take i) (O.drop i) (D ++ R)
      rw [← e1, ← hO, ← q2] at this
      exact this
    have hap : ap lb.flatten (off lb i : Int) (d :: M) = (O.drop i).flatten ++ T.flatten ++ ap lb.flatten d.t M := by
      show sl _ _ d.f ++ d.x ++ _ = _
      rw [hsl, q4]
    have hb1 := hb
    rw [q1] at hb1
    have hall : Lns (O.drop i ++ T ++ L) := by
      by_cases hR : R = []
      · subst hR
        have hn2 : (lb.flatten.length : Int) = d.t := by rw [q3, q1, List.append_nil]
        have hM : M = [] := by have := hA.2.2.2; rw [← hn2] at this; exact apart_end this
        have hL : L = [] := by
          refine flat_zero (lns_ne l1) ?_
          rw [l2, hM]
          show (lb.flatten.drop d.t.toNat).length = 0
          rw [← hn2, Int.toNat_natCast, List.drop_length]; rfl
        rw [hL, List.append_nil]
        rcases q7 with z | z
        · subst z
          rw [List.append_nil]
          rw [List.append_nil, hO, List.append_assoc] at hb1
          exact (lns_split (lns_split hb1).2.1).1
        · exact lns_app (fun x m => z x (List.mem_of_mem_drop m)) q6
      · have hTl : AllLn T := by
          rcases q8 with z | z
          · exact z
          · exact absurd z hR
        have hOl : AllLn O := by
          rcases (lns_split hb1).2.2 with z | z
          · exact absurd z hR
          · exact fun x m => z x (List.mem_append_left _ m)
        exact lns_app (allLn_app (fun x m => hOl x (List.mem_of_mem_drop m)) hTl) l1
    have hbl : bl lb who k i (d :: M) = (who.drop i).take (adv lb d.f - i) ++ List.replicate T.length k ++ bl lb who k (adv lb d.t) M := by
      rw [← hT]; rfl
    have lq : (O.drop i).length = ((who.drop i).take (adv lb d.f - i)).length := by
      rw [hQ]; simp only [List.length_take, List.length_drop, hw]
    have key : ∀ (X : List (List UInt8)) (Y : List Int), (∀ j, ∀ h : j < X.length, ∀ h' : j < Y.length, G X[j] Y[j]) → X.length = Y.length → ∀ (X' : List (List UInt8)) (Y' : List Int), (∀ j, ∀ h : j < X'.length, ∀ h' : j < Y'.length, G X'[j] Y'[j]) → X'.length = Y'.length →
        (∀ j, ∀ h : j < (X ++ X').length, ∀ h' : j < (Y ++ Y').length, G (X ++ X')[j] (Y ++ Y')[j]) := by
      intro X Y h1 h2 X' Y' h3 h4 j h h'
      by_cases q : j < X.length
      · rw [List.getElem_append_left q, List.getElem_append_left (by omega)]; exact h1 j q (by omega)
      · have hx : j - X.length < X'.length := by rw [List.length_append] at h; omega
        rw [List.getElem_append_right (by omega), List.getElem_append_right (by omega)]
        simp only [← h2]
        exact h3 (j - X.length) hx (by omega)
    refine ⟨O.drop i ++ T ++ L, hall, ?_, ?_, ?_⟩
    · rw [hap, List.flatten_append, List.flatten_append, l2]
    · rw [hbl]; simp only [List.length_append, List.length_replicate, lq, l3]
    · rw [hbl]
      refine key _ _ (key _ _ ?_ lq _ _ ?_ (by simp)) (by rw [List.length_append, List.length_append, lq, List.length_replicate]) _ _ l4 l3
      · intro j h h'
        have e : (O.drop i)[j] = ((lb.drop i).take (adv lb d.f - i))[j]'(by rw [← hQ]; exact h) := by congr 1
        rw [e, List.getElem_take, List.getElem_take, List.getElem_drop, List.getElem_drop]
        have : j < lb.length - i := by
          rw [hQ, List.length_take, List.length_drop] at h; omega
        exact hG (i + j) (by omega)
      · intro j h h'
        rw [List.getElem_replicate]
        exact hk _ (q5 _ (List.getElem_mem h))
/-- behind a whole difference: one for each line -/
theorem bl_edits (a b : List UInt8) (who : List Int) (k : Int) (hw : who.length = (lines a).length) (G : List UInt8 → Int → Prop) (hG : ∀ i, ∀ h : i < (lines a).length, G (lines a)[i] (who[i]'(by omega))) (hk : ∀ x ∈ lines b, G x k) :
    (bl (lines a) who k 0 (edits a b)).length = (lines b).length ∧ ∀ j, ∀ h : j < (lines b).length, ∀ h' : j < (bl (lines a) who k 0 (edits a b)).length, G (lines b)[j] (bl (lines a) who k 0 (edits a b))[j] := by
  have hA := edits_apart a b
  have h := bl_lines (lines a) (lines_lns a) (lines b) who k hw G hG hk (edits a b) 0 (Nat.zero_le _) (by rw [lines_flat]; exact hA) (edits_ep a b)
  obtain ⟨L, l1, l2, l3, l4⟩ := h
  have e : L = lines b := by
    rw [← lines_of_lns l1, l2, lines_flat]
    show lines (ap a 0 (edits a b)) = _
    rw [edits_ap]
  subst e
  exact ⟨l3.symm, l4⟩
/-- behind one more edit: the line, and whose the lines so far are -/
def blp (lb : List (List UInt8)) (who : List Int) (k : Int) (s : Nat × List Int) (e : Ed) : Nat × List Int := (adv lb e.t, s.2 ++ (who.drop s.1).take (adv lb e.f - s.1) ++ List.replicate (lines e.x).length k)
theorem bl_app (lb : List (List UInt8)) (who : List Int) (k : Int) : ∀ (A B : List Ed) (s : Nat × List Int), s.2 ++ bl lb who k s.1 (A ++ B) = (A.foldl (blp lb who k) s).2 ++ bl lb who k (A.foldl (blp lb who k) s).1 B
  | [], B, s => rfl
  | e :: A, B, s => by
    rw [List.foldl_cons, ← bl_app lb who k A B (blp lb who k s e)]
    show s.2 ++ ((who.drop s.1).take (adv lb e.f - s.1) ++ List.replicate (lines e.x).length k ++ bl lb who k (adv lb e.t) (A ++ B)) = (s.2 ++ (who.drop s.1).take (adv lb e.f - s.1) ++ List.replicate (lines e.x).length k) ++ bl lb who k (adv lb e.t) (A ++ B)
    simp only [List.append_assoc]
/-- behind the first edits -/
def blS (lb : List (List UInt8)) (who : List Int) (k : Int) (E : List Ed) (i : Nat) : Nat × List Int := (E.take i).foldl (blp lb who k) (0, [])
theorem blS_succ (lb : List (List UInt8)) (who : List Int) (k : Int) (E : List Ed) (i : Nat) (h : i < E.length) : blS lb who k E (i + 1) = blp lb who k (blS lb who k E i) E[i] := by
  unfold blS
  rw [List.take_succ_eq_append_getElem h, List.foldl_append]
  rfl
theorem blS_app (lb : List (List UInt8)) (who : List Int) (k : Int) (E : List Ed) (i : Nat) : bl lb who k 0 E = (blS lb who k E i).2 ++ bl lb who k (blS lb who k E i).1 (E.drop i) := by
  have h := bl_app lb who k (E.take i) (E.drop i) (0, [])
  rw [List.take_append_drop] at h
  exact h
theorem blS_all (lb : List (List UInt8)) (who : List Int) (k : Int) (E : List Ed) (i : Nat) (h : E.length ≤ i) : bl lb who k 0 E = (blS lb who k E i).2 ++ who.drop (blS lb who k E i).1 := by
  rw [blS_app lb who k E i, List.drop_eq_nil_of_le h]; rfl
theorem blS_len (lb : List (List UInt8)) (who : List Int) (k : Int) (E : List Ed) (i : Nat) : (blS lb who k E i).2.length ≤ (bl lb who k 0 E).length := by
  rw [blS_app lb who k E i, List.length_append]; omega
theorem fold_line (lb la : List (List UInt8)) (hb : Lns lb) (who : List Int) (k : Int) : ∀ (M : List Ed) (s : Nat × List Int), s.1 ≤ lb.length → Apart (lb.flatten.length : Int) (off lb s.1 : Int) M → (∀ e ∈ M, EP lb la e) →
    ∀ i, ((M.take i).foldl (blp lb who k) s).1 ≤ lb.length ∧ ∀ h : i < M.length, ((M.take i).foldl (blp lb who k) s).1 ≤ adv lb M[i].f
  | [], s, hs, _, _, i => by rw [List.take_nil]; exact ⟨hs, fun h => absurd h (Nat.not_lt_zero _)⟩
  | e :: M, s, hs, hA, hE, i => by
    obtain ⟨x1, x2, x3, x4, -, -⟩ := ep_ix hb (hE e List.mem_cons_self)
    have h1 := hA.1
    have h2 := hA.2.1
    cases i with
    | zero => exact ⟨hs, fun _ => (off_inj (i := adv lb e.f) (lns_ne hb) (by omega) (by omega) hs : s.1 ≤ adv lb e.f)⟩
    | succ i =>
      have ih := fold_line lb la hb who k M (blp lb who k s e) x2 (by show Apart _ (off lb (adv lb e.t) : Int) M; rw [x4]; exact apart_mono hA.2.2.2 (by omega)) (fun d m => hE d (List.mem_cons_of_mem _ m)) i
      rw [List.take_succ_cons, List.foldl_cons]
      exact ⟨ih.1, fun h => ih.2 (by simpa using h)⟩
theorem blS_line (a b : List UInt8) (who : List Int) (k : Int) (i : Nat) : (blS (lines a) who k (edits a b) i).1 ≤ (lines a).length ∧ ∀ h : i < (edits a b).length, (blS (lines a) who k (edits a b) i).1 ≤ adv (lines a) (edits a b)[i].f :=
  fold_line (lines a) (lines b) (lines_lns a) who k (edits a b) (0, []) (Nat.zero_le _) (by rw [lines_flat]; exact edits_apart a b) (edits_ep a b) i
end Go.Proofs.Ythimblhfjfngiaa.Tx

namespace Go.Proofs.Ythimblhfjfngiaa
theorem bl_lt : ∀ (x y : List UInt8), Op.bytesLess x y = decide (x < y)
  | [], [] => by simp [Op.bytesLess]
  | _ :: _, [] => by simp [Op.bytesLess]
  | [], _ :: _ => by simp [Op.bytesLess]
  | a :: x, b :: y => by
    rw [Op.bytesLess, bl_lt x y, Bool.eq_iff_iff]
    simp [List.cons_lt_cons_iff]
theorem bl_ne {x y : List UInt8} (h : Op.bytesLess y x = true) : (x == y) = false := by
  cases q : x == y with
  | false => rfl
  | true => rw [eq_of_beq q, bl_lt, decide_eq_true_eq] at h; exact absurd h (List.lt_irrefl _)
theorem bl_eq {x y : List UInt8} (h1 : Op.bytesLess x y = false) (h2 : Op.bytesLess y x = false) : (x == y) = true := by
  rw [bl_lt] at h1 h2
  exact beq_iff_eq.2 (List.le_antisymm (List.not_lt.1 (of_decide_eq_false h2)) (List.not_lt.1 (of_decide_eq_false h1)))
theorem bl_gtr (x y : List UInt8) : (!(Op.bytesLess x y || x == y)) = Op.bytesLess y x := by
  cases h1 : Op.bytesLess x y with
  | true =>
    cases h2 : Op.bytesLess y x with
    | false => rfl
    | true => rw [bl_lt, decide_eq_true_eq] at h1 h2; exact absurd (List.lt_trans h1 h2) (List.lt_irrefl _)
  | false =>
    cases h2 : Op.bytesLess y x with
    | false => rw [bl_eq h1 h2]; rfl
    | true => rw [bl_ne h2]; rfl
theorem run_gtr_str (P : Program) (T : TypeId) (x y : ByteArray) (w : World) : Sem.run P (binOp .gtr T (.string x) (.string y)) w = .ok (.bool (Op.bytesLess y.toList x.toList)) w := by
  rw [← bl_gtr]
  simp [binOp, Op.stringOp]
end Go.Proofs.Ythimblhfjfngiaa

namespace Go.Proofs.Ythimblhfjfngiaa.PText
open Go.RowKit Go.Proofs.YthimblhfjfngiaaW.PrintWords Go.Proofs.YthimblhfjfngiaaW.PrintLast Go.Proofs.YthimblhfjfngiaaW.PrintMore
attribute [local go_sem] max2_int min2_int max_two min_two max_three min_three max_four min_four   -- for this text's walks alone
set_option linter.unusedVariables false
set_option linter.unusedSimpArgs false

def cmp_Compare_string.f (a0 : ByteArray) (a1 : ByteArray) : Option (Int) := (cmp_isNaN_string.f a0).bind fun t166 => ((cmp_isNaN_string.f a1).bind fun t167 => (if t166 = true then (if t167 = true then (some 0) else (some (-1))) else (if t167 = true then (some 1) else (if (Op.bytesLess a0.toList a1.toList) = true then (some (-1)) else (if (Op.bytesLess a1.toList a0.toList) = true then (some 1) else (some 0))))))
set_option maxHeartbeats 8000000 in
set_option maxRecDepth 100000 in
theorem cmp_Compare_string.calls (a0 : ByteArray) (a1 : ByteArray) (r : Int) (w : World) (h : cmp_Compare_string.f a0 a1 = some r) :
  Calls Try.prog 40 #[.string a0, .string a1] w fun e w' => e = .returned (.int .i64 r) ∧ Drawn0 w w' := by
 have H : ((cmp_isNaN_string.f a0).bind fun t166 => ((cmp_isNaN_string.f a1).bind fun t167 => (if t166 = true then (if t167 = true then (some 0) else (some (-1))) else (if t167 = true then (some 1) else (if (Op.bytesLess a0.toList a1.toList) = true then (some (-1)) else (if (Op.bytesLess a1.toList a0.toList) = true then (some 1) else (some 0))))))) = some r := h
 clear h
 replace H := Option.bind_eq_some_iff.mp H
 obtain ⟨t166, A30, H⟩ := H
 replace H : ((cmp_isNaN_string.f a1).bind fun t167 => (if t166 = true then (if t167 = true then (some 0) else (some (-1))) else (if t167 = true then (some 1) else (if (Op.bytesLess a0.toList a1.toList) = true then (some (-1)) else (if (Op.bytesLess a1.toList a0.toList) = true then (some 1) else (some 0)))))) = some r := H
 have A3 := Aside0.mk A30
 clear A30
 replace H := Option.bind_eq_some_iff.mp H
 obtain ⟨t167, A40, H⟩ := H
 replace H : (if t166 = true then (if t167 = true then (some 0) else (some (-1))) else (if t167 = true then (some 1) else (if (Op.bytesLess a0.toList a1.toList) = true then (some (-1)) else (if (Op.bytesLess a1.toList a0.toList) = true then (some 1) else (some 0))))) = some r := H
 have A4 := Aside0.mk A40
 clear A40
 by_cases c5 : t166 = true
 ·subst c5
  have H1 : (if t167 = true then (some 0) else (some (-1))) = some r := by rw [if_pos rfl] at H; exact H
  clear H
  have H := H1
  clear H1
  by_cases c6 : t167 = true
  ·subst c6
   have H1 : (some 0) = some r := by rw [if_pos rfl] at H; exact H
   clear H
   have H := H1
   clear H1
   obtain rfl := Option.some.inj H
   go_enter Try.func40, Try.ntmps40
   go_wp2_with (first | ((with_reducible refine gate_callee (f := 59) rfl ?_); refine goesL_ (some 8) rfl rfl Try.func59 (by kernel_rfl) rfl #[.string a0] rfl (by (try simp only [List.map_toArray, List.map_cons, List.map_nil]); first | done | rfl | (simp only [List.length_drop, List.length_take]; rfl)) ?_; (with_reducible refine (cmp_isNaN_string.calls a0 true _ A3.out).mono ?_); rintro e w' ⟨rfl, ⟨nd, rfl⟩⟩; refine ⟨_, rfl, ?_⟩) | ((with_reducible refine gate_callee (f := 59) rfl ?_); refine goesL_ (some 10) rfl rfl Try.func59 (by kernel_rfl) rfl #[.string a1] rfl (by (try simp only [List.map_toArray, List.map_cons, List.map_nil]); first | done | rfl | (simp only [List.length_drop, List.length_take]; rfl)) ?_; (with_reducible refine (cmp_isNaN_string.calls a1 true _ A4.out).mono ?_); rintro e w' ⟨rfl, ⟨nd, rfl⟩⟩; refine ⟨_, rfl, ?_⟩))
   go_ret
   exact ⟨by first | rfl | (simp; done) | (simp [*]; done), by repeat (first | exact Drawn0.refl _ | apply Drawn0.step)⟩
  ·replace c6 := Bool.eq_false_iff.mpr c6
   subst c6
   have H1 : (some (-1)) = some r := by rw [if_neg (show ¬ (false = true) by decide)] at H; exact H
   clear H
   have H := H1
   clear H1
   obtain rfl := Option.some.inj H
   go_enter Try.func40, Try.ntmps40
   go_wp2_with (first | ((with_reducible refine gate_callee (f := 59) rfl ?_); refine goesL_ (some 8) rfl rfl Try.func59 (by kernel_rfl) rfl #[.string a0] rfl (by (try simp only [List.map_toArray, List.map_cons, List.map_nil]); first | done | rfl | (simp only [List.length_drop, List.length_take]; rfl)) ?_; (with_reducible refine (cmp_isNaN_string.calls a0 true _ A3.out).mono ?_); rintro e w' ⟨rfl, ⟨nd, rfl⟩⟩; refine ⟨_, rfl, ?_⟩) | ((with_reducible refine gate_callee (f := 59) rfl ?_); refine goesL_ (some 10) rfl rfl Try.func59 (by kernel_rfl) rfl #[.string a1] rfl (by (try simp only [List.map_toArray, List.map_cons, List.map_nil]); first | done | rfl | (simp only [List.length_drop, List.length_take]; rfl)) ?_; (with_reducible refine (cmp_isNaN_string.calls a1 false _ A4.out).mono ?_); rintro e w' ⟨rfl, ⟨nd, rfl⟩⟩; refine ⟨_, rfl, ?_⟩))
   go_ret
   exact ⟨by first | rfl | (simp; done) | (simp [*]; done), by repeat (first | exact Drawn0.refl _ | apply Drawn0.step)⟩
 ·replace c5 := Bool.eq_false_iff.mpr c5
  subst c5
  have H1 : (if t167 = true then (some 1) else (if (Op.bytesLess a0.toList a1.toList) = true then (some (-1)) else (if (Op.bytesLess a1.toList a0.toList) = true then (some 1) else (some 0)))) = some r := by rw [if_neg (show ¬ (false = true) by decide)] at H; exact H
  clear H
  have H := H1
  clear H1
  by_cases c7 : t167 = true
  ·subst c7
   have H1 : (some 1) = some r := by rw [if_pos rfl] at H; exact H
   clear H
   have H := H1
   clear H1
   obtain rfl := Option.some.inj H
   go_enter Try.func40, Try.ntmps40
   go_wp2_with (first | ((with_reducible refine gate_callee (f := 59) rfl ?_); refine goesL_ (some 8) rfl rfl Try.func59 (by kernel_rfl) rfl #[.string a0] rfl (by (try simp only [List.map_toArray, List.map_cons, List.map_nil]); first | done | rfl | (simp only [List.length_drop, List.length_take]; rfl)) ?_; (with_reducible refine (cmp_isNaN_string.calls a0 false _ A3.out).mono ?_); rintro e w' ⟨rfl, ⟨nd, rfl⟩⟩; refine ⟨_, rfl, ?_⟩) | ((with_reducible refine gate_callee (f := 59) rfl ?_); refine goesL_ (some 10) rfl rfl Try.func59 (by kernel_rfl) rfl #[.string a1] rfl (by (try simp only [List.map_toArray, List.map_cons, List.map_nil]); first | done | rfl | (simp only [List.length_drop, List.length_take]; rfl)) ?_; (with_reducible refine (cmp_isNaN_string.calls a1 true _ A4.out).mono ?_); rintro e w' ⟨rfl, ⟨nd, rfl⟩⟩; refine ⟨_, rfl, ?_⟩))
   go_ret
   exact ⟨by first | rfl | (simp; done) | (simp [*]; done), by repeat (first | exact Drawn0.refl _ | apply Drawn0.step)⟩
  ·replace c7 := Bool.eq_false_iff.mpr c7
   subst c7
   have H1 : (if (Op.bytesLess a0.toList a1.toList) = true then (some (-1)) else (if (Op.bytesLess a1.toList a0.toList) = true then (some 1) else (some 0))) = some r := by rw [if_neg (show ¬ (false = true) by decide)] at H; exact H
   clear H
   have H := H1
   clear H1
   by_cases c8 : (Op.bytesLess a0.toList a1.toList) = true
   ·rw [if_pos c8] at H
    have c8b0 : (Op.bytesLess a0.toList a1.toList) = true := c8
    clear c8
    obtain rfl := Option.some.inj H
    go_enter Try.func40, Try.ntmps40
    go_wp2_with (first | ((with_reducible refine gate_callee (f := 59) rfl ?_); refine goesL_ (some 8) rfl rfl Try.func59 (by kernel_rfl) rfl #[.string a0] rfl (by (try simp only [List.map_toArray, List.map_cons, List.map_nil]); first | done | rfl | (simp only [List.length_drop, List.length_take]; rfl)) ?_; (with_reducible refine (cmp_isNaN_string.calls a0 false _ A3.out).mono ?_); rintro e w' ⟨rfl, ⟨nd, rfl⟩⟩; refine ⟨_, rfl, ?_⟩) | ((with_reducible refine gate_callee (f := 59) rfl ?_); refine goesL_ (some 10) rfl rfl Try.func59 (by kernel_rfl) rfl #[.string a1] rfl (by (try simp only [List.map_toArray, List.map_cons, List.map_nil]); first | done | rfl | (simp only [List.length_drop, List.length_take]; rfl)) ?_; (with_reducible refine (cmp_isNaN_string.calls a1 false _ A4.out).mono ?_); rintro e w' ⟨rfl, ⟨nd, rfl⟩⟩; refine ⟨_, rfl, ?_⟩))
    go_ret
    exact ⟨by first | rfl | (simp; done) | (simp [*]; done), by repeat (first | exact Drawn0.refl _ | apply Drawn0.step)⟩
   ·rw [if_neg c8] at H
    have c8b0 : (Op.bytesLess a0.toList a1.toList) = false := by simpa using c8
    clear c8
    by_cases c9 : (Op.bytesLess a1.toList a0.toList) = true
    ·rw [if_pos c9] at H
     have c9b0 : (Op.bytesLess a1.toList a0.toList) = true := c9
     have c9g := run_gtr_str Try.prog 9 a0 a1
     clear c9
     obtain rfl := Option.some.inj H
     go_enter Try.func40, Try.ntmps40
     go_wp2_with (first | ((with_reducible refine gate_callee (f := 59) rfl ?_); refine goesL_ (some 8) rfl rfl Try.func59 (by kernel_rfl) rfl #[.string a0] rfl (by (try simp only [List.map_toArray, List.map_cons, List.map_nil]); first | done | rfl | (simp only [List.length_drop, List.length_take]; rfl)) ?_; (with_reducible refine (cmp_isNaN_string.calls a0 false _ A3.out).mono ?_); rintro e w' ⟨rfl, ⟨nd, rfl⟩⟩; refine ⟨_, rfl, ?_⟩) | ((with_reducible refine gate_callee (f := 59) rfl ?_); refine goesL_ (some 10) rfl rfl Try.func59 (by kernel_rfl) rfl #[.string a1] rfl (by (try simp only [List.map_toArray, List.map_cons, List.map_nil]); first | done | rfl | (simp only [List.length_drop, List.length_take]; rfl)) ?_; (with_reducible refine (cmp_isNaN_string.calls a1 false _ A4.out).mono ?_); rintro e w' ⟨rfl, ⟨nd, rfl⟩⟩; refine ⟨_, rfl, ?_⟩))
     go_ret
     exact ⟨by first | rfl | (simp; done) | (simp [*]; done), by repeat (first | exact Drawn0.refl _ | apply Drawn0.step)⟩
    ·rw [if_neg c9] at H
     have c9b0 : (Op.bytesLess a1.toList a0.toList) = false := by simpa using c9
     have c9g := run_gtr_str Try.prog 9 a0 a1
     clear c9
     obtain rfl := Option.some.inj H
     go_enter Try.func40, Try.ntmps40
     go_wp2_with (first | ((with_reducible refine gate_callee (f := 59) rfl ?_); refine goesL_ (some 8) rfl rfl Try.func59 (by kernel_rfl) rfl #[.string a0] rfl (by (try simp only [List.map_toArray, List.map_cons, List.map_nil]); first | done | rfl | (simp only [List.length_drop, List.length_take]; rfl)) ?_; (with_reducible refine (cmp_isNaN_string.calls a0 false _ A3.out).mono ?_); rintro e w' ⟨rfl, ⟨nd, rfl⟩⟩; refine ⟨_, rfl, ?_⟩) | ((with_reducible refine gate_callee (f := 59) rfl ?_); refine goesL_ (some 10) rfl rfl Try.func59 (by kernel_rfl) rfl #[.string a1] rfl (by (try simp only [List.map_toArray, List.map_cons, List.map_nil]); first | done | rfl | (simp only [List.length_drop, List.length_take]; rfl)) ?_; (with_reducible refine (cmp_isNaN_string.calls a1 false _ A4.out).mono ?_); rintro e w' ⟨rfl, ⟨nd, rfl⟩⟩; refine ⟨_, rfl, ?_⟩))
     go_ret
     exact ⟨by first | rfl | (simp; done) | (simp [*]; done), by repeat (first | exact Drawn0.refl _ | apply Drawn0.step)⟩

end Go.Proofs.Ythimblhfjfngiaa.PText

-- mended25

namespace Go.Proofs.Ythimblhfjfngiaa.PText
open Go.RowKit Go.Proofs.YthimblhfjfngiaaW.PrintWords Go.Proofs.YthimblhfjfngiaaW.PrintLast Go.Proofs.YthimblhfjfngiaaW.PrintMore
attribute [local go_sem] max2_int min2_int max_two min_two max_three min_three max_four min_four   -- for this text's walks alone
set_option linter.unusedVariables false
set_option linter.unusedSimpArgs false

def text_order.f (k : Nat) (a0_0 : Int) (a0_1 : Int) (a0_2 : ByteArray) (a1_0 : Int) (a1_1 : Int) (a1_2 : ByteArray) : Option (Int) := (cmp_Compare_int.f a0_0 a1_0).bind fun t173 => ((cmp_Compare_int.f a0_1 a1_1).bind fun t174 => ((cmp_Compare_string.f a0_2 a1_2).bind fun t175 => ((cmp_Or_int.f k (([t173, t174, t175] : List Int))).bind fun t179 => (some t179))))
def text_order.T1 : Bool × List (List Nat × List Nat) := (true, [([], []), ([0], [0]), ([], []), ([2], [2]), ([1, 3], [1, 3]), ([], []), ([5], [5]), ([], []), ([7], [7]), ([6, 8, 4], [6, 8]), ([], []), ([10], [10]), ([], []), ([12], [12]), ([11, 13, 9], [11, 13]), ([4, 9, 14], [4, 9, 14]), ([15, 14], [15]), ([16, 16, 0, 1, 2, 3, 4, 5, 6, 7, 8, 9, 10, 11, 12, 13, 14, 15, 16], [16])])
def text_order.B1 : List Nat := [0, 1, 0, 4, 15, 0, 32, 0, 128, 511, 0, 1024, 0, 4096, 16383, 32767, 65535, 131071]
theorem text_order.tab1 : rtab .any (opsOf Try.f66 1) = text_order.T1 := by kernel_rfl
theorem text_order.bits1 : waitsOk text_order.T1.2 text_order.B1 = true := by kernel_rfl
end Go.Proofs.Ythimblhfjfngiaa.PText

