/- TextMerges holds: for every text and any two lists of edits the statement answers true, where the three listed package variables hold what the program's text lays. Part 1 of 5. -/
import Derived.Test.YthimblhfjfngiaaDoorBTextR
namespace Go.Proofs.YthimblhfjfngiaaDoor.PText
open Go.RowKit Go.Proofs.YthimblhfjfngiaaDoorW.PrintWords Go.Proofs.YthimblhfjfngiaaDoorW.PrintLast Go.Proofs.YthimblhfjfngiaaDoorW.PrintMore
attribute [local go_sem] max2_int min2_int max_two min_two max_three min_three max_four min_four   -- for this text's walks alone
set_option linter.unusedVariables false
set_option linter.unusedSimpArgs false

attribute [local go_sem high] eqA34
def rf0_EqEdits.l0 : Nat → List (S34) → List (S34) → Int → Option (Bool)
 | 0, _, _, _ => none
 | k + 1, x0, x1, x5 => if x5 < (x0.length : Int) then (if 0 ≤ x5 then (if x5 < (x1.length : Int) then (if (!(((rd_T34 x0 x5).f0) == ((rd_T34 x1 x5).f0)) || (!(((rd_T34 x0 x5).f1) == ((rd_T34 x1 x5).f1)) || (!((((rd_T34 x0 x5).f2).toList) == (((rd_T34 x1 x5).f2).toList))))) = true then (some false) else (rf0_EqEdits.l0 k x0 x1 (wrap64 (x5 + 1)))) else (none)) else (none)) else (some true)
def rf0_EqEdits.f (k : Nat) (l0 : List (S34)) (l1 : List (S34)) : Option (Bool) := if (l0.length : Int) = (l1.length : Int) then (rf0_EqEdits.l0 k l0 l1 0) else (some false)
set_option maxHeartbeats 8000000 in
set_option maxRecDepth 100000 in
theorem rf0_EqEdits.calls (k : Nat) (A0 : Option Addr) (c0 : Nat) (l0 : List (S34)) (A1 : Option Addr) (c1 : Nat) (l1 : List (S34)) (r : Bool) (w : World) (hr0 : Kd.C k34 w A0 l0.length l0) (hc0 : l0.length ≤ c0) (hr1 : Kd.C k34 w A1 l1.length l1) (hc1 : l1.length ≤ c1) (h : rf0_EqEdits.f k l0 l1 = some r) :
  Calls Tryd.prog 16 #[.slice A0 l0.length c0, .slice A1 l1.length c1] w fun e w' => e = .returned (.bool r) ∧ Drawn0 w w' := by
 have hu34 := Tryd.underlying34
 have HR0 := Aside0.mk hr0
 have HC0 := Aside0.mk hc0
 clear hr0 hc0
 have HR1 := Aside0.mk hr1
 have HC1 := Aside0.mk hc1
 clear hr1 hc1
 have H : (if (l0.length : Int) = (l1.length : Int) then (rf0_EqEdits.l0 k l0 l1 0) else (some false)) = some r := h
 clear h
 by_cases c3 : (l0.length : Int) = (l1.length : Int)
 ·rw [if_pos c3] at H
  have c3b0 : ((l0.length : Int) == (l1.length : Int)) = true := beq_iff_eq.mpr c3
  have c3b1 : ((l0.length : Int) != (l1.length : Int)) = false := bne_eq_false_iff_eq.mpr c3
  have c3b2 : (l0.length == l1.length) = true := by first | simpa using c3 | (simp at c3 ⊢; omega)
  clear c3
  have H' := Aside0.mk H
  clear H
  go_enter Tryd.func16, Tryd.ntmps16
  go_wp2
  repeat (go_quiet (fail); try go_wp2)
  try simp only [Act.put, List.setIfInBounds_toArray, List.set_cons_succ, List.set_cons_zero]
  go_loopg [5] k (fun kq v5 w' => ∃ (x5_1 : Int), v5 = .int .i64 x5_1 ∧ Aside0 (rf0_EqEdits.l0 kq l0 l1 x5_1 = some r) ∧ Aside0 (kq ≤ k) ∧ Drawn0 w w')
  case atStart => exact ⟨(0), (by first | rfl | (simp; done) | (simp [*]; done)), H', ⟨Nat.le_refl _⟩, by repeat (first | exact Drawn0.refl _ | apply Drawn0.step)⟩
  case round =>
   clear H'
   try clear c1
   try clear p2
   try clear c3
   try clear c3b0
   try clear c3b1
   try clear c3b2
   obtain ⟨x5_1, rfl, HA, HK1, ⟨m1, rfl⟩⟩ := hrel
   cases gk with
   | zero => exact absurd HA.out (by simp [rf0_EqEdits.l0])
   | succ k1 =>
    have H := HA.out
    clear HA
    simp only [rf0_EqEdits.l0] at H
    by_cases c4 : x5_1 < (l0.length : Int)
    ·rw [if_pos c4] at H
     have c4b0 : decide (x5_1 < (l0.length : Int)) = true := decide_eq_true c4
     clear c4
     by_cases c5 : 0 ≤ x5_1
     ·rw [if_pos c5] at H
      have c5b0 : decide (0 ≤ x5_1) = true := decide_eq_true c5
      clear c5
      by_cases c6 : x5_1 < (l1.length : Int)
      ·rw [if_pos c6] at H
       have c6b0 : decide (x5_1 < (l1.length : Int)) = true := decide_eq_true c6
       clear c6
       by_cases c7 : (!(((rd_T34 l0 x5_1).f0) == ((rd_T34 l1 x5_1).f0)) || (!(((rd_T34 l0 x5_1).f1) == ((rd_T34 l1 x5_1).f1)) || (!((((rd_T34 l0 x5_1).f2).toList) == (((rd_T34 l1 x5_1).f2).toList))))) = true
       ·rw [if_pos c7] at H
        have c7b0 : (!(((rd_T34 l0 x5_1).f0) == ((rd_T34 l1 x5_1).f0)) || (!(((rd_T34 l0 x5_1).f1) == ((rd_T34 l1 x5_1).f1)) || (!((((rd_T34 l0 x5_1).f2).toList) == (((rd_T34 l1 x5_1).f2).toList))))) = true := c7
        clear c7
        obtain rfl := Option.some.inj H
        have p249 : 0 ≤ (x5_1 : Int) := of_decide_eq_true (by first | (with_reducible assumption) | assumption)
        have q249 : x5_1 < (l0.length : Int) := of_decide_eq_true (by first | (with_reducible assumption) | assumption)
        obtain ⟨ad249, e249, hx249_0, hx249_1, hx249_2⟩ := at_T34 HR0.out x5_1 p249 q249
        cases e249
        replace p249 := eq_true p249
        replace q249 := eq_true q249
        have p250 : 0 ≤ (x5_1 : Int) := of_decide_eq_true (by first | (with_reducible assumption) | assumption)
        have q250 : x5_1 < (l1.length : Int) := of_decide_eq_true (by first | (with_reducible assumption) | assumption)
        obtain ⟨ad250, e250, hx250_0, hx250_1, hx250_2⟩ := at_T34 HR1.out x5_1 p250 q250
        cases e250
        replace p250 := eq_true p250
        replace q250 := eq_true q250
        go_wp2
        repeat (go_quiet (fail); try go_wp2)
        go_ret
        exact ⟨by first | rfl | (simp; done) | (simp [*]; done), by repeat (first | exact Drawn0.refl _ | apply Drawn0.step)⟩
       ·rw [if_neg c7] at H
        have c7b0 : (!(((rd_T34 l0 x5_1).f0) == ((rd_T34 l1 x5_1).f0)) || (!(((rd_T34 l0 x5_1).f1) == ((rd_T34 l1 x5_1).f1)) || (!((((rd_T34 l0 x5_1).f2).toList) == (((rd_T34 l1 x5_1).f2).toList))))) = false := by simpa using c7
        clear c7
        have H' := Aside0.mk H
        clear H
        have p249 : 0 ≤ (x5_1 : Int) := of_decide_eq_true (by first | (with_reducible assumption) | assumption)
        have q249 : x5_1 < (l0.length : Int) := of_decide_eq_true (by first | (with_reducible assumption) | assumption)
        obtain ⟨ad249, e249, hx249_0, hx249_1, hx249_2⟩ := at_T34 HR0.out x5_1 p249 q249
        cases e249
        replace p249 := eq_true p249
        replace q249 := eq_true q249
        have p250 : 0 ≤ (x5_1 : Int) := of_decide_eq_true (by first | (with_reducible assumption) | assumption)
        have q250 : x5_1 < (l1.length : Int) := of_decide_eq_true (by first | (with_reducible assumption) | assumption)
        obtain ⟨ad250, e250, hx250_0, hx250_1, hx250_2⟩ := at_T34 HR1.out x5_1 p250 q250
        cases e250
        replace p250 := eq_true p250
        replace q250 := eq_true q250
        go_wp2
        repeat (go_quiet (fail); try go_wp2)
        go_roundg k1
        case measure => have := HK1.out; omega
        case rel => exact ⟨(wrap64 (x5_1 + 1)), (by first | rfl | (simp; done) | (simp [*]; done)), H', ⟨by have := HK1.out; omega⟩, by repeat (first | exact Drawn0.refl _ | apply Drawn0.step)⟩
      ·rw [if_neg c6] at H
       exact absurd H (by simp)
     ·rw [if_neg c5] at H
      exact absurd H (by simp)
    ·rw [if_neg c4] at H
     have c4b0 : decide (x5_1 < (l0.length : Int)) = false := decide_eq_false c4
     clear c4
     obtain rfl := Option.some.inj H
     go_wp2
     repeat (go_quiet (fail); try go_wp2)
     go_ret
     exact ⟨by first | rfl | (simp; done) | (simp [*]; done), by repeat (first | exact Drawn0.refl _ | apply Drawn0.step)⟩
 ·rw [if_neg c3] at H
  have c3b0 : ((l0.length : Int) == (l1.length : Int)) = false := beq_eq_false_iff_ne.mpr c3
  have c3b1 : ((l0.length : Int) != (l1.length : Int)) = true := bne_iff_ne.mpr c3
  have c3b2 : (l0.length == l1.length) = false := by first | simpa using c3 | (simp at c3 ⊢; omega)
  obtain rfl := Option.some.inj H
  go_enter Tryd.func16, Tryd.ntmps16
  go_wp2
  repeat (go_quiet (fail); try go_wp2)
  go_ret
  exact ⟨by first | rfl | (simp; done) | (simp [*]; done), by repeat (first | exact Drawn0.refl _ | apply Drawn0.step)⟩

end Go.Proofs.YthimblhfjfngiaaDoor.PText

namespace Go.Proofs.YthimblhfjfngiaaDoor.PText
open Go.RowKit Go.Proofs.YthimblhfjfngiaaDoorW.PrintWords Go.Proofs.YthimblhfjfngiaaDoorW.PrintLast Go.Proofs.YthimblhfjfngiaaDoorW.PrintMore
attribute [local go_sem] max2_int min2_int max_two min_two max_three min_three max_four min_four   -- for this text's walks alone
set_option linter.unusedVariables false
set_option linter.unusedSimpArgs false

def smockingref01_before.f (a0_0 : Int) (a0_1 : Int) (a0_2 : ByteArray) (a1_0 : Int) (a1_1 : Int) (a1_2 : ByteArray) : Option (Bool) := if a0_0 = a1_0 then (if a0_1 = a1_1 then (some (Op.bytesLess a0_2.toList a1_2.toList)) else (some (decide (a0_1 < a1_1)))) else (some (decide (a0_0 < a1_0)))
set_option maxHeartbeats 8000000 in
set_option maxRecDepth 100000 in
theorem smockingref01_before.calls (a0_0 : Int) (a0_1 : Int) (a0_2 : ByteArray) (a1_0 : Int) (a1_1 : Int) (a1_2 : ByteArray) (r : Bool) (w : World) (h : smockingref01_before.f a0_0 a0_1 a0_2 a1_0 a1_1 a1_2 = some r) :
  Calls Tryd.prog 69 #[.agg #[.int .i64 a0_0, .int .i64 a0_1, .string a0_2], .agg #[.int .i64 a1_0, .int .i64 a1_1, .string a1_2]] w fun e w' => e = .returned (.bool r) ∧ Below w.heap.size w w' := by
 have hu34 := Tryd.underlying34
 have HB := Aside0.mk (Below.refl w.heap.size w)
 have H : (if a0_0 = a1_0 then (if a0_1 = a1_1 then (some (Op.bytesLess a0_2.toList a1_2.toList)) else (some (decide (a0_1 < a1_1)))) else (some (decide (a0_0 < a1_0)))) = some r := h
 clear h
 by_cases c3 : a0_0 = a1_0
 ·rw [if_pos c3] at H
  have c3b0 : (a0_0 == a1_0) = true := beq_iff_eq.mpr c3
  have c3b1 : (a0_0 != a1_0) = false := bne_eq_false_iff_eq.mpr c3
  clear c3
  by_cases c4 : a0_1 = a1_1
  ·rw [if_pos c4] at H
   have c4b0 : (a0_1 == a1_1) = true := beq_iff_eq.mpr c4
   have c4b1 : (a0_1 != a1_1) = false := bne_eq_false_iff_eq.mpr c4
   clear c4
   obtain rfl := Option.some.inj H
   go_enter Tryd.func69, Tryd.ntmps69
   go_wp2_with (first | ((with_reducible refine gate_dst (N := 2) rfl ?_); refine box_event ?hg (N := 2) ?hd (cs := #[.int .i64 a0_0, .int .i64 a0_1, .string a0_2]) (t := 34) ?hr ?_; (case hd => rfl); (case hg => rfl); (case hr => first | (go_simp; done) | (go_simp; rfl)); intro gb143 hg w5 hbox hb; have n0_ := Aside0.mk (below_step (by repeat (first | (with_reducible first | exact HB.out | apply below_alloc | apply pw_below_drewN | apply below_drew1) | exact HB.out)) hb); have n1_ := Aside0.mk (hbox); have n2_ := Aside0.mk ((by rw [hg]; exact (below_size (by repeat (first | (with_reducible first | exact HB.out | apply below_alloc | apply pw_below_drewN | apply below_drew1) | exact HB.out))) : w.heap.size ≤ gb143)); have n3_ := Aside0.mk ((by rw [hg]; exact (below_size (by repeat (first | (with_reducible first | exact HB.out | apply below_alloc | apply pw_below_drewN | apply below_drew1) | exact HB.out))) : w.heap.size ≤ gb143)); clear HB; have HB := n0_; have BK143 := n1_; have GW143 := n2_; have GE143 := n3_; clear n0_ n1_ n2_ n3_; clear hb hbox hg) | ((with_reducible refine gate_dst (N := 3) rfl ?_); refine box_event ?hg (N := 3) ?hd (cs := #[.int .i64 a1_0, .int .i64 a1_1, .string a1_2]) (t := 34) ?hr ?_; (case hd => rfl); (case hg => rfl); (case hr => first | (go_simp; done) | (go_simp; rfl)); intro gb144 hg w6 hbox hb; have n0_ := Aside0.mk (blk_below (g := gb143) (o := .cells #[.int .i64 a0_0, .int .i64 a0_1, .string a0_2] 34 (0, 0)) (by (with_reducible repeat (first | refine blk_drewN ?_ _ | refine blk_drew ?_ | refine blk_alloc ?_ _)); exact BK143.out) hb); have n1_ := Aside0.mk (below_step (by repeat (first | (with_reducible first | exact HB.out | apply below_alloc | apply pw_below_drewN | apply below_drew1 | refine below_set ?_ GE143.out) | exact HB.out)) hb); have n2_ := Aside0.mk (hbox); have n3_ := Aside0.mk ((by rw [hg]; exact (below_size (by repeat (first | (with_reducible first | exact HB.out | apply below_alloc | apply pw_below_drewN | apply below_drew1 | refine below_set ?_ GE143.out) | exact HB.out))) : w.heap.size ≤ gb144)); have n4_ := Aside0.mk ((by rw [hg]; exact (below_size (by repeat (first | (with_reducible first | exact HB.out | apply below_alloc | apply pw_below_drewN | apply below_drew1 | refine below_set ?_ GE143.out) | exact HB.out))) : w.heap.size ≤ gb144)); have n5_ := Aside0.mk ((by rw [hg]; exact Nat.ne_of_lt (blk_lt (g := gb143) (o := .cells #[.int .i64 a0_0, .int .i64 a0_1, .string a0_2] 34 (0, 0)) (by (with_reducible repeat (first | refine blk_drewN ?_ _ | refine blk_drew ?_ | refine blk_alloc ?_ _)); exact BK143.out)) : gb143 ≠ gb144)); have n6_ := Aside0.mk ((by rw [hg]; exact Nat.ne_of_gt (blk_lt (g := gb143) (o := .cells #[.int .i64 a0_0, .int .i64 a0_1, .string a0_2] 34 (0, 0)) (by (with_reducible repeat (first | refine blk_drewN ?_ _ | refine blk_drew ?_ | refine blk_alloc ?_ _)); exact BK143.out)) : gb144 ≠ gb143)); clear BK143; clear HB; have BK143 := n0_; have HB := n1_; have BK144 := n2_; have GW144 := n3_; have GE144 := n4_; have NB143_144 := n5_; have NB144_143 := n6_; clear n0_ n1_ n2_ n3_ n4_ n5_ n6_; clear hb hbox hg; have hnb7 := NB143_144.out; have hnc7 := NB144_143.out; have hcz8_0 : w6.cell? ⟨gb143, 0, none⟩ = some (.int .i64 a0_0) := (blk_cell BK143.out 0).trans rfl; have hcz8_1 : w6.cell? ⟨gb143, 1, none⟩ = some (.int .i64 a0_1) := (blk_cell BK143.out 1).trans rfl; have hcz8_2 : w6.cell? ⟨gb143, 2, none⟩ = some (.string a0_2) := (blk_cell BK143.out 2).trans rfl; have hfz8_0 := blk_frozen BK143.out 0; have hfz8_1 := blk_frozen BK143.out 1; have hfz8_2 := blk_frozen BK143.out 2; have hcz9_0 : w6.cell? ⟨gb144, 0, none⟩ = some (.int .i64 a1_0) := (blk_cell BK144.out 0).trans rfl; have hcz9_1 : w6.cell? ⟨gb144, 1, none⟩ = some (.int .i64 a1_1) := (blk_cell BK144.out 1).trans rfl; have hcz9_2 : w6.cell? ⟨gb144, 2, none⟩ = some (.string a1_2) := (blk_cell BK144.out 2).trans rfl; have hfz9_0 := blk_frozen BK144.out 0; have hfz9_1 := blk_frozen BK144.out 1; have hfz9_2 := blk_frozen BK144.out 2))
   go_ret
   exact ⟨by first | rfl | (simp [errW_none, errW_some] <;> rfl) | (simp [*, errW_none, errW_some] <;> rfl), by repeat (first | (with_reducible first | exact HB.out | apply below_alloc | apply pw_below_drewN | apply below_drew1 | refine below_set ?_ GE143.out | refine below_set ?_ GE144.out) | exact HB.out)⟩
  ·rw [if_neg c4] at H
   have c4b0 : (a0_1 == a1_1) = false := beq_eq_false_iff_ne.mpr c4
   have c4b1 : (a0_1 != a1_1) = true := bne_iff_ne.mpr c4
   obtain rfl := Option.some.inj H
   go_enter Tryd.func69, Tryd.ntmps69
   go_wp2_with (first | ((with_reducible refine gate_dst (N := 2) rfl ?_); refine box_event ?hg (N := 2) ?hd (cs := #[.int .i64 a0_0, .int .i64 a0_1, .string a0_2]) (t := 34) ?hr ?_; (case hd => rfl); (case hg => rfl); (case hr => first | (go_simp; done) | (go_simp; rfl)); intro gb143 hg w10 hbox hb; have n0_ := Aside0.mk (below_step (by repeat (first | (with_reducible first | exact HB.out | apply below_alloc | apply pw_below_drewN | apply below_drew1) | exact HB.out)) hb); have n1_ := Aside0.mk (hbox); have n2_ := Aside0.mk ((by rw [hg]; exact (below_size (by repeat (first | (with_reducible first | exact HB.out | apply below_alloc | apply pw_below_drewN | apply below_drew1) | exact HB.out))) : w.heap.size ≤ gb143)); have n3_ := Aside0.mk ((by rw [hg]; exact (below_size (by repeat (first | (with_reducible first | exact HB.out | apply below_alloc | apply pw_below_drewN | apply below_drew1) | exact HB.out))) : w.heap.size ≤ gb143)); clear HB; have HB := n0_; have BK143 := n1_; have GW143 := n2_; have GE143 := n3_; clear n0_ n1_ n2_ n3_; clear hb hbox hg) | ((with_reducible refine gate_dst (N := 3) rfl ?_); refine box_event ?hg (N := 3) ?hd (cs := #[.int .i64 a1_0, .int .i64 a1_1, .string a1_2]) (t := 34) ?hr ?_; (case hd => rfl); (case hg => rfl); (case hr => first | (go_simp; done) | (go_simp; rfl)); intro gb144 hg w11 hbox hb; have n0_ := Aside0.mk (blk_below (g := gb143) (o := .cells #[.int .i64 a0_0, .int .i64 a0_1, .string a0_2] 34 (0, 0)) (by (with_reducible repeat (first | refine blk_drewN ?_ _ | refine blk_drew ?_ | refine blk_alloc ?_ _)); exact BK143.out) hb); have n1_ := Aside0.mk (below_step (by repeat (first | (with_reducible first | exact HB.out | apply below_alloc | apply pw_below_drewN | apply below_drew1 | refine below_set ?_ GE143.out) | exact HB.out)) hb); have n2_ := Aside0.mk (hbox); have n3_ := Aside0.mk ((by rw [hg]; exact (below_size (by repeat (first | (with_reducible first | exact HB.out | apply below_alloc | apply pw_below_drewN | apply below_drew1 | refine below_set ?_ GE143.out) | exact HB.out))) : w.heap.size ≤ gb144)); have n4_ := Aside0.mk ((by rw [hg]; exact (below_size (by repeat (first | (with_reducible first | exact HB.out | apply below_alloc | apply pw_below_drewN | apply below_drew1 | refine below_set ?_ GE143.out) | exact HB.out))) : w.heap.size ≤ gb144)); have n5_ := Aside0.mk ((by rw [hg]; exact Nat.ne_of_lt (blk_lt (g := gb143) (o := .cells #[.int .i64 a0_0, .int .i64 a0_1, .string a0_2] 34 (0, 0)) (by (with_reducible repeat (first | refine blk_drewN ?_ _ | refine blk_drew ?_ | refine blk_alloc ?_ _)); exact BK143.out)) : gb143 ≠ gb144)); have n6_ := Aside0.mk ((by rw [hg]; exact Nat.ne_of_gt (blk_lt (g := gb143) (o := .cells #[.int .i64 a0_0, .int .i64 a0_1, .string a0_2] 34 (0, 0)) (by (with_reducible repeat (first | refine blk_drewN ?_ _ | refine blk_drew ?_ | refine blk_alloc ?_ _)); exact BK143.out)) : gb144 ≠ gb143)); clear BK143; clear HB; have BK143 := n0_; have HB := n1_; have BK144 := n2_; have GW144 := n3_; have GE144 := n4_; have NB143_144 := n5_; have NB144_143 := n6_; clear n0_ n1_ n2_ n3_ n4_ n5_ n6_; clear hb hbox hg; have hnb12 := NB143_144.out; have hnc12 := NB144_143.out; have hcz13_0 : w11.cell? ⟨gb143, 0, none⟩ = some (.int .i64 a0_0) := (blk_cell BK143.out 0).trans rfl; have hcz13_1 : w11.cell? ⟨gb143, 1, none⟩ = some (.int .i64 a0_1) := (blk_cell BK143.out 1).trans rfl; have hcz13_2 : w11.cell? ⟨gb143, 2, none⟩ = some (.string a0_2) := (blk_cell BK143.out 2).trans rfl; have hfz13_0 := blk_frozen BK143.out 0; have hfz13_1 := blk_frozen BK143.out 1; have hfz13_2 := blk_frozen BK143.out 2; have hcz14_0 : w11.cell? ⟨gb144, 0, none⟩ = some (.int .i64 a1_0) := (blk_cell BK144.out 0).trans rfl; have hcz14_1 : w11.cell? ⟨gb144, 1, none⟩ = some (.int .i64 a1_1) := (blk_cell BK144.out 1).trans rfl; have hcz14_2 : w11.cell? ⟨gb144, 2, none⟩ = some (.string a1_2) := (blk_cell BK144.out 2).trans rfl; have hfz14_0 := blk_frozen BK144.out 0; have hfz14_1 := blk_frozen BK144.out 1; have hfz14_2 := blk_frozen BK144.out 2))
   go_ret
   exact ⟨by first | rfl | (simp [errW_none, errW_some] <;> rfl) | (simp [*, errW_none, errW_some] <;> rfl), by repeat (first | (with_reducible first | exact HB.out | apply below_alloc | apply pw_below_drewN | apply below_drew1 | refine below_set ?_ GE143.out | refine below_set ?_ GE144.out) | exact HB.out)⟩
 ·rw [if_neg c3] at H
  have c3b0 : (a0_0 == a1_0) = false := beq_eq_false_iff_ne.mpr c3
  have c3b1 : (a0_0 != a1_0) = true := bne_iff_ne.mpr c3
  obtain rfl := Option.some.inj H
  go_enter Tryd.func69, Tryd.ntmps69
  go_wp2_with (first | ((with_reducible refine gate_dst (N := 2) rfl ?_); refine box_event ?hg (N := 2) ?hd (cs := #[.int .i64 a0_0, .int .i64 a0_1, .string a0_2]) (t := 34) ?hr ?_; (case hd => rfl); (case hg => rfl); (case hr => first | (go_simp; done) | (go_simp; rfl)); intro gb143 hg w15 hbox hb; have n0_ := Aside0.mk (below_step (by repeat (first | (with_reducible first | exact HB.out | apply below_alloc | apply pw_below_drewN | apply below_drew1) | exact HB.out)) hb); have n1_ := Aside0.mk (hbox); have n2_ := Aside0.mk ((by rw [hg]; exact (below_size (by repeat (first | (with_reducible first | exact HB.out | apply below_alloc | apply pw_below_drewN | apply below_drew1) | exact HB.out))) : w.heap.size ≤ gb143)); have n3_ := Aside0.mk ((by rw [hg]; exact (below_size (by repeat (first | (with_reducible first | exact HB.out | apply below_alloc | apply pw_below_drewN | apply below_drew1) | exact HB.out))) : w.heap.size ≤ gb143)); clear HB; have HB := n0_; have BK143 := n1_; have GW143 := n2_; have GE143 := n3_; clear n0_ n1_ n2_ n3_; clear hb hbox hg) | ((with_reducible refine gate_dst (N := 3) rfl ?_); refine box_event ?hg (N := 3) ?hd (cs := #[.int .i64 a1_0, .int .i64 a1_1, .string a1_2]) (t := 34) ?hr ?_; (case hd => rfl); (case hg => rfl); (case hr => first | (go_simp; done) | (go_simp; rfl)); intro gb144 hg w16 hbox hb; have n0_ := Aside0.mk (blk_below (g := gb143) (o := .cells #[.int .i64 a0_0, .int .i64 a0_1, .string a0_2] 34 (0, 0)) (by (with_reducible repeat (first | refine blk_drewN ?_ _ | refine blk_drew ?_ | refine blk_alloc ?_ _)); exact BK143.out) hb); have n1_ := Aside0.mk (below_step (by repeat (first | (with_reducible first | exact HB.out | apply below_alloc | apply pw_below_drewN | apply below_drew1 | refine below_set ?_ GE143.out) | exact HB.out)) hb); have n2_ := Aside0.mk (hbox); have n3_ := Aside0.mk ((by rw [hg]; exact (below_size (by repeat (first | (with_reducible first | exact HB.out | apply below_alloc | apply pw_below_drewN | apply below_drew1 | refine below_set ?_ GE143.out) | exact HB.out))) : w.heap.size ≤ gb144)); have n4_ := Aside0.mk ((by rw [hg]; exact (below_size (by repeat (first | (with_reducible first | exact HB.out | apply below_alloc | apply pw_below_drewN | apply below_drew1 | refine below_set ?_ GE143.out) | exact HB.out))) : w.heap.size ≤ gb144)); have n5_ := Aside0.mk ((by rw [hg]; exact Nat.ne_of_lt (blk_lt (g := gb143) (o := .cells #[.int .i64 a0_0, .int .i64 a0_1, .string a0_2] 34 (0, 0)) (by (with_reducible repeat (first | refine blk_drewN ?_ _ | refine blk_drew ?_ | refine blk_alloc ?_ _)); exact BK143.out)) : gb143 ≠ gb144)); have n6_ := Aside0.mk ((by rw [hg]; exact Nat.ne_of_gt (blk_lt (g := gb143) (o := .cells #[.int .i64 a0_0, .int .i64 a0_1, .string a0_2] 34 (0, 0)) (by (with_reducible repeat (first | refine blk_drewN ?_ _ | refine blk_drew ?_ | refine blk_alloc ?_ _)); exact BK143.out)) : gb144 ≠ gb143)); clear BK143; clear HB; have BK143 := n0_; have HB := n1_; have BK144 := n2_; have GW144 := n3_; have GE144 := n4_; have NB143_144 := n5_; have NB144_143 := n6_; clear n0_ n1_ n2_ n3_ n4_ n5_ n6_; clear hb hbox hg; have hnb17 := NB143_144.out; have hnc17 := NB144_143.out; have hcz18_0 : w16.cell? ⟨gb143, 0, none⟩ = some (.int .i64 a0_0) := (blk_cell BK143.out 0).trans rfl; have hcz18_1 : w16.cell? ⟨gb143, 1, none⟩ = some (.int .i64 a0_1) := (blk_cell BK143.out 1).trans rfl; have hcz18_2 : w16.cell? ⟨gb143, 2, none⟩ = some (.string a0_2) := (blk_cell BK143.out 2).trans rfl; have hfz18_0 := blk_frozen BK143.out 0; have hfz18_1 := blk_frozen BK143.out 1; have hfz18_2 := blk_frozen BK143.out 2; have hcz19_0 : w16.cell? ⟨gb144, 0, none⟩ = some (.int .i64 a1_0) := (blk_cell BK144.out 0).trans rfl; have hcz19_1 : w16.cell? ⟨gb144, 1, none⟩ = some (.int .i64 a1_1) := (blk_cell BK144.out 1).trans rfl; have hcz19_2 : w16.cell? ⟨gb144, 2, none⟩ = some (.string a1_2) := (blk_cell BK144.out 2).trans rfl; have hfz19_0 := blk_frozen BK144.out 0; have hfz19_1 := blk_frozen BK144.out 1; have hfz19_2 := blk_frozen BK144.out 2))
  go_ret
  exact ⟨by first | rfl | (simp [errW_none, errW_some] <;> rfl) | (simp [*, errW_none, errW_some] <;> rfl), by repeat (first | (with_reducible first | exact HB.out | apply below_alloc | apply pw_below_drewN | apply below_drew1 | refine below_set ?_ GE143.out | refine below_set ?_ GE144.out) | exact HB.out)⟩

end Go.Proofs.YthimblhfjfngiaaDoor.PText

namespace Go.Proofs.YthimblhfjfngiaaDoor.PText
open Go.RowKit Go.Proofs.YthimblhfjfngiaaDoorW.PrintWords Go.Proofs.YthimblhfjfngiaaDoorW.PrintLast Go.Proofs.YthimblhfjfngiaaDoorW.PrintMore
attribute [local go_sem] max2_int min2_int max_two min_two max_three min_three max_four min_four   -- for this text's walks alone
set_option linter.unusedVariables false
set_option linter.unusedSimpArgs false

attribute [local go_sem high] eqA34
mutual
def smockingref01_ordered.l0 : Nat → List (S34) → List (S34) → Int → Option ((List (S34)))
 | 0, _, _, _ => none
 | k + 1, x0, x3, x4 => if x4 < (x0.length : Int) then (smockingref01_ordered.l1 k x0 x3 x4 false 0) else (some x3)
def smockingref01_ordered.l1 : Nat → List (S34) → List (S34) → Int → Bool → Int → Option ((List (S34)))
 | 0, _, _, _, _, _ => none
 | k + 1, x0, x3, x4, x5, x6 => if x6 < (x3.length : Int) then (if x5 = true then (smockingref01_ordered.l1 k x0 x3 x4 true (wrap64 (x6 + 1))) else (if 0 ≤ x6 then (if 0 ≤ x4 then (if x4 < (x0.length : Int) then (smockingref01_ordered.l1 k x0 x3 x4 (((rd_T34 x3 x6).f0) == ((rd_T34 x0 x4).f0) && (((rd_T34 x3 x6).f1) == ((rd_T34 x0 x4).f1) && ((((rd_T34 x3 x6).f2).toList) == (((rd_T34 x0 x4).f2).toList)))) (wrap64 (x6 + 1))) else (none)) else (none)) else (none))) else (if x5 = true then (smockingref01_ordered.l0 k x0 x3 (wrap64 (x4 + 1))) else (if 0 ≤ x4 then (if x4 < (x0.length : Int) then (if x3.length < 4398046511104 then ((some (x3 ++ [(⟨(rd_T34 x0 x4).f0, (rd_T34 x0 x4).f1, (rd_T34 x0 x4).f2⟩ : S34)] : List (S34))).bind fun y148 => (smockingref01_ordered.l2 k x0 y148 x4 (wrap64 ((y148.length : Int) - 1)))) else (none)) else (none)) else (none)))
def smockingref01_ordered.l2 : Nat → List (S34) → List (S34) → Int → Int → Option ((List (S34)))
 | 0, _, _, _, _ => none
 | k + 1, x0, x3, x4, x7 => if x7 > 0 then (if 0 ≤ x7 then (if x7 < (x3.length : Int) then (if 0 ≤ (wrap64 (x7 - 1)) then (if (wrap64 (x7 - 1)) < (x3.length : Int) then ((smockingref01_before.f ((rd_T34 x3 x7).f0) ((rd_T34 x3 x7).f1) ((rd_T34 x3 x7).f2) ((rd_T34 x3 (wrap64 (x7 - 1))).f0) ((rd_T34 x3 (wrap64 (x7 - 1))).f1) ((rd_T34 x3 (wrap64 (x7 - 1))).f2)).bind fun t153 => (if t153 = true then (smockingref01_ordered.l2 k x0 ((x3.set (x7 : Int).toNat (⟨(rd_T34 x3 (wrap64 (x7 - 1))).f0, (rd_T34 x3 (wrap64 (x7 - 1))).f1, (rd_T34 x3 (wrap64 (x7 - 1))).f2⟩ : S34)).set ((wrap64 (x7 - 1)) : Int).toNat (⟨(rd_T34 x3 x7).f0, (rd_T34 x3 x7).f1, (rd_T34 x3 x7).f2⟩ : S34)) x4 (wrap64 (x7 - 1))) else (smockingref01_ordered.l0 k x0 x3 (wrap64 (x4 + 1))))) else (none)) else (none)) else (none)) else (none)) else (smockingref01_ordered.l0 k x0 x3 (wrap64 (x4 + 1)))
end
def smockingref01_ordered.f (k : Nat) (l0 : List (S34)) : Option ((List (S34))) := smockingref01_ordered.l0 k l0 ([] : List (S34)) 0
def smockingref01_ordered.T9 : Bool × List (List Nat × List Nat) := (true, [([], []), ([0], [0]), ([1], [1]), ([1], [1]), ([2, 3, 1], [1, 2, 3]), ([4, 1], [1, 4]), ([1], [1]), ([1], [1]), ([6, 7, 1], [1, 6, 7]), ([8, 1], [1, 8]), ([5, 9, 1], [1, 5, 9]), ([1, 10], [1, 10]), ([11, 1, 0, 1, 2, 3, 4, 5, 6, 7, 8, 9, 10, 11], [0, 11])])
def smockingref01_ordered.B9 : List Nat := [0, 1, 3, 3, 15, 31, 3, 3, 195, 451, 1023, 2047, 4095]
theorem smockingref01_ordered.tab9 : rtab .any (opsOf Tryd.f50 9) = smockingref01_ordered.T9 := by kernel_rfl
theorem smockingref01_ordered.bits9 : waitsOk smockingref01_ordered.T9.2 smockingref01_ordered.B9 = true := by kernel_rfl
def smockingref01_ordered.T13 : Bool × List (List Nat × List Nat) := (true, [([], []), ([0], [0]), ([1], [1]), ([2], [2]), ([2], [2]), ([3, 4, 2], [2, 3, 4]), ([5, 2], [2, 5]), ([2], [2]), ([2], [2]), ([8, 2], [2, 8]), ([7, 9, 2], [2, 7, 9]), ([10, 2], [2, 10]), ([6, 11, 2, 2], [2, 6, 11]), ([2, 12], [2, 12])])
def smockingref01_ordered.B13 : List Nat := [0, 1, 3, 7, 7, 31, 63, 7, 7, 263, 903, 1927, 4095, 8191]
theorem smockingref01_ordered.tab13 : rtab .any (opsOf Tryd.f50 13) = smockingref01_ordered.T13 := by kernel_rfl
theorem smockingref01_ordered.bits13 : waitsOk smockingref01_ordered.T13.2 smockingref01_ordered.B13 = true := by kernel_rfl
set_option maxHeartbeats 8000000 in
set_option maxRecDepth 100000 in
theorem smockingref01_ordered.calls (k : Nat) (A0 : Option Addr) (c0 : Nat) (l0 : List (S34)) (r : List (S34)) (w : World) (hr0 : Kd.C k34 w A0 l0.length l0) (hc0 : l0.length ≤ c0) (h : smockingref01_ordered.f k l0 = some r) :
  Calls Tryd.prog 50 #[.slice A0 l0.length c0] w fun e w' => ∃ v0_ : Value, e = .returned (v0_) ∧ Kd.R k34 34 w' w.heap.size (fun _ => True) v0_ r ∧ Below w.heap.size w w' := by
 have hu34 := Tryd.underlying34
 have HR0 := Aside0.mk hr0
 have HC0 := Aside0.mk hc0
 clear hr0 hc0
 have HB := Aside0.mk (Below.refl w.heap.size w)
 have H : (smockingref01_ordered.l0 k l0 ([] : List (S34)) 0) = some r := h
 clear h
 have H' := Aside0.mk H
 clear H
 go_enter Tryd.func50, Tryd.ntmps50
 go_wp2
 try simp only [Act.put, List.setIfInBounds_toArray, List.set_cons_succ, List.set_cons_zero]
 go_loopg [3, 4] k (fun kq v3 v4 w' => ∃ (x3_1 : List (S34)) (x4_1 : Int), v4 = .int .i64 x4_1 ∧ Aside0 (smockingref01_ordered.l0 kq l0 x3_1 x4_1 = some r) ∧ Aside0 (kq ≤ k) ∧ Aside0 (Kd.R k34 34 w' w.heap.size (fun _ => True) v3 x3_1) ∧ Aside0 (Below w.heap.size w w'))
 case atStart => exact ⟨(([] : List (S34))), (0), (by first | rfl | (simp; done) | (simp [*]; done)), H', ⟨Nat.le_refl _⟩, ⟨by first | exact Kd.R_nil _ _ _ _ _ | exact Kd.N_nil _ _ _ _ _ | exact Kd.V_nil _ _ _ _ _ | exact Kd.Q_nil _ _ _ _ _ | exact Kd.S_nil _ _ _ _ _⟩, ⟨by repeat (first | (with_reducible first | exact HB.out | apply below_alloc | apply pw_below_drewN | apply below_drew1) | exact HB.out)⟩⟩
 case round =>
  clear H'
  obtain ⟨x3_1, x4_1, rfl, HA, HK1, HO_3, HB⟩ := hrel
  cases gk with
  | zero => exact absurd HA.out (by simp [smockingref01_ordered.l0])
  | succ k1 =>
   have H := HA.out
   clear HA
   simp only [smockingref01_ordered.l0] at H
   by_cases c2 : x4_1 < (l0.length : Int)
   ·rw [if_pos c2] at H
    have c2b0 : decide (x4_1 < (l0.length : Int)) = true := decide_eq_true c2
    clear c2
    have H' := Aside0.mk H
    clear H
    go_wp2
    try simp only [Act.put, List.setIfInBounds_toArray, List.set_cons_succ, List.set_cons_zero]
    go_loopg [5, 6] k1 (fun kq v5 v6 w' => ∃ (x5_2 : Bool) (x6_2 : Int), v5 = .bool x5_2 ∧ v6 = .int .i64 x6_2 ∧ Aside0 (smockingref01_ordered.l1 kq l0 x3_1 x4_1 x5_2 x6_2 = some r) ∧ Aside0 (kq ≤ k1) ∧ Aside0 (Kd.R k34 34 w' w.heap.size (fun _ => True) u3 x3_1) ∧ Aside0 (Below w.heap.size w w'))
    case atStart => exact ⟨(false), (0), (by first | rfl | (simp; done) | (simp [*]; done)), (by first | rfl | (simp; done) | (simp [*]; done)), H', ⟨Nat.le_refl _⟩, ⟨by (with_reducible repeat (first | apply Kd.R_alloc | apply Kd.R_drewN | apply Kd.R_drew)); exact HO_3.out⟩, ⟨by repeat (first | (with_reducible first | exact HB.out | apply below_alloc | apply pw_below_drewN | apply below_drew1) | exact HB.out)⟩⟩
    case round =>
     clear H'
     try clear c2
     try clear c2b0
     try clear p2
     obtain ⟨x5_2, x6_2, rfl, rfl, HA, HK2, HO_3, HB⟩ := hrel
     cases gk with
     | zero => exact absurd HA.out (by simp [smockingref01_ordered.l1])
     | succ k2 =>
      have H := HA.out
      clear HA
      simp only [smockingref01_ordered.l1] at H
      by_cases c3 : x6_2 < (x3_1.length : Int)
      ·rw [if_pos c3] at H
       have c3b0 : decide (x6_2 < (x3_1.length : Int)) = true := decide_eq_true c3
       clear c3
       by_cases c4 : x5_2 = true
       ·subst c4
        have H1 : (smockingref01_ordered.l1 k2 l0 x3_1 x4_1 true (wrap64 (x6_2 + 1))) = some r := by rw [if_pos rfl] at H; exact H
        clear H
        have H := H1
        clear H1
        have H' := Aside0.mk H
        clear H
        obtain ⟨Ao5, co5, eo5⟩ := Kd.R_slice HO_3.out
        subst eo5
        try go_wp2
        have n0_ := Aside0.mk (Kd.R_drew HO_3.out)
        have n1_ := Aside0.mk (below_drew1 HB.out)
        clear HO_3
        clear HB
        have HO_3 := n0_
        have HB := n1_
        clear n0_ n1_
        refine start_ (n := 13) (S := fun w' => True) (ds := []) (bA 13 0) (by kernel_rfl) rfl rfl trivial (fun hHeld => ?_); refine with_tabW smockingref01_ordered.tab9 smockingref01_ordered.bits9 (fun HT_ HW_ => ?_)
        generalize wr.drew = w6 at HO_3 HB hHeld ⊢
        refine pu_ 0 21 (bA 13 1) HT_ ?_
        refine pu_ 1 22 (bA 13 3) HT_ ?_
        refine pz_ 2 23 (bA 13 7) HT_ ?_
        refine pz_ 3 24 (bA 13 15) HT_ ?_
        refine pz_ 4 25 (bA 13 31) HT_ ?_
        refine pz_ 5 26 (bA 13 63) HT_ ?_
        refine pz_ 6 27 (bA 13 127) HT_ ?_
        refine pz_ 7 28 (bA 13 255) HT_ ?_
        refine pz_ 8 29 (bA 13 511) HT_ ?_
        refine pz_ 9 30 (bA 13 1023) HT_ ?_
        refine pz_ 10 31 (bA 13 2047) HT_ ?_
        refine pu_ 11 32 (bA 13 4095) HT_ ?_
        refine pu_ 12 5 (bA 13 8191) HT_ ?_
        refine done_ (done_of HT_.out (by kernel_rfl)) ?_
        try go_wp2
        go_roundg k2
        case measure => have := HK1.out; have := HK2.out; omega
        case rel => exact ⟨(true), (wrap64 (x6_2 + 1)), (by first | rfl | (simp; done) | (simp [*]; done)), (by first | rfl | (simp; done) | (simp [*]; done)), H', ⟨by have := HK1.out; have := HK2.out; omega⟩, ⟨by (with_reducible repeat (first | apply Kd.R_alloc | apply Kd.R_drewN | apply Kd.R_drew)); exact HO_3.out⟩, ⟨by repeat (first | (with_reducible first | exact HB.out | apply below_alloc | apply pw_below_drewN | apply below_drew1) | exact HB.out)⟩⟩
       ·replace c4 := Bool.eq_false_iff.mpr c4
        subst c4
        have H1 : (if 0 ≤ x6_2 then (if 0 ≤ x4_1 then (if x4_1 < (l0.length : Int) then (smockingref01_ordered.l1 k2 l0 x3_1 x4_1 (((rd_T34 x3_1 x6_2).f0) == ((rd_T34 l0 x4_1).f0) && (((rd_T34 x3_1 x6_2).f1) == ((rd_T34 l0 x4_1).f1) && ((((rd_T34 x3_1 x6_2).f2).toList) == (((rd_T34 l0 x4_1).f2).toList)))) (wrap64 (x6_2 + 1))) else (none)) else (none)) else (none)) = some r := by rw [if_neg (show ¬ (false = true) by decide)] at H; exact H
        clear H
        have H := H1
        clear H1
        by_cases c7 : 0 ≤ x6_2
        ·rw [if_pos c7] at H
         have c7b0 : decide (0 ≤ x6_2) = true := decide_eq_true c7
         clear c7
         by_cases c8 : 0 ≤ x4_1
         ·rw [if_pos c8] at H
          have c8b0 : decide (0 ≤ x4_1) = true := decide_eq_true c8
          clear c8
          by_cases c9 : x4_1 < (l0.length : Int)
          ·rw [if_pos c9] at H
           have c9b0 : decide (x4_1 < (l0.length : Int)) = true := decide_eq_true c9
           clear c9
           have H' := Aside0.mk H
           clear H
           obtain ⟨Ao10, co10, eo10⟩ := Kd.R_slice HO_3.out
           subst eo10
           try go_wp2
           have n0_ := Aside0.mk (Kd.R_drew HO_3.out)
           have n1_ := Aside0.mk (below_drew1 HB.out)
           clear HO_3
           clear HB
           have HO_3 := n0_
           have HB := n1_
           clear n0_ n1_
           have p145 : 0 ≤ (x6_2 : Int) := of_decide_eq_true (by first | (with_reducible assumption) | assumption)
           have q145 : x6_2 < (x3_1.length : Int) := of_decide_eq_true (by first | (with_reducible assumption) | assumption)
           obtain ⟨ad145, e145, hx145_0, hx145_1, hx145_2⟩ := at_T34 (Kd.R_reads' HO_3.out).2.2 x6_2 p145 q145
           cases e145
           replace p145 := eq_true p145
           replace q145 := eq_true q145
           have p146 : 0 ≤ (x4_1 : Int) := of_decide_eq_true (by first | (with_reducible assumption) | assumption)
           have q146 : x4_1 < (l0.length : Int) := of_decide_eq_true (by first | (with_reducible assumption) | assumption)
           obtain ⟨ad146, e146, hx146_0, hx146_1, hx146_2⟩ := at_T34 HR0.out x4_1 p146 q146
           have hw146_2 := hx146_2
           have hw146_1 := hx146_1
           have hw146_0 := hx146_0
           cases e146
           replace hx146_0 := (HB.out.cell (World.block_lt_of_cell? w _ hx146_0)).trans hx146_0
           replace hx146_1 := (HB.out.cell (World.block_lt_of_cell? w _ hx146_1)).trans hx146_1
           replace hx146_2 := (HB.out.cell (World.block_lt_of_cell? w _ hx146_2)).trans hx146_2
           replace p146 := eq_true p146
           replace q146 := eq_true q146
           refine start_ (n := 13) (S := fun w' => w'.cell? (ad145.add ((x6_2).toNat * 3)) = some (.int .i64 ((rd_T34 x3_1 x6_2).f0)) ∧ w'.cell? ⟨(ad145.add ((x6_2).toNat * 3)).block, (ad145.add ((x6_2).toNat * 3)).off + 1, none⟩ = some (.int .i64 ((rd_T34 x3_1 x6_2).f1)) ∧ w'.cell? ⟨(ad145.add ((x6_2).toNat * 3)).block, (ad145.add ((x6_2).toNat * 3)).off + 2, none⟩ = some (.string ((rd_T34 x3_1 x6_2).f2)) ∧ w'.cell? (ad146.add ((x4_1).toNat * 3)) = some (.int .i64 ((rd_T34 l0 x4_1).f0)) ∧ w'.cell? ⟨(ad146.add ((x4_1).toNat * 3)).block, (ad146.add ((x4_1).toNat * 3)).off + 1, none⟩ = some (.int .i64 ((rd_T34 l0 x4_1).f1)) ∧ w'.cell? ⟨(ad146.add ((x4_1).toNat * 3)).block, (ad146.add ((x4_1).toNat * 3)).off + 2, none⟩ = some (.string ((rd_T34 l0 x4_1).f2))) (ds := []) (bA 13 0) (by kernel_rfl) rfl rfl ⟨hx145_0, hx145_1, hx145_2, ((HB.out.cell (World.block_lt_of_cell? w _ hw146_0)).trans hw146_0), ((HB.out.cell (World.block_lt_of_cell? w _ hw146_1)).trans hw146_1), ((HB.out.cell (World.block_lt_of_cell? w _ hw146_2)).trans hw146_2)⟩ (fun hHeld => ?_); refine with_tabW smockingref01_ordered.tab9 smockingref01_ordered.bits9 (fun HT_ HW_ => ?_)
           generalize wr.drew = w11 at HO_3 HB hx145_0 hx145_1 hx145_2 hx146_0 hx146_1 hx146_2 hHeld ⊢
           refine pu_ 0 21 (bA 13 1) HT_ ?_
           refine pu_ 1 22 (bA 13 3) HT_ ?_
           refine pu_ 2 23 (bA 13 7) HT_ ?_
           refine pu_ 3 24 (bA 13 15) HT_ ?_
           refine pu_ 4 25 (bA 13 31) HT_ ?_
           refine pu_ 6 27 (bA 13 95) HT_ ?_
           refine pu_ 7 28 (bA 13 223) HT_ ?_
           refine pu_ 8 29 (bA 13 479) HT_ ?_
           refine tk_ 5 26 (bA 13 511) rfl HT_ HW_ hHeld (by rintro w' ⟨s0, s1, s2, s3, s4, s5⟩; go_simp; with_reducible rfl) ?_
           refine tk_ 9 30 (bA 13 1023) rfl HT_ HW_ hHeld (by rintro w' ⟨s0, s1, s2, s3, s4, s5⟩; go_simp; with_reducible rfl) ?_
           refine pu_ 10 31 (bA 13 2047) HT_ ?_
           refine pu_ 11 32 (bA 13 4095) HT_ ?_
           refine pu_ 12 5 (bA 13 8191) HT_ ?_
           refine done_ (done_of HT_.out (by kernel_rfl)) ?_
           try go_wp2
           go_roundg k2
           case measure => have := HK1.out; have := HK2.out; omega
           case rel => exact ⟨((((rd_T34 x3_1 x6_2).f0) == ((rd_T34 l0 x4_1).f0) && (((rd_T34 x3_1 x6_2).f1) == ((rd_T34 l0 x4_1).f1) && ((((rd_T34 x3_1 x6_2).f2).toList) == (((rd_T34 l0 x4_1).f2).toList))))), (wrap64 (x6_2 + 1)), (by first | rfl | (simp; done) | (simp [*]; done)), (by first | rfl | (simp; done) | (simp [*]; done)), H', ⟨by have := HK1.out; have := HK2.out; omega⟩, ⟨by (with_reducible repeat (first | apply Kd.R_alloc | apply Kd.R_drewN | apply Kd.R_drew)); exact HO_3.out⟩, ⟨by repeat (first | (with_reducible first | exact HB.out | apply below_alloc | apply pw_below_drewN | apply below_drew1) | exact HB.out)⟩⟩
          ·rw [if_neg c9] at H
           exact absurd H (by simp)
         ·rw [if_neg c8] at H
          exact absurd H (by simp)
        ·rw [if_neg c7] at H
         exact absurd H (by simp)
      ·rw [if_neg c3] at H
       have c3b0 : decide (x6_2 < (x3_1.length : Int)) = false := decide_eq_false c3
       clear c3
       by_cases c12 : x5_2 = true
       ·subst c12
        have H1 : (smockingref01_ordered.l0 k2 l0 x3_1 (wrap64 (x4_1 + 1))) = some r := by rw [if_pos rfl] at H; exact H
        clear H
        have H := H1
        clear H1
        have H' := Aside0.mk H
        clear H
        obtain ⟨Ao13, co13, eo13⟩ := Kd.R_slice HO_3.out
        subst eo13
        go_wp2
        go_roundg k2
        case measure => have := HK1.out; have := HK2.out; omega
        case rel => exact ⟨(x3_1), (wrap64 (x4_1 + 1)), (by first | rfl | (simp; done) | (simp [*]; done)), H', ⟨by have := HK1.out; have := HK2.out; omega⟩, ⟨by (with_reducible repeat (first | apply Kd.R_alloc | apply Kd.R_drewN | apply Kd.R_drew)); exact HO_3.out⟩, ⟨by repeat (first | (with_reducible first | exact HB.out | apply below_alloc | apply pw_below_drewN | apply below_drew1) | exact HB.out)⟩⟩
       ·replace c12 := Bool.eq_false_iff.mpr c12
        subst c12
        have H1 : (if 0 ≤ x4_1 then (if x4_1 < (l0.length : Int) then (if x3_1.length < 4398046511104 then ((some (x3_1 ++ [(⟨(rd_T34 l0 x4_1).f0, (rd_T34 l0 x4_1).f1, (rd_T34 l0 x4_1).f2⟩ : S34)] : List (S34))).bind fun y148 => (smockingref01_ordered.l2 k2 l0 y148 x4_1 (wrap64 ((y148.length : Int) - 1)))) else (none)) else (none)) else (none)) = some r := by rw [if_neg (show ¬ (false = true) by decide)] at H; exact H
        clear H
        have H := H1
        clear H1
        by_cases c14 : 0 ≤ x4_1
        ·rw [if_pos c14] at H
         have c14b0 : decide (0 ≤ x4_1) = true := decide_eq_true c14
         clear c14
         by_cases c15 : x4_1 < (l0.length : Int)
         ·rw [if_pos c15] at H
          have c15b0 : decide (x4_1 < (l0.length : Int)) = true := decide_eq_true c15
          clear c15
          by_cases c16 : x3_1.length < 4398046511104
          ·rw [if_pos c16] at H
           have LMc16 := Aside0.mk c16
           clear c16
           obtain ⟨y148, hy148⟩ : ∃ y_ : List (S34), y_ = (x3_1 ++ [(⟨(rd_T34 l0 x4_1).f0, (rd_T34 l0 x4_1).f1, (rd_T34 l0 x4_1).f2⟩ : S34)]) := ⟨_, rfl⟩
           replace H : (smockingref01_ordered.l2 k2 l0 y148 x4_1 (wrap64 ((y148.length : Int) - 1))) = some r := by first | (rw [hy148]; with_reducible exact H) | (have H2_ := (Option.bind_some _ _).symm.trans H; rw [hy148]; with_reducible exact H2_) | (have H2_ := (Option.bind_some _ _).symm.trans H; with_reducible exact H2_) | with_reducible exact H | (rw [hy148]; exact H) | exact H
           have Ny148 := Aside0.mk hy148
           clear hy148
           have H' := Aside0.mk H
           clear H
           obtain ⟨Ao17, co17, eo17⟩ := Kd.R_slice HO_3.out
           subst eo17
           have p147 : 0 ≤ (x4_1 : Int) := of_decide_eq_true (by first | (with_reducible assumption) | assumption)
           have q147 : x4_1 < (l0.length : Int) := of_decide_eq_true (by first | (with_reducible assumption) | assumption)
           obtain ⟨ad147, e147, hx147_0, hx147_1, hx147_2⟩ := at_T34 HR0.out x4_1 p147 q147
           cases e147
           replace hx147_0 := (HB.out.cell (World.block_lt_of_cell? w _ hx147_0)).trans hx147_0
           replace hx147_1 := (HB.out.cell (World.block_lt_of_cell? w _ hx147_1)).trans hx147_1
           replace hx147_2 := (HB.out.cell (World.block_lt_of_cell? w _ hx147_2)).trans hx147_2
           replace p147 := eq_true p147
           replace q147 := eq_true q147
           go_wp2_with (first | ((with_reducible refine gate_builtin (b := .append) (xs := #[.tmp 34, .tmp 39]) rfl ?_); at_builtin; refine Kd.R_append k34 (w0 := w) w.heap.size rfl (.tmp 34) (.tmp 39) 22 34 (.agg #[(.int .i64 0), (.int .i64 0), (.string ⟨#[]⟩)]) 32 rfl Tryd.underlying22 info34 rfl (by decide) (by omega) (.slice Ao17 x3_1.length co17) x3_1 (⟨(rd_T34 l0 x4_1).f0, (rd_T34 l0 x4_1).f1, (rd_T34 l0 x4_1).f2⟩ : S34) [.int .i64 ((rd_T34 l0 x4_1).f0), .int .i64 ((rd_T34 l0 x4_1).f1), .string ((rd_T34 l0 x4_1).f2)] (fun _ => True) (fun _ => False) rfl rfl ?aP (fun _ hk => hk.elim) ?aF ?aO ?aB ?aS ?aL ?_; (case aP => exact k34_mkM _ _ _ (⟨(rd_T34 l0 x4_1).f0, (rd_T34 l0 x4_1).f1, (rd_T34 l0 x4_1).f2⟩ : S34)); (case aB => exact (by repeat (first | (with_reducible first | exact HB.out | apply below_alloc | apply pw_below_drewN | apply below_drew1) | exact HB.out))); (case aF => exact (fun _ _ => trivial)); (case aO => exact (by (with_reducible repeat (first | apply Kd.R_alloc | apply Kd.R_drewN | apply Kd.R_drew)); exact HO_3.out)); (case aS => exact (below_size (by repeat (first | (with_reducible first | exact HB.out | apply below_alloc | apply pw_below_drewN | apply below_drew1) | exact HB.out)))); (case aL => have := LMc16.out; omega); intro v149 w18 ho hb hg hat; rw [← Ny148.out] at ho; have n0_ := Aside0.mk (hb); have n1_ := Aside0.mk (ho); clear HB; clear HO_3; have HB := n0_; have HO150 := n1_; clear n0_ n1_; clear ho hb hg hat; obtain ⟨Ao19, co19, eo19⟩ := Kd.R_slice HO150.out; subst eo19))
           try simp only [Act.put, List.setIfInBounds_toArray, List.set_cons_succ, List.set_cons_zero]
           go_loopg [7] k2 (fun kq v7 w' => ∃ (x3_3 : List (S34)) (x7_3 : Int), v7 = .int .i64 x7_3 ∧ Aside0 (smockingref01_ordered.l2 kq l0 x3_3 x4_1 x7_3 = some r) ∧ Aside0 (kq ≤ k2) ∧ Aside0 (Kd.R k34 34 w' w.heap.size (fun _ => True) (.slice Ao19 y148.length co19) x3_3) ∧ Aside0 (Below w.heap.size w w'))
           case atStart => exact ⟨(y148), (wrap64 ((y148.length : Int) - 1)), (by first | rfl | (simp; done) | (simp [*]; done)), H', ⟨Nat.le_refl _⟩, ⟨by (with_reducible repeat (first | apply Kd.R_alloc | apply Kd.R_drewN | apply Kd.R_drew)); exact HO150.out⟩, ⟨by repeat (first | (with_reducible first | exact HB.out | apply below_alloc | apply pw_below_drewN | apply below_drew1) | exact HB.out)⟩⟩
           case round =>
            clear H'
            try clear c1
            try clear p1
            try clear q1
            try clear hx1
            try clear c2
            try clear c2b0
            try clear p2
            try clear c3
            try clear c3b0
            try clear c4
            try clear c5
            try clear p6
            try clear c7
            try clear c7b0
            try clear c8
            try clear c8b0
            try clear c9
            try clear c9b0
            try clear c12
            try clear c14
            try clear c14b0
            try clear p14
            try clear q14
            try clear hx14
            try clear c15
            try clear c15b0
            try clear c16
            try clear hx145_0
            try clear hx145_1
            try clear hx145_2
            try clear hx146_0
            try clear hx146_1
            try clear hx146_2
            try clear hx147_0
            try clear hx147_1
            try clear hx147_2
            try clear p145
            try clear p146
            try clear p147
            try clear p2
            try clear q145
            try clear q146
            try clear q147
            obtain ⟨x3_3, x7_3, rfl, HA, HK3, HO_3, HB⟩ := hrel
            have hl3_3 := (Kd.R_reads' HO_3.out).1
            rw [hl3_3] at HO_3
            (try simp only [hl3_3])
            cases gk with
            | zero => exact absurd HA.out (by simp [smockingref01_ordered.l2])
            | succ k3 =>
             have H := HA.out
             clear HA
             simp only [smockingref01_ordered.l2] at H
             by_cases c20 : x7_3 > 0
             ·rw [if_pos c20] at H
              have c20b0 : decide (0 < x7_3) = true := decide_eq_true c20
              clear c20
              by_cases c21 : 0 ≤ x7_3
              ·rw [if_pos c21] at H
               have c21b0 : decide (0 ≤ x7_3) = true := decide_eq_true c21
               clear c21
               by_cases c22 : x7_3 < (x3_3.length : Int)
               ·rw [if_pos c22] at H
                have c22b0 : decide (x7_3 < (x3_3.length : Int)) = true := decide_eq_true c22
                clear c22
                obtain ⟨ji23, hji23⟩ : ∃ j_ : Int, (wrap64 (x7_3 - 1)) = j_ := ⟨_, rfl⟩
                replace H : (if 0 ≤ (ji23) then (if (ji23) < (x3_3.length : Int) then ((smockingref01_before.f ((rd_T34 x3_3 x7_3).f0) ((rd_T34 x3_3 x7_3).f1) ((rd_T34 x3_3 x7_3).f2) ((rd_T34 x3_3 (ji23)).f0) ((rd_T34 x3_3 (ji23)).f1) ((rd_T34 x3_3 (ji23)).f2)).bind fun t153 => (if t153 = true then (smockingref01_ordered.l2 k3 l0 ((x3_3.set (x7_3 : Int).toNat (⟨(rd_T34 x3_3 (ji23)).f0, (rd_T34 x3_3 (ji23)).f1, (rd_T34 x3_3 (ji23)).f2⟩ : S34)).set ((ji23) : Int).toNat (⟨(rd_T34 x3_3 x7_3).f0, (rd_T34 x3_3 x7_3).f1, (rd_T34 x3_3 x7_3).f2⟩ : S34)) x4_1 ji23) else (smockingref01_ordered.l0 k3 l0 x3_3 (wrap64 (x4_1 + 1))))) else (none)) else (none)) = some r := by first | (rw [hji23] at H; exact H) | (simp only [hji23] at H ⊢; exact H)
                have hji23w : (IntKind.i64.wrap (x7_3 - 1)) = ji23 := (i64_w _).trans hji23
                by_cases c24 : 0 ≤ (ji23)
                ·rw [if_pos c24] at H
                 have c24b0 : decide (0 ≤ (ji23)) = true := decide_eq_true c24
                 clear c24
                 by_cases c25 : (ji23) < (x3_3.length : Int)
                 ·rw [if_pos c25] at H
                  have c25b0 : decide ((ji23) < (x3_3.length : Int)) = true := decide_eq_true c25
                  clear c25
                  replace H := Option.bind_eq_some_iff.mp H
                  obtain ⟨t153, A260, H⟩ := H
                  replace H : (if t153 = true then (smockingref01_ordered.l2 k3 l0 ((x3_3.set (x7_3 : Int).toNat (⟨(rd_T34 x3_3 (ji23)).f0, (rd_T34 x3_3 (ji23)).f1, (rd_T34 x3_3 (ji23)).f2⟩ : S34)).set ((ji23) : Int).toNat (⟨(rd_T34 x3_3 x7_3).f0, (rd_T34 x3_3 x7_3).f1, (rd_T34 x3_3 x7_3).f2⟩ : S34)) x4_1 ji23) else (smockingref01_ordered.l0 k3 l0 x3_3 (wrap64 (x4_1 + 1)))) = some r := H
                  have A26 := Aside0.mk A260
                  clear A260
                  by_cases c27 : t153 = true
                  ·subst c27
                   have H1 : (smockingref01_ordered.l2 k3 l0 ((x3_3.set (x7_3 : Int).toNat (⟨(rd_T34 x3_3 (ji23)).f0, (rd_T34 x3_3 (ji23)).f1, (rd_T34 x3_3 (ji23)).f2⟩ : S34)).set ((ji23) : Int).toNat (⟨(rd_T34 x3_3 x7_3).f0, (rd_T34 x3_3 x7_3).f1, (rd_T34 x3_3 x7_3).f2⟩ : S34)) x4_1 ji23) = some r := by rw [if_pos rfl] at H; exact H
                   clear H
                   have H := H1
                   clear H1
                   obtain ⟨y157, hy157⟩ : ∃ y_ : List (S34), y_ = (x3_3.set (x7_3 : Int).toNat (⟨(rd_T34 x3_3 (ji23)).f0, (rd_T34 x3_3 (ji23)).f1, (rd_T34 x3_3 (ji23)).f2⟩ : S34)) := ⟨_, rfl⟩
                   replace H : (smockingref01_ordered.l2 k3 l0 (y157.set ((ji23) : Int).toNat (⟨(rd_T34 x3_3 x7_3).f0, (rd_T34 x3_3 x7_3).f1, (rd_T34 x3_3 x7_3).f2⟩ : S34)) x4_1 ji23) = some r := by first | (rw [hy157]; with_reducible exact H) | (have H2_ := (Option.bind_some _ _).symm.trans H; rw [hy157]; with_reducible exact H2_) | (have H2_ := (Option.bind_some _ _).symm.trans H; with_reducible exact H2_) | with_reducible exact H | (rw [hy157]; exact H) | exact H
                   have Ny157 := Aside0.mk hy157
                   clear hy157
                   obtain ⟨y158, hy158⟩ : ∃ y_ : List (S34), y_ = (y157.set ((ji23) : Int).toNat (⟨(rd_T34 x3_3 x7_3).f0, (rd_T34 x3_3 x7_3).f1, (rd_T34 x3_3 x7_3).f2⟩ : S34)) := ⟨_, rfl⟩
                   replace H : (smockingref01_ordered.l2 k3 l0 y158 x4_1 ji23) = some r := by first | (rw [hy158]; with_reducible exact H) | (have H2_ := (Option.bind_some _ _).symm.trans H; rw [hy158]; with_reducible exact H2_) | (have H2_ := (Option.bind_some _ _).symm.trans H; with_reducible exact H2_) | with_reducible exact H | (rw [hy158]; exact H) | exact H
                   have Ny158 := Aside0.mk hy158
                   clear hy158
                   have H' := Aside0.mk H
                   clear H
                   try go_wp2
                   have n0_ := Aside0.mk (Kd.R_drew HO_3.out)
                   have n1_ := Aside0.mk (below_drew1 HB.out)
                   clear HO_3
                   clear HB
                   have HO_3 := n0_
                   have HB := n1_
                   clear n0_ n1_
                   have p151 : 0 ≤ (x7_3 : Int) := of_decide_eq_true (by first | (with_reducible assumption) | assumption)
                   have q151 : x7_3 < (x3_3.length : Int) := of_decide_eq_true (by first | (with_reducible assumption) | assumption)
                   obtain ⟨ad151, e151, hx151_0, hx151_1, hx151_2⟩ := at_T34 (Kd.R_reads' HO_3.out).2.2 x7_3 p151 q151
                   cases e151
                   replace p151 := eq_true p151
                   replace q151 := eq_true q151
                   have p152 : 0 ≤ ((ji23) : Int) := of_decide_eq_true (by first | (with_reducible assumption) | assumption)
                   have q152 : (ji23) < (x3_3.length : Int) := of_decide_eq_true (by first | (with_reducible assumption) | assumption)
                   obtain ⟨ad152, e152, hx152_0, hx152_1, hx152_2⟩ := at_T34 (Kd.R_reads' HO_3.out).2.2 (ji23) p152 q152
                   obtain rfl : ad151 = ad152 := (by injection e152)
                   replace p152 := eq_true p152
                   replace q152 := eq_true q152
                   refine start_ (n := 14) (S := fun w' => w'.cell? (ad151.add ((x7_3).toNat * 3)) = some (.int .i64 ((rd_T34 x3_3 x7_3).f0)) ∧ w'.cell? ⟨(ad151.add ((x7_3).toNat * 3)).block, (ad151.add ((x7_3).toNat * 3)).off + 1, none⟩ = some (.int .i64 ((rd_T34 x3_3 x7_3).f1)) ∧ w'.cell? ⟨(ad151.add ((x7_3).toNat * 3)).block, (ad151.add ((x7_3).toNat * 3)).off + 2, none⟩ = some (.string ((rd_T34 x3_3 x7_3).f2)) ∧ w'.cell? (ad151.add (((ji23)).toNat * 3)) = some (.int .i64 ((rd_T34 x3_3 (ji23)).f0)) ∧ w'.cell? ⟨(ad151.add (((ji23)).toNat * 3)).block, (ad151.add (((ji23)).toNat * 3)).off + 1, none⟩ = some (.int .i64 ((rd_T34 x3_3 (ji23)).f1)) ∧ w'.cell? ⟨(ad151.add (((ji23)).toNat * 3)).block, (ad151.add (((ji23)).toNat * 3)).off + 2, none⟩ = some (.string ((rd_T34 x3_3 (ji23)).f2))) (ds := []) (bA 14 0) (by kernel_rfl) rfl rfl ⟨hx151_0, hx151_1, hx151_2, hx152_0, hx152_1, hx152_2⟩ (fun hHeld => ?_); refine with_tabW smockingref01_ordered.tab13 smockingref01_ordered.bits13 (fun HT_ HW_ => ?_)
                   generalize wr.drew = w30 at HO_3 HB hx151_0 hx151_1 hx151_2 hx152_0 hx152_1 hx152_2 hHeld ⊢
                   refine pu_ 0 44 (bA 14 1) HT_ ?_
                   refine pu_ 1 45 (bA 14 3) HT_ ?_
                   refine pu_ 2 46 (bA 14 7) HT_ ?_
                   refine pu_ 3 47 (bA 14 15) HT_ ?_
                   refine pu_ 4 48 (bA 14 31) HT_ ?_
                   refine pu_ 5 49 (bA 14 63) HT_ ?_
                   refine pu_ 7 51 (bA 14 191) HT_ ?_
                   refine pu_ 8 52 (bA 14 447) HT_ ?_
                   refine pu_ 9 53 (bA 14 959) HT_ ?_
                   refine pu_ 10 54 (bA 14 1983) HT_ ?_
                   refine tk_ 6 50 (bA 14 2047) rfl HT_ HW_ hHeld (by rintro w' ⟨s0, s1, s2, s3, s4, s5⟩; go_simp; with_reducible rfl) ?_
                   refine tk_ 11 55 (bA 14 4095) rfl HT_ HW_ hHeld (by rintro w' ⟨s0, s1, s2, s3, s4, s5⟩; go_simp; with_reducible rfl) ?_
                   refine one_ (i := 12) (N := some 56) (bA 14 8191) rfl rfl (one_of HT_.out (by kernel_rfl)) (by decide) (fun K hK => ?_)
                   refine goes_ Tryd.func69 (by kernel_rfl) rfl #[.agg #[.int .i64 ((rd_T34 x3_3 x7_3).f0), .int .i64 ((rd_T34 x3_3 x7_3).f1), .string ((rd_T34 x3_3 x7_3).f2)], .agg #[.int .i64 ((rd_T34 x3_3 (ji23)).f0), .int .i64 ((rd_T34 x3_3 (ji23)).f1), .string ((rd_T34 x3_3 (ji23)).f2)]] (by rfl) rfl rfl (by (try simp only [List.map_toArray, List.map_cons, List.map_nil]); first | done | (simp only [hji23]; rfl) | rfl | (simp only [List.length_drop, List.length_take]; rfl)) ?_
                   with_reducible refine (smockingref01_before.calls ((rd_T34 x3_3 x7_3).f0) ((rd_T34 x3_3 x7_3).f1) ((rd_T34 x3_3 x7_3).f2) ((rd_T34 x3_3 (ji23)).f0) ((rd_T34 x3_3 (ji23)).f1) ((rd_T34 x3_3 (ji23)).f2) true _ A26.out).mono ?_
                   rintro e w31 ⟨rfl, hb⟩
                   have HS0_ := (hb.cell (World.block_lt_of_cell? _ _ (hHeld.1))).trans (hHeld.1)
                   have HS1_ := (hb.cell (World.block_lt_of_cell? _ _ (hHeld.2.1))).trans (hHeld.2.1)
                   have HS2_ := (hb.cell (World.block_lt_of_cell? _ _ (hHeld.2.2.1))).trans (hHeld.2.2.1)
                   have HS3_ := (hb.cell (World.block_lt_of_cell? _ _ (hHeld.2.2.2.1))).trans (hHeld.2.2.2.1)
                   have HS4_ := (hb.cell (World.block_lt_of_cell? _ _ (hHeld.2.2.2.2.1))).trans (hHeld.2.2.2.2.1)
                   have HS5_ := (hb.cell (World.block_lt_of_cell? _ _ (hHeld.2.2.2.2.2))).trans (hHeld.2.2.2.2.2)
                   refine ⟨_, rfl, ?_⟩
                   have n0_ := Aside0.mk (Kd.R_below (by (with_reducible repeat (first | apply Kd.R_alloc | apply Kd.R_drewN | apply Kd.R_drew)); exact HO_3.out) hb)
                   have n1_ := Aside0.mk (below_step (by repeat (first | (with_reducible first | exact HB.out | apply below_alloc | apply pw_below_drewN | apply below_drew1) | exact HB.out)) hb)
                   clear HO_3
                   clear HB
                   have HO_3 := n0_
                   have HB := n1_
                   clear n0_ n1_
                   (try clear hb)
                   (try clear hb2)
                   (try clear hk)
                   (try clear hi)
                   refine hK.out _ _ ⟨HS0_, HS1_, HS2_, HS3_, HS4_, HS5_⟩ (fun hHeld => ?_)
                   clear hK K
                   refine norm_ (a' := ?_) ?_ ?_
                   rotate_left
                   ·show Act.put _ (some 56) _ = _
                    simp only [Act.put, q1_, q2_, q3_, i64_w, i32_w]
                    rfl
                   refine pu_ 13 57 (bA 14 16383) HT_ ?_
                   refine done_ (done_of HT_.out (by kernel_rfl)) ?_
                   have p154 : 0 ≤ (x7_3 : Int) := of_decide_eq_true (by first | (with_reducible assumption) | assumption)
                   have q154 : x7_3 < (x3_3.length : Int) := of_decide_eq_true (by first | (with_reducible assumption) | assumption)
                   obtain ⟨ad154, e154, hx154_0, hx154_1, hx154_2⟩ := at_T34 (Kd.R_reads' HO_3.out).2.2 x7_3 p154 q154
                   obtain rfl : ad151 = ad154 := (by injection e154)
                   replace p154 := eq_true p154
                   replace q154 := eq_true q154
                   try go_wp2_with (first | ((with_reducible refine gate_dst (N := 8) rfl ?_); refine box_event ?hg (N := 8) ?hd (cs := #[.int .i64 0, .int .i64 0, .string (⟨#[]⟩ : ByteArray)]) (t := 34) ?hr ?_; (case hd => rfl); (case hg => rfl); (case hr => first | (go_simp; done) | (go_simp; rfl)); intro gb155 hg w32 hbox hb; have n0_ := Aside0.mk (Kd.R_below (Kd.R_elderB (by (with_reducible repeat (first | apply Kd.R_alloc | apply Kd.R_drewN | apply Kd.R_drew)); exact HO_3.out) gb155 (Nat.le_of_eq hg.symm)) hb); have n1_ := Aside0.mk (below_step (by repeat (first | (with_reducible first | exact HB.out | apply below_alloc | apply pw_below_drewN | apply below_drew1) | exact HB.out)) hb); have n2_ := Aside0.mk (hbox); have n3_ := Aside0.mk ((by rw [hg]; exact (below_size (by repeat (first | (with_reducible first | exact HB.out | apply below_alloc | apply pw_below_drewN | apply below_drew1) | exact HB.out))) : w.heap.size ≤ gb155)); have n4_ := Aside0.mk ((by rw [hg]; exact (below_size (by repeat (first | (with_reducible first | exact HB.out | apply below_alloc | apply pw_below_drewN | apply below_drew1) | exact HB.out))) : w.heap.size ≤ gb155)); clear HO_3; clear HB; have HO_3 := n0_; have HB := n1_; have BK155 := n2_; have GW155 := n3_; have GE155 := n4_; clear n0_ n1_ n2_ n3_ n4_; clear hb hbox hg; have hcz33_0 : w32.cell? ⟨gb155, 0, none⟩ = some (.int .i64 0) := (blk_cell BK155.out 0).trans rfl; have hcz33_1 : w32.cell? ⟨gb155, 1, none⟩ = some (.int .i64 0) := (blk_cell BK155.out 1).trans rfl; have hcz33_2 : w32.cell? ⟨gb155, 2, none⟩ = some (.string (⟨#[]⟩ : ByteArray)) := (blk_cell BK155.out 2).trans rfl; have hfz33_0 := blk_frozen BK155.out 0; have hfz33_1 := blk_frozen BK155.out 1; have hfz33_2 := blk_frozen BK155.out 2) | ((with_reducible refine gate_store (t := 34) (p := 8) rfl ?_); refine store_event (t := 34) (p := 8) (v := ?vo_w34) (w1 := (((w32.setCell ⟨gb155, 0, none⟩ (.int .i64 ((rd_T34 x3_3 x7_3).f0))).setCell ⟨gb155, 1, none⟩ (.int .i64 ((rd_T34 x3_3 x7_3).f1))).setCell ⟨gb155, 2, none⟩ (.string ((rd_T34 x3_3 x7_3).f2)))) ?hg ?ho ?hn ?hr ?_; (case ho => rfl); (case hg => rfl); (case hn => rfl); (case hr => first | (go_simp; done) | (go_simp; rfl)); intro w34 hw; have n0_ : Aside0 (Kd.R k34 34 w34 w.heap.size (fun k_ => k_ ≠ gb155) (.slice (some ad151) x3_3.length co19) x3_3) := ⟨(by rw [hw]; exact (by (with_reducible repeat (first | apply Kd.R_alloc | apply Kd.R_drewN | apply Kd.R_drew)); exact Kd.R_mono (Kd.R_far (p := ⟨gb155, 2, none⟩) (Kd.R_far (p := ⟨gb155, 1, none⟩) (Kd.R_far (p := ⟨gb155, 0, none⟩) (Kd.R_mono HO_3.out (fun k_ hk => (⟨hk, hk.2⟩ : _ ∧ k_ ≠ gb155))) (fun _ hk => hk.2) (.int .i64 ((rd_T34 x3_3 x7_3).f0))) (fun _ hk => hk.2) (.int .i64 ((rd_T34 x3_3 x7_3).f1))) (fun _ hk => hk.2) (.string ((rd_T34 x3_3 x7_3).f2))) (fun _ hk => hk.1.2)))⟩; have n1_ : Aside0 (w34.heap[gb155]? = some (.cells #[.int .i64 ((rd_T34 x3_3 x7_3).f0), .int .i64 ((rd_T34 x3_3 x7_3).f1), .string ((rd_T34 x3_3 x7_3).f2)] 34 (0, 0))) := ⟨(by rw [hw]; exact (by (with_reducible repeat (first | refine blk_drewN ?_ _ | refine blk_drew ?_ | refine blk_alloc ?_ _)); refine blk_put (cs := #[.int .i64 ((rd_T34 x3_3 x7_3).f0), .int .i64 ((rd_T34 x3_3 x7_3).f1), .string (⟨#[]⟩ : ByteArray)]) ?_ 2 _ rfl; (with_reducible repeat (first | refine blk_drewN ?_ _ | refine blk_drew ?_ | refine blk_alloc ?_ _)); refine blk_put (cs := #[.int .i64 ((rd_T34 x3_3 x7_3).f0), .int .i64 0, .string (⟨#[]⟩ : ByteArray)]) ?_ 1 _ rfl; (with_reducible repeat (first | refine blk_drewN ?_ _ | refine blk_drew ?_ | refine blk_alloc ?_ _)); refine blk_put (cs := #[.int .i64 0, .int .i64 0, .string (⟨#[]⟩ : ByteArray)]) ?_ 0 _ rfl; (with_reducible repeat (first | refine blk_drewN ?_ _ | refine blk_drew ?_ | refine blk_alloc ?_ _)); exact BK155.out))⟩; have n2_ : Aside0 (Below w.heap.size w w34) := ⟨(by rw [hw]; exact (by repeat (first | (with_reducible first | exact HB.out | apply below_alloc | apply pw_below_drewN | apply below_drew1 | refine below_set ?_ GE155.out) | exact HB.out)))⟩; clear hw; clear HO_3; clear BK155; clear HB; have HO_3 := n0_; have BK155 := n1_; have HB := n2_; clear n0_ n1_ n2_; have p156 : 0 ≤ ((ji23) : Int) := of_decide_eq_true (by first | (with_reducible assumption) | assumption); have q156 : (ji23) < (x3_3.length : Int) := of_decide_eq_true (by first | (with_reducible assumption) | assumption); obtain ⟨ad156, e156, hx156_0, hx156_1, hx156_2⟩ := at_T34 (Kd.R_reads' HO_3.out).2.2 (ji23) p156 q156; obtain rfl : ad151 = ad156 := (by injection e156); replace p156 := eq_true p156; replace q156 := eq_true q156; have p28 : 0 ≤ (x7_3 : Int) := of_decide_eq_true (by first | (with_reducible assumption) | assumption); have q28 : (x7_3 : Int) < ((x3_3.length : Int) : Int) := of_decide_eq_true (by first | (with_reducible assumption) | assumption); obtain ⟨go28, co28, eo28, gb28, gl28, cl28, HG28⟩ := Kd.R_form HO_3.out (by omega); (first | cases eo28 | (injection eo28 with ea_ en_ ec_; (first | subst ea_ | (injection ea_ with ea_; subst ea_)); subst ec_; clear en_)); have GB28 := Aside0.mk gb28; have GG28 := Aside0.mk HG28; clear gb28 gl28 HG28; (first | simp only [add_plain] at hx151_0 | skip); (first | simp only [add_plain] at hx151_1 | skip); (first | simp only [add_plain] at hx151_2 | skip); (first | simp only [add_plain] at hx152_0 | skip); (first | simp only [add_plain] at hx152_1 | skip); (first | simp only [add_plain] at hx152_2 | skip); (first | simp only [add_plain] at hx154_0 | skip); (first | simp only [add_plain] at hx154_1 | skip); (first | simp only [add_plain] at hx154_2 | skip); (first | simp only [add_plain] at hx156_0 | skip); (first | simp only [add_plain] at hx156_1 | skip); (first | simp only [add_plain] at hx156_2 | skip); obtain ⟨ce28, hcl28, hM28, hcc28, hfr28⟩ := Kd.R_elem HO_3.out z34 (x7_3 : Int) p28 q28; obtain rfl := k34_openM hM28; have hx28_0 : w34.cell? ⟨go28, (x7_3 : Int).toNat * 3, none⟩ = some (.int .i64 ((rd_T34 x3_3 x7_3).f0)) := hcc28 0 _ rfl; have hx28_1 : w34.cell? ⟨go28, (x7_3 : Int).toNat * 3 + 1, none⟩ = some (.int .i64 ((rd_T34 x3_3 x7_3).f1)) := hcc28 1 _ rfl; have hx28_2 : w34.cell? ⟨go28, (x7_3 : Int).toNat * 3 + 2, none⟩ = some (.string ((rd_T34 x3_3 x7_3).f2)) := hcc28 2 _ rfl; have hf28_0 : w34.frozen? ⟨go28, (x7_3 : Int).toNat * 3, none⟩ = false := hfr28 0; have hf28_1 : w34.frozen? ⟨go28, (x7_3 : Int).toNat * 3 + 1, none⟩ = false := hfr28 1; have hf28_2 : w34.frozen? ⟨go28, (x7_3 : Int).toNat * 3 + 2, none⟩ = false := hfr28 2; clear hcl28 hcc28 hfr28 hM28; replace p28 := eq_true p28; replace q28 := eq_true q28; have HX35 := Aside0.mk (show Kd.R k34 34 w34 w.heap.size (fun k_ => k_ ≠ gb155) (.slice (some ⟨go28, 0, none⟩) x3_3.length co19) x3_3 from (by (with_reducible repeat (first | apply Kd.R_alloc | apply Kd.R_drewN | apply Kd.R_drew)); exact HO_3.out)); obtain ⟨ce35, hcl35, hM35, hcc35, hfr35⟩ := Kd.R_elem HX35.out z34 (x7_3 : Int) (of_decide_eq_true (by first | (with_reducible assumption) | assumption)) (by have h_ : (x7_3 : Int) < ((x3_3.length : Int) : Int) := of_decide_eq_true (by first | (with_reducible assumption) | assumption); first | exact h_ | (have e_ := (Kd.R_reads' HO_3.out).1; omega) | simpa using h_); obtain rfl := k34_openM hM35; have HP35 := Kd.R_seg HX35.out (x7_3 : Int) (of_decide_eq_true (by first | (with_reducible assumption) | assumption)) (by have h_ : (x7_3 : Int) < ((x3_3.length : Int) : Int) := of_decide_eq_true (by first | (with_reducible assumption) | assumption); first | exact h_ | (have e_ := (Kd.R_reads' HO_3.out).1; omega) | simpa using h_) (seg := [.int .i64 ((rd_T34 x3_3 (ji23)).f0), .int .i64 ((rd_T34 x3_3 (ji23)).f1), .string ((rd_T34 x3_3 (ji23)).f2)]) (j := 0) hcl35 hcc35 (show 3 ≤ 3 from by decide) (x' := (⟨(rd_T34 x3_3 (ji23)).f0, (rd_T34 x3_3 (ji23)).f1, (rd_T34 x3_3 (ji23)).f2⟩ : S34)) (k34_mkM _ _ _ (⟨(rd_T34 x3_3 (ji23)).f0, (rd_T34 x3_3 (ji23)).f1, (rd_T34 x3_3 (ji23)).f2⟩ : S34) ) (fun _ hk => hk); have hx35_0 := hcc35 0 _ rfl; (try simp only [show (k34).sz = 3 from rfl, Nat.mul_one, Nat.add_zero] at hx35_0); have hf35_0 := hfr35 0; (try simp only [show (k34).sz = 3 from rfl, Nat.mul_one, Nat.add_zero] at hf35_0); have hx35_1 := hcc35 1 _ rfl; (try simp only [show (k34).sz = 3 from rfl, Nat.mul_one, Nat.add_zero] at hx35_1); have hf35_1 := hfr35 1; (try simp only [show (k34).sz = 3 from rfl, Nat.mul_one, Nat.add_zero] at hf35_1); have hx35_2 := hcc35 2 _ rfl; (try simp only [show (k34).sz = 3 from rfl, Nat.mul_one, Nat.add_zero] at hx35_2); have hf35_2 := hfr35 2; (try simp only [show (k34).sz = 3 from rfl, Nat.mul_one, Nat.add_zero] at hf35_2); clear hcl35 hcc35 hfr35 hM35) | ((with_reducible refine gate_store (t := 34) (p := 71) rfl ?_); refine store_event (t := 34) (p := 71) (v := ?vo_w36) (w1 := (((w34.setCell ⟨go28, (x7_3 : Int).toNat * 3, none⟩ (.int .i64 ((rd_T34 x3_3 (ji23)).f0))).setCell ⟨go28, (x7_3 : Int).toNat * 3 + 1, none⟩ (.int .i64 ((rd_T34 x3_3 (ji23)).f1))).setCell ⟨go28, (x7_3 : Int).toNat * 3 + 2, none⟩ (.string ((rd_T34 x3_3 (ji23)).f2)))) ?hg ?ho ?hn ?hr ?_; (case ho => rfl); (case hg => rfl); (case hn => rfl); (case hr => first | (go_simp; done) | (go_simp; rfl)); intro w36 hw; have hg : w34.grownBy w36 (some go28) := (by rw [hw]; exact HP35.2); have hp_ : Kd.R k34 34 w36 w.heap.size (fun k_ => k_ ≠ gb155) (.slice (some ⟨go28, 0, none⟩) x3_3.length co19) y157 := (by rw [hw, Ny157.out]; exact HP35.1); clear HP35; have n0_ := Aside0.mk (hp_); have n1_ := Aside0.mk (blk_grown (g := gb155) (o := .cells #[.int .i64 ((rd_T34 x3_3 x7_3).f0), .int .i64 ((rd_T34 x3_3 x7_3).f1), .string ((rd_T34 x3_3 x7_3).f2)] 34 (0, 0)) (by (with_reducible repeat (first | refine blk_drewN ?_ _ | refine blk_drew ?_ | refine blk_alloc ?_ _)); exact BK155.out) hg (Kd.R_away HO_3.out (fun _ hk => hk))); have n2_ := Aside0.mk ((by rw [hw]; exact below_set (below_set (below_set (HB.out) GB28.out) GB28.out) GB28.out : Below w.heap.size w w36)); clear HO_3; clear BK155; clear HB; have HO_3 := n0_; have BK155 := n1_; have HB := n2_; clear n0_ n1_ n2_; clear hg hw hp_; have hcz37_0 : w36.cell? ⟨gb155, 0, none⟩ = some (.int .i64 ((rd_T34 x3_3 x7_3).f0)) := (blk_cell BK155.out 0).trans rfl; have hcz37_1 : w36.cell? ⟨gb155, 1, none⟩ = some (.int .i64 ((rd_T34 x3_3 x7_3).f1)) := (blk_cell BK155.out 1).trans rfl; have hcz37_2 : w36.cell? ⟨gb155, 2, none⟩ = some (.string ((rd_T34 x3_3 x7_3).f2)) := (blk_cell BK155.out 2).trans rfl; have hfz37_0 := blk_frozen BK155.out 0; have hfz37_1 := blk_frozen BK155.out 1; have hfz37_2 := blk_frozen BK155.out 2; have p29 : 0 ≤ ((ji23) : Int) := of_decide_eq_true (by first | (with_reducible assumption) | assumption); have q29 : ((ji23) : Int) < ((x3_3.length : Int) : Int) := of_decide_eq_true (by first | (with_reducible assumption) | assumption); obtain ⟨ce29, hcl29, hM29, hcc29, hfr29⟩ := Kd.R_elem HO_3.out z34 ((ji23) : Int) p29 q29; obtain rfl := k34_openM hM29; have hx29_0 : w36.cell? ⟨go28, ((ji23) : Int).toNat * 3, none⟩ = some (.int .i64 ((rd_T34 y157 (ji23)).f0)) := hcc29 0 _ rfl; have hx29_1 : w36.cell? ⟨go28, ((ji23) : Int).toNat * 3 + 1, none⟩ = some (.int .i64 ((rd_T34 y157 (ji23)).f1)) := hcc29 1 _ rfl; have hx29_2 : w36.cell? ⟨go28, ((ji23) : Int).toNat * 3 + 2, none⟩ = some (.string ((rd_T34 y157 (ji23)).f2)) := hcc29 2 _ rfl; have hf29_0 : w36.frozen? ⟨go28, ((ji23) : Int).toNat * 3, none⟩ = false := hfr29 0; have hf29_1 : w36.frozen? ⟨go28, ((ji23) : Int).toNat * 3 + 1, none⟩ = false := hfr29 1; have hf29_2 : w36.frozen? ⟨go28, ((ji23) : Int).toNat * 3 + 2, none⟩ = false := hfr29 2; clear hcl29 hcc29 hfr29 hM29; replace p29 := eq_true p29; replace q29 := eq_true q29; have HX38 := Aside0.mk (show Kd.R k34 34 w36 w.heap.size (fun k_ => k_ ≠ gb155) (.slice (some ⟨go28, 0, none⟩) x3_3.length co19) y157 from (by (with_reducible repeat (first | apply Kd.R_alloc | apply Kd.R_drewN | apply Kd.R_drew)); exact HO_3.out)); obtain ⟨ce38, hcl38, hM38, hcc38, hfr38⟩ := Kd.R_elem HX38.out z34 ((ji23) : Int) (of_decide_eq_true (by first | (with_reducible assumption) | assumption)) (by have h_ : ((ji23) : Int) < ((x3_3.length : Int) : Int) := of_decide_eq_true (by first | (with_reducible assumption) | assumption); first | exact h_ | (have e_ := (Kd.R_reads' HO_3.out).1; omega) | simpa using h_); obtain rfl := k34_openM hM38; have HP38 := Kd.R_seg HX38.out ((ji23) : Int) (of_decide_eq_true (by first | (with_reducible assumption) | assumption)) (by have h_ : ((ji23) : Int) < ((x3_3.length : Int) : Int) := of_decide_eq_true (by first | (with_reducible assumption) | assumption); first | exact h_ | (have e_ := (Kd.R_reads' HO_3.out).1; omega) | simpa using h_) (seg := [.int .i64 ((rd_T34 x3_3 x7_3).f0), .int .i64 ((rd_T34 x3_3 x7_3).f1), .string ((rd_T34 x3_3 x7_3).f2)]) (j := 0) hcl38 hcc38 (show 3 ≤ 3 from by decide) (x' := (⟨(rd_T34 x3_3 x7_3).f0, (rd_T34 x3_3 x7_3).f1, (rd_T34 x3_3 x7_3).f2⟩ : S34)) (k34_mkM _ _ _ (⟨(rd_T34 x3_3 x7_3).f0, (rd_T34 x3_3 x7_3).f1, (rd_T34 x3_3 x7_3).f2⟩ : S34) ) (fun _ hk => hk); have hx38_0 := hcc38 0 _ rfl; (try simp only [show (k34).sz = 3 from rfl, Nat.mul_one, Nat.add_zero] at hx38_0); have hf38_0 := hfr38 0; (try simp only [show (k34).sz = 3 from rfl, Nat.mul_one, Nat.add_zero] at hf38_0); have hx38_1 := hcc38 1 _ rfl; (try simp only [show (k34).sz = 3 from rfl, Nat.mul_one, Nat.add_zero] at hx38_1); have hf38_1 := hfr38 1; (try simp only [show (k34).sz = 3 from rfl, Nat.mul_one, Nat.add_zero] at hf38_1); have hx38_2 := hcc38 2 _ rfl; (try simp only [show (k34).sz = 3 from rfl, Nat.mul_one, Nat.add_zero] at hx38_2); have hf38_2 := hfr38 2; (try simp only [show (k34).sz = 3 from rfl, Nat.mul_one, Nat.add_zero] at hf38_2); clear hcl38 hcc38 hfr38 hM38) | ((with_reducible refine gate_store (t := 34) (p := 76) rfl ?_); refine store_event (t := 34) (p := 76) (v := ?vo_w39) (w1 := (((w36.setCell ⟨go28, ((ji23) : Int).toNat * 3, none⟩ (.int .i64 ((rd_T34 x3_3 x7_3).f0))).setCell ⟨go28, ((ji23) : Int).toNat * 3 + 1, none⟩ (.int .i64 ((rd_T34 x3_3 x7_3).f1))).setCell ⟨go28, ((ji23) : Int).toNat * 3 + 2, none⟩ (.string ((rd_T34 x3_3 x7_3).f2)))) ?hg ?ho ?hn ?hr ?_; (case ho => rfl); (case hg => rfl); (case hn => rfl); (case hr => first | (go_simp; done) | (go_simp; rfl)); intro w39 hw; have hg : w36.grownBy w39 (some go28) := (by rw [hw]; exact HP38.2); have hp_ : Kd.R k34 34 w39 w.heap.size (fun k_ => k_ ≠ gb155) (.slice (some ⟨go28, 0, none⟩) x3_3.length co19) y158 := (by rw [hw, Ny158.out]; exact HP38.1); clear HP38; have n0_ := Aside0.mk (hp_); have n1_ := Aside0.mk (blk_grown (g := gb155) (o := .cells #[.int .i64 ((rd_T34 x3_3 x7_3).f0), .int .i64 ((rd_T34 x3_3 x7_3).f1), .string ((rd_T34 x3_3 x7_3).f2)] 34 (0, 0)) (by (with_reducible repeat (first | refine blk_drewN ?_ _ | refine blk_drew ?_ | refine blk_alloc ?_ _)); exact BK155.out) hg (Kd.R_away HO_3.out (fun _ hk => hk))); have n2_ := Aside0.mk ((by rw [hw]; exact below_set (below_set (below_set (HB.out) GB28.out) GB28.out) GB28.out : Below w.heap.size w w39)); clear HO_3; clear BK155; clear HB; have HO_3 := n0_; have BK155 := n1_; have HB := n2_; clear n0_ n1_ n2_; clear hg hw hp_))
                   (try simp only [← hl3_3])
                   go_roundg k3
                   case measure => have := HK1.out; have := HK2.out; have := HK3.out; omega
                   case rel => exact ⟨(y158), (ji23), (by first | rfl | (simp; done) | (simp only [← hji23] <;> (first | rfl | simp)) | (simp [*]; done)), H', ⟨by have := HK1.out; have := HK2.out; have := HK3.out; omega⟩, ⟨by (try simp only [hl3_3]); (with_reducible repeat (first | apply Kd.R_alloc | apply Kd.R_drewN | apply Kd.R_drew)); exact Kd.R_mono HO_3.out (fun _ hk => trivial)⟩, ⟨by repeat (first | (with_reducible first | exact HB.out | apply below_alloc | apply pw_below_drewN | apply below_drew1 | refine below_set ?_ GE155.out) | exact HB.out)⟩⟩
                  ·replace c27 := Bool.eq_false_iff.mpr c27
                   subst c27
                   have H1 : (smockingref01_ordered.l0 k3 l0 x3_3 (wrap64 (x4_1 + 1))) = some r := by rw [if_neg (show ¬ (false = true) by decide)] at H; exact H
                   clear H
                   have H := H1
                   clear H1
                   have H' := Aside0.mk H
                   clear H
                   try go_wp2
                   have n0_ := Aside0.mk (Kd.R_drew HO_3.out)
                   have n1_ := Aside0.mk (below_drew1 HB.out)
                   clear HO_3
                   clear HB
                   have HO_3 := n0_
                   have HB := n1_
                   clear n0_ n1_
                   have p151 : 0 ≤ (x7_3 : Int) := of_decide_eq_true (by first | (with_reducible assumption) | assumption)
                   have q151 : x7_3 < (x3_3.length : Int) := of_decide_eq_true (by first | (with_reducible assumption) | assumption)
                   obtain ⟨ad151, e151, hx151_0, hx151_1, hx151_2⟩ := at_T34 (Kd.R_reads' HO_3.out).2.2 x7_3 p151 q151
                   cases e151
                   replace p151 := eq_true p151
                   replace q151 := eq_true q151
                   have p152 : 0 ≤ ((ji23) : Int) := of_decide_eq_true (by first | (with_reducible assumption) | assumption)
                   have q152 : (ji23) < (x3_3.length : Int) := of_decide_eq_true (by first | (with_reducible assumption) | assumption)
                   obtain ⟨ad152, e152, hx152_0, hx152_1, hx152_2⟩ := at_T34 (Kd.R_reads' HO_3.out).2.2 (ji23) p152 q152
                   obtain rfl : ad151 = ad152 := (by injection e152)
                   replace p152 := eq_true p152
                   replace q152 := eq_true q152
                   refine start_ (n := 14) (S := fun w' => w'.cell? (ad151.add ((x7_3).toNat * 3)) = some (.int .i64 ((rd_T34 x3_3 x7_3).f0)) ∧ w'.cell? ⟨(ad151.add ((x7_3).toNat * 3)).block, (ad151.add ((x7_3).toNat * 3)).off + 1, none⟩ = some (.int .i64 ((rd_T34 x3_3 x7_3).f1)) ∧ w'.cell? ⟨(ad151.add ((x7_3).toNat * 3)).block, (ad151.add ((x7_3).toNat * 3)).off + 2, none⟩ = some (.string ((rd_T34 x3_3 x7_3).f2)) ∧ w'.cell? (ad151.add (((ji23)).toNat * 3)) = some (.int .i64 ((rd_T34 x3_3 (ji23)).f0)) ∧ w'.cell? ⟨(ad151.add (((ji23)).toNat * 3)).block, (ad151.add (((ji23)).toNat * 3)).off + 1, none⟩ = some (.int .i64 ((rd_T34 x3_3 (ji23)).f1)) ∧ w'.cell? ⟨(ad151.add (((ji23)).toNat * 3)).block, (ad151.add (((ji23)).toNat * 3)).off + 2, none⟩ = some (.string ((rd_T34 x3_3 (ji23)).f2))) (ds := []) (bA 14 0) (by kernel_rfl) rfl rfl ⟨hx151_0, hx151_1, hx151_2, hx152_0, hx152_1, hx152_2⟩ (fun hHeld => ?_); refine with_tabW smockingref01_ordered.tab13 smockingref01_ordered.bits13 (fun HT_ HW_ => ?_)
                   generalize wr.drew = w40 at HO_3 HB hx151_0 hx151_1 hx151_2 hx152_0 hx152_1 hx152_2 hHeld ⊢
                   refine pu_ 0 44 (bA 14 1) HT_ ?_
                   refine pu_ 1 45 (bA 14 3) HT_ ?_
                   refine pu_ 2 46 (bA 14 7) HT_ ?_
                   refine pu_ 3 47 (bA 14 15) HT_ ?_
                   refine pu_ 4 48 (bA 14 31) HT_ ?_
                   refine pu_ 5 49 (bA 14 63) HT_ ?_
                   refine pu_ 7 51 (bA 14 191) HT_ ?_
                   refine pu_ 8 52 (bA 14 447) HT_ ?_
                   refine pu_ 9 53 (bA 14 959) HT_ ?_
                   refine pu_ 10 54 (bA 14 1983) HT_ ?_
                   refine tk_ 6 50 (bA 14 2047) rfl HT_ HW_ hHeld (by rintro w' ⟨s0, s1, s2, s3, s4, s5⟩; go_simp; with_reducible rfl) ?_
                   refine tk_ 11 55 (bA 14 4095) rfl HT_ HW_ hHeld (by rintro w' ⟨s0, s1, s2, s3, s4, s5⟩; go_simp; with_reducible rfl) ?_
                   refine one_ (i := 12) (N := some 56) (bA 14 8191) rfl rfl (one_of HT_.out (by kernel_rfl)) (by decide) (fun K hK => ?_)
                   refine goes_ Tryd.func69 (by kernel_rfl) rfl #[.agg #[.int .i64 ((rd_T34 x3_3 x7_3).f0), .int .i64 ((rd_T34 x3_3 x7_3).f1), .string ((rd_T34 x3_3 x7_3).f2)], .agg #[.int .i64 ((rd_T34 x3_3 (ji23)).f0), .int .i64 ((rd_T34 x3_3 (ji23)).f1), .string ((rd_T34 x3_3 (ji23)).f2)]] (by rfl) rfl rfl (by (try simp only [List.map_toArray, List.map_cons, List.map_nil]); first | done | (simp only [hji23]; rfl) | rfl | (simp only [List.length_drop, List.length_take]; rfl)) ?_
                   with_reducible refine (smockingref01_before.calls ((rd_T34 x3_3 x7_3).f0) ((rd_T34 x3_3 x7_3).f1) ((rd_T34 x3_3 x7_3).f2) ((rd_T34 x3_3 (ji23)).f0) ((rd_T34 x3_3 (ji23)).f1) ((rd_T34 x3_3 (ji23)).f2) false _ A26.out).mono ?_
                   rintro e w41 ⟨rfl, hb⟩
                   have HS0_ := (hb.cell (World.block_lt_of_cell? _ _ (hHeld.1))).trans (hHeld.1)
                   have HS1_ := (hb.cell (World.block_lt_of_cell? _ _ (hHeld.2.1))).trans (hHeld.2.1)
                   have HS2_ := (hb.cell (World.block_lt_of_cell? _ _ (hHeld.2.2.1))).trans (hHeld.2.2.1)
                   have HS3_ := (hb.cell (World.block_lt_of_cell? _ _ (hHeld.2.2.2.1))).trans (hHeld.2.2.2.1)
                   have HS4_ := (hb.cell (World.block_lt_of_cell? _ _ (hHeld.2.2.2.2.1))).trans (hHeld.2.2.2.2.1)
                   have HS5_ := (hb.cell (World.block_lt_of_cell? _ _ (hHeld.2.2.2.2.2))).trans (hHeld.2.2.2.2.2)
                   refine ⟨_, rfl, ?_⟩
                   have n0_ := Aside0.mk (Kd.R_below (by (with_reducible repeat (first | apply Kd.R_alloc | apply Kd.R_drewN | apply Kd.R_drew)); exact HO_3.out) hb)
                   have n1_ := Aside0.mk (below_step (by repeat (first | (with_reducible first | exact HB.out | apply below_alloc | apply pw_below_drewN | apply below_drew1) | exact HB.out)) hb)
                   clear HO_3
                   clear HB
                   have HO_3 := n0_
                   have HB := n1_
                   clear n0_ n1_
                   (try clear hb)
                   (try clear hb2)
                   (try clear hk)
                   (try clear hi)
                   refine hK.out _ _ ⟨HS0_, HS1_, HS2_, HS3_, HS4_, HS5_⟩ (fun hHeld => ?_)
                   clear hK K
                   refine norm_ (a' := ?_) ?_ ?_
                   rotate_left
                   ·show Act.put _ (some 56) _ = _
                    simp only [Act.put, q1_, q2_, q3_, i64_w, i32_w]
                    rfl
                   refine pu_ 13 57 (bA 14 16383) HT_ ?_
                   refine done_ (done_of HT_.out (by kernel_rfl)) ?_
                   try go_wp2
                   (try simp only [← hl3_3])
                   go_roundg k3
                   case measure => have := HK1.out; have := HK2.out; have := HK3.out; omega
                   case rel => exact ⟨(x3_3), (wrap64 (x4_1 + 1)), (by first | rfl | (simp; done) | (simp [*]; done)), H', ⟨by have := HK1.out; have := HK2.out; have := HK3.out; omega⟩, ⟨by (try simp only [hl3_3]); (with_reducible repeat (first | apply Kd.R_alloc | apply Kd.R_drewN | apply Kd.R_drew)); exact HO_3.out⟩, ⟨by repeat (first | (with_reducible first | exact HB.out | apply below_alloc | apply pw_below_drewN | apply below_drew1) | exact HB.out)⟩⟩
                 ·rw [if_neg c25] at H
                  exact absurd H (by simp)
                ·rw [if_neg c24] at H
                 exact absurd H (by simp)
               ·rw [if_neg c22] at H
                exact absurd H (by simp)
              ·rw [if_neg c21] at H
               exact absurd H (by simp)
             ·rw [if_neg c20] at H
              have c20b0 : decide (0 < x7_3) = false := decide_eq_false c20
              clear c20
              have H' := Aside0.mk H
              clear H
              try go_wp2
              have n0_ := Aside0.mk (Kd.R_drew HO_3.out)
              have n1_ := Aside0.mk (below_drew1 HB.out)
              clear HO_3
              clear HB
              have HO_3 := n0_
              have HB := n1_
              clear n0_ n1_
              refine start_ (n := 14) (S := fun w' => True) (ds := []) (bA 14 0) (by kernel_rfl) rfl rfl trivial (fun hHeld => ?_); refine with_tabW smockingref01_ordered.tab13 smockingref01_ordered.bits13 (fun HT_ HW_ => ?_)
              generalize wr.drew = w42 at HO_3 HB hHeld ⊢
              refine pu_ 0 44 (bA 14 1) HT_ ?_
              refine pu_ 1 45 (bA 14 3) HT_ ?_
              refine pu_ 2 46 (bA 14 7) HT_ ?_
              refine pz_ 3 47 (bA 14 15) HT_ ?_
              refine pz_ 4 48 (bA 14 31) HT_ ?_
              refine pz_ 5 49 (bA 14 63) HT_ ?_
              refine pz_ 6 50 (bA 14 127) HT_ ?_
              refine pz_ 7 51 (bA 14 255) HT_ ?_
              refine pz_ 8 52 (bA 14 511) HT_ ?_
              refine pz_ 9 53 (bA 14 1023) HT_ ?_
              refine pz_ 10 54 (bA 14 2047) HT_ ?_
              refine pz_ 11 55 (bA 14 4095) HT_ ?_
              refine pz_ 12 56 (bA 14 8191) HT_ ?_
              refine pu_ 13 57 (bA 14 16383) HT_ ?_
              refine done_ (done_of HT_.out (by kernel_rfl)) ?_
              try go_wp2
              (try simp only [← hl3_3])
              go_roundg k3
              case measure => have := HK1.out; have := HK2.out; have := HK3.out; omega
              case rel => exact ⟨(x3_3), (wrap64 (x4_1 + 1)), (by first | rfl | (simp; done) | (simp [*]; done)), H', ⟨by have := HK1.out; have := HK2.out; have := HK3.out; omega⟩, ⟨by (try simp only [hl3_3]); (with_reducible repeat (first | apply Kd.R_alloc | apply Kd.R_drewN | apply Kd.R_drew)); exact HO_3.out⟩, ⟨by repeat (first | (with_reducible first | exact HB.out | apply below_alloc | apply pw_below_drewN | apply below_drew1) | exact HB.out)⟩⟩
          ·rw [if_neg c16] at H
           exact absurd H (by simp)
         ·rw [if_neg c15] at H
          exact absurd H (by simp)
        ·rw [if_neg c14] at H
         exact absurd H (by simp)
   ·rw [if_neg c2] at H
    have c2b0 : decide (x4_1 < (l0.length : Int)) = false := decide_eq_false c2
    clear c2
    obtain rfl := Option.some.inj H
    go_wp2
    go_ret
    exact ⟨_, by first | rfl | (simp [errW_none, errW_some] <;> rfl) | (simp [*, errW_none, errW_some] <;> rfl), by (with_reducible repeat (first | apply Kd.R_alloc | apply Kd.R_drewN | apply Kd.R_drew)); exact HO_3.out, by repeat (first | (with_reducible first | exact HB.out | apply below_alloc | apply pw_below_drewN | apply below_drew1) | exact HB.out)⟩

end Go.Proofs.YthimblhfjfngiaaDoor.PText

namespace Go.Proofs.YthimblhfjfngiaaDoor.PText
open Go.RowKit Go.Proofs.YthimblhfjfngiaaDoorW.PrintWords Go.Proofs.YthimblhfjfngiaaDoorW.PrintLast Go.Proofs.YthimblhfjfngiaaDoorW.PrintMore
attribute [local go_sem] max2_int min2_int max_two min_two max_three min_three max_four min_four   -- for this text's walks alone
set_option linter.unusedVariables false
set_option linter.unusedSimpArgs false

def smockingref01_touch.j0 : Nat → Bool → Int → Int → ByteArray → Int → Int → ByteArray → Option (Bool)
 | 0, _, _, _, _, _, _, _ => none
 | k + 1, x5, x133000, x133001, x133002, x134000, x134001, x134002 => if x5 = true then (some (x133000 == x134000)) else (if x133000 = x133001 then (if x133000 > x134000 then (some (decide (x133000 < x134001))) else (some false)) else (if x134000 = x134001 then (if x134000 > x133000 then (some (decide (x134000 < x133001))) else (some false)) else (if x133000 < x134001 then (some (decide (x134000 < x133001))) else (some false))))
def smockingref01_touch.f (k : Nat) (a0_0 : Int) (a0_1 : Int) (a0_2 : ByteArray) (a1_0 : Int) (a1_1 : Int) (a1_2 : ByteArray) : Option (Bool) := if a0_0 = a0_1 then (smockingref01_touch.j0 k (a1_0 == a1_1) a0_0 a0_1 a0_2 a1_0 a1_1 a1_2) else (smockingref01_touch.j0 k false a0_0 a0_1 a0_2 a1_0 a1_1 a1_2)
set_option maxHeartbeats 8000000 in
set_option maxRecDepth 100000 in
theorem smockingref01_touch.calls (k : Nat) (a0_0 : Int) (a0_1 : Int) (a0_2 : ByteArray) (a1_0 : Int) (a1_1 : Int) (a1_2 : ByteArray) (r : Bool) (w : World) (h : smockingref01_touch.f k a0_0 a0_1 a0_2 a1_0 a1_1 a1_2 = some r) :
  Calls Tryd.prog 40 #[.agg #[.int .i64 a0_0, .int .i64 a0_1, .string a0_2], .agg #[.int .i64 a1_0, .int .i64 a1_1, .string a1_2]] w fun e w' => e = .returned (.bool r) ∧ Below w.heap.size w w' := by
 have hu34 := Tryd.underlying34
 have HB := Aside0.mk (Below.refl w.heap.size w)
 have H : (if a0_0 = a0_1 then (smockingref01_touch.j0 k (a1_0 == a1_1) a0_0 a0_1 a0_2 a1_0 a1_1 a1_2) else (smockingref01_touch.j0 k false a0_0 a0_1 a0_2 a1_0 a1_1 a1_2)) = some r := h
 clear h
 have HC3 := Aside0.mk H
 clear H
 go_enter Tryd.func40, Tryd.ntmps40
 go_upto_region 1 with (first | ((with_reducible refine gate_dst (N := 2) rfl ?_); refine box_event ?hg (N := 2) ?hd (cs := #[.int .i64 a0_0, .int .i64 a0_1, .string a0_2]) (t := 34) ?hr ?_; (case hd => rfl); (case hg => rfl); (case hr => first | (go_simp; done) | (go_simp; rfl)); intro gb132 hg w4 hbox hb; have n0_ := Aside0.mk (below_step (by repeat (first | (with_reducible first | exact HB.out | apply below_alloc | apply pw_below_drewN | apply below_drew1) | exact HB.out)) hb); have n1_ := Aside0.mk (hbox); have n2_ := Aside0.mk ((by rw [hg]; exact (below_size (by repeat (first | (with_reducible first | exact HB.out | apply below_alloc | apply pw_below_drewN | apply below_drew1) | exact HB.out))) : w.heap.size ≤ gb132)); have n3_ := Aside0.mk ((by rw [hg]; exact (below_size (by repeat (first | (with_reducible first | exact HB.out | apply below_alloc | apply pw_below_drewN | apply below_drew1) | exact HB.out))) : w.heap.size ≤ gb132)); clear HB; have HB := n0_; have BK132 := n1_; have GW132 := n2_; have GE132 := n3_; clear n0_ n1_ n2_ n3_; clear hb hbox hg) | ((with_reducible refine gate_dst (N := 3) rfl ?_); refine box_event ?hg (N := 3) ?hd (cs := #[.int .i64 a1_0, .int .i64 a1_1, .string a1_2]) (t := 34) ?hr ?_; (case hd => rfl); (case hg => rfl); (case hr => first | (go_simp; done) | (go_simp; rfl)); intro gb133 hg w5 hbox hb; have n0_ := Aside0.mk (blk_below (g := gb132) (o := .cells #[.int .i64 a0_0, .int .i64 a0_1, .string a0_2] 34 (0, 0)) (by (with_reducible repeat (first | refine blk_drewN ?_ _ | refine blk_drew ?_ | refine blk_alloc ?_ _)); exact BK132.out) hb); have n1_ := Aside0.mk (below_step (by repeat (first | (with_reducible first | exact HB.out | apply below_alloc | apply pw_below_drewN | apply below_drew1 | refine below_set ?_ GE132.out) | exact HB.out)) hb); have n2_ := Aside0.mk (hbox); have n3_ := Aside0.mk ((by rw [hg]; exact (below_size (by repeat (first | (with_reducible first | exact HB.out | apply below_alloc | apply pw_below_drewN | apply below_drew1 | refine below_set ?_ GE132.out) | exact HB.out))) : w.heap.size ≤ gb133)); have n4_ := Aside0.mk ((by rw [hg]; exact (below_size (by repeat (first | (with_reducible first | exact HB.out | apply below_alloc | apply pw_below_drewN | apply below_drew1 | refine below_set ?_ GE132.out) | exact HB.out))) : w.heap.size ≤ gb133)); have n5_ := Aside0.mk ((by rw [hg]; exact Nat.ne_of_lt (blk_lt (g := gb132) (o := .cells #[.int .i64 a0_0, .int .i64 a0_1, .string a0_2] 34 (0, 0)) (by (with_reducible repeat (first | refine blk_drewN ?_ _ | refine blk_drew ?_ | refine blk_alloc ?_ _)); exact BK132.out)) : gb132 ≠ gb133)); have n6_ := Aside0.mk ((by rw [hg]; exact Nat.ne_of_gt (blk_lt (g := gb132) (o := .cells #[.int .i64 a0_0, .int .i64 a0_1, .string a0_2] 34 (0, 0)) (by (with_reducible repeat (first | refine blk_drewN ?_ _ | refine blk_drew ?_ | refine blk_alloc ?_ _)); exact BK132.out)) : gb133 ≠ gb132)); clear BK132; clear HB; have BK132 := n0_; have HB := n1_; have BK133 := n2_; have GW133 := n3_; have GE133 := n4_; have NB132_133 := n5_; have NB133_132 := n6_; clear n0_ n1_ n2_ n3_ n4_ n5_ n6_; clear hb hbox hg))
 (try simp only [Act.put, q1_, q2_, q3_])
 go_cut [5] (fun v5 wc => ∃ (kq : Nat) (x5_2 : Bool), v5 = .bool x5_2 ∧ Aside0 (smockingref01_touch.j0 kq x5_2 a0_0 a0_1 a0_2 a1_0 a1_1 a1_2 = some r) ∧ Aside0 (kq ≤ k) ∧ Aside0 (wc.heap[gb132]? = some (.cells #[.int .i64 a0_0, .int .i64 a0_1, .string a0_2] 34 (0, 0))) ∧ Aside0 (wc.heap[gb133]? = some (.cells #[.int .i64 a1_0, .int .i64 a1_1, .string a1_2] 34 (0, 0))) ∧ Aside0 (Below w.heap.size w wc))
 case first =>
  have H := HC3.out
  clear HC3
  by_cases c6 : a0_0 = a0_1
  ·rw [if_pos c6] at H
   have c6b0 : (a0_0 == a0_1) = true := beq_iff_eq.mpr c6
   have c6b1 : (a0_0 != a0_1) = false := bne_eq_false_iff_eq.mpr c6
   clear c6
   (first | rw [c6b0] | (simp only [i64_w, i32_w]; rw [c6b0]) | skip)
   have H' := Aside0.mk H
   clear H
   have hnb7 := NB132_133.out
   have hnc7 := NB133_132.out
   have hcz8_0 : w5.cell? ⟨gb132, 0, none⟩ = some (.int .i64 a0_0) := (blk_cell BK132.out 0).trans rfl
   have hcz8_1 : w5.cell? ⟨gb132, 1, none⟩ = some (.int .i64 a0_1) := (blk_cell BK132.out 1).trans rfl
   have hcz8_2 : w5.cell? ⟨gb132, 2, none⟩ = some (.string a0_2) := (blk_cell BK132.out 2).trans rfl
   have hfz8_0 := blk_frozen BK132.out 0
   have hfz8_1 := blk_frozen BK132.out 1
   have hfz8_2 := blk_frozen BK132.out 2
   have hcz9_0 : w5.cell? ⟨gb133, 0, none⟩ = some (.int .i64 a1_0) := (blk_cell BK133.out 0).trans rfl
   have hcz9_1 : w5.cell? ⟨gb133, 1, none⟩ = some (.int .i64 a1_1) := (blk_cell BK133.out 1).trans rfl
   have hcz9_2 : w5.cell? ⟨gb133, 2, none⟩ = some (.string a1_2) := (blk_cell BK133.out 2).trans rfl
   have hfz9_0 := blk_frozen BK133.out 0
   have hfz9_1 := blk_frozen BK133.out 1
   have hfz9_2 := blk_frozen BK133.out 2
   go_wp2
   go_meet
   case rel => exact ⟨_, ((a1_0 == a1_1)), (by first | rfl | (simp; done) | (simp [*]; done)), H', ⟨by first | omega | exact Nat.le_refl _⟩, ⟨by (with_reducible repeat (first | refine blk_drewN ?_ _ | refine blk_drew ?_ | refine blk_alloc ?_ _)); exact BK132.out⟩, ⟨by (with_reducible repeat (first | refine blk_drewN ?_ _ | refine blk_drew ?_ | refine blk_alloc ?_ _)); exact BK133.out⟩, ⟨by repeat (first | (with_reducible first | exact HB.out | apply below_alloc | apply pw_below_drewN | apply below_drew1 | refine below_set ?_ GE132.out | refine below_set ?_ GE133.out) | exact HB.out)⟩⟩
  ·rw [if_neg c6] at H
   have c6b0 : (a0_0 == a0_1) = false := beq_eq_false_iff_ne.mpr c6
   have c6b1 : (a0_0 != a0_1) = true := bne_iff_ne.mpr c6
   (first | rw [c6b0] | (simp only [i64_w, i32_w]; rw [c6b0]) | skip)
   have H' := Aside0.mk H
   clear H
   have hnb10 := NB132_133.out
   have hnc10 := NB133_132.out
   have hcz11_0 : w5.cell? ⟨gb132, 0, none⟩ = some (.int .i64 a0_0) := (blk_cell BK132.out 0).trans rfl
   have hcz11_1 : w5.cell? ⟨gb132, 1, none⟩ = some (.int .i64 a0_1) := (blk_cell BK132.out 1).trans rfl
   have hcz11_2 : w5.cell? ⟨gb132, 2, none⟩ = some (.string a0_2) := (blk_cell BK132.out 2).trans rfl
   have hfz11_0 := blk_frozen BK132.out 0
   have hfz11_1 := blk_frozen BK132.out 1
   have hfz11_2 := blk_frozen BK132.out 2
   go_wp2
   go_meet
   case rel => exact ⟨_, (false), (by first | rfl | (simp; done) | (simp [*]; done)), H', ⟨by first | omega | exact Nat.le_refl _⟩, ⟨by (with_reducible repeat (first | refine blk_drewN ?_ _ | refine blk_drew ?_ | refine blk_alloc ?_ _)); exact BK132.out⟩, ⟨by (with_reducible repeat (first | refine blk_drewN ?_ _ | refine blk_drew ?_ | refine blk_alloc ?_ _)); exact BK133.out⟩, ⟨by repeat (first | (with_reducible first | exact HB.out | apply below_alloc | apply pw_below_drewN | apply below_drew1 | refine below_set ?_ GE132.out | refine below_set ?_ GE133.out) | exact HB.out)⟩⟩
 case rest =>
  clear HC3
  try clear c1
  try clear p2
  try clear c4
  try clear c6
  try clear c6b0
  try clear c6b1
  try clear c7
  try clear c10
  try clear hcz11_0
  try clear hcz11_1
  try clear hcz11_2
  try clear hcz8_0
  try clear hcz8_1
  try clear hcz8_2
  try clear hcz9_0
  try clear hcz9_1
  try clear hcz9_2
  try clear hfz11_0
  try clear hfz11_1
  try clear hfz11_2
  try clear hfz8_0
  try clear hfz8_1
  try clear hfz8_2
  try clear hfz9_0
  try clear hfz9_1
  try clear hfz9_2
  obtain ⟨kq, x5_2, rfl, HA, HJ2, BK132, BK133, HB⟩ := hcut
  cases kq with
  | zero => exact absurd HA.out (by simp [smockingref01_touch.j0])
  | succ kj2 =>
   have H := HA.out
   clear HA
   simp only [smockingref01_touch.j0] at H
   by_cases c12 : x5_2 = true
   ·subst c12
    have H1 : (some (a0_0 == a1_0)) = some r := by rw [if_pos rfl] at H; exact H
    clear H
    have H := H1
    clear H1
    obtain rfl := Option.some.inj H
    have hnb13 := NB132_133.out
    have hnc13 := NB133_132.out
    have hcz14_0 : wc.cell? ⟨gb132, 0, none⟩ = some (.int .i64 a0_0) := (blk_cell BK132.out 0).trans rfl
    have hcz14_1 : wc.cell? ⟨gb132, 1, none⟩ = some (.int .i64 a0_1) := (blk_cell BK132.out 1).trans rfl
    have hcz14_2 : wc.cell? ⟨gb132, 2, none⟩ = some (.string a0_2) := (blk_cell BK132.out 2).trans rfl
    have hfz14_0 := blk_frozen BK132.out 0
    have hfz14_1 := blk_frozen BK132.out 1
    have hfz14_2 := blk_frozen BK132.out 2
    have hcz15_0 : wc.cell? ⟨gb133, 0, none⟩ = some (.int .i64 a1_0) := (blk_cell BK133.out 0).trans rfl
    have hcz15_1 : wc.cell? ⟨gb133, 1, none⟩ = some (.int .i64 a1_1) := (blk_cell BK133.out 1).trans rfl
    have hcz15_2 : wc.cell? ⟨gb133, 2, none⟩ = some (.string a1_2) := (blk_cell BK133.out 2).trans rfl
    have hfz15_0 := blk_frozen BK133.out 0
    have hfz15_1 := blk_frozen BK133.out 1
    have hfz15_2 := blk_frozen BK133.out 2
    go_wp2
    go_ret
    exact ⟨by first | rfl | (simp [errW_none, errW_some] <;> rfl) | (simp [*, errW_none, errW_some] <;> rfl), by repeat (first | (with_reducible first | exact HB.out | apply below_alloc | apply pw_below_drewN | apply below_drew1 | refine below_set ?_ GE132.out | refine below_set ?_ GE133.out) | exact HB.out)⟩
   ·replace c12 := Bool.eq_false_iff.mpr c12
    subst c12
    have H1 : (if a0_0 = a0_1 then (if a0_0 > a1_0 then (some (decide (a0_0 < a1_1))) else (some false)) else (if a1_0 = a1_1 then (if a1_0 > a0_0 then (some (decide (a1_0 < a0_1))) else (some false)) else (if a0_0 < a1_1 then (some (decide (a1_0 < a0_1))) else (some false)))) = some r := by rw [if_neg (show ¬ (false = true) by decide)] at H; exact H
    clear H
    have H := H1
    clear H1
    by_cases c16 : a0_0 = a0_1
    ·rw [if_pos c16] at H
     have c16b0 : (a0_0 == a0_1) = true := beq_iff_eq.mpr c16
     have c16b1 : (a0_0 != a0_1) = false := bne_eq_false_iff_eq.mpr c16
     clear c16
     by_cases c17 : a0_0 > a1_0
     ·rw [if_pos c17] at H
      have c17b0 : decide (a1_0 < a0_0) = true := decide_eq_true c17
      clear c17
      obtain rfl := Option.some.inj H
      have hnb18 := NB132_133.out
      have hnc18 := NB133_132.out
      have hcz19_0 : wc.cell? ⟨gb132, 0, none⟩ = some (.int .i64 a0_0) := (blk_cell BK132.out 0).trans rfl
      have hcz19_1 : wc.cell? ⟨gb132, 1, none⟩ = some (.int .i64 a0_1) := (blk_cell BK132.out 1).trans rfl
      have hcz19_2 : wc.cell? ⟨gb132, 2, none⟩ = some (.string a0_2) := (blk_cell BK132.out 2).trans rfl
      have hfz19_0 := blk_frozen BK132.out 0
      have hfz19_1 := blk_frozen BK132.out 1
      have hfz19_2 := blk_frozen BK132.out 2
      have hcz20_0 : wc.cell? ⟨gb133, 0, none⟩ = some (.int .i64 a1_0) := (blk_cell BK133.out 0).trans rfl
      have hcz20_1 : wc.cell? ⟨gb133, 1, none⟩ = some (.int .i64 a1_1) := (blk_cell BK133.out 1).trans rfl
      have hcz20_2 : wc.cell? ⟨gb133, 2, none⟩ = some (.string a1_2) := (blk_cell BK133.out 2).trans rfl
      have hfz20_0 := blk_frozen BK133.out 0
      have hfz20_1 := blk_frozen BK133.out 1
      have hfz20_2 := blk_frozen BK133.out 2
      go_wp2
      go_ret
      exact ⟨by first | rfl | (simp [errW_none, errW_some] <;> rfl) | (simp [*, errW_none, errW_some] <;> rfl), by repeat (first | (with_reducible first | exact HB.out | apply below_alloc | apply pw_below_drewN | apply below_drew1 | refine below_set ?_ GE132.out | refine below_set ?_ GE133.out) | exact HB.out)⟩
     ·rw [if_neg c17] at H
      have c17b0 : decide (a1_0 < a0_0) = false := decide_eq_false c17
      clear c17
      obtain rfl := Option.some.inj H
      have hnb21 := NB132_133.out
      have hnc21 := NB133_132.out
      have hcz22_0 : wc.cell? ⟨gb132, 0, none⟩ = some (.int .i64 a0_0) := (blk_cell BK132.out 0).trans rfl
      have hcz22_1 : wc.cell? ⟨gb132, 1, none⟩ = some (.int .i64 a0_1) := (blk_cell BK132.out 1).trans rfl
      have hcz22_2 : wc.cell? ⟨gb132, 2, none⟩ = some (.string a0_2) := (blk_cell BK132.out 2).trans rfl
      have hfz22_0 := blk_frozen BK132.out 0
      have hfz22_1 := blk_frozen BK132.out 1
      have hfz22_2 := blk_frozen BK132.out 2
      have hcz23_0 : wc.cell? ⟨gb133, 0, none⟩ = some (.int .i64 a1_0) := (blk_cell BK133.out 0).trans rfl
      have hcz23_1 : wc.cell? ⟨gb133, 1, none⟩ = some (.int .i64 a1_1) := (blk_cell BK133.out 1).trans rfl
      have hcz23_2 : wc.cell? ⟨gb133, 2, none⟩ = some (.string a1_2) := (blk_cell BK133.out 2).trans rfl
      have hfz23_0 := blk_frozen BK133.out 0
      have hfz23_1 := blk_frozen BK133.out 1
      have hfz23_2 := blk_frozen BK133.out 2
      go_wp2
      go_ret
      exact ⟨by first | rfl | (simp [errW_none, errW_some] <;> rfl) | (simp [*, errW_none, errW_some] <;> rfl), by repeat (first | (with_reducible first | exact HB.out | apply below_alloc | apply pw_below_drewN | apply below_drew1 | refine below_set ?_ GE132.out | refine below_set ?_ GE133.out) | exact HB.out)⟩
    ·rw [if_neg c16] at H
     have c16b0 : (a0_0 == a0_1) = false := beq_eq_false_iff_ne.mpr c16
     have c16b1 : (a0_0 != a0_1) = true := bne_iff_ne.mpr c16
     by_cases c24 : a1_0 = a1_1
     ·rw [if_pos c24] at H
      have c24b0 : (a1_0 == a1_1) = true := beq_iff_eq.mpr c24
      have c24b1 : (a1_0 != a1_1) = false := bne_eq_false_iff_eq.mpr c24
      clear c24
      by_cases c25 : a1_0 > a0_0
      ·rw [if_pos c25] at H
       have c25b0 : decide (a0_0 < a1_0) = true := decide_eq_true c25
       clear c25
       obtain rfl := Option.some.inj H
       have hnb26 := NB132_133.out
       have hnc26 := NB133_132.out
       have hcz27_0 : wc.cell? ⟨gb132, 0, none⟩ = some (.int .i64 a0_0) := (blk_cell BK132.out 0).trans rfl
       have hcz27_1 : wc.cell? ⟨gb132, 1, none⟩ = some (.int .i64 a0_1) := (blk_cell BK132.out 1).trans rfl
       have hcz27_2 : wc.cell? ⟨gb132, 2, none⟩ = some (.string a0_2) := (blk_cell BK132.out 2).trans rfl
       have hfz27_0 := blk_frozen BK132.out 0
       have hfz27_1 := blk_frozen BK132.out 1
       have hfz27_2 := blk_frozen BK132.out 2
       have hcz28_0 : wc.cell? ⟨gb133, 0, none⟩ = some (.int .i64 a1_0) := (blk_cell BK133.out 0).trans rfl
       have hcz28_1 : wc.cell? ⟨gb133, 1, none⟩ = some (.int .i64 a1_1) := (blk_cell BK133.out 1).trans rfl
       have hcz28_2 : wc.cell? ⟨gb133, 2, none⟩ = some (.string a1_2) := (blk_cell BK133.out 2).trans rfl
       have hfz28_0 := blk_frozen BK133.out 0
       have hfz28_1 := blk_frozen BK133.out 1
       have hfz28_2 := blk_frozen BK133.out 2
       go_wp2
       go_ret
       exact ⟨by first | rfl | (simp [errW_none, errW_some] <;> rfl) | (simp [*, errW_none, errW_some] <;> rfl), by repeat (first | (with_reducible first | exact HB.out | apply below_alloc | apply pw_below_drewN | apply below_drew1 | refine below_set ?_ GE132.out | refine below_set ?_ GE133.out) | exact HB.out)⟩
      ·rw [if_neg c25] at H
       have c25b0 : decide (a0_0 < a1_0) = false := decide_eq_false c25
       clear c25
       obtain rfl := Option.some.inj H
       have hnb29 := NB132_133.out
       have hnc29 := NB133_132.out
       have hcz30_0 : wc.cell? ⟨gb132, 0, none⟩ = some (.int .i64 a0_0) := (blk_cell BK132.out 0).trans rfl
       have hcz30_1 : wc.cell? ⟨gb132, 1, none⟩ = some (.int .i64 a0_1) := (blk_cell BK132.out 1).trans rfl
       have hcz30_2 : wc.cell? ⟨gb132, 2, none⟩ = some (.string a0_2) := (blk_cell BK132.out 2).trans rfl
       have hfz30_0 := blk_frozen BK132.out 0
       have hfz30_1 := blk_frozen BK132.out 1
       have hfz30_2 := blk_frozen BK132.out 2
       have hcz31_0 : wc.cell? ⟨gb133, 0, none⟩ = some (.int .i64 a1_0) := (blk_cell BK133.out 0).trans rfl
       have hcz31_1 : wc.cell? ⟨gb133, 1, none⟩ = some (.int .i64 a1_1) := (blk_cell BK133.out 1).trans rfl
       have hcz31_2 : wc.cell? ⟨gb133, 2, none⟩ = some (.string a1_2) := (blk_cell BK133.out 2).trans rfl
       have hfz31_0 := blk_frozen BK133.out 0
       have hfz31_1 := blk_frozen BK133.out 1
       have hfz31_2 := blk_frozen BK133.out 2
       go_wp2
       go_ret
       exact ⟨by first | rfl | (simp [errW_none, errW_some] <;> rfl) | (simp [*, errW_none, errW_some] <;> rfl), by repeat (first | (with_reducible first | exact HB.out | apply below_alloc | apply pw_below_drewN | apply below_drew1 | refine below_set ?_ GE132.out | refine below_set ?_ GE133.out) | exact HB.out)⟩
     ·rw [if_neg c24] at H
      have c24b0 : (a1_0 == a1_1) = false := beq_eq_false_iff_ne.mpr c24
      have c24b1 : (a1_0 != a1_1) = true := bne_iff_ne.mpr c24
      by_cases c32 : a0_0 < a1_1
      ·rw [if_pos c32] at H
       have c32b0 : decide (a0_0 < a1_1) = true := decide_eq_true c32
       clear c32
       obtain rfl := Option.some.inj H
       have hnb33 := NB132_133.out
       have hnc33 := NB133_132.out
       have hcz34_0 : wc.cell? ⟨gb132, 0, none⟩ = some (.int .i64 a0_0) := (blk_cell BK132.out 0).trans rfl
       have hcz34_1 : wc.cell? ⟨gb132, 1, none⟩ = some (.int .i64 a0_1) := (blk_cell BK132.out 1).trans rfl
       have hcz34_2 : wc.cell? ⟨gb132, 2, none⟩ = some (.string a0_2) := (blk_cell BK132.out 2).trans rfl
       have hfz34_0 := blk_frozen BK132.out 0
       have hfz34_1 := blk_frozen BK132.out 1
       have hfz34_2 := blk_frozen BK132.out 2
       have hcz35_0 : wc.cell? ⟨gb133, 0, none⟩ = some (.int .i64 a1_0) := (blk_cell BK133.out 0).trans rfl
       have hcz35_1 : wc.cell? ⟨gb133, 1, none⟩ = some (.int .i64 a1_1) := (blk_cell BK133.out 1).trans rfl
       have hcz35_2 : wc.cell? ⟨gb133, 2, none⟩ = some (.string a1_2) := (blk_cell BK133.out 2).trans rfl
       have hfz35_0 := blk_frozen BK133.out 0
       have hfz35_1 := blk_frozen BK133.out 1
       have hfz35_2 := blk_frozen BK133.out 2
       go_wp2
       go_ret
       exact ⟨by first | rfl | (simp [errW_none, errW_some] <;> rfl) | (simp [*, errW_none, errW_some] <;> rfl), by repeat (first | (with_reducible first | exact HB.out | apply below_alloc | apply pw_below_drewN | apply below_drew1 | refine below_set ?_ GE132.out | refine below_set ?_ GE133.out) | exact HB.out)⟩
      ·rw [if_neg c32] at H
       have c32b0 : decide (a0_0 < a1_1) = false := decide_eq_false c32
       clear c32
       obtain rfl := Option.some.inj H
       have hnb36 := NB132_133.out
       have hnc36 := NB133_132.out
       have hcz37_0 : wc.cell? ⟨gb132, 0, none⟩ = some (.int .i64 a0_0) := (blk_cell BK132.out 0).trans rfl
       have hcz37_1 : wc.cell? ⟨gb132, 1, none⟩ = some (.int .i64 a0_1) := (blk_cell BK132.out 1).trans rfl
       have hcz37_2 : wc.cell? ⟨gb132, 2, none⟩ = some (.string a0_2) := (blk_cell BK132.out 2).trans rfl
       have hfz37_0 := blk_frozen BK132.out 0
       have hfz37_1 := blk_frozen BK132.out 1
       have hfz37_2 := blk_frozen BK132.out 2
       have hcz38_0 : wc.cell? ⟨gb133, 0, none⟩ = some (.int .i64 a1_0) := (blk_cell BK133.out 0).trans rfl
       have hcz38_1 : wc.cell? ⟨gb133, 1, none⟩ = some (.int .i64 a1_1) := (blk_cell BK133.out 1).trans rfl
       have hcz38_2 : wc.cell? ⟨gb133, 2, none⟩ = some (.string a1_2) := (blk_cell BK133.out 2).trans rfl
       have hfz38_0 := blk_frozen BK133.out 0
       have hfz38_1 := blk_frozen BK133.out 1
       have hfz38_2 := blk_frozen BK133.out 2
       go_wp2
       go_ret
       exact ⟨by first | rfl | (simp [errW_none, errW_some] <;> rfl) | (simp [*, errW_none, errW_some] <;> rfl), by repeat (first | (with_reducible first | exact HB.out | apply below_alloc | apply pw_below_drewN | apply below_drew1 | refine below_set ?_ GE132.out | refine below_set ?_ GE133.out) | exact HB.out)⟩

end Go.Proofs.YthimblhfjfngiaaDoor.PText

namespace Go.Proofs.YthimblhfjfngiaaDoor.PText
open Go.RowKit Go.Proofs.YthimblhfjfngiaaDoorW.PrintWords Go.Proofs.YthimblhfjfngiaaDoorW.PrintLast Go.Proofs.YthimblhfjfngiaaDoorW.PrintMore
attribute [local go_sem] max2_int min2_int max_two min_two max_three min_three max_four min_four   -- for this text's walks alone
set_option linter.unusedVariables false
set_option linter.unusedSimpArgs false

attribute [local go_sem high] eqA34
mutual
def smockingref01_Fine.j0 : Nat → ByteArray → List (S34) → Bool → Option (Int)
 | 0, _, _, _ => none
 | k + 1, x0, x1, x15 => if x15 = true then (some 2) else (smockingref01_Fine.l0 k x0 x1 0)
def smockingref01_Fine.l0 : Nat → ByteArray → List (S34) → Int → Option (Int)
 | 0, _, _, _ => none
 | k + 1, x0, x1, x5 => if x5 < (x1.length : Int) then (if 0 ≤ x5 then (if ((rd_T34 x1 x5).f0) < 0 then (some 1) else (if ((rd_T34 x1 x5).f1) > (x0.size : Int) then (some 1) else (if ((rd_T34 x1 x5).f0) > ((rd_T34 x1 x5).f1) then (some 1) else (smockingref01_Fine.l0 k x0 x1 (wrap64 (x5 + 1)))))) else (none)) else (smockingref01_Fine.l1 k x1 0)
def smockingref01_Fine.l1 : Nat → List (S34) → Int → Option (Int)
 | 0, _, _ => none
 | k + 1, x1, x6 => if x6 < (x1.length : Int) then (smockingref01_Fine.l2 k x1 x6 0) else (some 0)
def smockingref01_Fine.l2 : Nat → List (S34) → Int → Int → Option (Int)
 | 0, _, _, _ => none
 | k + 1, x1, x6, x7 => if x7 < x6 then (if 0 ≤ x6 then (if x6 < (x1.length : Int) then (if 0 ≤ x7 then (if x7 < (x1.length : Int) then (if (!(((rd_T34 x1 x6).f0) == ((rd_T34 x1 x7).f0)) || (!(((rd_T34 x1 x6).f1) == ((rd_T34 x1 x7).f1)) || (!((((rd_T34 x1 x6).f2).toList) == (((rd_T34 x1 x7).f2).toList))))) = true then ((smockingref01_touch.f k ((rd_T34 x1 x6).f0) ((rd_T34 x1 x6).f1) ((rd_T34 x1 x6).f2) ((rd_T34 x1 x7).f0) ((rd_T34 x1 x7).f1) ((rd_T34 x1 x7).f2)).bind fun t142 => (if t142 = true then (some 10) else (smockingref01_Fine.l2 k x1 x6 (wrap64 (x7 + 1))))) else (smockingref01_Fine.l2 k x1 x6 (wrap64 (x7 + 1)))) else (none)) else (none)) else (none)) else (none)) else (smockingref01_Fine.l1 k x1 (wrap64 (x6 + 1)))
end
def smockingref01_Fine.f (k : Nat) (a0 : ByteArray) (l1 : List (S34)) : Option (Int) := if (a0.size : Int) > 200000 then (smockingref01_Fine.j0 k a0 l1 true) else (smockingref01_Fine.j0 k a0 l1 (decide ((l1.length : Int) > 10000)))
def smockingref01_Fine.T6 : Bool × List (List Nat × List Nat) := (true, [([], []), ([], []), ([0, 1], [0, 1]), ([2], [2]), ([3], [3]), ([4], [4]), ([5], [5]), ([6], [6]), ([6], [6]), ([7, 8, 6], [6, 7, 8]), ([9, 6], [6, 9]), ([10, 6], [6, 10]), ([6], [6]), ([12, 6], [6, 12]), ([11, 13, 6], [6, 11, 13]), ([6, 14], [6, 14]), ([15, 6], [15]), ([16], [16]), ([16], [16]), ([17, 18, 16], [16, 17, 18]), ([19, 16], [16, 19]), ([20, 16], [16, 20]), ([16], [16]), ([16], [16]), ([22, 23, 16], [16, 22, 23]), ([24, 16], [16, 24]), ([25, 16], [16, 25]), ([21, 26, 16], [16, 21, 26]), ([16, 27], [16, 27])])
def smockingref01_Fine.B6 : List Nat := [0, 0, 3, 7, 15, 31, 63, 127, 127, 511, 1023, 2047, 127, 4223, 16383, 32767, 65535, 131071, 131071, 524287, 1048575, 2097151, 131071, 131071, 12713983, 29491199, 63045631, 134217727, 268435455]
theorem smockingref01_Fine.tab6 : rtab .any (opsOf Tryd.f13 6) = smockingref01_Fine.T6 := by kernel_rfl
theorem smockingref01_Fine.bits6 : waitsOk smockingref01_Fine.T6.2 smockingref01_Fine.B6 = true := by kernel_rfl
def smockingref01_Fine.T14 : Bool × List (List Nat × List Nat) := (true, [([], []), ([], []), ([0, 1], [0, 1]), ([2], [2]), ([], []), ([], []), ([4, 5], [4, 5]), ([6], [6]), ([3, 7], [3, 7]), ([8], [8]), ([9], [9]), ([9], [9]), ([10, 11, 9], [9, 10, 11]), ([12, 9], [9, 12]), ([9], [9]), ([9], [9]), ([14, 15, 9], [9, 14, 15]), ([16, 9], [9, 16]), ([13, 17, 9, 9], [9, 13, 17]), ([9, 18], [9, 18])])
def smockingref01_Fine.B14 : List Nat := [0, 0, 3, 7, 0, 0, 48, 112, 255, 511, 1023, 1023, 4095, 8191, 1023, 1023, 50175, 115711, 262143, 524287]
theorem smockingref01_Fine.tab14 : rtab .any (opsOf Tryd.f13 14) = smockingref01_Fine.T14 := by kernel_rfl
theorem smockingref01_Fine.bits14 : waitsOk smockingref01_Fine.T14.2 smockingref01_Fine.B14 = true := by kernel_rfl
set_option maxHeartbeats 8000000 in
set_option maxRecDepth 100000 in
theorem smockingref01_Fine.calls (k : Nat) (a0 : ByteArray) (A1 : Option Addr) (c1 : Nat) (l1 : List (S34)) (r : Int) (w : World) (hr1 : Kd.C k34 w A1 l1.length l1) (hc1 : l1.length ≤ c1) (h : smockingref01_Fine.f k a0 l1 = some r) :
  Calls Tryd.prog 13 #[.string a0, .slice A1 l1.length c1] w fun e w' => e = .returned (.int .i64 r) ∧ Below w.heap.size w w' := by
 have hu34 := Tryd.underlying34
 have HR1 := Aside0.mk hr1
 have HC1 := Aside0.mk hc1
 clear hr1 hc1
 have HB := Aside0.mk (Below.refl w.heap.size w)
 have H : (if (a0.size : Int) > 200000 then (smockingref01_Fine.j0 k a0 l1 true) else (smockingref01_Fine.j0 k a0 l1 (decide ((l1.length : Int) > 10000)))) = some r := h
 clear h
 have HC3 := Aside0.mk H
 clear H
 go_enter Tryd.func13, Tryd.ntmps13
 go_upto_region 1 with (fail)
 go_cut [15] (fun v15 wc => ∃ (kq : Nat) (x15_2 : Bool), v15 = .bool x15_2 ∧ Aside0 (smockingref01_Fine.j0 kq a0 l1 x15_2 = some r) ∧ Aside0 (kq ≤ k) ∧ Aside0 (Below w.heap.size w wc))
 case first =>
  have H := HC3.out
  clear HC3
  by_cases c4 : (a0.size : Int) > 200000
  ·rw [if_pos c4] at H
   have c4b0 : decide (200000 < (a0.size : Int)) = true := decide_eq_true c4
   have c4b1 : decide (200000 < a0.size) = true := decide_eq_true (by omega)
   clear c4
   (first | rw [c4b0] | (simp only [i64_w, i32_w]; rw [c4b0]) | skip)
   have H' := Aside0.mk H
   clear H
   go_wp2
   go_meet
   case rel => exact ⟨_, (true), (by first | rfl | (simp; done) | (simp [*]; done)), H', ⟨by first | omega | exact Nat.le_refl _⟩, ⟨by repeat (first | (with_reducible first | exact HB.out | apply below_alloc | apply pw_below_drewN | apply below_drew1) | exact HB.out)⟩⟩
  ·rw [if_neg c4] at H
   have c4b0 : decide (200000 < (a0.size : Int)) = false := decide_eq_false c4
   have c4b1 : decide (200000 < a0.size) = false := decide_eq_false (by omega)
   clear c4
   (first | rw [c4b0] | (simp only [i64_w, i32_w]; rw [c4b0]) | skip)
   have H' := Aside0.mk H
   clear H
   go_wp2
   go_meet
   case rel => exact ⟨_, (decide ((l1.length : Int) > 10000)), (by first | rfl | (simp; done) | (simp [*]; done)), H', ⟨by first | omega | exact Nat.le_refl _⟩, ⟨by repeat (first | (with_reducible first | exact HB.out | apply below_alloc | apply pw_below_drewN | apply below_drew1) | exact HB.out)⟩⟩
 case rest =>
  clear HC3
  try clear c1
  try clear p2
  try clear c4
  try clear c4b0
  try clear c4b1
  obtain ⟨kq, x15_2, rfl, HA, HJ2, HB⟩ := hcut
  cases kq with
  | zero => exact absurd HA.out (by simp [smockingref01_Fine.j0])
  | succ kj2 =>
   have H := HA.out
   clear HA
   simp only [smockingref01_Fine.j0] at H
   by_cases c5 : x15_2 = true
   ·subst c5
    have H1 : (some 2) = some r := by rw [if_pos rfl] at H; exact H
    clear H
    have H := H1
    clear H1
    obtain rfl := Option.some.inj H
    go_wp2
    go_ret
    exact ⟨by first | rfl | (simp [errW_none, errW_some] <;> rfl) | (simp [*, errW_none, errW_some] <;> rfl), by repeat (first | (with_reducible first | exact HB.out | apply below_alloc | apply pw_below_drewN | apply below_drew1) | exact HB.out)⟩
   ·replace c5 := Bool.eq_false_iff.mpr c5
    subst c5
    have H1 : (smockingref01_Fine.l0 kj2 a0 l1 0) = some r := by rw [if_neg (show ¬ (false = true) by decide)] at H; exact H
    clear H
    have H := H1
    clear H1
    have H' := Aside0.mk H
    clear H
    go_wp2
    try simp only [Act.put, List.setIfInBounds_toArray, List.set_cons_succ, List.set_cons_zero]
    go_loopg [5] kj2 (fun kq v5 w' => ∃ (x5_2 : Int), v5 = .int .i64 x5_2 ∧ Aside0 (smockingref01_Fine.l0 kq a0 l1 x5_2 = some r) ∧ Aside0 (kq ≤ kj2) ∧ Aside0 (Below w.heap.size w w'))
    case atStart => exact ⟨(0), (by first | rfl | (simp; done) | (simp [*]; done)), H', ⟨Nat.le_refl _⟩, ⟨by repeat (first | (with_reducible first | exact HB.out | apply below_alloc | apply pw_below_drewN | apply below_drew1) | exact HB.out)⟩⟩
    case round =>
     clear H'
     try clear c1
     try clear p2
     try clear c4
     try clear c4b0
     try clear c4b1
     try clear c5
     try clear p2
     obtain ⟨x5_2, rfl, HA, HK2, HB⟩ := hrel
     cases gk with
     | zero => exact absurd HA.out (by simp [smockingref01_Fine.l0])
     | succ k2 =>
      have H := HA.out
      clear HA
      simp only [smockingref01_Fine.l0] at H
      by_cases c6 : x5_2 < (l1.length : Int)
      ·rw [if_pos c6] at H
       have c6b0 : decide (x5_2 < (l1.length : Int)) = true := decide_eq_true c6
       clear c6
       by_cases c7 : 0 ≤ x5_2
       ·rw [if_pos c7] at H
        have c7b0 : decide (0 ≤ x5_2) = true := decide_eq_true c7
        clear c7
        by_cases c8 : ((rd_T34 l1 x5_2).f0) < 0
        ·rw [if_pos c8] at H
         have c8b0 : decide (((rd_T34 l1 x5_2).f0) < 0) = true := decide_eq_true c8
         clear c8
         obtain rfl := Option.some.inj H
         try go_wp2
         have n0_ := Aside0.mk (below_drew1 HB.out)
         clear HB
         have HB := n0_
         clear n0_
         have p134 : 0 ≤ (x5_2 : Int) := of_decide_eq_true (by first | (with_reducible assumption) | assumption)
         have q134 : x5_2 < (l1.length : Int) := of_decide_eq_true (by first | (with_reducible assumption) | assumption)
         obtain ⟨ad134, e134, hx134_0, hx134_1, hx134_2⟩ := at_T34 HR1.out x5_2 p134 q134
         have hw134_2 := hx134_2
         have hw134_1 := hx134_1
         have hw134_0 := hx134_0
         cases e134
         replace hx134_0 := (HB.out.cell (World.block_lt_of_cell? w _ hx134_0)).trans hx134_0
         replace hx134_1 := (HB.out.cell (World.block_lt_of_cell? w _ hx134_1)).trans hx134_1
         replace hx134_2 := (HB.out.cell (World.block_lt_of_cell? w _ hx134_2)).trans hx134_2
         replace p134 := eq_true p134
         replace q134 := eq_true q134
         refine start_ (n := 29) (S := fun w' => w'.cell? (ad134.add ((x5_2).toNat * 3)) = some (.int .i64 ((rd_T34 l1 x5_2).f0)) ∧ w'.cell? ⟨(ad134.add ((x5_2).toNat * 3)).block, (ad134.add ((x5_2).toNat * 3)).off + 1, none⟩ = some (.int .i64 ((rd_T34 l1 x5_2).f1)) ∧ w'.cell? ⟨(ad134.add ((x5_2).toNat * 3)).block, (ad134.add ((x5_2).toNat * 3)).off + 2, none⟩ = some (.string ((rd_T34 l1 x5_2).f2))) (ds := []) (bA 29 0) (by kernel_rfl) rfl rfl ⟨((HB.out.cell (World.block_lt_of_cell? w _ hw134_0)).trans hw134_0), ((HB.out.cell (World.block_lt_of_cell? w _ hw134_1)).trans hw134_1), ((HB.out.cell (World.block_lt_of_cell? w _ hw134_2)).trans hw134_2)⟩ (fun hHeld => ?_); refine with_tabW smockingref01_Fine.tab6 smockingref01_Fine.bits6 (fun HT_ HW_ => ?_)
         generalize wr.drew = w9 at HB hx134_0 hx134_1 hx134_2 hHeld ⊢
         refine pu_ 0 22 (bA 29 1) HT_ ?_
         refine pu_ 1 23 (bA 29 3) HT_ ?_
         refine pu_ 2 24 (bA 29 7) HT_ ?_
         refine pu_ 3 25 (bA 29 15) HT_ ?_
         refine tk_ 4 26 (bA 29 31) rfl HT_ HW_ hHeld (by rintro w' ⟨s0, s1, s2⟩; go_simp; with_reducible rfl) ?_
         refine pu_ 5 27 (bA 29 63) HT_ ?_
         refine pu_ 6 28 (bA 29 127) HT_ ?_
         refine pz_ 7 29 (bA 29 255) HT_ ?_
         refine pz_ 8 30 (bA 29 511) HT_ ?_
         refine pz_ 9 31 (bA 29 1023) HT_ ?_
         refine pz_ 10 32 (bA 29 2047) HT_ ?_
         refine pz_ 11 33 (bA 29 4095) HT_ ?_
         refine pz_ 12 34 (bA 29 8191) HT_ ?_
         refine pz_ 13 35 (bA 29 16383) HT_ ?_
         refine pz_ 14 36 (bA 29 32767) HT_ ?_
         refine pu_ 15 37 (bA 29 65535) HT_ ?_
         refine pu_ 16 38 (bA 29 131071) HT_ ?_
         refine pz_ 17 39 (bA 29 262143) HT_ ?_
         refine pz_ 18 40 (bA 29 524287) HT_ ?_
         refine pz_ 19 41 (bA 29 1048575) HT_ ?_
         refine pz_ 20 42 (bA 29 2097151) HT_ ?_
         refine pz_ 21 43 (bA 29 4194303) HT_ ?_
         refine pz_ 22 44 (bA 29 8388607) HT_ ?_
         refine pz_ 23 45 (bA 29 16777215) HT_ ?_
         refine pz_ 24 46 (bA 29 33554431) HT_ ?_
         refine pz_ 25 47 (bA 29 67108863) HT_ ?_
         refine pz_ 26 48 (bA 29 134217727) HT_ ?_
         refine pz_ 27 49 (bA 29 268435455) HT_ ?_
         refine pu_ 28 50 (bA 29 536870911) HT_ ?_
         refine done_ (done_of HT_.out (by kernel_rfl)) ?_
         try go_wp2
         go_ret
         exact ⟨by first | rfl | (simp [errW_none, errW_some] <;> rfl) | (simp [*, errW_none, errW_some] <;> rfl), by repeat (first | (with_reducible first | exact HB.out | apply below_alloc | apply pw_below_drewN | apply below_drew1) | exact HB.out)⟩
        ·rw [if_neg c8] at H
         have c8b0 : decide (((rd_T34 l1 x5_2).f0) < 0) = false := decide_eq_false c8
         clear c8
         by_cases c10 : ((rd_T34 l1 x5_2).f1) > (a0.size : Int)
         ·rw [if_pos c10] at H
          have c10b0 : decide ((a0.size : Int) < ((rd_T34 l1 x5_2).f1)) = true := decide_eq_true c10
          clear c10
          obtain rfl := Option.some.inj H
          try go_wp2
          have n0_ := Aside0.mk (below_drew1 HB.out)
          clear HB
          have HB := n0_
          clear n0_
          have p134 : 0 ≤ (x5_2 : Int) := of_decide_eq_true (by first | (with_reducible assumption) | assumption)
          have q134 : x5_2 < (l1.length : Int) := of_decide_eq_true (by first | (with_reducible assumption) | assumption)
          obtain ⟨ad134, e134, hx134_0, hx134_1, hx134_2⟩ := at_T34 HR1.out x5_2 p134 q134
          have hw134_2 := hx134_2
          have hw134_1 := hx134_1
          have hw134_0 := hx134_0
          cases e134
          replace hx134_0 := (HB.out.cell (World.block_lt_of_cell? w _ hx134_0)).trans hx134_0
          replace hx134_1 := (HB.out.cell (World.block_lt_of_cell? w _ hx134_1)).trans hx134_1
          replace hx134_2 := (HB.out.cell (World.block_lt_of_cell? w _ hx134_2)).trans hx134_2
          replace p134 := eq_true p134
          replace q134 := eq_true q134
          have p135 : 0 ≤ (x5_2 : Int) := of_decide_eq_true (by first | (with_reducible assumption) | assumption)
          have q135 : x5_2 < (l1.length : Int) := of_decide_eq_true (by first | (with_reducible assumption) | assumption)
          obtain ⟨ad135, e135, hx135_0, hx135_1, hx135_2⟩ := at_T34 HR1.out x5_2 p135 q135
          have hw135_2 := hx135_2
          have hw135_1 := hx135_1
          have hw135_0 := hx135_0
          obtain rfl : ad134 = ad135 := (by injection e135)
          replace hx135_0 := (HB.out.cell (World.block_lt_of_cell? w _ hx135_0)).trans hx135_0
          replace hx135_1 := (HB.out.cell (World.block_lt_of_cell? w _ hx135_1)).trans hx135_1
          replace hx135_2 := (HB.out.cell (World.block_lt_of_cell? w _ hx135_2)).trans hx135_2
          replace p135 := eq_true p135
          replace q135 := eq_true q135
          refine start_ (n := 29) (S := fun w' => w'.cell? (ad134.add ((x5_2).toNat * 3)) = some (.int .i64 ((rd_T34 l1 x5_2).f0)) ∧ w'.cell? ⟨(ad134.add ((x5_2).toNat * 3)).block, (ad134.add ((x5_2).toNat * 3)).off + 1, none⟩ = some (.int .i64 ((rd_T34 l1 x5_2).f1)) ∧ w'.cell? ⟨(ad134.add ((x5_2).toNat * 3)).block, (ad134.add ((x5_2).toNat * 3)).off + 2, none⟩ = some (.string ((rd_T34 l1 x5_2).f2)) ∧ w'.cell? (ad134.add ((x5_2).toNat * 3)) = some (.int .i64 ((rd_T34 l1 x5_2).f0)) ∧ w'.cell? ⟨(ad134.add ((x5_2).toNat * 3)).block, (ad134.add ((x5_2).toNat * 3)).off + 1, none⟩ = some (.int .i64 ((rd_T34 l1 x5_2).f1)) ∧ w'.cell? ⟨(ad134.add ((x5_2).toNat * 3)).block, (ad134.add ((x5_2).toNat * 3)).off + 2, none⟩ = some (.string ((rd_T34 l1 x5_2).f2))) (ds := []) (bA 29 0) (by kernel_rfl) rfl rfl ⟨((HB.out.cell (World.block_lt_of_cell? w _ hw134_0)).trans hw134_0), ((HB.out.cell (World.block_lt_of_cell? w _ hw134_1)).trans hw134_1), ((HB.out.cell (World.block_lt_of_cell? w _ hw134_2)).trans hw134_2), ((HB.out.cell (World.block_lt_of_cell? w _ hw135_0)).trans hw135_0), ((HB.out.cell (World.block_lt_of_cell? w _ hw135_1)).trans hw135_1), ((HB.out.cell (World.block_lt_of_cell? w _ hw135_2)).trans hw135_2)⟩ (fun hHeld => ?_); refine with_tabW smockingref01_Fine.tab6 smockingref01_Fine.bits6 (fun HT_ HW_ => ?_)
          generalize wr.drew = w11 at HB hx134_0 hx134_1 hx134_2 hx135_0 hx135_1 hx135_2 hHeld ⊢
          refine pu_ 0 22 (bA 29 1) HT_ ?_
          refine pu_ 1 23 (bA 29 3) HT_ ?_
          refine pu_ 2 24 (bA 29 7) HT_ ?_
          refine pu_ 3 25 (bA 29 15) HT_ ?_
          refine tk_ 4 26 (bA 29 31) rfl HT_ HW_ hHeld (by rintro w' ⟨s0, s1, s2, s3, s4, s5⟩; go_simp; with_reducible rfl) ?_
          refine pu_ 5 27 (bA 29 63) HT_ ?_
          refine pu_ 6 28 (bA 29 127) HT_ ?_
          refine pu_ 7 29 (bA 29 255) HT_ ?_
          refine pu_ 8 30 (bA 29 511) HT_ ?_
          refine pu_ 9 31 (bA 29 1023) HT_ ?_
          refine pu_ 10 32 (bA 29 2047) HT_ ?_
          refine pu_ 12 34 (bA 29 6143) HT_ ?_
          refine pu_ 13 35 (bA 29 14335) HT_ ?_
          refine tk_ 11 33 (bA 29 16383) rfl HT_ HW_ hHeld (by rintro w' ⟨s0, s1, s2, s3, s4, s5⟩; go_simp; with_reducible rfl) ?_
          refine pu_ 14 36 (bA 29 32767) HT_ ?_
          refine pu_ 15 37 (bA 29 65535) HT_ ?_
          refine pu_ 16 38 (bA 29 131071) HT_ ?_
          refine pz_ 17 39 (bA 29 262143) HT_ ?_
          refine pz_ 18 40 (bA 29 524287) HT_ ?_
          refine pz_ 19 41 (bA 29 1048575) HT_ ?_
          refine pz_ 20 42 (bA 29 2097151) HT_ ?_
          refine pz_ 21 43 (bA 29 4194303) HT_ ?_
          refine pz_ 22 44 (bA 29 8388607) HT_ ?_
          refine pz_ 23 45 (bA 29 16777215) HT_ ?_
          refine pz_ 24 46 (bA 29 33554431) HT_ ?_
          refine pz_ 25 47 (bA 29 67108863) HT_ ?_
          refine pz_ 26 48 (bA 29 134217727) HT_ ?_
          refine pz_ 27 49 (bA 29 268435455) HT_ ?_
          refine pu_ 28 50 (bA 29 536870911) HT_ ?_
          refine done_ (done_of HT_.out (by kernel_rfl)) ?_
          try go_wp2
          go_ret
          exact ⟨by first | rfl | (simp [errW_none, errW_some] <;> rfl) | (simp [*, errW_none, errW_some] <;> rfl), by repeat (first | (with_reducible first | exact HB.out | apply below_alloc | apply pw_below_drewN | apply below_drew1) | exact HB.out)⟩
         ·rw [if_neg c10] at H
          have c10b0 : decide ((a0.size : Int) < ((rd_T34 l1 x5_2).f1)) = false := decide_eq_false c10
          clear c10
          by_cases c12 : ((rd_T34 l1 x5_2).f0) > ((rd_T34 l1 x5_2).f1)
          ·rw [if_pos c12] at H
           have c12b0 : decide (((rd_T34 l1 x5_2).f1) < ((rd_T34 l1 x5_2).f0)) = true := decide_eq_true c12
           clear c12
           obtain rfl := Option.some.inj H
           try go_wp2
           have n0_ := Aside0.mk (below_drew1 HB.out)
           clear HB
           have HB := n0_
           clear n0_
           have p134 : 0 ≤ (x5_2 : Int) := of_decide_eq_true (by first | (with_reducible assumption) | assumption)
           have q134 : x5_2 < (l1.length : Int) := of_decide_eq_true (by first | (with_reducible assumption) | assumption)
           obtain ⟨ad134, e134, hx134_0, hx134_1, hx134_2⟩ := at_T34 HR1.out x5_2 p134 q134
           have hw134_2 := hx134_2
           have hw134_1 := hx134_1
           have hw134_0 := hx134_0
           cases e134
           replace hx134_0 := (HB.out.cell (World.block_lt_of_cell? w _ hx134_0)).trans hx134_0
           replace hx134_1 := (HB.out.cell (World.block_lt_of_cell? w _ hx134_1)).trans hx134_1
           replace hx134_2 := (HB.out.cell (World.block_lt_of_cell? w _ hx134_2)).trans hx134_2
           replace p134 := eq_true p134
           replace q134 := eq_true q134
           have p135 : 0 ≤ (x5_2 : Int) := of_decide_eq_true (by first | (with_reducible assumption) | assumption)
           have q135 : x5_2 < (l1.length : Int) := of_decide_eq_true (by first | (with_reducible assumption) | assumption)
           obtain ⟨ad135, e135, hx135_0, hx135_1, hx135_2⟩ := at_T34 HR1.out x5_2 p135 q135
           have hw135_2 := hx135_2
           have hw135_1 := hx135_1
           have hw135_0 := hx135_0
           obtain rfl : ad134 = ad135 := (by injection e135)
           replace hx135_0 := (HB.out.cell (World.block_lt_of_cell? w _ hx135_0)).trans hx135_0
           replace hx135_1 := (HB.out.cell (World.block_lt_of_cell? w _ hx135_1)).trans hx135_1
           replace hx135_2 := (HB.out.cell (World.block_lt_of_cell? w _ hx135_2)).trans hx135_2
           replace p135 := eq_true p135
           replace q135 := eq_true q135
           have p136 : 0 ≤ (x5_2 : Int) := of_decide_eq_true (by first | (with_reducible assumption) | assumption)
           have q136 : x5_2 < (l1.length : Int) := of_decide_eq_true (by first | (with_reducible assumption) | assumption)
           obtain ⟨ad136, e136, hx136_0, hx136_1, hx136_2⟩ := at_T34 HR1.out x5_2 p136 q136
           have hw136_2 := hx136_2
           have hw136_1 := hx136_1
           have hw136_0 := hx136_0
           obtain rfl : ad134 = ad136 := (by injection e136)
           replace hx136_0 := (HB.out.cell (World.block_lt_of_cell? w _ hx136_0)).trans hx136_0
           replace hx136_1 := (HB.out.cell (World.block_lt_of_cell? w _ hx136_1)).trans hx136_1
           replace hx136_2 := (HB.out.cell (World.block_lt_of_cell? w _ hx136_2)).trans hx136_2
           replace p136 := eq_true p136
           replace q136 := eq_true q136
           have p137 : 0 ≤ (x5_2 : Int) := of_decide_eq_true (by first | (with_reducible assumption) | assumption)
           have q137 : x5_2 < (l1.length : Int) := of_decide_eq_true (by first | (with_reducible assumption) | assumption)
           obtain ⟨ad137, e137, hx137_0, hx137_1, hx137_2⟩ := at_T34 HR1.out x5_2 p137 q137
           have hw137_2 := hx137_2
           have hw137_1 := hx137_1
           have hw137_0 := hx137_0
           obtain rfl : ad134 = ad137 := (by injection e137)
           replace hx137_0 := (HB.out.cell (World.block_lt_of_cell? w _ hx137_0)).trans hx137_0
           replace hx137_1 := (HB.out.cell (World.block_lt_of_cell? w _ hx137_1)).trans hx137_1
           replace hx137_2 := (HB.out.cell (World.block_lt_of_cell? w _ hx137_2)).trans hx137_2
           replace p137 := eq_true p137
           replace q137 := eq_true q137
           refine start_ (n := 29) (S := fun w' => w'.cell? (ad134.add ((x5_2).toNat * 3)) = some (.int .i64 ((rd_T34 l1 x5_2).f0)) ∧ w'.cell? ⟨(ad134.add ((x5_2).toNat * 3)).block, (ad134.add ((x5_2).toNat * 3)).off + 1, none⟩ = some (.int .i64 ((rd_T34 l1 x5_2).f1)) ∧ w'.cell? ⟨(ad134.add ((x5_2).toNat * 3)).block, (ad134.add ((x5_2).toNat * 3)).off + 2, none⟩ = some (.string ((rd_T34 l1 x5_2).f2)) ∧ w'.cell? (ad134.add ((x5_2).toNat * 3)) = some (.int .i64 ((rd_T34 l1 x5_2).f0)) ∧ w'.cell? ⟨(ad134.add ((x5_2).toNat * 3)).block, (ad134.add ((x5_2).toNat * 3)).off + 1, none⟩ = some (.int .i64 ((rd_T34 l1 x5_2).f1)) ∧ w'.cell? ⟨(ad134.add ((x5_2).toNat * 3)).block, (ad134.add ((x5_2).toNat * 3)).off + 2, none⟩ = some (.string ((rd_T34 l1 x5_2).f2)) ∧ w'.cell? (ad134.add ((x5_2).toNat * 3)) = some (.int .i64 ((rd_T34 l1 x5_2).f0)) ∧ w'.cell? ⟨(ad134.add ((x5_2).toNat * 3)).block, (ad134.add ((x5_2).toNat * 3)).off + 1, none⟩ = some (.int .i64 ((rd_T34 l1 x5_2).f1)) ∧ w'.cell? ⟨(ad134.add ((x5_2).toNat * 3)).block, (ad134.add ((x5_2).toNat * 3)).off + 2, none⟩ = some (.string ((rd_T34 l1 x5_2).f2)) ∧ w'.cell? (ad134.add ((x5_2).toNat * 3)) = some (.int .i64 ((rd_T34 l1 x5_2).f0)) ∧ w'.cell? ⟨(ad134.add ((x5_2).toNat * 3)).block, (ad134.add ((x5_2).toNat * 3)).off + 1, none⟩ = some (.int .i64 ((rd_T34 l1 x5_2).f1)) ∧ w'.cell? ⟨(ad134.add ((x5_2).toNat * 3)).block, (ad134.add ((x5_2).toNat * 3)).off + 2, none⟩ = some (.string ((rd_T34 l1 x5_2).f2))) (ds := []) (bA 29 0) (by kernel_rfl) rfl rfl ⟨((HB.out.cell (World.block_lt_of_cell? w _ hw134_0)).trans hw134_0), ((HB.out.cell (World.block_lt_of_cell? w _ hw134_1)).trans hw134_1), ((HB.out.cell (World.block_lt_of_cell? w _ hw134_2)).trans hw134_2), ((HB.out.cell (World.block_lt_of_cell? w _ hw135_0)).trans hw135_0), ((HB.out.cell (World.block_lt_of_cell? w _ hw135_1)).trans hw135_1), ((HB.out.cell (World.block_lt_of_cell? w _ hw135_2)).trans hw135_2), ((HB.out.cell (World.block_lt_of_cell? w _ hw136_0)).trans hw136_0), ((HB.out.cell (World.block_lt_of_cell? w _ hw136_1)).trans hw136_1), ((HB.out.cell (World.block_lt_of_cell? w _ hw136_2)).trans hw136_2), ((HB.out.cell (World.block_lt_of_cell? w _ hw137_0)).trans hw137_0), ((HB.out.cell (World.block_lt_of_cell? w _ hw137_1)).trans hw137_1), ((HB.out.cell (World.block_lt_of_cell? w _ hw137_2)).trans hw137_2)⟩ (fun hHeld => ?_); refine with_tabW smockingref01_Fine.tab6 smockingref01_Fine.bits6 (fun HT_ HW_ => ?_)
           generalize wr.drew = w13 at HB hx134_0 hx134_1 hx134_2 hx135_0 hx135_1 hx135_2 hx136_0 hx136_1 hx136_2 hx137_0 hx137_1 hx137_2 hHeld ⊢
           refine pu_ 0 22 (bA 29 1) HT_ ?_
           refine pu_ 1 23 (bA 29 3) HT_ ?_
           refine pu_ 2 24 (bA 29 7) HT_ ?_
           refine pu_ 3 25 (bA 29 15) HT_ ?_
           refine tk_ 4 26 (bA 29 31) rfl HT_ HW_ hHeld (by rintro w' ⟨s0, s1, s2, s3, s4, s5, s6, s7, s8, s9, s10, s11⟩; go_simp; with_reducible rfl) ?_
           refine pu_ 5 27 (bA 29 63) HT_ ?_
           refine pu_ 6 28 (bA 29 127) HT_ ?_
           refine pu_ 7 29 (bA 29 255) HT_ ?_
           refine pu_ 8 30 (bA 29 511) HT_ ?_
           refine pu_ 9 31 (bA 29 1023) HT_ ?_
           refine pu_ 10 32 (bA 29 2047) HT_ ?_
           refine pu_ 12 34 (bA 29 6143) HT_ ?_
           refine pu_ 13 35 (bA 29 14335) HT_ ?_
           refine tk_ 11 33 (bA 29 16383) rfl HT_ HW_ hHeld (by rintro w' ⟨s0, s1, s2, s3, s4, s5, s6, s7, s8, s9, s10, s11⟩; go_simp; with_reducible rfl) ?_
           refine pu_ 14 36 (bA 29 32767) HT_ ?_
           refine pu_ 15 37 (bA 29 65535) HT_ ?_
           refine pu_ 16 38 (bA 29 131071) HT_ ?_
           refine pu_ 17 39 (bA 29 262143) HT_ ?_
           refine pu_ 18 40 (bA 29 524287) HT_ ?_
           refine pu_ 19 41 (bA 29 1048575) HT_ ?_
           refine pu_ 20 42 (bA 29 2097151) HT_ ?_
           refine pu_ 22 44 (bA 29 6291455) HT_ ?_
           refine pu_ 23 45 (bA 29 14680063) HT_ ?_
           refine pu_ 24 46 (bA 29 31457279) HT_ ?_
           refine pu_ 25 47 (bA 29 65011711) HT_ ?_
           refine tk_ 21 43 (bA 29 67108863) rfl HT_ HW_ hHeld (by rintro w' ⟨s0, s1, s2, s3, s4, s5, s6, s7, s8, s9, s10, s11⟩; go_simp; with_reducible rfl) ?_
           refine tk_ 26 48 (bA 29 134217727) rfl HT_ HW_ hHeld (by rintro w' ⟨s0, s1, s2, s3, s4, s5, s6, s7, s8, s9, s10, s11⟩; go_simp; with_reducible rfl) ?_
           refine pu_ 27 49 (bA 29 268435455) HT_ ?_
           refine pu_ 28 50 (bA 29 536870911) HT_ ?_
           refine done_ (done_of HT_.out (by kernel_rfl)) ?_
           try go_wp2
           go_ret
           exact ⟨by first | rfl | (simp [errW_none, errW_some] <;> rfl) | (simp [*, errW_none, errW_some] <;> rfl), by repeat (first | (with_reducible first | exact HB.out | apply below_alloc | apply pw_below_drewN | apply below_drew1) | exact HB.out)⟩
          ·rw [if_neg c12] at H
           have c12b0 : decide (((rd_T34 l1 x5_2).f1) < ((rd_T34 l1 x5_2).f0)) = false := decide_eq_false c12
           clear c12
           have H' := Aside0.mk H
           clear H
           try go_wp2
           have n0_ := Aside0.mk (below_drew1 HB.out)
           clear HB
           have HB := n0_
           clear n0_
           have p134 : 0 ≤ (x5_2 : Int) := of_decide_eq_true (by first | (with_reducible assumption) | assumption)
           have q134 : x5_2 < (l1.length : Int) := of_decide_eq_true (by first | (with_reducible assumption) | assumption)
           obtain ⟨ad134, e134, hx134_0, hx134_1, hx134_2⟩ := at_T34 HR1.out x5_2 p134 q134
           have hw134_2 := hx134_2
           have hw134_1 := hx134_1
           have hw134_0 := hx134_0
           cases e134
           replace hx134_0 := (HB.out.cell (World.block_lt_of_cell? w _ hx134_0)).trans hx134_0
           replace hx134_1 := (HB.out.cell (World.block_lt_of_cell? w _ hx134_1)).trans hx134_1
           replace hx134_2 := (HB.out.cell (World.block_lt_of_cell? w _ hx134_2)).trans hx134_2
           replace p134 := eq_true p134
           replace q134 := eq_true q134
           have p135 : 0 ≤ (x5_2 : Int) := of_decide_eq_true (by first | (with_reducible assumption) | assumption)
           have q135 : x5_2 < (l1.length : Int) := of_decide_eq_true (by first | (with_reducible assumption) | assumption)
           obtain ⟨ad135, e135, hx135_0, hx135_1, hx135_2⟩ := at_T34 HR1.out x5_2 p135 q135
           have hw135_2 := hx135_2
           have hw135_1 := hx135_1
           have hw135_0 := hx135_0
           obtain rfl : ad134 = ad135 := (by injection e135)
           replace hx135_0 := (HB.out.cell (World.block_lt_of_cell? w _ hx135_0)).trans hx135_0
           replace hx135_1 := (HB.out.cell (World.block_lt_of_cell? w _ hx135_1)).trans hx135_1
           replace hx135_2 := (HB.out.cell (World.block_lt_of_cell? w _ hx135_2)).trans hx135_2
           replace p135 := eq_true p135
           replace q135 := eq_true q135
           have p136 : 0 ≤ (x5_2 : Int) := of_decide_eq_true (by first | (with_reducible assumption) | assumption)
           have q136 : x5_2 < (l1.length : Int) := of_decide_eq_true (by first | (with_reducible assumption) | assumption)
           obtain ⟨ad136, e136, hx136_0, hx136_1, hx136_2⟩ := at_T34 HR1.out x5_2 p136 q136
           have hw136_2 := hx136_2
           have hw136_1 := hx136_1
           have hw136_0 := hx136_0
           obtain rfl : ad134 = ad136 := (by injection e136)
           replace hx136_0 := (HB.out.cell (World.block_lt_of_cell? w _ hx136_0)).trans hx136_0
           replace hx136_1 := (HB.out.cell (World.block_lt_of_cell? w _ hx136_1)).trans hx136_1
           replace hx136_2 := (HB.out.cell (World.block_lt_of_cell? w _ hx136_2)).trans hx136_2
           replace p136 := eq_true p136
           replace q136 := eq_true q136
           have p137 : 0 ≤ (x5_2 : Int) := of_decide_eq_true (by first | (with_reducible assumption) | assumption)
           have q137 : x5_2 < (l1.length : Int) := of_decide_eq_true (by first | (with_reducible assumption) | assumption)
           obtain ⟨ad137, e137, hx137_0, hx137_1, hx137_2⟩ := at_T34 HR1.out x5_2 p137 q137
           have hw137_2 := hx137_2
           have hw137_1 := hx137_1
           have hw137_0 := hx137_0
           obtain rfl : ad134 = ad137 := (by injection e137)
           replace hx137_0 := (HB.out.cell (World.block_lt_of_cell? w _ hx137_0)).trans hx137_0
           replace hx137_1 := (HB.out.cell (World.block_lt_of_cell? w _ hx137_1)).trans hx137_1
           replace hx137_2 := (HB.out.cell (World.block_lt_of_cell? w _ hx137_2)).trans hx137_2
           replace p137 := eq_true p137
           replace q137 := eq_true q137
           refine start_ (n := 29) (S := fun w' => w'.cell? (ad134.add ((x5_2).toNat * 3)) = some (.int .i64 ((rd_T34 l1 x5_2).f0)) ∧ w'.cell? ⟨(ad134.add ((x5_2).toNat * 3)).block, (ad134.add ((x5_2).toNat * 3)).off + 1, none⟩ = some (.int .i64 ((rd_T34 l1 x5_2).f1)) ∧ w'.cell? ⟨(ad134.add ((x5_2).toNat * 3)).block, (ad134.add ((x5_2).toNat * 3)).off + 2, none⟩ = some (.string ((rd_T34 l1 x5_2).f2)) ∧ w'.cell? (ad134.add ((x5_2).toNat * 3)) = some (.int .i64 ((rd_T34 l1 x5_2).f0)) ∧ w'.cell? ⟨(ad134.add ((x5_2).toNat * 3)).block, (ad134.add ((x5_2).toNat * 3)).off + 1, none⟩ = some (.int .i64 ((rd_T34 l1 x5_2).f1)) ∧ w'.cell? ⟨(ad134.add ((x5_2).toNat * 3)).block, (ad134.add ((x5_2).toNat * 3)).off + 2, none⟩ = some (.string ((rd_T34 l1 x5_2).f2)) ∧ w'.cell? (ad134.add ((x5_2).toNat * 3)) = some (.int .i64 ((rd_T34 l1 x5_2).f0)) ∧ w'.cell? ⟨(ad134.add ((x5_2).toNat * 3)).block, (ad134.add ((x5_2).toNat * 3)).off + 1, none⟩ = some (.int .i64 ((rd_T34 l1 x5_2).f1)) ∧ w'.cell? ⟨(ad134.add ((x5_2).toNat * 3)).block, (ad134.add ((x5_2).toNat * 3)).off + 2, none⟩ = some (.string ((rd_T34 l1 x5_2).f2)) ∧ w'.cell? (ad134.add ((x5_2).toNat * 3)) = some (.int .i64 ((rd_T34 l1 x5_2).f0)) ∧ w'.cell? ⟨(ad134.add ((x5_2).toNat * 3)).block, (ad134.add ((x5_2).toNat * 3)).off + 1, none⟩ = some (.int .i64 ((rd_T34 l1 x5_2).f1)) ∧ w'.cell? ⟨(ad134.add ((x5_2).toNat * 3)).block, (ad134.add ((x5_2).toNat * 3)).off + 2, none⟩ = some (.string ((rd_T34 l1 x5_2).f2))) (ds := []) (bA 29 0) (by kernel_rfl) rfl rfl ⟨((HB.out.cell (World.block_lt_of_cell? w _ hw134_0)).trans hw134_0), ((HB.out.cell (World.block_lt_of_cell? w _ hw134_1)).trans hw134_1), ((HB.out.cell (World.block_lt_of_cell? w _ hw134_2)).trans hw134_2), ((HB.out.cell (World.block_lt_of_cell? w _ hw135_0)).trans hw135_0), ((HB.out.cell (World.block_lt_of_cell? w _ hw135_1)).trans hw135_1), ((HB.out.cell (World.block_lt_of_cell? w _ hw135_2)).trans hw135_2), ((HB.out.cell (World.block_lt_of_cell? w _ hw136_0)).trans hw136_0), ((HB.out.cell (World.block_lt_of_cell? w _ hw136_1)).trans hw136_1), ((HB.out.cell (World.block_lt_of_cell? w _ hw136_2)).trans hw136_2), ((HB.out.cell (World.block_lt_of_cell? w _ hw137_0)).trans hw137_0), ((HB.out.cell (World.block_lt_of_cell? w _ hw137_1)).trans hw137_1), ((HB.out.cell (World.block_lt_of_cell? w _ hw137_2)).trans hw137_2)⟩ (fun hHeld => ?_); refine with_tabW smockingref01_Fine.tab6 smockingref01_Fine.bits6 (fun HT_ HW_ => ?_)
           generalize wr.drew = w14 at HB hx134_0 hx134_1 hx134_2 hx135_0 hx135_1 hx135_2 hx136_0 hx136_1 hx136_2 hx137_0 hx137_1 hx137_2 hHeld ⊢
           refine pu_ 0 22 (bA 29 1) HT_ ?_
           refine pu_ 1 23 (bA 29 3) HT_ ?_
           refine pu_ 2 24 (bA 29 7) HT_ ?_
           refine pu_ 3 25 (bA 29 15) HT_ ?_
           refine tk_ 4 26 (bA 29 31) rfl HT_ HW_ hHeld (by rintro w' ⟨s0, s1, s2, s3, s4, s5, s6, s7, s8, s9, s10, s11⟩; go_simp; with_reducible rfl) ?_
           refine pu_ 5 27 (bA 29 63) HT_ ?_
           refine pu_ 6 28 (bA 29 127) HT_ ?_
           refine pu_ 7 29 (bA 29 255) HT_ ?_
           refine pu_ 8 30 (bA 29 511) HT_ ?_
           refine pu_ 9 31 (bA 29 1023) HT_ ?_
           refine pu_ 10 32 (bA 29 2047) HT_ ?_
           refine pu_ 12 34 (bA 29 6143) HT_ ?_
           refine pu_ 13 35 (bA 29 14335) HT_ ?_
           refine tk_ 11 33 (bA 29 16383) rfl HT_ HW_ hHeld (by rintro w' ⟨s0, s1, s2, s3, s4, s5, s6, s7, s8, s9, s10, s11⟩; go_simp; with_reducible rfl) ?_
           refine pu_ 14 36 (bA 29 32767) HT_ ?_
           refine pu_ 15 37 (bA 29 65535) HT_ ?_
           refine pu_ 16 38 (bA 29 131071) HT_ ?_
           refine pu_ 17 39 (bA 29 262143) HT_ ?_
           refine pu_ 18 40 (bA 29 524287) HT_ ?_
           refine pu_ 19 41 (bA 29 1048575) HT_ ?_
           refine pu_ 20 42 (bA 29 2097151) HT_ ?_
           refine pu_ 22 44 (bA 29 6291455) HT_ ?_
           refine pu_ 23 45 (bA 29 14680063) HT_ ?_
           refine pu_ 24 46 (bA 29 31457279) HT_ ?_
           refine pu_ 25 47 (bA 29 65011711) HT_ ?_
           refine tk_ 21 43 (bA 29 67108863) rfl HT_ HW_ hHeld (by rintro w' ⟨s0, s1, s2, s3, s4, s5, s6, s7, s8, s9, s10, s11⟩; go_simp; with_reducible rfl) ?_
           refine tk_ 26 48 (bA 29 134217727) rfl HT_ HW_ hHeld (by rintro w' ⟨s0, s1, s2, s3, s4, s5, s6, s7, s8, s9, s10, s11⟩; go_simp; with_reducible rfl) ?_
           refine pu_ 27 49 (bA 29 268435455) HT_ ?_
           refine pu_ 28 50 (bA 29 536870911) HT_ ?_
           refine done_ (done_of HT_.out (by kernel_rfl)) ?_
           try go_wp2
           go_roundg k2
           case measure => have := HJ2.out; have := HK2.out; omega
           case rel => exact ⟨(wrap64 (x5_2 + 1)), (by first | rfl | (simp; done) | (simp [*]; done)), H', ⟨by have := HJ2.out; have := HK2.out; omega⟩, ⟨by repeat (first | (with_reducible first | exact HB.out | apply below_alloc | apply pw_below_drewN | apply below_drew1) | exact HB.out)⟩⟩
       ·rw [if_neg c7] at H
        exact absurd H (by simp)
      ·rw [if_neg c6] at H
       have c6b0 : decide (x5_2 < (l1.length : Int)) = false := decide_eq_false c6
       clear c6
       have H' := Aside0.mk H
       clear H
       go_wp2
       try simp only [Act.put, List.setIfInBounds_toArray, List.set_cons_succ, List.set_cons_zero]
       go_loopg [6] k2 (fun kq v6 w' => ∃ (x6_3 : Int), v6 = .int .i64 x6_3 ∧ Aside0 (smockingref01_Fine.l1 kq l1 x6_3 = some r) ∧ Aside0 (kq ≤ k2) ∧ Aside0 (Below w.heap.size w w'))
       case atStart => exact ⟨(0), (by first | rfl | (simp; done) | (simp [*]; done)), H', ⟨Nat.le_refl _⟩, ⟨by repeat (first | (with_reducible first | exact HB.out | apply below_alloc | apply pw_below_drewN | apply below_drew1) | exact HB.out)⟩⟩
       case round =>
        clear H'
        try clear c1
        try clear p1
        try clear q1
        try clear hx1
        try clear p2
        try clear c6
        try clear c6b0
        try clear p6
        try clear c7
        try clear c12
        try clear c12b0
        try clear p13
        try clear q13
        try clear hx13
        try clear hx134_0
        try clear hx134_1
        try clear hx134_2
        try clear hx135_0
        try clear hx135_1
        try clear hx135_2
        try clear hx136_0
        try clear hx136_1
        try clear hx136_2
        try clear hx137_0
        try clear hx137_1
        try clear hx137_2
        try clear p134
        try clear p135
        try clear p136
        try clear p137
        try clear q134
        try clear q135
        try clear q136
        try clear q137
        obtain ⟨x6_3, rfl, HA, HK3, HB⟩ := hrel
        cases gk with
        | zero => exact absurd HA.out (by simp [smockingref01_Fine.l1])
        | succ k3 =>
         have H := HA.out
         clear HA
         simp only [smockingref01_Fine.l1] at H
         by_cases c15 : x6_3 < (l1.length : Int)
         ·rw [if_pos c15] at H
          have c15b0 : decide (x6_3 < (l1.length : Int)) = true := decide_eq_true c15
          clear c15
          have H' := Aside0.mk H
          clear H
          go_wp2
          try simp only [Act.put, List.setIfInBounds_toArray, List.set_cons_succ, List.set_cons_zero]
          go_loopg [7] k3 (fun kq v7 w' => ∃ (x7_4 : Int), v7 = .int .i64 x7_4 ∧ Aside0 (smockingref01_Fine.l2 kq l1 x6_3 x7_4 = some r) ∧ Aside0 (kq ≤ k3) ∧ Aside0 (Below w.heap.size w w'))
          case atStart => exact ⟨(0), (by first | rfl | (simp; done) | (simp [*]; done)), H', ⟨Nat.le_refl _⟩, ⟨by repeat (first | (with_reducible first | exact HB.out | apply below_alloc | apply pw_below_drewN | apply below_drew1) | exact HB.out)⟩⟩
          case round =>
           clear H'
           try clear c1
           try clear p1
           try clear q1
           try clear hx1
           try clear p2
           try clear c6
           try clear c6b0
           try clear p6
           try clear c7
           try clear c12
           try clear c12b0
           try clear p13
           try clear q13
           try clear hx13
           try clear c15
           try clear c15b0
           try clear hx134_0
           try clear hx134_1
           try clear hx134_2
           try clear hx135_0
           try clear hx135_1
           try clear hx135_2
           try clear hx136_0
           try clear hx136_1
           try clear hx136_2
           try clear hx137_0
           try clear hx137_1
           try clear hx137_2
           try clear p1
           try clear p13
           try clear p134
           try clear p135
           try clear p136
           try clear p137
           try clear p2
           try clear p6
           try clear q1
           try clear q13
           try clear q134
           try clear q135
           try clear q136
           try clear q137
           obtain ⟨x7_4, rfl, HA, HK4, HB⟩ := hrel
           cases gk with
           | zero => exact absurd HA.out (by simp [smockingref01_Fine.l2])
           | succ k4 =>
            have H := HA.out
            clear HA
            simp only [smockingref01_Fine.l2] at H
            by_cases c16 : x7_4 < x6_3
            ·rw [if_pos c16] at H
             have c16b0 : decide (x7_4 < x6_3) = true := decide_eq_true c16
             clear c16
             by_cases c17 : 0 ≤ x6_3
             ·rw [if_pos c17] at H
              have c17b0 : decide (0 ≤ x6_3) = true := decide_eq_true c17
              clear c17
              by_cases c18 : x6_3 < (l1.length : Int)
              ·rw [if_pos c18] at H
               have c18b0 : decide (x6_3 < (l1.length : Int)) = true := decide_eq_true c18
               clear c18
               by_cases c19 : 0 ≤ x7_4
               ·rw [if_pos c19] at H
                have c19b0 : decide (0 ≤ x7_4) = true := decide_eq_true c19
                clear c19
                by_cases c20 : x7_4 < (l1.length : Int)
                ·rw [if_pos c20] at H
                 have c20b0 : decide (x7_4 < (l1.length : Int)) = true := decide_eq_true c20
                 clear c20
                 by_cases c21 : (!(((rd_T34 l1 x6_3).f0) == ((rd_T34 l1 x7_4).f0)) || (!(((rd_T34 l1 x6_3).f1) == ((rd_T34 l1 x7_4).f1)) || (!((((rd_T34 l1 x6_3).f2).toList) == (((rd_T34 l1 x7_4).f2).toList))))) = true
                 ·rw [if_pos c21] at H
                  have c21b0 : (!(((rd_T34 l1 x6_3).f0) == ((rd_T34 l1 x7_4).f0)) || (!(((rd_T34 l1 x6_3).f1) == ((rd_T34 l1 x7_4).f1)) || (!((((rd_T34 l1 x6_3).f2).toList) == (((rd_T34 l1 x7_4).f2).toList))))) = true := c21
                  clear c21
                  replace H := Option.bind_eq_some_iff.mp H
                  obtain ⟨t142, A220, H⟩ := H
                  replace H : (if t142 = true then (some 10) else (smockingref01_Fine.l2 k4 l1 x6_3 (wrap64 (x7_4 + 1)))) = some r := H
                  have A22 := Aside0.mk A220
                  clear A220
                  by_cases c23 : t142 = true
                  ·subst c23
                   have H1 : (some 10) = some r := by rw [if_pos rfl] at H; exact H
                   clear H
                   have H := H1
                   clear H1
                   obtain rfl := Option.some.inj H
                   try go_wp2
                   have n0_ := Aside0.mk (below_drew1 HB.out)
                   clear HB
                   have HB := n0_
                   clear n0_
                   have p138 : 0 ≤ (x6_3 : Int) := of_decide_eq_true (by first | (with_reducible assumption) | assumption)
                   have q138 : x6_3 < (l1.length : Int) := of_decide_eq_true (by first | (with_reducible assumption) | assumption)
                   obtain ⟨ad138, e138, hx138_0, hx138_1, hx138_2⟩ := at_T34 HR1.out x6_3 p138 q138
                   have hw138_2 := hx138_2
                   have hw138_1 := hx138_1
                   have hw138_0 := hx138_0
                   cases e138
                   replace hx138_0 := (HB.out.cell (World.block_lt_of_cell? w _ hx138_0)).trans hx138_0
                   replace hx138_1 := (HB.out.cell (World.block_lt_of_cell? w _ hx138_1)).trans hx138_1
                   replace hx138_2 := (HB.out.cell (World.block_lt_of_cell? w _ hx138_2)).trans hx138_2
                   replace p138 := eq_true p138
                   replace q138 := eq_true q138
                   have p139 : 0 ≤ (x7_4 : Int) := of_decide_eq_true (by first | (with_reducible assumption) | assumption)
                   have q139 : x7_4 < (l1.length : Int) := of_decide_eq_true (by first | (with_reducible assumption) | assumption)
                   obtain ⟨ad139, e139, hx139_0, hx139_1, hx139_2⟩ := at_T34 HR1.out x7_4 p139 q139
                   have hw139_2 := hx139_2
                   have hw139_1 := hx139_1
                   have hw139_0 := hx139_0
                   obtain rfl : ad138 = ad139 := (by injection e139)
                   replace hx139_0 := (HB.out.cell (World.block_lt_of_cell? w _ hx139_0)).trans hx139_0
                   replace hx139_1 := (HB.out.cell (World.block_lt_of_cell? w _ hx139_1)).trans hx139_1
                   replace hx139_2 := (HB.out.cell (World.block_lt_of_cell? w _ hx139_2)).trans hx139_2
                   replace p139 := eq_true p139
                   replace q139 := eq_true q139
                   have p140 : 0 ≤ (x6_3 : Int) := of_decide_eq_true (by first | (with_reducible assumption) | assumption)
                   have q140 : x6_3 < (l1.length : Int) := of_decide_eq_true (by first | (with_reducible assumption) | assumption)
                   obtain ⟨ad140, e140, hx140_0, hx140_1, hx140_2⟩ := at_T34 HR1.out x6_3 p140 q140
                   have hw140_2 := hx140_2
                   have hw140_1 := hx140_1
                   have hw140_0 := hx140_0
                   obtain rfl : ad138 = ad140 := (by injection e140)
                   replace hx140_0 := (HB.out.cell (World.block_lt_of_cell? w _ hx140_0)).trans hx140_0
                   replace hx140_1 := (HB.out.cell (World.block_lt_of_cell? w _ hx140_1)).trans hx140_1
                   replace hx140_2 := (HB.out.cell (World.block_lt_of_cell? w _ hx140_2)).trans hx140_2
                   replace p140 := eq_true p140
                   replace q140 := eq_true q140
                   have p141 : 0 ≤ (x7_4 : Int) := of_decide_eq_true (by first | (with_reducible assumption) | assumption)
                   have q141 : x7_4 < (l1.length : Int) := of_decide_eq_true (by first | (with_reducible assumption) | assumption)
                   obtain ⟨ad141, e141, hx141_0, hx141_1, hx141_2⟩ := at_T34 HR1.out x7_4 p141 q141
                   have hw141_2 := hx141_2
                   have hw141_1 := hx141_1
                   have hw141_0 := hx141_0
                   obtain rfl : ad138 = ad141 := (by injection e141)
                   replace hx141_0 := (HB.out.cell (World.block_lt_of_cell? w _ hx141_0)).trans hx141_0
                   replace hx141_1 := (HB.out.cell (World.block_lt_of_cell? w _ hx141_1)).trans hx141_1
                   replace hx141_2 := (HB.out.cell (World.block_lt_of_cell? w _ hx141_2)).trans hx141_2
                   replace p141 := eq_true p141
                   replace q141 := eq_true q141
                   refine start_ (n := 20) (S := fun w' => w'.cell? (ad138.add ((x6_3).toNat * 3)) = some (.int .i64 ((rd_T34 l1 x6_3).f0)) ∧ w'.cell? ⟨(ad138.add ((x6_3).toNat * 3)).block, (ad138.add ((x6_3).toNat * 3)).off + 1, none⟩ = some (.int .i64 ((rd_T34 l1 x6_3).f1)) ∧ w'.cell? ⟨(ad138.add ((x6_3).toNat * 3)).block, (ad138.add ((x6_3).toNat * 3)).off + 2, none⟩ = some (.string ((rd_T34 l1 x6_3).f2)) ∧ w'.cell? (ad138.add ((x7_4).toNat * 3)) = some (.int .i64 ((rd_T34 l1 x7_4).f0)) ∧ w'.cell? ⟨(ad138.add ((x7_4).toNat * 3)).block, (ad138.add ((x7_4).toNat * 3)).off + 1, none⟩ = some (.int .i64 ((rd_T34 l1 x7_4).f1)) ∧ w'.cell? ⟨(ad138.add ((x7_4).toNat * 3)).block, (ad138.add ((x7_4).toNat * 3)).off + 2, none⟩ = some (.string ((rd_T34 l1 x7_4).f2)) ∧ w'.cell? (ad138.add ((x6_3).toNat * 3)) = some (.int .i64 ((rd_T34 l1 x6_3).f0)) ∧ w'.cell? ⟨(ad138.add ((x6_3).toNat * 3)).block, (ad138.add ((x6_3).toNat * 3)).off + 1, none⟩ = some (.int .i64 ((rd_T34 l1 x6_3).f1)) ∧ w'.cell? ⟨(ad138.add ((x6_3).toNat * 3)).block, (ad138.add ((x6_3).toNat * 3)).off + 2, none⟩ = some (.string ((rd_T34 l1 x6_3).f2)) ∧ w'.cell? (ad138.add ((x7_4).toNat * 3)) = some (.int .i64 ((rd_T34 l1 x7_4).f0)) ∧ w'.cell? ⟨(ad138.add ((x7_4).toNat * 3)).block, (ad138.add ((x7_4).toNat * 3)).off + 1, none⟩ = some (.int .i64 ((rd_T34 l1 x7_4).f1)) ∧ w'.cell? ⟨(ad138.add ((x7_4).toNat * 3)).block, (ad138.add ((x7_4).toNat * 3)).off + 2, none⟩ = some (.string ((rd_T34 l1 x7_4).f2))) (ds := []) (bA 20 0) (by kernel_rfl) rfl rfl ⟨((HB.out.cell (World.block_lt_of_cell? w _ hw138_0)).trans hw138_0), ((HB.out.cell (World.block_lt_of_cell? w _ hw138_1)).trans hw138_1), ((HB.out.cell (World.block_lt_of_cell? w _ hw138_2)).trans hw138_2), ((HB.out.cell (World.block_lt_of_cell? w _ hw139_0)).trans hw139_0), ((HB.out.cell (World.block_lt_of_cell? w _ hw139_1)).trans hw139_1), ((HB.out.cell (World.block_lt_of_cell? w _ hw139_2)).trans hw139_2), ((HB.out.cell (World.block_lt_of_cell? w _ hw140_0)).trans hw140_0), ((HB.out.cell (World.block_lt_of_cell? w _ hw140_1)).trans hw140_1), ((HB.out.cell (World.block_lt_of_cell? w _ hw140_2)).trans hw140_2), ((HB.out.cell (World.block_lt_of_cell? w _ hw141_0)).trans hw141_0), ((HB.out.cell (World.block_lt_of_cell? w _ hw141_1)).trans hw141_1), ((HB.out.cell (World.block_lt_of_cell? w _ hw141_2)).trans hw141_2)⟩ (fun hHeld => ?_); refine with_tabW smockingref01_Fine.tab14 smockingref01_Fine.bits14 (fun HT_ HW_ => ?_)
                   generalize wr.drew = w24 at HB hx138_0 hx138_1 hx138_2 hx139_0 hx139_1 hx139_2 hx140_0 hx140_1 hx140_2 hx141_0 hx141_1 hx141_2 hHeld ⊢
                   refine pu_ 0 62 (bA 20 1) HT_ ?_
                   refine pu_ 1 63 (bA 20 3) HT_ ?_
                   refine pu_ 2 64 (bA 20 7) HT_ ?_
                   refine pu_ 4 66 (bA 20 23) HT_ ?_
                   refine pu_ 5 67 (bA 20 55) HT_ ?_
                   refine pu_ 6 68 (bA 20 119) HT_ ?_
                   refine tk_ 3 65 (bA 20 127) rfl HT_ HW_ hHeld (by rintro w' ⟨s0, s1, s2, s3, s4, s5, s6, s7, s8, s9, s10, s11⟩; go_simp; with_reducible rfl) ?_
                   refine tk_ 7 69 (bA 20 255) rfl HT_ HW_ hHeld (by rintro w' ⟨s0, s1, s2, s3, s4, s5, s6, s7, s8, s9, s10, s11⟩; go_simp; with_reducible rfl) ?_
                   refine pu_ 8 70 (bA 20 511) HT_ ?_
                   refine pu_ 9 71 (bA 20 1023) HT_ ?_
                   refine pu_ 10 72 (bA 20 2047) HT_ ?_
                   refine pu_ 11 73 (bA 20 4095) HT_ ?_
                   refine pu_ 12 74 (bA 20 8191) HT_ ?_
                   refine pu_ 14 76 (bA 20 24575) HT_ ?_
                   refine pu_ 15 77 (bA 20 57343) HT_ ?_
                   refine pu_ 16 78 (bA 20 122879) HT_ ?_
                   refine tk_ 13 75 (bA 20 131071) rfl HT_ HW_ hHeld (by rintro w' ⟨s0, s1, s2, s3, s4, s5, s6, s7, s8, s9, s10, s11⟩; go_simp; with_reducible rfl) ?_
                   refine tk_ 17 79 (bA 20 262143) rfl HT_ HW_ hHeld (by rintro w' ⟨s0, s1, s2, s3, s4, s5, s6, s7, s8, s9, s10, s11⟩; go_simp; with_reducible rfl) ?_
                   refine one_ (i := 18) (N := some 80) (bA 20 524287) rfl rfl (one_of HT_.out (by kernel_rfl)) (by decide) (fun K hK => ?_)
                   refine goes_ Tryd.func40 (by kernel_rfl) rfl #[.agg #[.int .i64 ((rd_T34 l1 x6_3).f0), .int .i64 ((rd_T34 l1 x6_3).f1), .string ((rd_T34 l1 x6_3).f2)], .agg #[.int .i64 ((rd_T34 l1 x7_4).f0), .int .i64 ((rd_T34 l1 x7_4).f1), .string ((rd_T34 l1 x7_4).f2)]] (by rfl) rfl rfl (by (try simp only [List.map_toArray, List.map_cons, List.map_nil]); first | done | rfl | (simp only [List.length_drop, List.length_take]; rfl)) ?_
                   with_reducible refine (smockingref01_touch.calls k4 ((rd_T34 l1 x6_3).f0) ((rd_T34 l1 x6_3).f1) ((rd_T34 l1 x6_3).f2) ((rd_T34 l1 x7_4).f0) ((rd_T34 l1 x7_4).f1) ((rd_T34 l1 x7_4).f2) true _ A22.out).mono ?_
                   rintro e w25 ⟨rfl, hb⟩
                   refine ⟨_, rfl, ?_⟩
                   have n0_ := Aside0.mk (below_step (by repeat (first | (with_reducible first | exact HB.out | apply below_alloc | apply pw_below_drewN | apply below_drew1) | exact HB.out)) hb)
                   clear HB
                   have HB := n0_
                   clear n0_
                   (try clear hb)
                   (try clear hb2)
                   (try clear hk)
                   (try clear hi)
                   refine hK.out _ _ ⟨((HB.out.cell (World.block_lt_of_cell? w _ hw138_0)).trans hw138_0), ((HB.out.cell (World.block_lt_of_cell? w _ hw138_1)).trans hw138_1), ((HB.out.cell (World.block_lt_of_cell? w _ hw138_2)).trans hw138_2), ((HB.out.cell (World.block_lt_of_cell? w _ hw139_0)).trans hw139_0), ((HB.out.cell (World.block_lt_of_cell? w _ hw139_1)).trans hw139_1), ((HB.out.cell (World.block_lt_of_cell? w _ hw139_2)).trans hw139_2), ((HB.out.cell (World.block_lt_of_cell? w _ hw140_0)).trans hw140_0), ((HB.out.cell (World.block_lt_of_cell? w _ hw140_1)).trans hw140_1), ((HB.out.cell (World.block_lt_of_cell? w _ hw140_2)).trans hw140_2), ((HB.out.cell (World.block_lt_of_cell? w _ hw141_0)).trans hw141_0), ((HB.out.cell (World.block_lt_of_cell? w _ hw141_1)).trans hw141_1), ((HB.out.cell (World.block_lt_of_cell? w _ hw141_2)).trans hw141_2)⟩ (fun hHeld => ?_)
                   clear hK K
                   refine norm_ (a' := ?_) ?_ ?_
                   rotate_left
                   ·show Act.put _ (some 80) _ = _
                    simp only [Act.put, q1_, q2_, q3_, i64_w, i32_w]
                    rfl
                   refine pu_ 19 81 (bA 20 1048575) HT_ ?_
                   refine done_ (done_of HT_.out (by kernel_rfl)) ?_
                   try go_wp2
                   go_ret
                   exact ⟨by first | rfl | (simp [errW_none, errW_some] <;> rfl) | (simp [*, errW_none, errW_some] <;> rfl), by repeat (first | (with_reducible first | exact HB.out | apply below_alloc | apply pw_below_drewN | apply below_drew1) | exact HB.out)⟩
                  ·replace c23 := Bool.eq_false_iff.mpr c23
                   subst c23
                   have H1 : (smockingref01_Fine.l2 k4 l1 x6_3 (wrap64 (x7_4 + 1))) = some r := by rw [if_neg (show ¬ (false = true) by decide)] at H; exact H
                   clear H
                   have H := H1
                   clear H1
                   have H' := Aside0.mk H
                   clear H
                   try go_wp2
                   have n0_ := Aside0.mk (below_drew1 HB.out)
                   clear HB
                   have HB := n0_
                   clear n0_
                   have p138 : 0 ≤ (x6_3 : Int) := of_decide_eq_true (by first | (with_reducible assumption) | assumption)
                   have q138 : x6_3 < (l1.length : Int) := of_decide_eq_true (by first | (with_reducible assumption) | assumption)
                   obtain ⟨ad138, e138, hx138_0, hx138_1, hx138_2⟩ := at_T34 HR1.out x6_3 p138 q138
                   have hw138_2 := hx138_2
                   have hw138_1 := hx138_1
                   have hw138_0 := hx138_0
                   cases e138
                   replace hx138_0 := (HB.out.cell (World.block_lt_of_cell? w _ hx138_0)).trans hx138_0
                   replace hx138_1 := (HB.out.cell (World.block_lt_of_cell? w _ hx138_1)).trans hx138_1
                   replace hx138_2 := (HB.out.cell (World.block_lt_of_cell? w _ hx138_2)).trans hx138_2
                   replace p138 := eq_true p138
                   replace q138 := eq_true q138
                   have p139 : 0 ≤ (x7_4 : Int) := of_decide_eq_true (by first | (with_reducible assumption) | assumption)
                   have q139 : x7_4 < (l1.length : Int) := of_decide_eq_true (by first | (with_reducible assumption) | assumption)
                   obtain ⟨ad139, e139, hx139_0, hx139_1, hx139_2⟩ := at_T34 HR1.out x7_4 p139 q139
                   have hw139_2 := hx139_2
                   have hw139_1 := hx139_1
                   have hw139_0 := hx139_0
                   obtain rfl : ad138 = ad139 := (by injection e139)
                   replace hx139_0 := (HB.out.cell (World.block_lt_of_cell? w _ hx139_0)).trans hx139_0
                   replace hx139_1 := (HB.out.cell (World.block_lt_of_cell? w _ hx139_1)).trans hx139_1
                   replace hx139_2 := (HB.out.cell (World.block_lt_of_cell? w _ hx139_2)).trans hx139_2
                   replace p139 := eq_true p139
                   replace q139 := eq_true q139
                   have p140 : 0 ≤ (x6_3 : Int) := of_decide_eq_true (by first | (with_reducible assumption) | assumption)
                   have q140 : x6_3 < (l1.length : Int) := of_decide_eq_true (by first | (with_reducible assumption) | assumption)
                   obtain ⟨ad140, e140, hx140_0, hx140_1, hx140_2⟩ := at_T34 HR1.out x6_3 p140 q140
                   have hw140_2 := hx140_2
                   have hw140_1 := hx140_1
                   have hw140_0 := hx140_0
                   obtain rfl : ad138 = ad140 := (by injection e140)
                   replace hx140_0 := (HB.out.cell (World.block_lt_of_cell? w _ hx140_0)).trans hx140_0
                   replace hx140_1 := (HB.out.cell (World.block_lt_of_cell? w _ hx140_1)).trans hx140_1
                   replace hx140_2 := (HB.out.cell (World.block_lt_of_cell? w _ hx140_2)).trans hx140_2
                   replace p140 := eq_true p140
                   replace q140 := eq_true q140
                   have p141 : 0 ≤ (x7_4 : Int) := of_decide_eq_true (by first | (with_reducible assumption) | assumption)
                   have q141 : x7_4 < (l1.length : Int) := of_decide_eq_true (by first | (with_reducible assumption) | assumption)
                   obtain ⟨ad141, e141, hx141_0, hx141_1, hx141_2⟩ := at_T34 HR1.out x7_4 p141 q141
                   have hw141_2 := hx141_2
                   have hw141_1 := hx141_1
                   have hw141_0 := hx141_0
                   obtain rfl : ad138 = ad141 := (by injection e141)
                   replace hx141_0 := (HB.out.cell (World.block_lt_of_cell? w _ hx141_0)).trans hx141_0
                   replace hx141_1 := (HB.out.cell (World.block_lt_of_cell? w _ hx141_1)).trans hx141_1
                   replace hx141_2 := (HB.out.cell (World.block_lt_of_cell? w _ hx141_2)).trans hx141_2
                   replace p141 := eq_true p141
                   replace q141 := eq_true q141
                   refine start_ (n := 20) (S := fun w' => w'.cell? (ad138.add ((x6_3).toNat * 3)) = some (.int .i64 ((rd_T34 l1 x6_3).f0)) ∧ w'.cell? ⟨(ad138.add ((x6_3).toNat * 3)).block, (ad138.add ((x6_3).toNat * 3)).off + 1, none⟩ = some (.int .i64 ((rd_T34 l1 x6_3).f1)) ∧ w'.cell? ⟨(ad138.add ((x6_3).toNat * 3)).block, (ad138.add ((x6_3).toNat * 3)).off + 2, none⟩ = some (.string ((rd_T34 l1 x6_3).f2)) ∧ w'.cell? (ad138.add ((x7_4).toNat * 3)) = some (.int .i64 ((rd_T34 l1 x7_4).f0)) ∧ w'.cell? ⟨(ad138.add ((x7_4).toNat * 3)).block, (ad138.add ((x7_4).toNat * 3)).off + 1, none⟩ = some (.int .i64 ((rd_T34 l1 x7_4).f1)) ∧ w'.cell? ⟨(ad138.add ((x7_4).toNat * 3)).block, (ad138.add ((x7_4).toNat * 3)).off + 2, none⟩ = some (.string ((rd_T34 l1 x7_4).f2)) ∧ w'.cell? (ad138.add ((x6_3).toNat * 3)) = some (.int .i64 ((rd_T34 l1 x6_3).f0)) ∧ w'.cell? ⟨(ad138.add ((x6_3).toNat * 3)).block, (ad138.add ((x6_3).toNat * 3)).off + 1, none⟩ = some (.int .i64 ((rd_T34 l1 x6_3).f1)) ∧ w'.cell? ⟨(ad138.add ((x6_3).toNat * 3)).block, (ad138.add ((x6_3).toNat * 3)).off + 2, none⟩ = some (.string ((rd_T34 l1 x6_3).f2)) ∧ w'.cell? (ad138.add ((x7_4).toNat * 3)) = some (.int .i64 ((rd_T34 l1 x7_4).f0)) ∧ w'.cell? ⟨(ad138.add ((x7_4).toNat * 3)).block, (ad138.add ((x7_4).toNat * 3)).off + 1, none⟩ = some (.int .i64 ((rd_T34 l1 x7_4).f1)) ∧ w'.cell? ⟨(ad138.add ((x7_4).toNat * 3)).block, (ad138.add ((x7_4).toNat * 3)).off + 2, none⟩ = some (.string ((rd_T34 l1 x7_4).f2))) (ds := []) (bA 20 0) (by kernel_rfl) rfl rfl ⟨((HB.out.cell (World.block_lt_of_cell? w _ hw138_0)).trans hw138_0), ((HB.out.cell (World.block_lt_of_cell? w _ hw138_1)).trans hw138_1), ((HB.out.cell (World.block_lt_of_cell? w _ hw138_2)).trans hw138_2), ((HB.out.cell (World.block_lt_of_cell? w _ hw139_0)).trans hw139_0), ((HB.out.cell (World.block_lt_of_cell? w _ hw139_1)).trans hw139_1), ((HB.out.cell (World.block_lt_of_cell? w _ hw139_2)).trans hw139_2), ((HB.out.cell (World.block_lt_of_cell? w _ hw140_0)).trans hw140_0), ((HB.out.cell (World.block_lt_of_cell? w _ hw140_1)).trans hw140_1), ((HB.out.cell (World.block_lt_of_cell? w _ hw140_2)).trans hw140_2), ((HB.out.cell (World.block_lt_of_cell? w _ hw141_0)).trans hw141_0), ((HB.out.cell (World.block_lt_of_cell? w _ hw141_1)).trans hw141_1), ((HB.out.cell (World.block_lt_of_cell? w _ hw141_2)).trans hw141_2)⟩ (fun hHeld => ?_); refine with_tabW smockingref01_Fine.tab14 smockingref01_Fine.bits14 (fun HT_ HW_ => ?_)
                   generalize wr.drew = w26 at HB hx138_0 hx138_1 hx138_2 hx139_0 hx139_1 hx139_2 hx140_0 hx140_1 hx140_2 hx141_0 hx141_1 hx141_2 hHeld ⊢
                   refine pu_ 0 62 (bA 20 1) HT_ ?_
                   refine pu_ 1 63 (bA 20 3) HT_ ?_
                   refine pu_ 2 64 (bA 20 7) HT_ ?_
                   refine pu_ 4 66 (bA 20 23) HT_ ?_
                   refine pu_ 5 67 (bA 20 55) HT_ ?_
                   refine pu_ 6 68 (bA 20 119) HT_ ?_
                   refine tk_ 3 65 (bA 20 127) rfl HT_ HW_ hHeld (by rintro w' ⟨s0, s1, s2, s3, s4, s5, s6, s7, s8, s9, s10, s11⟩; go_simp; with_reducible rfl) ?_
                   refine tk_ 7 69 (bA 20 255) rfl HT_ HW_ hHeld (by rintro w' ⟨s0, s1, s2, s3, s4, s5, s6, s7, s8, s9, s10, s11⟩; go_simp; with_reducible rfl) ?_
                   refine pu_ 8 70 (bA 20 511) HT_ ?_
                   refine pu_ 9 71 (bA 20 1023) HT_ ?_
                   refine pu_ 10 72 (bA 20 2047) HT_ ?_
                   refine pu_ 11 73 (bA 20 4095) HT_ ?_
                   refine pu_ 12 74 (bA 20 8191) HT_ ?_
                   refine pu_ 14 76 (bA 20 24575) HT_ ?_
                   refine pu_ 15 77 (bA 20 57343) HT_ ?_
                   refine pu_ 16 78 (bA 20 122879) HT_ ?_
                   refine tk_ 13 75 (bA 20 131071) rfl HT_ HW_ hHeld (by rintro w' ⟨s0, s1, s2, s3, s4, s5, s6, s7, s8, s9, s10, s11⟩; go_simp; with_reducible rfl) ?_
                   refine tk_ 17 79 (bA 20 262143) rfl HT_ HW_ hHeld (by rintro w' ⟨s0, s1, s2, s3, s4, s5, s6, s7, s8, s9, s10, s11⟩; go_simp; with_reducible rfl) ?_
                   refine one_ (i := 18) (N := some 80) (bA 20 524287) rfl rfl (one_of HT_.out (by kernel_rfl)) (by decide) (fun K hK => ?_)
                   refine goes_ Tryd.func40 (by kernel_rfl) rfl #[.agg #[.int .i64 ((rd_T34 l1 x6_3).f0), .int .i64 ((rd_T34 l1 x6_3).f1), .string ((rd_T34 l1 x6_3).f2)], .agg #[.int .i64 ((rd_T34 l1 x7_4).f0), .int .i64 ((rd_T34 l1 x7_4).f1), .string ((rd_T34 l1 x7_4).f2)]] (by rfl) rfl rfl (by (try simp only [List.map_toArray, List.map_cons, List.map_nil]); first | done | rfl | (simp only [List.length_drop, List.length_take]; rfl)) ?_
                   with_reducible refine (smockingref01_touch.calls k4 ((rd_T34 l1 x6_3).f0) ((rd_T34 l1 x6_3).f1) ((rd_T34 l1 x6_3).f2) ((rd_T34 l1 x7_4).f0) ((rd_T34 l1 x7_4).f1) ((rd_T34 l1 x7_4).f2) false _ A22.out).mono ?_
                   rintro e w27 ⟨rfl, hb⟩
                   refine ⟨_, rfl, ?_⟩
                   have n0_ := Aside0.mk (below_step (by repeat (first | (with_reducible first | exact HB.out | apply below_alloc | apply pw_below_drewN | apply below_drew1) | exact HB.out)) hb)
                   clear HB
                   have HB := n0_
                   clear n0_
                   (try clear hb)
                   (try clear hb2)
                   (try clear hk)
                   (try clear hi)
                   refine hK.out _ _ ⟨((HB.out.cell (World.block_lt_of_cell? w _ hw138_0)).trans hw138_0), ((HB.out.cell (World.block_lt_of_cell? w _ hw138_1)).trans hw138_1), ((HB.out.cell (World.block_lt_of_cell? w _ hw138_2)).trans hw138_2), ((HB.out.cell (World.block_lt_of_cell? w _ hw139_0)).trans hw139_0), ((HB.out.cell (World.block_lt_of_cell? w _ hw139_1)).trans hw139_1), ((HB.out.cell (World.block_lt_of_cell? w _ hw139_2)).trans hw139_2), ((HB.out.cell (World.block_lt_of_cell? w _ hw140_0)).trans hw140_0), ((HB.out.cell (World.block_lt_of_cell? w _ hw140_1)).trans hw140_1), ((HB.out.cell (World.block_lt_of_cell? w _ hw140_2)).trans hw140_2), ((HB.out.cell (World.block_lt_of_cell? w _ hw141_0)).trans hw141_0), ((HB.out.cell (World.block_lt_of_cell? w _ hw141_1)).trans hw141_1), ((HB.out.cell (World.block_lt_of_cell? w _ hw141_2)).trans hw141_2)⟩ (fun hHeld => ?_)
                   clear hK K
                   refine norm_ (a' := ?_) ?_ ?_
                   rotate_left
                   ·show Act.put _ (some 80) _ = _
                    simp only [Act.put, q1_, q2_, q3_, i64_w, i32_w]
                    rfl
                   refine pu_ 19 81 (bA 20 1048575) HT_ ?_
                   refine done_ (done_of HT_.out (by kernel_rfl)) ?_
                   try go_wp2
                   go_roundg k4
                   case measure => have := HJ2.out; have := HK2.out; have := HK3.out; have := HK4.out; omega
                   case rel => exact ⟨(wrap64 (x7_4 + 1)), (by first | rfl | (simp; done) | (simp [*]; done)), H', ⟨by have := HJ2.out; have := HK2.out; have := HK3.out; have := HK4.out; omega⟩, ⟨by repeat (first | (with_reducible first | exact HB.out | apply below_alloc | apply pw_below_drewN | apply below_drew1) | exact HB.out)⟩⟩
                 ·rw [if_neg c21] at H
                  have c21b0 : (!(((rd_T34 l1 x6_3).f0) == ((rd_T34 l1 x7_4).f0)) || (!(((rd_T34 l1 x6_3).f1) == ((rd_T34 l1 x7_4).f1)) || (!((((rd_T34 l1 x6_3).f2).toList) == (((rd_T34 l1 x7_4).f2).toList))))) = false := by simpa using c21
                  clear c21
                  have H' := Aside0.mk H
                  clear H
                  try go_wp2
                  have n0_ := Aside0.mk (below_drew1 HB.out)
                  clear HB
                  have HB := n0_
                  clear n0_
                  have p138 : 0 ≤ (x6_3 : Int) := of_decide_eq_true (by first | (with_reducible assumption) | assumption)
                  have q138 : x6_3 < (l1.length : Int) := of_decide_eq_true (by first | (with_reducible assumption) | assumption)
                  obtain ⟨ad138, e138, hx138_0, hx138_1, hx138_2⟩ := at_T34 HR1.out x6_3 p138 q138
                  have hw138_2 := hx138_2
                  have hw138_1 := hx138_1
                  have hw138_0 := hx138_0
                  cases e138
                  replace hx138_0 := (HB.out.cell (World.block_lt_of_cell? w _ hx138_0)).trans hx138_0
                  replace hx138_1 := (HB.out.cell (World.block_lt_of_cell? w _ hx138_1)).trans hx138_1
                  replace hx138_2 := (HB.out.cell (World.block_lt_of_cell? w _ hx138_2)).trans hx138_2
                  replace p138 := eq_true p138
                  replace q138 := eq_true q138
                  have p139 : 0 ≤ (x7_4 : Int) := of_decide_eq_true (by first | (with_reducible assumption) | assumption)
                  have q139 : x7_4 < (l1.length : Int) := of_decide_eq_true (by first | (with_reducible assumption) | assumption)
                  obtain ⟨ad139, e139, hx139_0, hx139_1, hx139_2⟩ := at_T34 HR1.out x7_4 p139 q139
                  have hw139_2 := hx139_2
                  have hw139_1 := hx139_1
                  have hw139_0 := hx139_0
                  obtain rfl : ad138 = ad139 := (by injection e139)
                  replace hx139_0 := (HB.out.cell (World.block_lt_of_cell? w _ hx139_0)).trans hx139_0
                  replace hx139_1 := (HB.out.cell (World.block_lt_of_cell? w _ hx139_1)).trans hx139_1
                  replace hx139_2 := (HB.out.cell (World.block_lt_of_cell? w _ hx139_2)).trans hx139_2
                  replace p139 := eq_true p139
                  replace q139 := eq_true q139
                  refine start_ (n := 20) (S := fun w' => w'.cell? (ad138.add ((x6_3).toNat * 3)) = some (.int .i64 ((rd_T34 l1 x6_3).f0)) ∧ w'.cell? ⟨(ad138.add ((x6_3).toNat * 3)).block, (ad138.add ((x6_3).toNat * 3)).off + 1, none⟩ = some (.int .i64 ((rd_T34 l1 x6_3).f1)) ∧ w'.cell? ⟨(ad138.add ((x6_3).toNat * 3)).block, (ad138.add ((x6_3).toNat * 3)).off + 2, none⟩ = some (.string ((rd_T34 l1 x6_3).f2)) ∧ w'.cell? (ad138.add ((x7_4).toNat * 3)) = some (.int .i64 ((rd_T34 l1 x7_4).f0)) ∧ w'.cell? ⟨(ad138.add ((x7_4).toNat * 3)).block, (ad138.add ((x7_4).toNat * 3)).off + 1, none⟩ = some (.int .i64 ((rd_T34 l1 x7_4).f1)) ∧ w'.cell? ⟨(ad138.add ((x7_4).toNat * 3)).block, (ad138.add ((x7_4).toNat * 3)).off + 2, none⟩ = some (.string ((rd_T34 l1 x7_4).f2))) (ds := []) (bA 20 0) (by kernel_rfl) rfl rfl ⟨((HB.out.cell (World.block_lt_of_cell? w _ hw138_0)).trans hw138_0), ((HB.out.cell (World.block_lt_of_cell? w _ hw138_1)).trans hw138_1), ((HB.out.cell (World.block_lt_of_cell? w _ hw138_2)).trans hw138_2), ((HB.out.cell (World.block_lt_of_cell? w _ hw139_0)).trans hw139_0), ((HB.out.cell (World.block_lt_of_cell? w _ hw139_1)).trans hw139_1), ((HB.out.cell (World.block_lt_of_cell? w _ hw139_2)).trans hw139_2)⟩ (fun hHeld => ?_); refine with_tabW smockingref01_Fine.tab14 smockingref01_Fine.bits14 (fun HT_ HW_ => ?_)
                  generalize wr.drew = w28 at HB hx138_0 hx138_1 hx138_2 hx139_0 hx139_1 hx139_2 hHeld ⊢
                  refine pu_ 0 62 (bA 20 1) HT_ ?_
                  refine pu_ 1 63 (bA 20 3) HT_ ?_
                  refine pu_ 2 64 (bA 20 7) HT_ ?_
                  refine pu_ 4 66 (bA 20 23) HT_ ?_
                  refine pu_ 5 67 (bA 20 55) HT_ ?_
                  refine pu_ 6 68 (bA 20 119) HT_ ?_
                  refine tk_ 3 65 (bA 20 127) rfl HT_ HW_ hHeld (by rintro w' ⟨s0, s1, s2, s3, s4, s5⟩; go_simp; with_reducible rfl) ?_
                  refine tk_ 7 69 (bA 20 255) rfl HT_ HW_ hHeld (by rintro w' ⟨s0, s1, s2, s3, s4, s5⟩; go_simp; with_reducible rfl) ?_
                  refine pu_ 8 70 (bA 20 511) HT_ ?_
                  refine pu_ 9 71 (bA 20 1023) HT_ ?_
                  refine pz_ 10 72 (bA 20 2047) HT_ ?_
                  refine pz_ 11 73 (bA 20 4095) HT_ ?_
                  refine pz_ 12 74 (bA 20 8191) HT_ ?_
                  refine pz_ 13 75 (bA 20 16383) HT_ ?_
                  refine pz_ 14 76 (bA 20 32767) HT_ ?_
                  refine pz_ 15 77 (bA 20 65535) HT_ ?_
                  refine pz_ 16 78 (bA 20 131071) HT_ ?_
                  refine pz_ 17 79 (bA 20 262143) HT_ ?_
                  refine pz_ 18 80 (bA 20 524287) HT_ ?_
                  refine pu_ 19 81 (bA 20 1048575) HT_ ?_
                  refine done_ (done_of HT_.out (by kernel_rfl)) ?_
                  try go_wp2
                  go_roundg k4
                  case measure => have := HJ2.out; have := HK2.out; have := HK3.out; have := HK4.out; omega
                  case rel => exact ⟨(wrap64 (x7_4 + 1)), (by first | rfl | (simp; done) | (simp [*]; done)), H', ⟨by have := HJ2.out; have := HK2.out; have := HK3.out; have := HK4.out; omega⟩, ⟨by repeat (first | (with_reducible first | exact HB.out | apply below_alloc | apply pw_below_drewN | apply below_drew1) | exact HB.out)⟩⟩
                ·rw [if_neg c20] at H
                 exact absurd H (by simp)
               ·rw [if_neg c19] at H
                exact absurd H (by simp)
              ·rw [if_neg c18] at H
               exact absurd H (by simp)
             ·rw [if_neg c17] at H
              exact absurd H (by simp)
            ·rw [if_neg c16] at H
             have c16b0 : decide (x7_4 < x6_3) = false := decide_eq_false c16
             clear c16
             have H' := Aside0.mk H
             clear H
             go_wp2
             go_roundg k4
             case measure => have := HJ2.out; have := HK2.out; have := HK3.out; have := HK4.out; omega
             case rel => exact ⟨(wrap64 (x6_3 + 1)), (by first | rfl | (simp; done) | (simp [*]; done)), H', ⟨by have := HJ2.out; have := HK2.out; have := HK3.out; have := HK4.out; omega⟩, ⟨by repeat (first | (with_reducible first | exact HB.out | apply below_alloc | apply pw_below_drewN | apply below_drew1) | exact HB.out)⟩⟩
         ·rw [if_neg c15] at H
          have c15b0 : decide (x6_3 < (l1.length : Int)) = false := decide_eq_false c15
          clear c15
          obtain rfl := Option.some.inj H
          go_wp2
          go_ret
          exact ⟨by first | rfl | (simp [errW_none, errW_some] <;> rfl) | (simp [*, errW_none, errW_some] <;> rfl), by repeat (first | (with_reducible first | exact HB.out | apply below_alloc | apply pw_below_drewN | apply below_drew1) | exact HB.out)⟩

end Go.Proofs.YthimblhfjfngiaaDoor.PText

namespace Go.Proofs.YthimblhfjfngiaaDoor.PText
open Go.RowKit Go.Proofs.YthimblhfjfngiaaDoorW.PrintWords Go.Proofs.YthimblhfjfngiaaDoorW.PrintLast Go.Proofs.YthimblhfjfngiaaDoorW.PrintMore
attribute [local go_sem] max2_int min2_int max_two min_two max_three min_three max_four min_four   -- for this text's walks alone
set_option linter.unusedVariables false
set_option linter.unusedSimpArgs false

def smockingref01_together.f (k : Nat) (a0 : ByteArray) (l1 : List (S34)) (l2 : List (S34)) : Option (Int) := (smockingref01_Fine.f k a0 l1).bind fun t465 => (if t465 = 0 then ((smockingref01_Fine.f k a0 l2).bind fun t466 => (if t466 = 0 then ((some (([] : List (S34)) : List (S34))).bind fun y467 => (if y467.length + l1.length < 4398046511104 then ((some (y467 ++ l1 : List (S34))).bind fun y470 => (if y470.length + l2.length < 4398046511104 then ((smockingref01_Fine.f k a0 (y470 ++ l2)).bind fun t476 => (some t476)) else (none))) else (none))) else (some t466))) else (some t465))
set_option maxHeartbeats 8000000 in
set_option maxRecDepth 100000 in
theorem smockingref01_together.calls (k : Nat) (a0 : ByteArray) (A1 : Option Addr) (c1 : Nat) (l1 : List (S34)) (A2 : Option Addr) (c2 : Nat) (l2 : List (S34)) (r : Int) (w : World) (hr1 : Kd.C k34 w A1 l1.length l1) (hc1 : l1.length ≤ c1) (hr2 : Kd.C k34 w A2 l2.length l2) (hc2 : l2.length ≤ c2) (h : smockingref01_together.f k a0 l1 l2 = some r) :
  Calls Tryd.prog 49 #[.string a0, .slice A1 l1.length c1, .slice A2 l2.length c2] w fun e w' => e = .returned (.int .i64 r) ∧ Below w.heap.size w w' := by
 have HR1 := Aside0.mk hr1
 have HC1 := Aside0.mk hc1
 clear hr1 hc1
 have HR2 := Aside0.mk hr2
 have HC2 := Aside0.mk hc2
 clear hr2 hc2
 have HB := Aside0.mk (Below.refl w.heap.size w)
 have H : ((smockingref01_Fine.f k a0 l1).bind fun t465 => (if t465 = 0 then ((smockingref01_Fine.f k a0 l2).bind fun t466 => (if t466 = 0 then ((some (([] : List (S34)) : List (S34))).bind fun y467 => (if y467.length + l1.length < 4398046511104 then ((some (y467 ++ l1 : List (S34))).bind fun y470 => (if y470.length + l2.length < 4398046511104 then ((smockingref01_Fine.f k a0 (y470 ++ l2)).bind fun t476 => (some t476)) else (none))) else (none))) else (some t466))) else (some t465))) = some r := h
 clear h
 replace H := Option.bind_eq_some_iff.mp H
 obtain ⟨t465, A40, H⟩ := H
 replace H : (if t465 = 0 then ((smockingref01_Fine.f k a0 l2).bind fun t466 => (if t466 = 0 then ((some (([] : List (S34)) : List (S34))).bind fun y467 => (if y467.length + l1.length < 4398046511104 then ((some (y467 ++ l1 : List (S34))).bind fun y470 => (if y470.length + l2.length < 4398046511104 then ((smockingref01_Fine.f k a0 (y470 ++ l2)).bind fun t476 => (some t476)) else (none))) else (none))) else (some t466))) else (some t465)) = some r := H
 have A4 := Aside0.mk A40
 clear A40
 by_cases c5 : t465 = 0
 ·rw [if_pos c5] at H
  have c5b0 : (t465 == 0) = true := beq_iff_eq.mpr c5
  have c5b1 : (t465 != 0) = false := bne_eq_false_iff_eq.mpr c5
  clear c5
  replace H := Option.bind_eq_some_iff.mp H
  obtain ⟨t466, A60, H⟩ := H
  replace H : (if t466 = 0 then ((some (([] : List (S34)) : List (S34))).bind fun y467 => (if y467.length + l1.length < 4398046511104 then ((some (y467 ++ l1 : List (S34))).bind fun y470 => (if y470.length + l2.length < 4398046511104 then ((smockingref01_Fine.f k a0 (y470 ++ l2)).bind fun t476 => (some t476)) else (none))) else (none))) else (some t466)) = some r := H
  have A6 := Aside0.mk A60
  clear A60
  by_cases c7 : t466 = 0
  ·rw [if_pos c7] at H
   have c7b0 : (t466 == 0) = true := beq_iff_eq.mpr c7
   have c7b1 : (t466 != 0) = false := bne_eq_false_iff_eq.mpr c7
   clear c7
   obtain ⟨y467, hy467⟩ : ∃ y_ : List (S34), y_ = (([] : List (S34))) := ⟨_, rfl⟩
   replace H : (if y467.length + l1.length < 4398046511104 then ((some (y467 ++ l1 : List (S34))).bind fun y470 => (if y470.length + l2.length < 4398046511104 then ((smockingref01_Fine.f k a0 (y470 ++ l2)).bind fun t476 => (some t476)) else (none))) else (none)) = some r := by first | (rw [hy467]; with_reducible exact H) | (have H2_ := (Option.bind_some _ _).symm.trans H; rw [hy467]; with_reducible exact H2_) | (have H2_ := (Option.bind_some _ _).symm.trans H; with_reducible exact H2_) | with_reducible exact H | (rw [hy467]; exact H) | exact H
   have Ny467 := Aside0.mk hy467
   clear hy467
   by_cases c8 : y467.length + l1.length < 4398046511104
   ·rw [if_pos c8] at H
    have LMc8 := Aside0.mk c8
    clear c8
    obtain ⟨y470, hy470⟩ : ∃ y_ : List (S34), y_ = (y467 ++ l1) := ⟨_, rfl⟩
    replace H : (if y470.length + l2.length < 4398046511104 then ((smockingref01_Fine.f k a0 (y470 ++ l2)).bind fun t476 => (some t476)) else (none)) = some r := by first | (rw [hy470]; with_reducible exact H) | (have H2_ := (Option.bind_some _ _).symm.trans H; rw [hy470]; with_reducible exact H2_) | (have H2_ := (Option.bind_some _ _).symm.trans H; with_reducible exact H2_) | with_reducible exact H | (rw [hy470]; exact H) | exact H
    have Ny470 := Aside0.mk hy470
    clear hy470
    by_cases c9 : y470.length + l2.length < 4398046511104
    ·rw [if_pos c9] at H
     have LMc9 := Aside0.mk c9
     clear c9
     obtain ⟨y473, hy473⟩ : ∃ y_ : List (S34), y_ = (y470 ++ l2) := ⟨_, rfl⟩
     replace H : ((smockingref01_Fine.f k a0 y473).bind fun t476 => (some t476)) = some r := by first | (rw [hy473]; with_reducible exact H) | (have H2_ := (Option.bind_some _ _).symm.trans H; rw [hy473]; with_reducible exact H2_) | (have H2_ := (Option.bind_some _ _).symm.trans H; with_reducible exact H2_) | with_reducible exact H | (rw [hy473]; exact H) | exact H
     have Ny473 := Aside0.mk hy473
     clear hy473
     replace H := Option.bind_eq_some_iff.mp H
     obtain ⟨t476, A100, H⟩ := H
     replace H : (some t476) = some r := H
     have A10 := Aside0.mk A100
     clear A100
     obtain rfl := Option.some.inj H
     go_enter Tryd.func49, Tryd.ntmps49
     go_wp2_with (first | ((with_reducible refine gate_callee (f := 13) rfl ?_); refine goesL_ (some 10) rfl rfl Tryd.func13 (by kernel_rfl) rfl #[.string a0, .slice A1 l1.length c1] rfl (by (try simp only [List.map_toArray, List.map_cons, List.map_nil]); first | done | rfl | (simp only [List.length_drop, List.length_take]; rfl)) ?_; (with_reducible refine (smockingref01_Fine.calls k a0 _ _ l1 t465 _ ?side1 ?side2 A4.out).mono ?_); (case side1 => repeat (first | exact HR1.out | (with_reducible refine Kd.C_alloc ?_ _) | (with_reducible refine Kd.C_drewN ?_ _) | (with_reducible refine Kd.C_drew ?_))); (case side2 => exact HC1.out); rintro e w11 ⟨rfl, hb⟩; refine ⟨_, rfl, ?_⟩; have n0_ := Aside0.mk (below_step (by repeat (first | (with_reducible first | exact HB.out | apply below_alloc | apply pw_below_drewN | apply below_drew1) | exact HB.out)) hb); clear HB; have HB := n0_; clear n0_; (try clear hb); (try clear hb2); (try clear hk); (try clear hi)) | ((with_reducible refine gate_callee (f := 13) rfl ?_); refine goesL_ (some 16) rfl rfl Tryd.func13 (by kernel_rfl) rfl #[.string a0, .slice A2 l2.length c2] rfl (by (try simp only [List.map_toArray, List.map_cons, List.map_nil]); first | done | rfl | (simp only [List.length_drop, List.length_take]; rfl)) ?_; (with_reducible refine (smockingref01_Fine.calls k a0 _ _ l2 t466 _ ?side1 ?side2 A6.out).mono ?_); (case side1 => repeat (first | exact (Kd.C_below HR2.out HB.out) | (with_reducible refine Kd.C_alloc ?_ _) | (with_reducible refine Kd.C_drewN ?_ _) | (with_reducible refine Kd.C_drew ?_))); (case side2 => exact HC2.out); rintro e w12 ⟨rfl, hb⟩; refine ⟨_, rfl, ?_⟩; have n0_ := Aside0.mk (below_step (by repeat (first | (with_reducible first | exact HB.out | apply below_alloc | apply pw_below_drewN | apply below_drew1) | exact HB.out)) hb); clear HB; have HB := n0_; clear n0_; (try clear hb); (try clear hb2); (try clear hk); (try clear hi)) | ((with_reducible refine gate_dst (N := 21) rfl ?_); refine Kd.R_lit k34 _ 34 ?hg (N := 21) ?hd (xs := ([] : List (S34))) (inner := []) (ok := fun _ => True) (okp := fun _ => True) ?hr ?hp (fun _ hk => hk) trivial (Below.refl _ _) (Nat.le_refl _) (by simp) ?_; (case hd => rfl); (case hg => rfl); (case hr => first | (go_simp; done) | (go_simp; rfl)); (case hp => exact (Reps.none _ _)); intro v468 w13 ho14 hb hg_ hnew_; clear hg_ hnew_; (first | rw [← Ny467.out] at ho14 | (simp only [Int.reduceToNat] at ho14; rw [← Ny467.out] at ho14)); have n0_ := Aside0.mk (Kd.R_lower ho14 (below_size (by repeat (first | (with_reducible first | exact HB.out | apply below_alloc | apply pw_below_drewN | apply below_drew1) | exact HB.out)))); have n1_ := Aside0.mk (below_step (by repeat (first | (with_reducible first | exact HB.out | apply below_alloc | apply pw_below_drewN | apply below_drew1) | exact HB.out)) hb); clear HB; have HO469 := n0_; have HB := n1_; clear n0_ n1_; clear hb ho14) | ((with_reducible refine gate_builtin (b := .append) (xs := #[.tmp 21, .tmp 22]) rfl ?_); at_builtin; refine Kd.R_append_rows k34 (w0 := w) w.heap.size rfl (.tmp 21) (.tmp 22) 22 34 (.agg #[(.int .i64 0), (.int .i64 0), (.string ⟨#[]⟩)]) 32 rfl Tryd.underlying22 info34 rfl (by decide) (by omega) v468 y467 l1 _ _ _ (fun _ => True) (fun _ => False) rfl rfl ?aO ?aR (fun _ _ h => h) (fun _ h => h.elim) ?aF ?aB ?aS ?aL ?_; (case aR => repeat (first | exact (Kd.C_below HR1.out HB.out) | (with_reducible refine Kd.C_alloc ?_ _) | (with_reducible refine Kd.C_drewN ?_ _) | (with_reducible refine Kd.C_drew ?_))); (case aB => exact (by repeat (first | (with_reducible first | exact HB.out | apply below_alloc | apply pw_below_drewN | apply below_drew1) | exact HB.out))); (case aF => exact (fun _ _ => trivial)); (case aO => exact (by (with_reducible repeat (first | apply Kd.R_alloc | apply Kd.R_drewN | apply Kd.R_drew)); exact HO469.out)); (case aS => exact (below_size (by repeat (first | (with_reducible first | exact HB.out | apply below_alloc | apply pw_below_drewN | apply below_drew1) | exact HB.out)))); (case aL => have := LMc8.out; omega); intro v471 w15 ho hb hg hat; rw [← Ny470.out] at ho; have n0_ := Aside0.mk (hb); have n1_ := Aside0.mk (ho); clear HB; clear HO469; have HB := n0_; have HO472 := n1_; clear n0_ n1_; clear ho hb hg hat) | ((with_reducible refine gate_builtin (b := .append) (xs := #[.tmp 23, .tmp 24]) rfl ?_); at_builtin; refine Kd.R_append_rows k34 (w0 := w) w.heap.size rfl (.tmp 23) (.tmp 24) 22 34 (.agg #[(.int .i64 0), (.int .i64 0), (.string ⟨#[]⟩)]) 32 rfl Tryd.underlying22 info34 rfl (by decide) (by omega) v471 y470 l2 _ _ _ (fun _ => True) (fun _ => False) rfl rfl ?aO ?aR (fun _ _ h => h) (fun _ h => h.elim) ?aF ?aB ?aS ?aL ?_; (case aR => repeat (first | exact (Kd.C_below HR2.out HB.out) | (with_reducible refine Kd.C_alloc ?_ _) | (with_reducible refine Kd.C_drewN ?_ _) | (with_reducible refine Kd.C_drew ?_))); (case aB => exact (by repeat (first | (with_reducible first | exact HB.out | apply below_alloc | apply pw_below_drewN | apply below_drew1) | exact HB.out))); (case aF => exact (fun _ _ => trivial)); (case aO => exact (by (with_reducible repeat (first | apply Kd.R_alloc | apply Kd.R_drewN | apply Kd.R_drew)); exact HO472.out)); (case aS => exact (below_size (by repeat (first | (with_reducible first | exact HB.out | apply below_alloc | apply pw_below_drewN | apply below_drew1) | exact HB.out)))); (case aL => have := LMc9.out; omega); intro v474 w16 ho hb hg hat; rw [← Ny473.out] at ho; have n0_ := Aside0.mk (hb); have n1_ := Aside0.mk (ho); clear HB; clear HO472; have HB := n0_; have HO475 := n1_; clear n0_ n1_; clear ho hb hg hat; obtain ⟨Ao17, co17, eo17⟩ := Kd.R_slice HO475.out; subst eo17) | ((with_reducible refine gate_callee (f := 13) rfl ?_); refine goesL_ (some 26) rfl rfl Tryd.func13 (by kernel_rfl) rfl #[.string a0, .slice Ao17 y473.length co17] rfl (by (try simp only [List.map_toArray, List.map_cons, List.map_nil]); first | done | rfl | (simp only [List.length_drop, List.length_take]; rfl)) ?_; (with_reducible refine (smockingref01_Fine.calls k a0 _ _ y473 t476 _ ?side1 ?side2 A10.out).mono ?_); (case side1 => repeat (first | exact (Kd.R_reads' HO475.out).2.2 | (with_reducible refine Kd.C_alloc ?_ _) | (with_reducible refine Kd.C_drewN ?_ _) | (with_reducible refine Kd.C_drew ?_))); (case side2 => exact (Kd.R_reads' HO475.out).2.1); rintro e w18 ⟨rfl, hb⟩; refine ⟨_, rfl, ?_⟩; have n0_ := Aside0.mk (Kd.R_below (by (with_reducible repeat (first | apply Kd.R_alloc | apply Kd.R_drewN | apply Kd.R_drew)); exact HO475.out) hb); have n1_ := Aside0.mk (below_step (by repeat (first | (with_reducible first | exact HB.out | apply below_alloc | apply pw_below_drewN | apply below_drew1) | exact HB.out)) hb); clear HO475; clear HB; have HO475 := n0_; have HB := n1_; clear n0_ n1_; (try clear hb); (try clear hb2); (try clear hk); (try clear hi)))
     go_ret
     exact ⟨by first | rfl | (simp [errW_none, errW_some] <;> rfl) | (simp [*, errW_none, errW_some] <;> rfl), by repeat (first | (with_reducible first | exact HB.out | apply below_alloc | apply pw_below_drewN | apply below_drew1) | exact HB.out)⟩
    ·rw [if_neg c9] at H
     exact absurd H (by simp)
   ·rw [if_neg c8] at H
    exact absurd H (by simp)
  ·rw [if_neg c7] at H
   have c7b0 : (t466 == 0) = false := beq_eq_false_iff_ne.mpr c7
   have c7b1 : (t466 != 0) = true := bne_iff_ne.mpr c7
   obtain rfl := Option.some.inj H
   go_enter Tryd.func49, Tryd.ntmps49
   go_wp2_with (first | ((with_reducible refine gate_callee (f := 13) rfl ?_); refine goesL_ (some 10) rfl rfl Tryd.func13 (by kernel_rfl) rfl #[.string a0, .slice A1 l1.length c1] rfl (by (try simp only [List.map_toArray, List.map_cons, List.map_nil]); first | done | rfl | (simp only [List.length_drop, List.length_take]; rfl)) ?_; (with_reducible refine (smockingref01_Fine.calls k a0 _ _ l1 t465 _ ?side1 ?side2 A4.out).mono ?_); (case side1 => repeat (first | exact HR1.out | (with_reducible refine Kd.C_alloc ?_ _) | (with_reducible refine Kd.C_drewN ?_ _) | (with_reducible refine Kd.C_drew ?_))); (case side2 => exact HC1.out); rintro e w19 ⟨rfl, hb⟩; refine ⟨_, rfl, ?_⟩; have n0_ := Aside0.mk (below_step (by repeat (first | (with_reducible first | exact HB.out | apply below_alloc | apply pw_below_drewN | apply below_drew1) | exact HB.out)) hb); clear HB; have HB := n0_; clear n0_; (try clear hb); (try clear hb2); (try clear hk); (try clear hi)) | ((with_reducible refine gate_callee (f := 13) rfl ?_); refine goesL_ (some 16) rfl rfl Tryd.func13 (by kernel_rfl) rfl #[.string a0, .slice A2 l2.length c2] rfl (by (try simp only [List.map_toArray, List.map_cons, List.map_nil]); first | done | rfl | (simp only [List.length_drop, List.length_take]; rfl)) ?_; (with_reducible refine (smockingref01_Fine.calls k a0 _ _ l2 t466 _ ?side1 ?side2 A6.out).mono ?_); (case side1 => repeat (first | exact (Kd.C_below HR2.out HB.out) | (with_reducible refine Kd.C_alloc ?_ _) | (with_reducible refine Kd.C_drewN ?_ _) | (with_reducible refine Kd.C_drew ?_))); (case side2 => exact HC2.out); rintro e w20 ⟨rfl, hb⟩; refine ⟨_, rfl, ?_⟩; have n0_ := Aside0.mk (below_step (by repeat (first | (with_reducible first | exact HB.out | apply below_alloc | apply pw_below_drewN | apply below_drew1) | exact HB.out)) hb); clear HB; have HB := n0_; clear n0_; (try clear hb); (try clear hb2); (try clear hk); (try clear hi)))
   go_ret
   exact ⟨by first | rfl | (simp [errW_none, errW_some] <;> rfl) | (simp [*, errW_none, errW_some] <;> rfl), by repeat (first | (with_reducible first | exact HB.out | apply below_alloc | apply pw_below_drewN | apply below_drew1) | exact HB.out)⟩
 ·rw [if_neg c5] at H
  have c5b0 : (t465 == 0) = false := beq_eq_false_iff_ne.mpr c5
  have c5b1 : (t465 != 0) = true := bne_iff_ne.mpr c5
  obtain rfl := Option.some.inj H
  go_enter Tryd.func49, Tryd.ntmps49
  go_wp2_with (first | ((with_reducible refine gate_callee (f := 13) rfl ?_); refine goesL_ (some 10) rfl rfl Tryd.func13 (by kernel_rfl) rfl #[.string a0, .slice A1 l1.length c1] rfl (by (try simp only [List.map_toArray, List.map_cons, List.map_nil]); first | done | rfl | (simp only [List.length_drop, List.length_take]; rfl)) ?_; (with_reducible refine (smockingref01_Fine.calls k a0 _ _ l1 t465 _ ?side1 ?side2 A4.out).mono ?_); (case side1 => repeat (first | exact HR1.out | (with_reducible refine Kd.C_alloc ?_ _) | (with_reducible refine Kd.C_drewN ?_ _) | (with_reducible refine Kd.C_drew ?_))); (case side2 => exact HC1.out); rintro e w21 ⟨rfl, hb⟩; refine ⟨_, rfl, ?_⟩; have n0_ := Aside0.mk (below_step (by repeat (first | (with_reducible first | exact HB.out | apply below_alloc | apply pw_below_drewN | apply below_drew1) | exact HB.out)) hb); clear HB; have HB := n0_; clear n0_; (try clear hb); (try clear hb2); (try clear hk); (try clear hi)))
  go_ret
  exact ⟨by first | rfl | (simp [errW_none, errW_some] <;> rfl) | (simp [*, errW_none, errW_some] <;> rfl), by repeat (first | (with_reducible first | exact HB.out | apply below_alloc | apply pw_below_drewN | apply below_drew1) | exact HB.out)⟩

end Go.Proofs.YthimblhfjfngiaaDoor.PText

namespace Go.Proofs.YthimblhfjfngiaaDoor.PText
open Go.RowKit Go.Proofs.YthimblhfjfngiaaDoorW.PrintWords Go.Proofs.YthimblhfjfngiaaDoorW.PrintLast Go.Proofs.YthimblhfjfngiaaDoorW.PrintMore
attribute [local go_sem] max2_int min2_int max_two min_two max_three min_three max_four min_four   -- for this text's walks alone
set_option linter.unusedVariables false
set_option linter.unusedSimpArgs false

def smockingref01_Merge.f (k : Nat) (a0 : ByteArray) (l1 : List (S34)) (l2 : List (S34)) : Option ((List (S34)) × Int) := (smockingref01_together.f k a0 l1 l2).bind fun t477 => (if t477 = 0 then ((some (([] : List (S34)) : List (S34))).bind fun y478 => (if y478.length + l1.length < 4398046511104 then ((some (y478 ++ l1 : List (S34))).bind fun y481 => (if y481.length + l2.length < 4398046511104 then ((smockingref01_ordered.f k (y481 ++ l2)).bind fun t487 => (some (t487, 0))) else (none))) else (none))) else (some (([] : List (S34)), t477)))
set_option maxHeartbeats 8000000 in
set_option maxRecDepth 100000 in
theorem smockingref01_Merge.calls (k : Nat) (a0 : ByteArray) (A1 : Option Addr) (c1 : Nat) (l1 : List (S34)) (A2 : Option Addr) (c2 : Nat) (l2 : List (S34)) (r1 : List (S34)) (r2 : Int) (w : World) (hr1 : Kd.C k34 w A1 l1.length l1) (hc1 : l1.length ≤ c1) (hr2 : Kd.C k34 w A2 l2.length l2) (hc2 : l2.length ≤ c2) (h : smockingref01_Merge.f k a0 l1 l2 = some (r1, r2)) :
  Calls Tryd.prog 24 #[.string a0, .slice A1 l1.length c1, .slice A2 l2.length c2] w fun e w' => ∃ v0_ : Value, e = .returned (.tuple #[v0_, .int .i64 r2]) ∧ Kd.R k34 34 w' w.heap.size (fun _ => True) v0_ r1 ∧ Below w.heap.size w w' := by
 have HR1 := Aside0.mk hr1
 have HC1 := Aside0.mk hc1
 clear hr1 hc1
 have HR2 := Aside0.mk hr2
 have HC2 := Aside0.mk hc2
 clear hr2 hc2
 have HB := Aside0.mk (Below.refl w.heap.size w)
 have H : ((smockingref01_together.f k a0 l1 l2).bind fun t477 => (if t477 = 0 then ((some (([] : List (S34)) : List (S34))).bind fun y478 => (if y478.length + l1.length < 4398046511104 then ((some (y478 ++ l1 : List (S34))).bind fun y481 => (if y481.length + l2.length < 4398046511104 then ((smockingref01_ordered.f k (y481 ++ l2)).bind fun t487 => (some (t487, 0))) else (none))) else (none))) else (some (([] : List (S34)), t477)))) = some (r1, r2) := h
 clear h
 replace H := Option.bind_eq_some_iff.mp H
 obtain ⟨t477, A40, H⟩ := H
 replace H : (if t477 = 0 then ((some (([] : List (S34)) : List (S34))).bind fun y478 => (if y478.length + l1.length < 4398046511104 then ((some (y478 ++ l1 : List (S34))).bind fun y481 => (if y481.length + l2.length < 4398046511104 then ((smockingref01_ordered.f k (y481 ++ l2)).bind fun t487 => (some (t487, 0))) else (none))) else (none))) else (some (([] : List (S34)), t477))) = some (r1, r2) := H
 have A4 := Aside0.mk A40
 clear A40
 by_cases c5 : t477 = 0
 ·rw [if_pos c5] at H
  have c5b0 : (t477 == 0) = true := beq_iff_eq.mpr c5
  have c5b1 : (t477 != 0) = false := bne_eq_false_iff_eq.mpr c5
  clear c5
  obtain ⟨y478, hy478⟩ : ∃ y_ : List (S34), y_ = (([] : List (S34))) := ⟨_, rfl⟩
  replace H : (if y478.length + l1.length < 4398046511104 then ((some (y478 ++ l1 : List (S34))).bind fun y481 => (if y481.length + l2.length < 4398046511104 then ((smockingref01_ordered.f k (y481 ++ l2)).bind fun t487 => (some (t487, 0))) else (none))) else (none)) = some (r1, r2) := by first | (rw [hy478]; with_reducible exact H) | (have H2_ := (Option.bind_some _ _).symm.trans H; rw [hy478]; with_reducible exact H2_) | (have H2_ := (Option.bind_some _ _).symm.trans H; with_reducible exact H2_) | with_reducible exact H | (rw [hy478]; exact H) | exact H
  have Ny478 := Aside0.mk hy478
  clear hy478
  by_cases c6 : y478.length + l1.length < 4398046511104
  ·rw [if_pos c6] at H
   have LMc6 := Aside0.mk c6
   clear c6
   obtain ⟨y481, hy481⟩ : ∃ y_ : List (S34), y_ = (y478 ++ l1) := ⟨_, rfl⟩
   replace H : (if y481.length + l2.length < 4398046511104 then ((smockingref01_ordered.f k (y481 ++ l2)).bind fun t487 => (some (t487, 0))) else (none)) = some (r1, r2) := by first | (rw [hy481]; with_reducible exact H) | (have H2_ := (Option.bind_some _ _).symm.trans H; rw [hy481]; with_reducible exact H2_) | (have H2_ := (Option.bind_some _ _).symm.trans H; with_reducible exact H2_) | with_reducible exact H | (rw [hy481]; exact H) | exact H
   have Ny481 := Aside0.mk hy481
   clear hy481
   by_cases c7 : y481.length + l2.length < 4398046511104
   ·rw [if_pos c7] at H
    have LMc7 := Aside0.mk c7
    clear c7
    obtain ⟨y484, hy484⟩ : ∃ y_ : List (S34), y_ = (y481 ++ l2) := ⟨_, rfl⟩
    replace H : ((smockingref01_ordered.f k y484).bind fun t487 => (some (t487, 0))) = some (r1, r2) := by first | (rw [hy484]; with_reducible exact H) | (have H2_ := (Option.bind_some _ _).symm.trans H; rw [hy484]; with_reducible exact H2_) | (have H2_ := (Option.bind_some _ _).symm.trans H; with_reducible exact H2_) | with_reducible exact H | (rw [hy484]; exact H) | exact H
    have Ny484 := Aside0.mk hy484
    clear hy484
    replace H := Option.bind_eq_some_iff.mp H
    obtain ⟨t487, A80, H⟩ := H
    replace H : (some (t487, 0)) = some (r1, r2) := H
    have A8 := Aside0.mk A80
    clear A80
    simp only [Option.some.injEq, Prod.mk.injEq] at H
    obtain ⟨rfl, rfl⟩ := H
    go_enter Tryd.func24, Tryd.ntmps24
    go_wp2_with (first | ((with_reducible refine gate_callee (f := 49) rfl ?_); refine goesL_ (some 12) rfl rfl Tryd.func49 (by kernel_rfl) rfl #[.string a0, .slice A1 l1.length c1, .slice A2 l2.length c2] rfl (by (try simp only [List.map_toArray, List.map_cons, List.map_nil]); first | done | rfl | (simp only [List.length_drop, List.length_take]; rfl)) ?_; (with_reducible refine (smockingref01_together.calls k a0 _ _ l1 _ _ l2 t477 _ ?side1 ?side2 ?side3 ?side4 A4.out).mono ?_); (case side1 => repeat (first | exact HR1.out | (with_reducible refine Kd.C_alloc ?_ _) | (with_reducible refine Kd.C_drewN ?_ _) | (with_reducible refine Kd.C_drew ?_))); (case side2 => exact HC1.out); (case side3 => repeat (first | exact HR2.out | (with_reducible refine Kd.C_alloc ?_ _) | (with_reducible refine Kd.C_drewN ?_ _) | (with_reducible refine Kd.C_drew ?_))); (case side4 => exact HC2.out); rintro e w9 ⟨rfl, hb⟩; refine ⟨_, rfl, ?_⟩; have n0_ := Aside0.mk (below_step (by repeat (first | (with_reducible first | exact HB.out | apply below_alloc | apply pw_below_drewN | apply below_drew1) | exact HB.out)) hb); clear HB; have HB := n0_; clear n0_; (try clear hb); (try clear hb2); (try clear hk); (try clear hi)) | ((with_reducible refine gate_dst (N := 16) rfl ?_); refine Kd.R_lit k34 _ 34 ?hg (N := 16) ?hd (xs := ([] : List (S34))) (inner := []) (ok := fun _ => True) (okp := fun _ => True) ?hr ?hp (fun _ hk => hk) trivial (Below.refl _ _) (Nat.le_refl _) (by simp) ?_; (case hd => rfl); (case hg => rfl); (case hr => first | (go_simp; done) | (go_simp; rfl)); (case hp => exact (Reps.none _ _)); intro v479 w10 ho11 hb hg_ hnew_; clear hg_ hnew_; (first | rw [← Ny478.out] at ho11 | (simp only [Int.reduceToNat] at ho11; rw [← Ny478.out] at ho11)); have n0_ := Aside0.mk (Kd.R_lower ho11 (below_size (by repeat (first | (with_reducible first | exact HB.out | apply below_alloc | apply pw_below_drewN | apply below_drew1) | exact HB.out)))); have n1_ := Aside0.mk (below_step (by repeat (first | (with_reducible first | exact HB.out | apply below_alloc | apply pw_below_drewN | apply below_drew1) | exact HB.out)) hb); clear HB; have HO480 := n0_; have HB := n1_; clear n0_ n1_; clear hb ho11) | ((with_reducible refine gate_builtin (b := .append) (xs := #[.tmp 16, .tmp 17]) rfl ?_); at_builtin; refine Kd.R_append_rows k34 (w0 := w) w.heap.size rfl (.tmp 16) (.tmp 17) 22 34 (.agg #[(.int .i64 0), (.int .i64 0), (.string ⟨#[]⟩)]) 32 rfl Tryd.underlying22 info34 rfl (by decide) (by omega) v479 y478 l1 _ _ _ (fun _ => True) (fun _ => False) rfl rfl ?aO ?aR (fun _ _ h => h) (fun _ h => h.elim) ?aF ?aB ?aS ?aL ?_; (case aR => repeat (first | exact (Kd.C_below HR1.out HB.out) | (with_reducible refine Kd.C_alloc ?_ _) | (with_reducible refine Kd.C_drewN ?_ _) | (with_reducible refine Kd.C_drew ?_))); (case aB => exact (by repeat (first | (with_reducible first | exact HB.out | apply below_alloc | apply pw_below_drewN | apply below_drew1) | exact HB.out))); (case aF => exact (fun _ _ => trivial)); (case aO => exact (by (with_reducible repeat (first | apply Kd.R_alloc | apply Kd.R_drewN | apply Kd.R_drew)); exact HO480.out)); (case aS => exact (below_size (by repeat (first | (with_reducible first | exact HB.out | apply below_alloc | apply pw_below_drewN | apply below_drew1) | exact HB.out)))); (case aL => have := LMc6.out; omega); intro v482 w12 ho hb hg hat; rw [← Ny481.out] at ho; have n0_ := Aside0.mk (hb); have n1_ := Aside0.mk (ho); clear HB; clear HO480; have HB := n0_; have HO483 := n1_; clear n0_ n1_; clear ho hb hg hat) | ((with_reducible refine gate_builtin (b := .append) (xs := #[.tmp 18, .tmp 19]) rfl ?_); at_builtin; refine Kd.R_append_rows k34 (w0 := w) w.heap.size rfl (.tmp 18) (.tmp 19) 22 34 (.agg #[(.int .i64 0), (.int .i64 0), (.string ⟨#[]⟩)]) 32 rfl Tryd.underlying22 info34 rfl (by decide) (by omega) v482 y481 l2 _ _ _ (fun _ => True) (fun _ => False) rfl rfl ?aO ?aR (fun _ _ h => h) (fun _ h => h.elim) ?aF ?aB ?aS ?aL ?_; (case aR => repeat (first | exact (Kd.C_below HR2.out HB.out) | (with_reducible refine Kd.C_alloc ?_ _) | (with_reducible refine Kd.C_drewN ?_ _) | (with_reducible refine Kd.C_drew ?_))); (case aB => exact (by repeat (first | (with_reducible first | exact HB.out | apply below_alloc | apply pw_below_drewN | apply below_drew1) | exact HB.out))); (case aF => exact (fun _ _ => trivial)); (case aO => exact (by (with_reducible repeat (first | apply Kd.R_alloc | apply Kd.R_drewN | apply Kd.R_drew)); exact HO483.out)); (case aS => exact (below_size (by repeat (first | (with_reducible first | exact HB.out | apply below_alloc | apply pw_below_drewN | apply below_drew1) | exact HB.out)))); (case aL => have := LMc7.out; omega); intro v485 w13 ho hb hg hat; rw [← Ny484.out] at ho; have n0_ := Aside0.mk (hb); have n1_ := Aside0.mk (ho); clear HB; clear HO483; have HB := n0_; have HO486 := n1_; clear n0_ n1_; clear ho hb hg hat; obtain ⟨Ao14, co14, eo14⟩ := Kd.R_slice HO486.out; subst eo14) | ((with_reducible refine gate_callee (f := 50) rfl ?_); refine goesL_ (some 21) rfl rfl Tryd.func50 (by kernel_rfl) rfl #[.slice Ao14 y484.length co14] rfl (by (try simp only [List.map_toArray, List.map_cons, List.map_nil]); first | done | rfl | (simp only [List.length_drop, List.length_take]; rfl)) ?_; (with_reducible refine (smockingref01_ordered.calls k _ _ y484 t487 _ ?side1 ?side2 A8.out).mono ?_); (case side1 => repeat (first | exact (Kd.R_reads' HO486.out).2.2 | (with_reducible refine Kd.C_alloc ?_ _) | (with_reducible refine Kd.C_drewN ?_ _) | (with_reducible refine Kd.C_drew ?_))); (case side2 => exact (Kd.R_reads' HO486.out).2.1); rintro e w15 ⟨v488, rfl, ho0, hb⟩; refine ⟨_, rfl, ?_⟩; have n0_ := Aside0.mk (Kd.R_elder' (by (with_reducible repeat (first | apply Kd.R_alloc | apply Kd.R_drewN | apply Kd.R_drew)); exact HO486.out) (Kd.R_base ho0) hb); have n1_ := Aside0.mk (Kd.R_lower (Kd.R_new' ho0 (Kd.R_lt (by (with_reducible repeat (first | apply Kd.R_alloc | apply Kd.R_drewN | apply Kd.R_drew)); exact HO486.out))) (below_size (by repeat (first | (with_reducible first | exact HB.out | apply below_alloc | apply pw_below_drewN | apply below_drew1) | exact HB.out)))); have n2_ := Aside0.mk (below_step (by repeat (first | (with_reducible first | exact HB.out | apply below_alloc | apply pw_below_drewN | apply below_drew1) | exact HB.out)) hb); clear HO486; clear HB; have HO486 := n0_; have HO489 := n1_; have HB := n2_; clear n0_ n1_ n2_; (try clear hb); (try clear hb2); (try clear hk); (try clear hi); (try clear ho0)))
    go_ret2
    exact ⟨_, by first | rfl | (simp [errW_none, errW_some] <;> rfl) | (simp [*, errW_none, errW_some] <;> rfl), by (with_reducible repeat (first | apply Kd.R_alloc | apply Kd.R_drewN | apply Kd.R_drew)); exact Kd.R_mono HO489.out (fun _ hk => trivial), by repeat (first | (with_reducible first | exact HB.out | apply below_alloc | apply pw_below_drewN | apply below_drew1) | exact HB.out)⟩
   ·rw [if_neg c7] at H
    exact absurd H (by simp)
  ·rw [if_neg c6] at H
   exact absurd H (by simp)
 ·rw [if_neg c5] at H
  have c5b0 : (t477 == 0) = false := beq_eq_false_iff_ne.mpr c5
  have c5b1 : (t477 != 0) = true := bne_iff_ne.mpr c5
  simp only [Option.some.injEq, Prod.mk.injEq] at H
  obtain ⟨rfl, rfl⟩ := H
  go_enter Tryd.func24, Tryd.ntmps24
  go_wp2_with (first | ((with_reducible refine gate_callee (f := 49) rfl ?_); refine goesL_ (some 12) rfl rfl Tryd.func49 (by kernel_rfl) rfl #[.string a0, .slice A1 l1.length c1, .slice A2 l2.length c2] rfl (by (try simp only [List.map_toArray, List.map_cons, List.map_nil]); first | done | rfl | (simp only [List.length_drop, List.length_take]; rfl)) ?_; (with_reducible refine (smockingref01_together.calls k a0 _ _ l1 _ _ l2 t477 _ ?side1 ?side2 ?side3 ?side4 A4.out).mono ?_); (case side1 => repeat (first | exact HR1.out | (with_reducible refine Kd.C_alloc ?_ _) | (with_reducible refine Kd.C_drewN ?_ _) | (with_reducible refine Kd.C_drew ?_))); (case side2 => exact HC1.out); (case side3 => repeat (first | exact HR2.out | (with_reducible refine Kd.C_alloc ?_ _) | (with_reducible refine Kd.C_drewN ?_ _) | (with_reducible refine Kd.C_drew ?_))); (case side4 => exact HC2.out); rintro e w16 ⟨rfl, hb⟩; refine ⟨_, rfl, ?_⟩; have n0_ := Aside0.mk (below_step (by repeat (first | (with_reducible first | exact HB.out | apply below_alloc | apply pw_below_drewN | apply below_drew1) | exact HB.out)) hb); clear HB; have HB := n0_; clear n0_; (try clear hb); (try clear hb2); (try clear hk); (try clear hi)))
  go_ret2
  exact ⟨_, by first | rfl | (simp [errW_none, errW_some] <;> rfl) | (simp [*, errW_none, errW_some] <;> rfl), by first | exact Kd.R_nil _ _ _ _ _ | exact Kd.N_nil _ _ _ _ _ | exact Kd.V_nil _ _ _ _ _ | exact Kd.Q_nil _ _ _ _ _ | exact Kd.S_nil _ _ _ _ _, by repeat (first | (with_reducible first | exact HB.out | apply below_alloc | apply pw_below_drewN | apply below_drew1) | exact HB.out)⟩

end Go.Proofs.YthimblhfjfngiaaDoor.PText

