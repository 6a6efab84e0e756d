/- PastCommits holds: for all steps and every number the statement answers true. Part 6 of 20. -/
import Derived.Test.YthimblhfjfngiaaGreatBCommitsE
import Derived.Lib.Walk
import Derived.Sort.Grow
import Derived.Lib.SliceRun
import Derived.Lib.SlicesCompact
import Derived.Shelf.SlSortCmp.WholeK
namespace Go.Proofs.YthimblhfjfngiaaGreat.PText
open Go.RowKit Go.Proofs.YthimblhfjfngiaaGreatW.PrintWords Go.Proofs.YthimblhfjfngiaaGreatW.PrintLast Go.Proofs.YthimblhfjfngiaaGreatW.PrintMore
attribute [local go_sem] max2_int min2_int max_two min_two max_three min_three max_four min_four   -- for this text's walks alone
set_option linter.unusedVariables false
set_option linter.unusedSimpArgs false

attribute [local go_sem high] eqA91
def past_meet.f (a0_0 : Int) (a0_1 : Int) (a0_2 : ByteArray) (a1_0 : Int) (a1_1 : Int) (a1_2 : ByteArray) : Option (Bool) := if (!(a0_0 == a1_0) || (!(a0_1 == a1_1) || (!(a0_2.toList == a1_2.toList)))) = true then (if a0_0 ≤ a1_1 then (some (decide (a1_0 ≤ a0_1))) else (some false)) else (some false)
set_option maxHeartbeats 8000000 in
set_option maxRecDepth 100000 in
theorem past_meet.calls (a0_0 : Int) (a0_1 : Int) (a0_2 : ByteArray) (a1_0 : Int) (a1_1 : Int) (a1_2 : ByteArray) (r : Bool) (w : World) (h : past_meet.f a0_0 a0_1 a0_2 a1_0 a1_1 a1_2 = some r) :
  Calls Tryz.prog 60 #[.agg #[.int .i64 a0_0, .int .i64 a0_1, .string a0_2], .agg #[.int .i64 a1_0, .int .i64 a1_1, .string a1_2]] w fun e w' => e = .returned (.bool r) ∧ Below w.heap.size w w' := by
 have hu91 := Tryz.underlying91
 have HB := Aside0.mk (Below.refl w.heap.size w)
 have H : (if (!(a0_0 == a1_0) || (!(a0_1 == a1_1) || (!(a0_2.toList == a1_2.toList)))) = true then (if a0_0 ≤ a1_1 then (some (decide (a1_0 ≤ a0_1))) else (some false)) else (some false)) = some r := h
 clear h
 by_cases c3 : (!(a0_0 == a1_0) || (!(a0_1 == a1_1) || (!(a0_2.toList == a1_2.toList)))) = true
 ·rw [if_pos c3] at H
  have c3b0 : (!(a0_0 == a1_0) || (!(a0_1 == a1_1) || (!(a0_2.toList == a1_2.toList)))) = true := c3
  clear c3
  by_cases c4 : a0_0 ≤ a1_1
  ·rw [if_pos c4] at H
   have c4b0 : decide (a0_0 ≤ a1_1) = true := decide_eq_true c4
   clear c4
   obtain rfl := Option.some.inj H
   go_enter Tryz.func60, Tryz.ntmps60
   go_wp2_with (first | ((with_reducible refine gate_dst (N := 2) rfl ?_); refine box_event ?hg (N := 2) ?hd (cs := #[.int .i64 a0_0, .int .i64 a0_1, .string a0_2]) (t := 91) ?hr ?_; (case hd => rfl); (case hg => rfl); (case hr => first | (go_simp; done) | (go_simp; rfl)); intro gb525 hg w5 hbox hb; have n0_ := Aside0.mk (below_step (by repeat (with_reducible first | exact HB.out | apply below_alloc | apply pw_below_drewN | apply below_drew1)) hb); have n1_ := Aside0.mk (hbox); have n2_ := Aside0.mk ((by rw [hg]; exact (below_size (by repeat (with_reducible first | exact HB.out | apply below_alloc | apply pw_below_drewN | apply below_drew1))) : w.heap.size ≤ gb525)); have n3_ := Aside0.mk ((by rw [hg]; exact (below_size (by repeat (with_reducible first | exact HB.out | apply below_alloc | apply pw_below_drewN | apply below_drew1))) : w.heap.size ≤ gb525)); clear HB; have HB := n0_; have BK525 := n1_; have GW525 := n2_; have GE525 := n3_; clear n0_ n1_ n2_ n3_; clear hb hbox hg) | ((with_reducible refine gate_dst (N := 3) rfl ?_); refine box_event ?hg (N := 3) ?hd (cs := #[.int .i64 a1_0, .int .i64 a1_1, .string a1_2]) (t := 91) ?hr ?_; (case hd => rfl); (case hg => rfl); (case hr => first | (go_simp; done) | (go_simp; rfl)); intro gb526 hg w6 hbox hb; have n0_ := Aside0.mk (blk_below (g := gb525) (o := .cells #[.int .i64 a0_0, .int .i64 a0_1, .string a0_2] 91 (0, 0)) (by (with_reducible repeat (first | refine blk_drewN ?_ _ | refine blk_drew ?_ | refine blk_alloc ?_ _)); exact BK525.out) hb); have n1_ := Aside0.mk (below_step (by repeat (with_reducible first | exact HB.out | apply below_alloc | apply pw_below_drewN | apply below_drew1 | refine below_set ?_ GE525.out)) hb); have n2_ := Aside0.mk (hbox); have n3_ := Aside0.mk ((by rw [hg]; exact (below_size (by repeat (with_reducible first | exact HB.out | apply below_alloc | apply pw_below_drewN | apply below_drew1 | refine below_set ?_ GE525.out))) : w.heap.size ≤ gb526)); have n4_ := Aside0.mk ((by rw [hg]; exact (below_size (by repeat (with_reducible first | exact HB.out | apply below_alloc | apply pw_below_drewN | apply below_drew1 | refine below_set ?_ GE525.out))) : w.heap.size ≤ gb526)); have n5_ := Aside0.mk ((by rw [hg]; exact Nat.ne_of_lt (blk_lt (g := gb525) (o := .cells #[.int .i64 a0_0, .int .i64 a0_1, .string a0_2] 91 (0, 0)) (by (with_reducible repeat (first | refine blk_drewN ?_ _ | refine blk_drew ?_ | refine blk_alloc ?_ _)); exact BK525.out)) : gb525 ≠ gb526)); have n6_ := Aside0.mk ((by rw [hg]; exact Nat.ne_of_gt (blk_lt (g := gb525) (o := .cells #[.int .i64 a0_0, .int .i64 a0_1, .string a0_2] 91 (0, 0)) (by (with_reducible repeat (first | refine blk_drewN ?_ _ | refine blk_drew ?_ | refine blk_alloc ?_ _)); exact BK525.out)) : gb526 ≠ gb525)); clear BK525; clear HB; have BK525 := n0_; have HB := n1_; have BK526 := n2_; have GW526 := n3_; have GE526 := n4_; have NB525_526 := n5_; have NB526_525 := n6_; clear n0_ n1_ n2_ n3_ n4_ n5_ n6_; clear hb hbox hg; have hnb7 := NB525_526.out; have hnc7 := NB526_525.out; have hcz8_0 : w6.cell? ⟨gb525, 0, none⟩ = some (.int .i64 a0_0) := (blk_cell BK525.out 0).trans rfl; have hcz8_1 : w6.cell? ⟨gb525, 1, none⟩ = some (.int .i64 a0_1) := (blk_cell BK525.out 1).trans rfl; have hcz8_2 : w6.cell? ⟨gb525, 2, none⟩ = some (.string a0_2) := (blk_cell BK525.out 2).trans rfl; have hfz8_0 := blk_frozen BK525.out 0; have hfz8_1 := blk_frozen BK525.out 1; have hfz8_2 := blk_frozen BK525.out 2; have hcz9_0 : w6.cell? ⟨gb526, 0, none⟩ = some (.int .i64 a1_0) := (blk_cell BK526.out 0).trans rfl; have hcz9_1 : w6.cell? ⟨gb526, 1, none⟩ = some (.int .i64 a1_1) := (blk_cell BK526.out 1).trans rfl; have hcz9_2 : w6.cell? ⟨gb526, 2, none⟩ = some (.string a1_2) := (blk_cell BK526.out 2).trans rfl; have hfz9_0 := blk_frozen BK526.out 0; have hfz9_1 := blk_frozen BK526.out 1; have hfz9_2 := blk_frozen BK526.out 2))
   go_ret
   exact ⟨by first | rfl | (simp [errW_none, errW_some] <;> rfl) | (simp [*, errW_none, errW_some] <;> rfl), by repeat (with_reducible first | exact HB.out | apply below_alloc | apply pw_below_drewN | apply below_drew1 | refine below_set ?_ GE525.out | refine below_set ?_ GE526.out)⟩
  ·rw [if_neg c4] at H
   have c4b0 : decide (a0_0 ≤ a1_1) = false := decide_eq_false c4
   clear c4
   obtain rfl := Option.some.inj H
   go_enter Tryz.func60, Tryz.ntmps60
   go_wp2_with (first | ((with_reducible refine gate_dst (N := 2) rfl ?_); refine box_event ?hg (N := 2) ?hd (cs := #[.int .i64 a0_0, .int .i64 a0_1, .string a0_2]) (t := 91) ?hr ?_; (case hd => rfl); (case hg => rfl); (case hr => first | (go_simp; done) | (go_simp; rfl)); intro gb525 hg w10 hbox hb; have n0_ := Aside0.mk (below_step (by repeat (with_reducible first | exact HB.out | apply below_alloc | apply pw_below_drewN | apply below_drew1)) hb); have n1_ := Aside0.mk (hbox); have n2_ := Aside0.mk ((by rw [hg]; exact (below_size (by repeat (with_reducible first | exact HB.out | apply below_alloc | apply pw_below_drewN | apply below_drew1))) : w.heap.size ≤ gb525)); have n3_ := Aside0.mk ((by rw [hg]; exact (below_size (by repeat (with_reducible first | exact HB.out | apply below_alloc | apply pw_below_drewN | apply below_drew1))) : w.heap.size ≤ gb525)); clear HB; have HB := n0_; have BK525 := n1_; have GW525 := n2_; have GE525 := n3_; clear n0_ n1_ n2_ n3_; clear hb hbox hg) | ((with_reducible refine gate_dst (N := 3) rfl ?_); refine box_event ?hg (N := 3) ?hd (cs := #[.int .i64 a1_0, .int .i64 a1_1, .string a1_2]) (t := 91) ?hr ?_; (case hd => rfl); (case hg => rfl); (case hr => first | (go_simp; done) | (go_simp; rfl)); intro gb526 hg w11 hbox hb; have n0_ := Aside0.mk (blk_below (g := gb525) (o := .cells #[.int .i64 a0_0, .int .i64 a0_1, .string a0_2] 91 (0, 0)) (by (with_reducible repeat (first | refine blk_drewN ?_ _ | refine blk_drew ?_ | refine blk_alloc ?_ _)); exact BK525.out) hb); have n1_ := Aside0.mk (below_step (by repeat (with_reducible first | exact HB.out | apply below_alloc | apply pw_below_drewN | apply below_drew1 | refine below_set ?_ GE525.out)) hb); have n2_ := Aside0.mk (hbox); have n3_ := Aside0.mk ((by rw [hg]; exact (below_size (by repeat (with_reducible first | exact HB.out | apply below_alloc | apply pw_below_drewN | apply below_drew1 | refine below_set ?_ GE525.out))) : w.heap.size ≤ gb526)); have n4_ := Aside0.mk ((by rw [hg]; exact (below_size (by repeat (with_reducible first | exact HB.out | apply below_alloc | apply pw_below_drewN | apply below_drew1 | refine below_set ?_ GE525.out))) : w.heap.size ≤ gb526)); have n5_ := Aside0.mk ((by rw [hg]; exact Nat.ne_of_lt (blk_lt (g := gb525) (o := .cells #[.int .i64 a0_0, .int .i64 a0_1, .string a0_2] 91 (0, 0)) (by (with_reducible repeat (first | refine blk_drewN ?_ _ | refine blk_drew ?_ | refine blk_alloc ?_ _)); exact BK525.out)) : gb525 ≠ gb526)); have n6_ := Aside0.mk ((by rw [hg]; exact Nat.ne_of_gt (blk_lt (g := gb525) (o := .cells #[.int .i64 a0_0, .int .i64 a0_1, .string a0_2] 91 (0, 0)) (by (with_reducible repeat (first | refine blk_drewN ?_ _ | refine blk_drew ?_ | refine blk_alloc ?_ _)); exact BK525.out)) : gb526 ≠ gb525)); clear BK525; clear HB; have BK525 := n0_; have HB := n1_; have BK526 := n2_; have GW526 := n3_; have GE526 := n4_; have NB525_526 := n5_; have NB526_525 := n6_; clear n0_ n1_ n2_ n3_ n4_ n5_ n6_; clear hb hbox hg; have hnb12 := NB525_526.out; have hnc12 := NB526_525.out; have hcz13_0 : w11.cell? ⟨gb525, 0, none⟩ = some (.int .i64 a0_0) := (blk_cell BK525.out 0).trans rfl; have hcz13_1 : w11.cell? ⟨gb525, 1, none⟩ = some (.int .i64 a0_1) := (blk_cell BK525.out 1).trans rfl; have hcz13_2 : w11.cell? ⟨gb525, 2, none⟩ = some (.string a0_2) := (blk_cell BK525.out 2).trans rfl; have hfz13_0 := blk_frozen BK525.out 0; have hfz13_1 := blk_frozen BK525.out 1; have hfz13_2 := blk_frozen BK525.out 2; have hcz14_0 : w11.cell? ⟨gb526, 0, none⟩ = some (.int .i64 a1_0) := (blk_cell BK526.out 0).trans rfl; have hcz14_1 : w11.cell? ⟨gb526, 1, none⟩ = some (.int .i64 a1_1) := (blk_cell BK526.out 1).trans rfl; have hcz14_2 : w11.cell? ⟨gb526, 2, none⟩ = some (.string a1_2) := (blk_cell BK526.out 2).trans rfl; have hfz14_0 := blk_frozen BK526.out 0; have hfz14_1 := blk_frozen BK526.out 1; have hfz14_2 := blk_frozen BK526.out 2))
   go_ret
   exact ⟨by first | rfl | (simp [errW_none, errW_some] <;> rfl) | (simp [*, errW_none, errW_some] <;> rfl), by repeat (with_reducible first | exact HB.out | apply below_alloc | apply pw_below_drewN | apply below_drew1 | refine below_set ?_ GE525.out | refine below_set ?_ GE526.out)⟩
 ·rw [if_neg c3] at H
  have c3b0 : (!(a0_0 == a1_0) || (!(a0_1 == a1_1) || (!(a0_2.toList == a1_2.toList)))) = false := by simpa using c3
  clear c3
  obtain rfl := Option.some.inj H
  go_enter Tryz.func60, Tryz.ntmps60
  go_wp2_with (first | ((with_reducible refine gate_dst (N := 2) rfl ?_); refine box_event ?hg (N := 2) ?hd (cs := #[.int .i64 a0_0, .int .i64 a0_1, .string a0_2]) (t := 91) ?hr ?_; (case hd => rfl); (case hg => rfl); (case hr => first | (go_simp; done) | (go_simp; rfl)); intro gb525 hg w15 hbox hb; have n0_ := Aside0.mk (below_step (by repeat (with_reducible first | exact HB.out | apply below_alloc | apply pw_below_drewN | apply below_drew1)) hb); have n1_ := Aside0.mk (hbox); have n2_ := Aside0.mk ((by rw [hg]; exact (below_size (by repeat (with_reducible first | exact HB.out | apply below_alloc | apply pw_below_drewN | apply below_drew1))) : w.heap.size ≤ gb525)); have n3_ := Aside0.mk ((by rw [hg]; exact (below_size (by repeat (with_reducible first | exact HB.out | apply below_alloc | apply pw_below_drewN | apply below_drew1))) : w.heap.size ≤ gb525)); clear HB; have HB := n0_; have BK525 := n1_; have GW525 := n2_; have GE525 := n3_; clear n0_ n1_ n2_ n3_; clear hb hbox hg) | ((with_reducible refine gate_dst (N := 3) rfl ?_); refine box_event ?hg (N := 3) ?hd (cs := #[.int .i64 a1_0, .int .i64 a1_1, .string a1_2]) (t := 91) ?hr ?_; (case hd => rfl); (case hg => rfl); (case hr => first | (go_simp; done) | (go_simp; rfl)); intro gb526 hg w16 hbox hb; have n0_ := Aside0.mk (blk_below (g := gb525) (o := .cells #[.int .i64 a0_0, .int .i64 a0_1, .string a0_2] 91 (0, 0)) (by (with_reducible repeat (first | refine blk_drewN ?_ _ | refine blk_drew ?_ | refine blk_alloc ?_ _)); exact BK525.out) hb); have n1_ := Aside0.mk (below_step (by repeat (with_reducible first | exact HB.out | apply below_alloc | apply pw_below_drewN | apply below_drew1 | refine below_set ?_ GE525.out)) hb); have n2_ := Aside0.mk (hbox); have n3_ := Aside0.mk ((by rw [hg]; exact (below_size (by repeat (with_reducible first | exact HB.out | apply below_alloc | apply pw_below_drewN | apply below_drew1 | refine below_set ?_ GE525.out))) : w.heap.size ≤ gb526)); have n4_ := Aside0.mk ((by rw [hg]; exact (below_size (by repeat (with_reducible first | exact HB.out | apply below_alloc | apply pw_below_drewN | apply below_drew1 | refine below_set ?_ GE525.out))) : w.heap.size ≤ gb526)); have n5_ := Aside0.mk ((by rw [hg]; exact Nat.ne_of_lt (blk_lt (g := gb525) (o := .cells #[.int .i64 a0_0, .int .i64 a0_1, .string a0_2] 91 (0, 0)) (by (with_reducible repeat (first | refine blk_drewN ?_ _ | refine blk_drew ?_ | refine blk_alloc ?_ _)); exact BK525.out)) : gb525 ≠ gb526)); have n6_ := Aside0.mk ((by rw [hg]; exact Nat.ne_of_gt (blk_lt (g := gb525) (o := .cells #[.int .i64 a0_0, .int .i64 a0_1, .string a0_2] 91 (0, 0)) (by (with_reducible repeat (first | refine blk_drewN ?_ _ | refine blk_drew ?_ | refine blk_alloc ?_ _)); exact BK525.out)) : gb526 ≠ gb525)); clear BK525; clear HB; have BK525 := n0_; have HB := n1_; have BK526 := n2_; have GW526 := n3_; have GE526 := n4_; have NB525_526 := n5_; have NB526_525 := n6_; clear n0_ n1_ n2_ n3_ n4_ n5_ n6_; clear hb hbox hg; have hnb17 := NB525_526.out; have hnc17 := NB526_525.out; have hcz18_0 : w16.cell? ⟨gb525, 0, none⟩ = some (.int .i64 a0_0) := (blk_cell BK525.out 0).trans rfl; have hcz18_1 : w16.cell? ⟨gb525, 1, none⟩ = some (.int .i64 a0_1) := (blk_cell BK525.out 1).trans rfl; have hcz18_2 : w16.cell? ⟨gb525, 2, none⟩ = some (.string a0_2) := (blk_cell BK525.out 2).trans rfl; have hfz18_0 := blk_frozen BK525.out 0; have hfz18_1 := blk_frozen BK525.out 1; have hfz18_2 := blk_frozen BK525.out 2; have hcz19_0 : w16.cell? ⟨gb526, 0, none⟩ = some (.int .i64 a1_0) := (blk_cell BK526.out 0).trans rfl; have hcz19_1 : w16.cell? ⟨gb526, 1, none⟩ = some (.int .i64 a1_1) := (blk_cell BK526.out 1).trans rfl; have hcz19_2 : w16.cell? ⟨gb526, 2, none⟩ = some (.string a1_2) := (blk_cell BK526.out 2).trans rfl; have hfz19_0 := blk_frozen BK526.out 0; have hfz19_1 := blk_frozen BK526.out 1; have hfz19_2 := blk_frozen BK526.out 2))
  go_ret
  exact ⟨by first | rfl | (simp [errW_none, errW_some] <;> rfl) | (simp [*, errW_none, errW_some] <;> rfl), by repeat (with_reducible first | exact HB.out | apply below_alloc | apply pw_below_drewN | apply below_drew1 | refine below_set ?_ GE525.out | refine below_set ?_ GE526.out)⟩

end Go.Proofs.YthimblhfjfngiaaGreat.PText

namespace Go.Proofs.YthimblhfjfngiaaGreat.PText
open Go.RowKit Go.Proofs.YthimblhfjfngiaaGreatW.PrintWords Go.Proofs.YthimblhfjfngiaaGreatW.PrintLast Go.Proofs.YthimblhfjfngiaaGreatW.PrintMore
attribute [local go_sem] max2_int min2_int max_two min_two max_three min_three max_four min_four   -- for this text's walks alone
set_option linter.unusedVariables false
set_option linter.unusedSimpArgs false

attribute [local go_sem high] eqA91
def smockingref01_ordered.T9 : Bool × List (List Nat × List Nat) := (true, [([], []), ([0], [0]), ([1], [1]), ([1], [1]), ([2, 3, 1], [1, 2, 3]), ([4, 1], [1, 4]), ([1], [1]), ([1], [1]), ([6, 7, 1], [1, 6, 7]), ([8, 1], [1, 8]), ([5, 9, 1], [1, 5, 9]), ([1, 10], [1, 10]), ([11, 1, 0, 1, 2, 3, 4, 5, 6, 7, 8, 9, 10, 11], [0, 11])])
def smockingref01_ordered.B9 : List Nat := [0, 1, 3, 3, 15, 31, 3, 3, 195, 451, 1023, 2047, 4095]
theorem smockingref01_ordered.tab9 : rtab .any (opsOf Tryz.f112 9) = smockingref01_ordered.T9 := by kernel_rfl
theorem smockingref01_ordered.bits9 : waitsOk smockingref01_ordered.T9.2 smockingref01_ordered.B9 = true := by kernel_rfl
end Go.Proofs.YthimblhfjfngiaaGreat.PText

namespace Go.Proofs.YthimblhfjfngiaaGreat.PText
open Go.RowKit Go.Proofs.YthimblhfjfngiaaGreatW.PrintWords Go.Proofs.YthimblhfjfngiaaGreatW.PrintLast Go.Proofs.YthimblhfjfngiaaGreatW.PrintMore
attribute [local go_sem] max2_int min2_int max_two min_two max_three min_three max_four min_four   -- for this text's walks alone
set_option linter.unusedVariables false
set_option linter.unusedSimpArgs false

def smockingref01_made.T11 : Bool × List (List Nat × List Nat) := (true, [([], []), ([], []), ([], []), ([2], [2]), ([], []), ([], []), ([], []), ([5, 6], [5, 6]), ([7], [7]), ([8], [8]), ([], []), ([], []), ([10, 11], [10, 11]), ([12], [12]), ([13], [13]), ([4, 9, 14], [4, 9, 14]), ([1, 3, 15], [1, 3, 15]), ([16], [16]), ([0, 17], [0, 17]), ([18, 18, 0, 1, 2, 3, 4, 5, 6, 7, 8, 9, 10, 11, 12, 13, 14, 15, 16, 17, 18], [0, 18])])
def smockingref01_made.B11 : List Nat := [0, 0, 0, 4, 0, 0, 0, 96, 224, 480, 0, 0, 3072, 7168, 15360, 32752, 65534, 131070, 262143, 524287]
theorem smockingref01_made.tab11 : rtab .any (opsOf Tryz.f81 11) = smockingref01_made.T11 := by kernel_rfl
theorem smockingref01_made.bits11 : waitsOk smockingref01_made.T11.2 smockingref01_made.B11 = true := by kernel_rfl
end Go.Proofs.YthimblhfjfngiaaGreat.PText

namespace Go.Proofs.YthimblhfjfngiaaGreat.PText
open Go.RowKit Go.Proofs.YthimblhfjfngiaaGreatW.PrintWords Go.Proofs.YthimblhfjfngiaaGreatW.PrintLast Go.Proofs.YthimblhfjfngiaaGreatW.PrintMore
attribute [local go_sem] max2_int min2_int max_two min_two max_three min_three max_four min_four   -- for this text's walks alone
set_option linter.unusedVariables false
set_option linter.unusedSimpArgs false

def rf0_EqInts.l0 : Nat → List Int → List Int → Int → Option (Bool)
 | 0, _, _, _ => none
 | k + 1, x0, x1, x5 => if x5 < (x0.length : Int) then (if 0 ≤ x5 then (if x5 < (x1.length : Int) then (if (rd x0 x5) = (rd x1 x5) then (rf0_EqInts.l0 k x0 x1 (wrap64 (x5 + 1))) else (some false)) else (none)) else (none)) else (some true)
def rf0_EqInts.f (k : Nat) (l0 : List Int) (l1 : List Int) : Option (Bool) := if (l0.length : Int) = (l1.length : Int) then (rf0_EqInts.l0 k l0 l1 0) else (some false)
set_option maxHeartbeats 8000000 in
set_option maxRecDepth 100000 in
theorem rf0_EqInts.calls (k : Nat) (A0 : Option Addr) (c0 : Nat) (l0 : List Int) (A1 : Option Addr) (c1 : Nat) (l1 : List Int) (r : Bool) (w : World) (hr0 : Kd.C (Kd.int .i64) w A0 l0.length l0) (hc0 : l0.length ≤ c0) (hr1 : Kd.C (Kd.int .i64) w A1 l1.length l1) (hc1 : l1.length ≤ c1) (h : rf0_EqInts.f k l0 l1 = some r) :
  Calls Tryz.prog 13 #[.slice A0 l0.length c0, .slice A1 l1.length c1] w fun e w' => e = .returned (.bool r) ∧ Drawn0 w w' := by
 have HR0 := Aside0.mk hr0
 have HC0 := Aside0.mk hc0
 clear hr0 hc0
 have HR1 := Aside0.mk hr1
 have HC1 := Aside0.mk hc1
 clear hr1 hc1
 have H : (if (l0.length : Int) = (l1.length : Int) then (rf0_EqInts.l0 k l0 l1 0) else (some false)) = some r := h
 clear h
 by_cases c3 : (l0.length : Int) = (l1.length : Int)
 ·rw [if_pos c3] at H
  have c3b0 : ((l0.length : Int) == (l1.length : Int)) = true := beq_iff_eq.mpr c3
  have c3b1 : ((l0.length : Int) != (l1.length : Int)) = false := bne_eq_false_iff_eq.mpr c3
  have c3b2 : (l0.length == l1.length) = true := by first | simpa using c3 | (simp at c3 ⊢; omega)
  clear c3
  have H' := Aside0.mk H
  clear H
  go_enter Tryz.func13, Tryz.ntmps13
  go_wp2
  repeat (go_quiet (fail); try go_wp2)
  try simp only [Act.put, List.setIfInBounds_toArray, List.set_cons_succ, List.set_cons_zero]
  go_loopg [5] k (fun kq v5 w' => ∃ (x5_1 : Int), v5 = .int .i64 x5_1 ∧ Aside0 (rf0_EqInts.l0 kq l0 l1 x5_1 = some r) ∧ Aside0 (kq ≤ k) ∧ Drawn0 w w')
  case atStart => exact ⟨(0), (by first | rfl | (simp; done) | (simp [*]; done)), H', ⟨Nat.le_refl _⟩, by repeat (first | exact Drawn0.refl _ | apply Drawn0.step)⟩
  case round =>
   clear H'
   try clear c1
   try clear p2
   try clear c3
   try clear c3b0
   try clear c3b1
   try clear c3b2
   obtain ⟨x5_1, rfl, HA, HK1, ⟨m1, rfl⟩⟩ := hrel
   cases gk with
   | zero => exact absurd HA.out (by simp [rf0_EqInts.l0])
   | succ k1 =>
    have H := HA.out
    clear HA
    simp only [rf0_EqInts.l0] at H
    by_cases c4 : x5_1 < (l0.length : Int)
    ·rw [if_pos c4] at H
     have c4b0 : decide (x5_1 < (l0.length : Int)) = true := decide_eq_true c4
     clear c4
     by_cases c5 : 0 ≤ x5_1
     ·rw [if_pos c5] at H
      have c5b0 : decide (0 ≤ x5_1) = true := decide_eq_true c5
      clear c5
      by_cases c6 : x5_1 < (l1.length : Int)
      ·rw [if_pos c6] at H
       have c6b0 : decide (x5_1 < (l1.length : Int)) = true := decide_eq_true c6
       clear c6
       by_cases c7 : (rd l0 x5_1) = (rd l1 x5_1)
       ·rw [if_pos c7] at H
        have c7b0 : ((rd l0 x5_1) == (rd l1 x5_1)) = true := beq_iff_eq.mpr c7
        have c7b1 : ((rd l0 x5_1) != (rd l1 x5_1)) = false := bne_eq_false_iff_eq.mpr c7
        clear c7
        have H' := Aside0.mk H
        clear H
        have p331 : 0 ≤ (x5_1 : Int) := of_decide_eq_true (by assumption)
        have q331 : x5_1 < (l0.length : Int) := of_decide_eq_true (by assumption)
        obtain ⟨ad331, e331, hx331_0⟩ := Kd.at_int HR0.out x5_1 p331 q331
        cases e331
        replace p331 := eq_true p331
        replace q331 := eq_true q331
        have p332 : 0 ≤ (x5_1 : Int) := of_decide_eq_true (by assumption)
        have q332 : x5_1 < (l1.length : Int) := of_decide_eq_true (by assumption)
        obtain ⟨ad332, e332, hx332_0⟩ := Kd.at_int HR1.out x5_1 p332 q332
        cases e332
        replace p332 := eq_true p332
        replace q332 := eq_true q332
        go_wp2
        repeat (go_quiet (fail); try go_wp2)
        go_roundg k1
        case measure => have := HK1.out; omega
        case rel => exact ⟨(wrap64 (x5_1 + 1)), (by first | rfl | (simp; done) | (simp [*]; done)), H', ⟨by have := HK1.out; omega⟩, by repeat (first | exact Drawn0.refl _ | apply Drawn0.step)⟩
       ·rw [if_neg c7] at H
        have c7b0 : ((rd l0 x5_1) == (rd l1 x5_1)) = false := beq_eq_false_iff_ne.mpr c7
        have c7b1 : ((rd l0 x5_1) != (rd l1 x5_1)) = true := bne_iff_ne.mpr c7
        obtain rfl := Option.some.inj H
        have p331 : 0 ≤ (x5_1 : Int) := of_decide_eq_true (by assumption)
        have q331 : x5_1 < (l0.length : Int) := of_decide_eq_true (by assumption)
        obtain ⟨ad331, e331, hx331_0⟩ := Kd.at_int HR0.out x5_1 p331 q331
        cases e331
        replace p331 := eq_true p331
        replace q331 := eq_true q331
        have p332 : 0 ≤ (x5_1 : Int) := of_decide_eq_true (by assumption)
        have q332 : x5_1 < (l1.length : Int) := of_decide_eq_true (by assumption)
        obtain ⟨ad332, e332, hx332_0⟩ := Kd.at_int HR1.out x5_1 p332 q332
        cases e332
        replace p332 := eq_true p332
        replace q332 := eq_true q332
        go_wp2
        repeat (go_quiet (fail); try go_wp2)
        go_ret
        exact ⟨by first | rfl | (simp; done) | (simp [*]; done), by repeat (first | exact Drawn0.refl _ | apply Drawn0.step)⟩
      ·rw [if_neg c6] at H
       exact absurd H (by simp)
     ·rw [if_neg c5] at H
      exact absurd H (by simp)
    ·rw [if_neg c4] at H
     have c4b0 : decide (x5_1 < (l0.length : Int)) = false := decide_eq_false c4
     clear c4
     obtain rfl := Option.some.inj H
     go_wp2
     repeat (go_quiet (fail); try go_wp2)
     go_ret
     exact ⟨by first | rfl | (simp; done) | (simp [*]; done), by repeat (first | exact Drawn0.refl _ | apply Drawn0.step)⟩
 ·rw [if_neg c3] at H
  have c3b0 : ((l0.length : Int) == (l1.length : Int)) = false := beq_eq_false_iff_ne.mpr c3
  have c3b1 : ((l0.length : Int) != (l1.length : Int)) = true := bne_iff_ne.mpr c3
  have c3b2 : (l0.length == l1.length) = false := by first | simpa using c3 | (simp at c3 ⊢; omega)
  obtain rfl := Option.some.inj H
  go_enter Tryz.func13, Tryz.ntmps13
  go_wp2
  repeat (go_quiet (fail); try go_wp2)
  go_ret
  exact ⟨by first | rfl | (simp; done) | (simp [*]; done), by repeat (first | exact Drawn0.refl _ | apply Drawn0.step)⟩

end Go.Proofs.YthimblhfjfngiaaGreat.PText

namespace Go.Proofs.YthimblhfjfngiaaGreat.PText
open Go.RowKit Go.Proofs.YthimblhfjfngiaaGreatW.PrintWords Go.Proofs.YthimblhfjfngiaaGreatW.PrintLast Go.Proofs.YthimblhfjfngiaaGreatW.PrintMore
attribute [local go_sem] max2_int min2_int max_two min_two max_three min_three max_four min_four   -- for this text's walks alone
set_option linter.unusedVariables false
set_option linter.unusedSimpArgs false

mutual
def rf0_Sorted.l0 : Nat → List ByteArray → List ByteArray → Int → Option (List ByteArray)
 | 0, _, _, _ => none
 | k + 1, x0, x3, x4 => if x4 < (x0.length : Int) then (if 0 ≤ x4 then ((rf0_Has.f k x3 (rdOf ByteArray.empty x0 x4)).bind fun t509 => (if t509 ≥ 0 then (rf0_Sorted.l0 k x0 x3 (wrap64 (x4 + 1))) else (if x3.length < 8796093022208 then ((some (x3 ++ [rdOf ByteArray.empty x0 x4] : List ByteArray)).bind fun y511 => (rf0_Sorted.l1 k x0 y511 x4 (wrap64 ((y511.length : Int) - 1)))) else (none)))) else (none)) else (some x3)
def rf0_Sorted.l1 : Nat → List ByteArray → List ByteArray → Int → Int → Option (List ByteArray)
 | 0, _, _, _, _ => none
 | k + 1, x0, x3, x4, x5 => if x5 > 0 then (if 0 ≤ x5 then (if x5 < (x3.length : Int) then (if 0 ≤ (wrap64 (x5 - 1)) then (if (wrap64 (x5 - 1)) < (x3.length : Int) then (if (Op.bytesLess ((rdOf ByteArray.empty x3 x5).toList) ((rdOf ByteArray.empty x3 (wrap64 (x5 - 1))).toList)) = true then (rf0_Sorted.l1 k x0 ((x3.set (x5 : Int).toNat (rdOf ByteArray.empty x3 (wrap64 (x5 - 1)))).set ((wrap64 (x5 - 1)) : Int).toNat (rdOf ByteArray.empty x3 x5)) x4 (wrap64 (x5 - 1))) else (rf0_Sorted.l0 k x0 x3 (wrap64 (x4 + 1)))) else (none)) else (none)) else (none)) else (none)) else (rf0_Sorted.l0 k x0 x3 (wrap64 (x4 + 1)))
end
def rf0_Sorted.f (k : Nat) (l0 : List ByteArray) : Option (List ByteArray) := rf0_Sorted.l0 k l0 ([] : List ByteArray) 0
set_option maxHeartbeats 8000000 in
set_option maxRecDepth 100000 in
theorem rf0_Sorted.calls (k : Nat) (A0 : Option Addr) (c0 : Nat) (l0 : List ByteArray) (r : List ByteArray) (w : World) (hr0 : Kd.C Kd.string w A0 l0.length l0) (hc0 : l0.length ≤ c0) (h : rf0_Sorted.f k l0 = some r) :
  Calls Tryz.prog 43 #[.slice A0 l0.length c0] w fun e w' => ∃ v0_ : Value, e = .returned (v0_) ∧ Kd.R Kd.string 9 w' w.heap.size (fun _ => True) v0_ r ∧ Below w.heap.size w w' := by
 have HR0 := Aside0.mk hr0
 have HC0 := Aside0.mk hc0
 clear hr0 hc0
 have HB := Aside0.mk (Below.refl w.heap.size w)
 have H : (rf0_Sorted.l0 k l0 ([] : List ByteArray) 0) = some r := h
 clear h
 have H' := Aside0.mk H
 clear H
 go_enter Tryz.func43, Tryz.ntmps43
 go_wp2
 repeat (go_quiet (fail); try go_wp2)
 try simp only [Act.put, List.setIfInBounds_toArray, List.set_cons_succ, List.set_cons_zero]
 go_loopg [3, 4] k (fun kq v3 v4 w' => ∃ (x3_1 : List ByteArray) (x4_1 : Int), v4 = .int .i64 x4_1 ∧ Aside0 (rf0_Sorted.l0 kq l0 x3_1 x4_1 = some r) ∧ Aside0 (kq ≤ k) ∧ Aside0 (Kd.R Kd.string 9 w' w.heap.size (fun _ => True) v3 x3_1) ∧ Aside0 (Below w.heap.size w w'))
 case atStart => exact ⟨(([] : List ByteArray)), (0), (by first | rfl | (simp; done) | (simp [*]; done)), H', ⟨Nat.le_refl _⟩, ⟨by first | exact Kd.R_nil _ _ _ _ _ | exact Kd.N_nil _ _ _ _ _ | exact Kd.V_nil _ _ _ _ _ | exact Kd.Q_nil _ _ _ _ _ | exact Kd.S_nil _ _ _ _ _⟩, ⟨by repeat (with_reducible first | exact HB.out | apply below_alloc | apply pw_below_drewN | apply below_drew1)⟩⟩
 case round =>
  clear H'
  obtain ⟨x3_1, x4_1, rfl, HA, HK1, HO_3, HB⟩ := hrel
  cases gk with
  | zero => exact absurd HA.out (by simp [rf0_Sorted.l0])
  | succ k1 =>
   have H := HA.out
   clear HA
   simp only [rf0_Sorted.l0] at H
   by_cases c2 : x4_1 < (l0.length : Int)
   ·rw [if_pos c2] at H
    have c2b0 : decide (x4_1 < (l0.length : Int)) = true := decide_eq_true c2
    clear c2
    by_cases c3 : 0 ≤ x4_1
    ·rw [if_pos c3] at H
     have c3b0 : decide (0 ≤ x4_1) = true := decide_eq_true c3
     clear c3
     replace H := Option.bind_eq_some_iff.mp H
     obtain ⟨t509, A40, H⟩ := H
     replace H : (if t509 ≥ 0 then (rf0_Sorted.l0 k1 l0 x3_1 (wrap64 (x4_1 + 1))) else (if x3_1.length < 8796093022208 then ((some (x3_1 ++ [rdOf ByteArray.empty l0 x4_1] : List ByteArray)).bind fun y511 => (rf0_Sorted.l1 k1 l0 y511 x4_1 (wrap64 ((y511.length : Int) - 1)))) else (none))) = some r := H
     have A4 := Aside0.mk A40
     clear A40
     by_cases c5 : t509 ≥ 0
     ·rw [if_pos c5] at H
      have c5b0 : decide (0 ≤ t509) = true := decide_eq_true c5
      clear c5
      have H' := Aside0.mk H
      clear H
      have p508 : 0 ≤ (x4_1 : Int) := of_decide_eq_true (by assumption)
      have q508 : x4_1 < (l0.length : Int) := of_decide_eq_true (by assumption)
      obtain ⟨ad508, e508, hx508_0⟩ := Kd.at_string HR0.out x4_1 p508 q508
      cases e508
      replace hx508_0 := (HB.out.cell (World.block_lt_of_cell? w _ hx508_0)).trans hx508_0
      replace p508 := eq_true p508
      replace q508 := eq_true q508
      obtain ⟨Ao6, co6, eo6⟩ := Kd.R_slice HO_3.out
      subst eo6
      go_wp2_with (first | (go_at_call 56; (with_reducible refine (rf0_Has.calls k1 _ _ x3_1 (rdOf ByteArray.empty l0 x4_1) t509 _ ?side1 ?side2 A4.out).mono ?_); (case side1 => repeat (first | exact (Kd.R_reads' HO_3.out).2.2 | (with_reducible refine Kd.C_alloc ?_ _) | (with_reducible refine Kd.C_drewN ?_ _) | (with_reducible refine Kd.C_drew ?_))); (case side2 => exact (Kd.R_reads' HO_3.out).2.1); rintro e w' ⟨rfl, ⟨nd, rfl⟩⟩; (try first | exact ⟨rfl, _, World.drewN_drewN _ _ _⟩ | exact ⟨rfl, _, Eq.trans (World.drewN_drewN _ _ _) (congrArg (World.drewN _) (Nat.add_assoc _ _ _))⟩)))
      repeat (go_quiet (first | (go_at_call 56; (with_reducible refine (rf0_Has.calls k1 _ _ x3_1 (rdOf ByteArray.empty l0 x4_1) t509 _ ?side1 ?side2 A4.out).mono ?_); (case side1 => repeat (first | exact (Kd.R_reads' HO_3.out).2.2 | (with_reducible refine Kd.C_alloc ?_ _) | (with_reducible refine Kd.C_drewN ?_ _) | (with_reducible refine Kd.C_drew ?_))); (case side2 => exact (Kd.R_reads' HO_3.out).2.1); rintro e w' ⟨rfl, ⟨nd, rfl⟩⟩; (try first | exact ⟨rfl, _, World.drewN_drewN _ _ _⟩ | exact ⟨rfl, _, Eq.trans (World.drewN_drewN _ _ _) (congrArg (World.drewN _) (Nat.add_assoc _ _ _))⟩))); try go_wp2_with (first | (go_at_call 56; (with_reducible refine (rf0_Has.calls k1 _ _ x3_1 (rdOf ByteArray.empty l0 x4_1) t509 _ ?side1 ?side2 A4.out).mono ?_); (case side1 => repeat (first | exact (Kd.R_reads' HO_3.out).2.2 | (with_reducible refine Kd.C_alloc ?_ _) | (with_reducible refine Kd.C_drewN ?_ _) | (with_reducible refine Kd.C_drew ?_))); (case side2 => exact (Kd.R_reads' HO_3.out).2.1); rintro e w' ⟨rfl, ⟨nd, rfl⟩⟩; (try first | exact ⟨rfl, _, World.drewN_drewN _ _ _⟩ | exact ⟨rfl, _, Eq.trans (World.drewN_drewN _ _ _) (congrArg (World.drewN _) (Nat.add_assoc _ _ _))⟩))))
      go_roundg k1
      case measure => have := HK1.out; omega
      case rel => exact ⟨(x3_1), (wrap64 (x4_1 + 1)), (by first | rfl | (simp; done) | (simp [*]; done)), H', ⟨by have := HK1.out; omega⟩, ⟨by (with_reducible repeat (first | apply Kd.R_alloc | apply Kd.R_drewN | apply Kd.R_drew)); exact HO_3.out⟩, ⟨by repeat (with_reducible first | exact HB.out | apply below_alloc | apply pw_below_drewN | apply below_drew1)⟩⟩
     ·rw [if_neg c5] at H
      have c5b0 : decide (0 ≤ t509) = false := decide_eq_false c5
      clear c5
      by_cases c7 : x3_1.length < 8796093022208
      ·rw [if_pos c7] at H
       have LMc7 := Aside0.mk c7
       clear c7
       obtain ⟨y511, hy511⟩ : ∃ y_ : List ByteArray, y_ = (x3_1 ++ [rdOf ByteArray.empty l0 x4_1]) := ⟨_, rfl⟩
       replace H : (rf0_Sorted.l1 k1 l0 y511 x4_1 (wrap64 ((y511.length : Int) - 1))) = some r := by first | (rw [hy511]; with_reducible exact H) | (have H2_ := (Option.bind_some _ _).symm.trans H; rw [hy511]; with_reducible exact H2_) | (have H2_ := (Option.bind_some _ _).symm.trans H; with_reducible exact H2_) | with_reducible exact H | (rw [hy511]; exact H) | exact H
       have Ny511 := Aside0.mk hy511
       clear hy511
       have H' := Aside0.mk H
       clear H
       have p508 : 0 ≤ (x4_1 : Int) := of_decide_eq_true (by assumption)
       have q508 : x4_1 < (l0.length : Int) := of_decide_eq_true (by assumption)
       obtain ⟨ad508, e508, hx508_0⟩ := Kd.at_string HR0.out x4_1 p508 q508
       cases e508
       replace hx508_0 := (HB.out.cell (World.block_lt_of_cell? w _ hx508_0)).trans hx508_0
       replace p508 := eq_true p508
       replace q508 := eq_true q508
       obtain ⟨Ao8, co8, eo8⟩ := Kd.R_slice HO_3.out
       subst eo8
       go_wp2_with (first | (go_at_call 56; (with_reducible refine (rf0_Has.calls k1 _ _ x3_1 (rdOf ByteArray.empty l0 x4_1) t509 _ ?side1 ?side2 A4.out).mono ?_); (case side1 => repeat (first | exact (Kd.R_reads' HO_3.out).2.2 | (with_reducible refine Kd.C_alloc ?_ _) | (with_reducible refine Kd.C_drewN ?_ _) | (with_reducible refine Kd.C_drew ?_))); (case side2 => exact (Kd.R_reads' HO_3.out).2.1); rintro e w' ⟨rfl, ⟨nd, rfl⟩⟩; (try first | exact ⟨rfl, _, World.drewN_drewN _ _ _⟩ | exact ⟨rfl, _, Eq.trans (World.drewN_drewN _ _ _) (congrArg (World.drewN _) (Nat.add_assoc _ _ _))⟩); have p510 : 0 ≤ (x4_1 : Int) := of_decide_eq_true (by assumption); have q510 : x4_1 < (l0.length : Int) := of_decide_eq_true (by assumption); obtain ⟨ad510, e510, hx510_0⟩ := Kd.at_string HR0.out x4_1 p510 q510; obtain rfl : ad508 = ad510 := (by injection e510); replace hx510_0 := (HB.out.cell (World.block_lt_of_cell? w _ hx510_0)).trans hx510_0; replace p510 := eq_true p510; replace q510 := eq_true q510) | ((with_reducible refine gate_builtin (b := .append) (xs := #[.tmp 20, .tmp 25]) rfl ?_); at_builtin; refine Kd.R_append Kd.string (w0 := w) w.heap.size rfl (.tmp 20) (.tmp 25) 47 9 (.string ⟨#[]⟩) 16 rfl Tryz.underlying47 info9 rfl (by decide) (by omega) (.slice Ao8 x3_1.length co8) x3_1 (rdOf ByteArray.empty l0 x4_1) [.string (rdOf ByteArray.empty l0 x4_1)] (fun _ => True) (fun _ => False) rfl rfl ?aP (fun _ hk => hk.elim) ?aF ?aO ?aB ?aS ?aL ?_; (case aP => exact rfl); (case aB => exact (by repeat (with_reducible first | exact HB.out | apply below_alloc | apply pw_below_drewN | apply below_drew1))); (case aF => exact (fun _ _ => trivial)); (case aO => exact (by (with_reducible repeat (first | apply Kd.R_alloc | apply Kd.R_drewN | apply Kd.R_drew)); exact HO_3.out)); (case aS => exact (below_size (by repeat (with_reducible first | exact HB.out | apply below_alloc | apply pw_below_drewN | apply below_drew1)))); (case aL => have := LMc7.out; omega); intro v512 w9 ho hb hg hat; rw [← Ny511.out] at ho; have n0_ := Aside0.mk (hb); have n1_ := Aside0.mk (ho); clear HB; clear HO_3; have HB := n0_; have HO513 := n1_; clear n0_ n1_; clear ho hb hg hat; obtain ⟨Ao10, co10, eo10⟩ := Kd.R_slice HO513.out; subst eo10))
       repeat (go_quiet (first | (go_at_call 56; (with_reducible refine (rf0_Has.calls k1 _ _ x3_1 (rdOf ByteArray.empty l0 x4_1) t509 _ ?side1 ?side2 A4.out).mono ?_); (case side1 => repeat (first | exact (Kd.R_reads' HO_3.out).2.2 | (with_reducible refine Kd.C_alloc ?_ _) | (with_reducible refine Kd.C_drewN ?_ _) | (with_reducible refine Kd.C_drew ?_))); (case side2 => exact (Kd.R_reads' HO_3.out).2.1); rintro e w' ⟨rfl, ⟨nd, rfl⟩⟩; (try first | exact ⟨rfl, _, World.drewN_drewN _ _ _⟩ | exact ⟨rfl, _, Eq.trans (World.drewN_drewN _ _ _) (congrArg (World.drewN _) (Nat.add_assoc _ _ _))⟩); have p510 : 0 ≤ (x4_1 : Int) := of_decide_eq_true (by assumption); have q510 : x4_1 < (l0.length : Int) := of_decide_eq_true (by assumption); obtain ⟨ad510, e510, hx510_0⟩ := Kd.at_string HR0.out x4_1 p510 q510; obtain rfl : ad508 = ad510 := (by injection e510); replace hx510_0 := (HB.out.cell (World.block_lt_of_cell? w _ hx510_0)).trans hx510_0; replace p510 := eq_true p510; replace q510 := eq_true q510) | ((with_reducible refine gate_builtin (b := .append) (xs := #[.tmp 20, .tmp 25]) rfl ?_); at_builtin; refine Kd.R_append Kd.string (w0 := w) w.heap.size rfl (.tmp 20) (.tmp 25) 47 9 (.string ⟨#[]⟩) 16 rfl Tryz.underlying47 info9 rfl (by decide) (by omega) (.slice Ao8 x3_1.length co8) x3_1 (rdOf ByteArray.empty l0 x4_1) [.string (rdOf ByteArray.empty l0 x4_1)] (fun _ => True) (fun _ => False) rfl rfl ?aP (fun _ hk => hk.elim) ?aF ?aO ?aB ?aS ?aL ?_; (case aP => exact rfl); (case aB => exact (by repeat (with_reducible first | exact HB.out | apply below_alloc | apply pw_below_drewN | apply below_drew1))); (case aF => exact (fun _ _ => trivial)); (case aO => exact (by (with_reducible repeat (first | apply Kd.R_alloc | apply Kd.R_drewN | apply Kd.R_drew)); exact HO_3.out)); (case aS => exact (below_size (by repeat (with_reducible first | exact HB.out | apply below_alloc | apply pw_below_drewN | apply below_drew1)))); (case aL => have := LMc7.out; omega); intro v512 w9 ho hb hg hat; rw [← Ny511.out] at ho; have n0_ := Aside0.mk (hb); have n1_ := Aside0.mk (ho); clear HB; clear HO_3; have HB := n0_; have HO513 := n1_; clear n0_ n1_; clear ho hb hg hat; obtain ⟨Ao10, co10, eo10⟩ := Kd.R_slice HO513.out; subst eo10)); try go_wp2_with (first | (go_at_call 56; (with_reducible refine (rf0_Has.calls k1 _ _ x3_1 (rdOf ByteArray.empty l0 x4_1) t509 _ ?side1 ?side2 A4.out).mono ?_); (case side1 => repeat (first | exact (Kd.R_reads' HO_3.out).2.2 | (with_reducible refine Kd.C_alloc ?_ _) | (with_reducible refine Kd.C_drewN ?_ _) | (with_reducible refine Kd.C_drew ?_))); (case side2 => exact (Kd.R_reads' HO_3.out).2.1); rintro e w' ⟨rfl, ⟨nd, rfl⟩⟩; (try first | exact ⟨rfl, _, World.drewN_drewN _ _ _⟩ | exact ⟨rfl, _, Eq.trans (World.drewN_drewN _ _ _) (congrArg (World.drewN _) (Nat.add_assoc _ _ _))⟩); have p510 : 0 ≤ (x4_1 : Int) := of_decide_eq_true (by assumption); have q510 : x4_1 < (l0.length : Int) := of_decide_eq_true (by assumption); obtain ⟨ad510, e510, hx510_0⟩ := Kd.at_string HR0.out x4_1 p510 q510; obtain rfl : ad508 = ad510 := (by injection e510); replace hx510_0 := (HB.out.cell (World.block_lt_of_cell? w _ hx510_0)).trans hx510_0; replace p510 := eq_true p510; replace q510 := eq_true q510) | ((with_reducible refine gate_builtin (b := .append) (xs := #[.tmp 20, .tmp 25]) rfl ?_); at_builtin; refine Kd.R_append Kd.string (w0 := w) w.heap.size rfl (.tmp 20) (.tmp 25) 47 9 (.string ⟨#[]⟩) 16 rfl Tryz.underlying47 info9 rfl (by decide) (by omega) (.slice Ao8 x3_1.length co8) x3_1 (rdOf ByteArray.empty l0 x4_1) [.string (rdOf ByteArray.empty l0 x4_1)] (fun _ => True) (fun _ => False) rfl rfl ?aP (fun _ hk => hk.elim) ?aF ?aO ?aB ?aS ?aL ?_; (case aP => exact rfl); (case aB => exact (by repeat (with_reducible first | exact HB.out | apply below_alloc | apply pw_below_drewN | apply below_drew1))); (case aF => exact (fun _ _ => trivial)); (case aO => exact (by (with_reducible repeat (first | apply Kd.R_alloc | apply Kd.R_drewN | apply Kd.R_drew)); exact HO_3.out)); (case aS => exact (below_size (by repeat (with_reducible first | exact HB.out | apply below_alloc | apply pw_below_drewN | apply below_drew1)))); (case aL => have := LMc7.out; omega); intro v512 w9 ho hb hg hat; rw [← Ny511.out] at ho; have n0_ := Aside0.mk (hb); have n1_ := Aside0.mk (ho); clear HB; clear HO_3; have HB := n0_; have HO513 := n1_; clear n0_ n1_; clear ho hb hg hat; obtain ⟨Ao10, co10, eo10⟩ := Kd.R_slice HO513.out; subst eo10)))
       try simp only [Act.put, List.setIfInBounds_toArray, List.set_cons_succ, List.set_cons_zero]
       go_loopg [5] k1 (fun kq v5 w' => ∃ (x3_2 : List ByteArray) (x5_2 : Int), v5 = .int .i64 x5_2 ∧ Aside0 (rf0_Sorted.l1 kq l0 x3_2 x4_1 x5_2 = some r) ∧ Aside0 (kq ≤ k1) ∧ Aside0 (Kd.R Kd.string 9 w' w.heap.size (fun _ => True) (.slice Ao10 y511.length co10) x3_2) ∧ Aside0 (Below w.heap.size w w'))
       case atStart => exact ⟨(y511), (wrap64 ((y511.length : Int) - 1)), (by first | rfl | (simp; done) | (simp [*]; done)), H', ⟨Nat.le_refl _⟩, ⟨by (with_reducible repeat (first | apply Kd.R_alloc | apply Kd.R_drewN | apply Kd.R_drew)); exact HO513.out⟩, ⟨by repeat (with_reducible first | exact HB.out | apply below_alloc | apply pw_below_drewN | apply below_drew1)⟩⟩
       case round =>
        clear H'
        try clear c2
        try clear c2b0
        try clear p2
        try clear c3
        try clear c3b0
        try clear c4
        try clear c5
        try clear c5b0
        try clear p5
        try clear q5
        try clear hx5
        try clear p6
        try clear c7
        try clear hx508_0
        try clear hx510_0
        try clear p508
        try clear p510
        try clear q508
        try clear q510
        obtain ⟨x3_2, x5_2, rfl, HA, HK2, HO_3, HB⟩ := hrel
        have hl3_2 := (Kd.R_reads' HO_3.out).1
        rw [hl3_2] at HO_3
        (try simp only [hl3_2])
        cases gk with
        | zero => exact absurd HA.out (by simp [rf0_Sorted.l1])
        | succ k2 =>
         have H := HA.out
         clear HA
         simp only [rf0_Sorted.l1] at H
         by_cases c11 : x5_2 > 0
         ·rw [if_pos c11] at H
          have c11b0 : decide (0 < x5_2) = true := decide_eq_true c11
          clear c11
          by_cases c12 : 0 ≤ x5_2
          ·rw [if_pos c12] at H
           have c12b0 : decide (0 ≤ x5_2) = true := decide_eq_true c12
           clear c12
           by_cases c13 : x5_2 < (x3_2.length : Int)
           ·rw [if_pos c13] at H
            have c13b0 : decide (x5_2 < (x3_2.length : Int)) = true := decide_eq_true c13
            clear c13
            obtain ⟨ji14, hji14⟩ : ∃ j_ : Int, (wrap64 (x5_2 - 1)) = j_ := ⟨_, rfl⟩
            replace H : (if 0 ≤ (ji14) then (if (ji14) < (x3_2.length : Int) then (if (Op.bytesLess ((rdOf ByteArray.empty x3_2 x5_2).toList) ((rdOf ByteArray.empty x3_2 (ji14)).toList)) = true then (rf0_Sorted.l1 k2 l0 ((x3_2.set (x5_2 : Int).toNat (rdOf ByteArray.empty x3_2 (ji14))).set ((ji14) : Int).toNat (rdOf ByteArray.empty x3_2 x5_2)) x4_1 ji14) else (rf0_Sorted.l0 k2 l0 x3_2 (wrap64 (x4_1 + 1)))) else (none)) else (none)) = some r := by first | (rw [hji14] at H; exact H) | (simp only [hji14] at H ⊢; exact H)
            have hji14w : (IntKind.i64.wrap (x5_2 - 1)) = ji14 := (i64_w _).trans hji14
            by_cases c15 : 0 ≤ (ji14)
            ·rw [if_pos c15] at H
             have c15b0 : decide (0 ≤ (ji14)) = true := decide_eq_true c15
             clear c15
             by_cases c16 : (ji14) < (x3_2.length : Int)
             ·rw [if_pos c16] at H
              have c16b0 : decide ((ji14) < (x3_2.length : Int)) = true := decide_eq_true c16
              clear c16
              by_cases c17 : (Op.bytesLess ((rdOf ByteArray.empty x3_2 x5_2).toList) ((rdOf ByteArray.empty x3_2 (ji14)).toList)) = true
              ·rw [if_pos c17] at H
               have c17b0 : (Op.bytesLess ((rdOf ByteArray.empty x3_2 x5_2).toList) ((rdOf ByteArray.empty x3_2 (ji14)).toList)) = true := c17
               clear c17
               obtain ⟨y518, hy518⟩ : ∃ y_ : List ByteArray, y_ = (x3_2.set (x5_2 : Int).toNat (rdOf ByteArray.empty x3_2 (ji14))) := ⟨_, rfl⟩
               replace H : (rf0_Sorted.l1 k2 l0 (y518.set ((ji14) : Int).toNat (rdOf ByteArray.empty x3_2 x5_2)) x4_1 ji14) = some r := by first | (rw [hy518]; with_reducible exact H) | (have H2_ := (Option.bind_some _ _).symm.trans H; rw [hy518]; with_reducible exact H2_) | (have H2_ := (Option.bind_some _ _).symm.trans H; with_reducible exact H2_) | with_reducible exact H | (rw [hy518]; exact H) | exact H
               have Ny518 := Aside0.mk hy518
               clear hy518
               obtain ⟨y519, hy519⟩ : ∃ y_ : List ByteArray, y_ = (y518.set ((ji14) : Int).toNat (rdOf ByteArray.empty x3_2 x5_2)) := ⟨_, rfl⟩
               replace H : (rf0_Sorted.l1 k2 l0 y519 x4_1 ji14) = some r := by first | (rw [hy519]; with_reducible exact H) | (have H2_ := (Option.bind_some _ _).symm.trans H; rw [hy519]; with_reducible exact H2_) | (have H2_ := (Option.bind_some _ _).symm.trans H; with_reducible exact H2_) | with_reducible exact H | (rw [hy519]; exact H) | exact H
               have Ny519 := Aside0.mk hy519
               clear hy519
               have H' := Aside0.mk H
               clear H
               have p514 : 0 ≤ (x5_2 : Int) := of_decide_eq_true (by assumption)
               have q514 : x5_2 < (x3_2.length : Int) := of_decide_eq_true (by assumption)
               obtain ⟨ad514, e514, hx514_0⟩ := Kd.at_string (Kd.R_reads' HO_3.out).2.2 x5_2 p514 q514
               cases e514
               replace p514 := eq_true p514
               replace q514 := eq_true q514
               have p515 : 0 ≤ ((ji14) : Int) := of_decide_eq_true (by assumption)
               have q515 : (ji14) < (x3_2.length : Int) := of_decide_eq_true (by assumption)
               obtain ⟨ad515, e515, hx515_0⟩ := Kd.at_string (Kd.R_reads' HO_3.out).2.2 (ji14) p515 q515
               obtain rfl : ad514 = ad515 := (by injection e515)
               replace p515 := eq_true p515
               replace q515 := eq_true q515
               have p516 : 0 ≤ (x5_2 : Int) := of_decide_eq_true (by assumption)
               have q516 : x5_2 < (x3_2.length : Int) := of_decide_eq_true (by assumption)
               obtain ⟨ad516, e516, hx516_0⟩ := Kd.at_string (Kd.R_reads' HO_3.out).2.2 x5_2 p516 q516
               obtain rfl : ad514 = ad516 := (by injection e516)
               replace p516 := eq_true p516
               replace q516 := eq_true q516
               have p517 : 0 ≤ ((ji14) : Int) := of_decide_eq_true (by assumption)
               have q517 : (ji14) < (x3_2.length : Int) := of_decide_eq_true (by assumption)
               obtain ⟨ad517, e517, hx517_0⟩ := Kd.at_string (Kd.R_reads' HO_3.out).2.2 (ji14) p517 q517
               obtain rfl : ad514 = ad517 := (by injection e517)
               replace p517 := eq_true p517
               replace q517 := eq_true q517
               have p18 : 0 ≤ (x5_2 : Int) := of_decide_eq_true (by assumption)
               have q18 : (x5_2 : Int) < ((x3_2.length : Int) : Int) := of_decide_eq_true (by assumption)
               obtain ⟨go18, co18, eo18, gb18, gl18, cl18, HG18⟩ := Kd.R_form HO_3.out (by omega)
               (first | cases eo18 | (injection eo18 with ea_ en_ ec_; (first | subst ea_ | (injection ea_ with ea_; subst ea_)); subst ec_; clear en_))
               have GB18 := Aside0.mk gb18
               have GG18 := Aside0.mk HG18
               clear gb18 gl18 HG18
               (first | simp only [add_plain] at hx514_0 | skip)
               (first | simp only [add_plain] at hx515_0 | skip)
               (first | simp only [add_plain] at hx516_0 | skip)
               (first | simp only [add_plain] at hx517_0 | skip)
               obtain ⟨hx18_0, hf18_0⟩ := Kd.R_celln (⟨#[]⟩ : ByteArray) HO_3.out (x5_2 : Int) p18 q18
               replace p18 := eq_true p18
               replace q18 := eq_true q18
               have HP20 := Kd.R_putg HO_3.out (x5_2 : Int) (rdOf ByteArray.empty x3_2 (ji14))
               go_wp2_with (first | ((with_reducible refine gate_store (t := 9) (p := 57) rfl ?_); (try (rw [drewN_self wr]; generalize hq_ : World.drewN wr _ = wr; have n0_ := Aside0.mk (Kd.R_at hq_ HO_3.out); have n1_ := Aside0.mk (below_at hq_ HB.out); clear hq_ HO_3 HB; have HO_3 := n0_; have HB := n1_; clear n0_ n1_; (try (obtain ⟨hx18_0, hf18_0⟩ := Kd.R_celln (⟨#[]⟩ : ByteArray) HO_3.out (x5_2 : Int) (of_decide_eq_true (by assumption)) (of_decide_eq_true (by assumption)))); (try (have HP20 := Kd.R_putg HO_3.out (x5_2 : Int) (rdOf ByteArray.empty x3_2 (ji14)))))); refine store_event (t := 9) (p := 57) (v := ?vo_w21) (w1 := (wr.setCell ⟨go18, (x5_2 : Int).toNat, none⟩ (.string (rdOf ByteArray.empty x3_2 (ji14))))) ?hg ?ho ?hn ?hr ?_; (case ho => rfl); (case hg => rfl); (case hn => rfl); (case hr => first | (go_simp; done) | (go_simp; rfl)); intro w21 hw; have hg : wr.grownBy w21 (some go18) := (by rw [hw]; exact HP20.2); have hp_ : Kd.R Kd.string 9 w21 w.heap.size (fun _ => True) (.slice (some ⟨go18, 0, none⟩) x3_2.length co10) y518 := (by rw [hw, Ny518.out]; exact HP20.1); clear HP20; have n0_ := Aside0.mk (hp_); have n1_ := Aside0.mk ((by rw [hw]; exact below_set (HB.out) GB18.out : Below w.heap.size w w21)); clear HO_3; clear HB; have HO_3 := n0_; have HB := n1_; clear n0_ n1_; clear hg hw hp_; have p19 : 0 ≤ ((ji14) : Int) := of_decide_eq_true (by assumption); have q19 : ((ji14) : Int) < ((x3_2.length : Int) : Int) := of_decide_eq_true (by assumption); obtain ⟨hx19_0, hf19_0⟩ := Kd.R_celln (⟨#[]⟩ : ByteArray) HO_3.out ((ji14) : Int) p19 q19; replace p19 := eq_true p19; replace q19 := eq_true q19; obtain ⟨hy22_, hz22_⟩ := Kd.R_celln (⟨#[]⟩ : ByteArray) HO_3.out ((ji14) : Int) (of_decide_eq_true (by assumption)) (of_decide_eq_true (by assumption)); have HP22 := Kd.R_putg HO_3.out ((ji14) : Int) (rdOf ByteArray.empty x3_2 x5_2)) | ((with_reducible refine gate_store (t := 9) (p := 62) rfl ?_); (try (rw [drewN_self w21]; generalize hq_ : World.drewN w21 _ = w21; have n0_ := Aside0.mk (Kd.R_at hq_ HO_3.out); have n1_ := Aside0.mk (below_at hq_ HB.out); clear hq_ HO_3 HB; have HO_3 := n0_; have HB := n1_; clear n0_ n1_; (try (obtain ⟨hy22_, hz22_⟩ := Kd.R_celln (⟨#[]⟩ : ByteArray) HO_3.out ((ji14) : Int) (of_decide_eq_true (by assumption)) (of_decide_eq_true (by assumption)))); (try (have HP22 := Kd.R_putg HO_3.out ((ji14) : Int) (rdOf ByteArray.empty x3_2 x5_2))))); refine store_event (t := 9) (p := 62) (v := ?vo_w23) (w1 := (w21.setCell ⟨go18, ((ji14) : Int).toNat, none⟩ (.string (rdOf ByteArray.empty x3_2 x5_2)))) ?hg ?ho ?hn ?hr ?_; (case ho => rfl); (case hg => rfl); (case hn => rfl); (case hr => first | (go_simp; done) | (go_simp; rfl)); intro w23 hw; have hg : w21.grownBy w23 (some go18) := (by rw [hw]; exact HP22.2); have hp_ : Kd.R Kd.string 9 w23 w.heap.size (fun _ => True) (.slice (some ⟨go18, 0, none⟩) x3_2.length co10) y519 := (by rw [hw, Ny519.out]; exact HP22.1); clear HP22; have n0_ := Aside0.mk (hp_); have n1_ := Aside0.mk ((by rw [hw]; exact below_set (HB.out) GB18.out : Below w.heap.size w w23)); clear HO_3; clear HB; have HO_3 := n0_; have HB := n1_; clear n0_ n1_; clear hg hw hp_))
               repeat (go_quiet (first | ((with_reducible refine gate_store (t := 9) (p := 57) rfl ?_); (try (rw [drewN_self wr]; generalize hq_ : World.drewN wr _ = wr; have n0_ := Aside0.mk (Kd.R_at hq_ HO_3.out); have n1_ := Aside0.mk (below_at hq_ HB.out); clear hq_ HO_3 HB; have HO_3 := n0_; have HB := n1_; clear n0_ n1_; (try (obtain ⟨hx18_0, hf18_0⟩ := Kd.R_celln (⟨#[]⟩ : ByteArray) HO_3.out (x5_2 : Int) (of_decide_eq_true (by assumption)) (of_decide_eq_true (by assumption)))); (try (have HP20 := Kd.R_putg HO_3.out (x5_2 : Int) (rdOf ByteArray.empty x3_2 (ji14)))))); refine store_event (t := 9) (p := 57) (v := ?vo_w21) (w1 := (wr.setCell ⟨go18, (x5_2 : Int).toNat, none⟩ (.string (rdOf ByteArray.empty x3_2 (ji14))))) ?hg ?ho ?hn ?hr ?_; (case ho => rfl); (case hg => rfl); (case hn => rfl); (case hr => first | (go_simp; done) | (go_simp; rfl)); intro w21 hw; have hg : wr.grownBy w21 (some go18) := (by rw [hw]; exact HP20.2); have hp_ : Kd.R Kd.string 9 w21 w.heap.size (fun _ => True) (.slice (some ⟨go18, 0, none⟩) x3_2.length co10) y518 := (by rw [hw, Ny518.out]; exact HP20.1); clear HP20; have n0_ := Aside0.mk (hp_); have n1_ := Aside0.mk ((by rw [hw]; exact below_set (HB.out) GB18.out : Below w.heap.size w w21)); clear HO_3; clear HB; have HO_3 := n0_; have HB := n1_; clear n0_ n1_; clear hg hw hp_; have p19 : 0 ≤ ((ji14) : Int) := of_decide_eq_true (by assumption); have q19 : ((ji14) : Int) < ((x3_2.length : Int) : Int) := of_decide_eq_true (by assumption); obtain ⟨hx19_0, hf19_0⟩ := Kd.R_celln (⟨#[]⟩ : ByteArray) HO_3.out ((ji14) : Int) p19 q19; replace p19 := eq_true p19; replace q19 := eq_true q19; obtain ⟨hy22_, hz22_⟩ := Kd.R_celln (⟨#[]⟩ : ByteArray) HO_3.out ((ji14) : Int) (of_decide_eq_true (by assumption)) (of_decide_eq_true (by assumption)); have HP22 := Kd.R_putg HO_3.out ((ji14) : Int) (rdOf ByteArray.empty x3_2 x5_2)) | ((with_reducible refine gate_store (t := 9) (p := 62) rfl ?_); (try (rw [drewN_self w21]; generalize hq_ : World.drewN w21 _ = w21; have n0_ := Aside0.mk (Kd.R_at hq_ HO_3.out); have n1_ := Aside0.mk (below_at hq_ HB.out); clear hq_ HO_3 HB; have HO_3 := n0_; have HB := n1_; clear n0_ n1_; (try (obtain ⟨hy22_, hz22_⟩ := Kd.R_celln (⟨#[]⟩ : ByteArray) HO_3.out ((ji14) : Int) (of_decide_eq_true (by assumption)) (of_decide_eq_true (by assumption)))); (try (have HP22 := Kd.R_putg HO_3.out ((ji14) : Int) (rdOf ByteArray.empty x3_2 x5_2))))); refine store_event (t := 9) (p := 62) (v := ?vo_w23) (w1 := (w21.setCell ⟨go18, ((ji14) : Int).toNat, none⟩ (.string (rdOf ByteArray.empty x3_2 x5_2)))) ?hg ?ho ?hn ?hr ?_; (case ho => rfl); (case hg => rfl); (case hn => rfl); (case hr => first | (go_simp; done) | (go_simp; rfl)); intro w23 hw; have hg : w21.grownBy w23 (some go18) := (by rw [hw]; exact HP22.2); have hp_ : Kd.R Kd.string 9 w23 w.heap.size (fun _ => True) (.slice (some ⟨go18, 0, none⟩) x3_2.length co10) y519 := (by rw [hw, Ny519.out]; exact HP22.1); clear HP22; have n0_ := Aside0.mk (hp_); have n1_ := Aside0.mk ((by rw [hw]; exact below_set (HB.out) GB18.out : Below w.heap.size w w23)); clear HO_3; clear HB; have HO_3 := n0_; have HB := n1_; clear n0_ n1_; clear hg hw hp_)); try go_wp2_with (first | ((with_reducible refine gate_store (t := 9) (p := 57) rfl ?_); (try (rw [drewN_self wr]; generalize hq_ : World.drewN wr _ = wr; have n0_ := Aside0.mk (Kd.R_at hq_ HO_3.out); have n1_ := Aside0.mk (below_at hq_ HB.out); clear hq_ HO_3 HB; have HO_3 := n0_; have HB := n1_; clear n0_ n1_; (try (obtain ⟨hx18_0, hf18_0⟩ := Kd.R_celln (⟨#[]⟩ : ByteArray) HO_3.out (x5_2 : Int) (of_decide_eq_true (by assumption)) (of_decide_eq_true (by assumption)))); (try (have HP20 := Kd.R_putg HO_3.out (x5_2 : Int) (rdOf ByteArray.empty x3_2 (ji14)))))); refine store_event (t := 9) (p := 57) (v := ?vo_w21) (w1 := (wr.setCell ⟨go18, (x5_2 : Int).toNat, none⟩ (.string (rdOf ByteArray.empty x3_2 (ji14))))) ?hg ?ho ?hn ?hr ?_; (case ho => rfl); (case hg => rfl); (case hn => rfl); (case hr => first | (go_simp; done) | (go_simp; rfl)); intro w21 hw; have hg : wr.grownBy w21 (some go18) := (by rw [hw]; exact HP20.2); have hp_ : Kd.R Kd.string 9 w21 w.heap.size (fun _ => True) (.slice (some ⟨go18, 0, none⟩) x3_2.length co10) y518 := (by rw [hw, Ny518.out]; exact HP20.1); clear HP20; have n0_ := Aside0.mk (hp_); have n1_ := Aside0.mk ((by rw [hw]; exact below_set (HB.out) GB18.out : Below w.heap.size w w21)); clear HO_3; clear HB; have HO_3 := n0_; have HB := n1_; clear n0_ n1_; clear hg hw hp_; have p19 : 0 ≤ ((ji14) : Int) := of_decide_eq_true (by assumption); have q19 : ((ji14) : Int) < ((x3_2.length : Int) : Int) := of_decide_eq_true (by assumption); obtain ⟨hx19_0, hf19_0⟩ := Kd.R_celln (⟨#[]⟩ : ByteArray) HO_3.out ((ji14) : Int) p19 q19; replace p19 := eq_true p19; replace q19 := eq_true q19; obtain ⟨hy22_, hz22_⟩ := Kd.R_celln (⟨#[]⟩ : ByteArray) HO_3.out ((ji14) : Int) (of_decide_eq_true (by assumption)) (of_decide_eq_true (by assumption)); have HP22 := Kd.R_putg HO_3.out ((ji14) : Int) (rdOf ByteArray.empty x3_2 x5_2)) | ((with_reducible refine gate_store (t := 9) (p := 62) rfl ?_); (try (rw [drewN_self w21]; generalize hq_ : World.drewN w21 _ = w21; have n0_ := Aside0.mk (Kd.R_at hq_ HO_3.out); have n1_ := Aside0.mk (below_at hq_ HB.out); clear hq_ HO_3 HB; have HO_3 := n0_; have HB := n1_; clear n0_ n1_; (try (obtain ⟨hy22_, hz22_⟩ := Kd.R_celln (⟨#[]⟩ : ByteArray) HO_3.out ((ji14) : Int) (of_decide_eq_true (by assumption)) (of_decide_eq_true (by assumption)))); (try (have HP22 := Kd.R_putg HO_3.out ((ji14) : Int) (rdOf ByteArray.empty x3_2 x5_2))))); refine store_event (t := 9) (p := 62) (v := ?vo_w23) (w1 := (w21.setCell ⟨go18, ((ji14) : Int).toNat, none⟩ (.string (rdOf ByteArray.empty x3_2 x5_2)))) ?hg ?ho ?hn ?hr ?_; (case ho => rfl); (case hg => rfl); (case hn => rfl); (case hr => first | (go_simp; done) | (go_simp; rfl)); intro w23 hw; have hg : w21.grownBy w23 (some go18) := (by rw [hw]; exact HP22.2); have hp_ : Kd.R Kd.string 9 w23 w.heap.size (fun _ => True) (.slice (some ⟨go18, 0, none⟩) x3_2.length co10) y519 := (by rw [hw, Ny519.out]; exact HP22.1); clear HP22; have n0_ := Aside0.mk (hp_); have n1_ := Aside0.mk ((by rw [hw]; exact below_set (HB.out) GB18.out : Below w.heap.size w w23)); clear HO_3; clear HB; have HO_3 := n0_; have HB := n1_; clear n0_ n1_; clear hg hw hp_)))
               (try simp only [← hl3_2])
               go_roundg k2
               case measure => have := HK1.out; have := HK2.out; omega
               case rel => exact ⟨(y519), (ji14), (by first | rfl | (simp; done) | (simp only [← hji14] <;> (first | rfl | simp)) | (simp [*]; done)), H', ⟨by have := HK1.out; have := HK2.out; omega⟩, ⟨by (try simp only [hl3_2]); (with_reducible repeat (first | apply Kd.R_alloc | apply Kd.R_drewN | apply Kd.R_drew)); exact HO_3.out⟩, ⟨by repeat (with_reducible first | exact HB.out | apply below_alloc | apply pw_below_drewN | apply below_drew1)⟩⟩
              ·rw [if_neg c17] at H
               have c17b0 : (Op.bytesLess ((rdOf ByteArray.empty x3_2 x5_2).toList) ((rdOf ByteArray.empty x3_2 (ji14)).toList)) = false := by simpa using c17
               clear c17
               have H' := Aside0.mk H
               clear H
               have p514 : 0 ≤ (x5_2 : Int) := of_decide_eq_true (by assumption)
               have q514 : x5_2 < (x3_2.length : Int) := of_decide_eq_true (by assumption)
               obtain ⟨ad514, e514, hx514_0⟩ := Kd.at_string (Kd.R_reads' HO_3.out).2.2 x5_2 p514 q514
               cases e514
               replace p514 := eq_true p514
               replace q514 := eq_true q514
               have p515 : 0 ≤ ((ji14) : Int) := of_decide_eq_true (by assumption)
               have q515 : (ji14) < (x3_2.length : Int) := of_decide_eq_true (by assumption)
               obtain ⟨ad515, e515, hx515_0⟩ := Kd.at_string (Kd.R_reads' HO_3.out).2.2 (ji14) p515 q515
               obtain rfl : ad514 = ad515 := (by injection e515)
               replace p515 := eq_true p515
               replace q515 := eq_true q515
               go_wp2
               repeat (go_quiet (fail); try go_wp2)
               (try simp only [← hl3_2])
               go_roundg k2
               case measure => have := HK1.out; have := HK2.out; omega
               case rel => exact ⟨(x3_2), (wrap64 (x4_1 + 1)), (by first | rfl | (simp; done) | (simp [*]; done)), H', ⟨by have := HK1.out; have := HK2.out; omega⟩, ⟨by (try simp only [hl3_2]); (with_reducible repeat (first | apply Kd.R_alloc | apply Kd.R_drewN | apply Kd.R_drew)); exact HO_3.out⟩, ⟨by repeat (with_reducible first | exact HB.out | apply below_alloc | apply pw_below_drewN | apply below_drew1)⟩⟩
             ·rw [if_neg c16] at H
              exact absurd H (by simp)
            ·rw [if_neg c15] at H
             exact absurd H (by simp)
           ·rw [if_neg c13] at H
            exact absurd H (by simp)
          ·rw [if_neg c12] at H
           exact absurd H (by simp)
         ·rw [if_neg c11] at H
          have c11b0 : decide (0 < x5_2) = false := decide_eq_false c11
          clear c11
          have H' := Aside0.mk H
          clear H
          go_wp2
          repeat (go_quiet (fail); try go_wp2)
          (try simp only [← hl3_2])
          go_roundg k2
          case measure => have := HK1.out; have := HK2.out; omega
          case rel => exact ⟨(x3_2), (wrap64 (x4_1 + 1)), (by first | rfl | (simp; done) | (simp [*]; done)), H', ⟨by have := HK1.out; have := HK2.out; omega⟩, ⟨by (try simp only [hl3_2]); (with_reducible repeat (first | apply Kd.R_alloc | apply Kd.R_drewN | apply Kd.R_drew)); exact HO_3.out⟩, ⟨by repeat (with_reducible first | exact HB.out | apply below_alloc | apply pw_below_drewN | apply below_drew1)⟩⟩
      ·rw [if_neg c7] at H
       exact absurd H (by simp)
    ·rw [if_neg c3] at H
     exact absurd H (by simp)
   ·rw [if_neg c2] at H
    have c2b0 : decide (x4_1 < (l0.length : Int)) = false := decide_eq_false c2
    clear c2
    obtain rfl := Option.some.inj H
    go_wp2
    repeat (go_quiet (fail); try go_wp2)
    go_ret
    exact ⟨_, by first | rfl | (simp [errW_none, errW_some] <;> rfl) | (simp [*, errW_none, errW_some] <;> rfl), by (with_reducible repeat (first | apply Kd.R_alloc | apply Kd.R_drewN | apply Kd.R_drew)); exact HO_3.out, by repeat (with_reducible first | exact HB.out | apply below_alloc | apply pw_below_drewN | apply below_drew1)⟩

end Go.Proofs.YthimblhfjfngiaaGreat.PText

-- mended25

namespace Go.Proofs.YthimblhfjfngiaaGreat.PText
open Go.RowKit Go.Proofs.YthimblhfjfngiaaGreatW.PrintWords Go.Proofs.YthimblhfjfngiaaGreatW.PrintLast Go.Proofs.YthimblhfjfngiaaGreatW.PrintMore
attribute [local go_sem] max2_int min2_int max_two min_two max_three min_three max_four min_four   -- for this text's walks alone
set_option linter.unusedVariables false
set_option linter.unusedSimpArgs false

mutual
def smockinglaw25_heavy.l0 : Nat → List (S39) → Int → Int → Option (Bool)
 | 0, _, _, _ => none
 | k + 1, x0, x3, x4 => if x4 < (x0.length : Int) then (smockinglaw25_heavy.j1 k x0 x3 x4 (decide (x3 ≤ 6000))) else (smockinglaw25_heavy.j1 k x0 x3 x4 false)
def smockinglaw25_heavy.j1 : Nat → List (S39) → Int → Int → Bool → Option (Bool)
 | 0, _, _, _, _ => none
 | k + 1, x0, x3, x4, x13 => if x13 = true then (smockinglaw25_heavy.l1 k x0 x3 x4 0) else (if x3 > 6000 then (some true) else (some (decide ((x0.length : Int) > 30))))
def smockinglaw25_heavy.l1 : Nat → List (S39) → Int → Int → Int → Option (Bool)
 | 0, _, _, _, _ => none
 | k + 1, x0, x3, x4, x5 => if 0 ≤ x4 then (if x4 < (x0.length : Int) then (if x5 < (((rd_T39 x0 x4).f1).length : Int) then (if x3 ≤ 6000 then (if 0 ≤ x5 then (smockinglaw25_heavy.l1 k x0 (wrap64 ((wrap64 ((wrap64 (x3 + 1)) + (((rd_T41 ((rd_T39 x0 x4).f1) x5).f0).size : Int))) + (((rd_T41 ((rd_T39 x0 x4).f1) x5).f1).size : Int))) x4 (wrap64 (x5 + 1))) else (none)) else (smockinglaw25_heavy.l0 k x0 x3 (wrap64 (x4 + 1)))) else (smockinglaw25_heavy.l0 k x0 x3 (wrap64 (x4 + 1)))) else (none)) else (none)
end
def smockinglaw25_heavy.f (k : Nat) (l0 : List (S39)) : Option (Bool) := smockinglaw25_heavy.l0 k l0 0 0
set_option maxHeartbeats 8000000 in
set_option maxRecDepth 100000 in
theorem smockinglaw25_heavy.calls (k : Nat) (A0 : Option Addr) (c0 : Nat) (l0 : List (S39)) (r : Bool) (w : World) (hr0 : Kd.C k39 w A0 l0.length l0) (hc0 : l0.length ≤ c0) (h : smockinglaw25_heavy.f k l0 = some r) :
  Calls Tryz.prog 7 #[.slice A0 l0.length c0] w fun e w' => e = .returned (.bool r) ∧ Drawn0 w w' := by
 have HR0 := Aside0.mk hr0
 have HC0 := Aside0.mk hc0
 clear hr0 hc0
 have H : (smockinglaw25_heavy.l0 k l0 0 0) = some r := h
 clear h
 have H' := Aside0.mk H
 clear H
 go_enter Tryz.func7, Tryz.ntmps7
 go_wp2
 repeat (go_quiet (fail); try go_wp2)
 try simp only [Act.put, List.setIfInBounds_toArray, List.set_cons_succ, List.set_cons_zero]
 go_loopg [3, 4] k (fun kq v3 v4 w' => ∃ (x3_1 : Int) (x4_1 : Int), v3 = .int .i64 x3_1 ∧ v4 = .int .i64 x4_1 ∧ Aside0 (smockinglaw25_heavy.l0 kq l0 x3_1 x4_1 = some r) ∧ Aside0 (kq ≤ k) ∧ Drawn0 w w')
 case atStart => exact ⟨(0), (0), (by first | rfl | (simp; done) | (simp [*]; done)), (by first | rfl | (simp; done) | (simp [*]; done)), H', ⟨Nat.le_refl _⟩, by repeat (first | exact Drawn0.refl _ | apply Drawn0.step)⟩
 case round =>
  clear H'
  obtain ⟨x3_1, x4_1, rfl, rfl, HA, HK1, ⟨m1, rfl⟩⟩ := hrel
  cases gk with
  | zero => exact absurd HA.out (by simp [smockinglaw25_heavy.l0])
  | succ k1 =>
   have H := HA.out
   clear HA
   simp only [smockinglaw25_heavy.l0] at H
   have HC2 := Aside0.mk H
   clear H
   go_upto_region 3 with (fail)
   repeat (go_quiet (fail); go_upto_region 3 with (fail))
   go_cut [13] (fun v13 wc => ∃ (kq : Nat) (x13_1 : Bool), v13 = .bool x13_1 ∧ Aside0 (smockinglaw25_heavy.j1 kq l0 x3_1 x4_1 x13_1 = some r) ∧ Aside0 (kq ≤ k1) ∧ Drawn0 w wc)
   case first =>
    have H := HC2.out
    clear HC2
    by_cases c3 : x4_1 < (l0.length : Int)
    ·rw [if_pos c3] at H
     have c3b0 : decide (x4_1 < (l0.length : Int)) = true := decide_eq_true c3
     clear c3
     (first | rw [c3b0] | (simp only [i64_w, i32_w]; rw [c3b0]) | skip)
     have H' := Aside0.mk H
     clear H
     go_wp2
     repeat (go_quiet (fail); try go_wp2)
     go_meet
     case rel => exact ⟨_, (decide (x3_1 ≤ 6000)), (by first | rfl | (simp; done) | (simp [*]; done)), H', ⟨by have := HK1.out; first | omega | exact Nat.le_refl _⟩, by repeat (first | exact Drawn0.refl _ | apply Drawn0.step)⟩
    ·rw [if_neg c3] at H
     have c3b0 : decide (x4_1 < (l0.length : Int)) = false := decide_eq_false c3
     clear c3
     (first | rw [c3b0] | (simp only [i64_w, i32_w]; rw [c3b0]) | skip)
     have H' := Aside0.mk H
     clear H
     go_wp2
     repeat (go_quiet (fail); try go_wp2)
     go_meet
     case rel => exact ⟨_, (false), (by first | rfl | (simp; done) | (simp [*]; done)), H', ⟨by have := HK1.out; first | omega | exact Nat.le_refl _⟩, by repeat (first | exact Drawn0.refl _ | apply Drawn0.step)⟩
   case rest =>
    clear HC2
    try clear p2
    try clear c3
    try clear c3b0
    obtain ⟨kq, x13_1, rfl, HA, HJ1, ⟨mc1, rfl⟩⟩ := hcut
    cases kq with
    | zero => exact absurd HA.out (by simp [smockinglaw25_heavy.j1])
    | succ kj1 =>
     have H := HA.out
     clear HA
     simp only [smockinglaw25_heavy.j1] at H
     by_cases c4 : x13_1 = true
     ·subst c4
      have H1 : (smockinglaw25_heavy.l1 kj1 l0 x3_1 x4_1 0) = some r := by rw [if_pos rfl] at H; exact H
      clear H
      have H := H1
      clear H1
      have H' := Aside0.mk H
      clear H
      go_wp2
      repeat (go_quiet (fail); try go_wp2)
      try simp only [Act.put, List.setIfInBounds_toArray, List.set_cons_succ, List.set_cons_zero]
      go_loopg [3, 5] kj1 (fun kq v3 v5 w' => ∃ (x3_3 : Int) (x5_3 : Int), v3 = .int .i64 x3_3 ∧ v5 = .int .i64 x5_3 ∧ Aside0 (smockinglaw25_heavy.l1 kq l0 x3_3 x4_1 x5_3 = some r) ∧ Aside0 (kq ≤ kj1) ∧ Drawn0 w w')
      case atStart => exact ⟨(x3_1), (0), (by first | rfl | (simp; done) | (simp [*]; done)), (by first | rfl | (simp; done) | (simp [*]; done)), H', ⟨Nat.le_refl _⟩, by repeat (first | exact Drawn0.refl _ | apply Drawn0.step)⟩
      case round =>
       clear H'
       try clear c1
       try clear p2
       try clear c3
       try clear c3b0
       try clear c4
       try clear p2
       obtain ⟨x3_3, x5_3, rfl, rfl, HA, HK3, ⟨m3, rfl⟩⟩ := hrel
       cases gk with
       | zero => exact absurd HA.out (by simp [smockinglaw25_heavy.l1])
       | succ k3 =>
        have H := HA.out
        clear HA
        simp only [smockinglaw25_heavy.l1] at H
        by_cases c5 : 0 ≤ x4_1
        ·rw [if_pos c5] at H
         have c5b0 : decide (0 ≤ x4_1) = true := decide_eq_true c5
         clear c5
         by_cases c6 : x4_1 < (l0.length : Int)
         ·rw [if_pos c6] at H
          have c6b0 : decide (x4_1 < (l0.length : Int)) = true := decide_eq_true c6
          clear c6
          by_cases c7 : x5_3 < (((rd_T39 l0 x4_1).f1).length : Int)
          ·rw [if_pos c7] at H
           have c7b0 : decide (x5_3 < (((rd_T39 l0 x4_1).f1).length : Int)) = true := decide_eq_true c7
           clear c7
           by_cases c8 : x3_3 ≤ 6000
           ·rw [if_pos c8] at H
            have c8b0 : decide (x3_3 ≤ 6000) = true := decide_eq_true c8
            clear c8
            by_cases c9 : 0 ≤ x5_3
            ·rw [if_pos c9] at H
             have c9b0 : decide (0 ≤ x5_3) = true := decide_eq_true c9
             clear c9
             have H' := Aside0.mk H
             clear H
             have p101 : 0 ≤ (x4_1 : Int) := of_decide_eq_true (by assumption)
             have q101 : x4_1 < (l0.length : Int) := of_decide_eq_true (by assumption)
             obtain ⟨ad101, A101_1, c101_1, e101, hx101_0, hx101_1, hl101_1, hi101_1⟩ := at_T39 HR0.out x4_1 p101 q101
             cases e101
             have HR101_1 := Aside0.mk hi101_1
             have HC101_1 := Aside0.mk hl101_1
             clear hi101_1 hl101_1
             replace p101 := eq_true p101
             replace q101 := eq_true q101
             have p102 : 0 ≤ (x4_1 : Int) := of_decide_eq_true (by assumption)
             have q102 : x4_1 < (l0.length : Int) := of_decide_eq_true (by assumption)
             obtain ⟨ad102, A102_1, c102_1, e102, hx102_0, hx102_1, hl102_1, hi102_1⟩ := at_T39 HR0.out x4_1 p102 q102
             obtain rfl : ad101 = ad102 := (by injection e102)
             have HR102_1 := Aside0.mk hi102_1
             have HC102_1 := Aside0.mk hl102_1
             clear hi102_1 hl102_1
             replace p102 := eq_true p102
             replace q102 := eq_true q102
             have ea_ := Option.some.inj (hx101_1.symm.trans hx102_1)
             injection ea_ with ea_ en_ ec_
             subst ea_
             subst ec_
             clear en_
             have p103 : 0 ≤ (x5_3 : Int) := of_decide_eq_true (by assumption)
             have q103 : x5_3 < (((rd_T39 l0 x4_1).f1).length : Int) := of_decide_eq_true (by assumption)
             obtain ⟨ad103, e103, hx103_0, hx103_1⟩ := at_T41 HR102_1.out x5_3 p103 q103
             cases e103
             replace p103 := eq_true p103
             replace q103 := eq_true q103
             have p104 : 0 ≤ (x4_1 : Int) := of_decide_eq_true (by assumption)
             have q104 : x4_1 < (l0.length : Int) := of_decide_eq_true (by assumption)
             obtain ⟨ad104, A104_1, c104_1, e104, hx104_0, hx104_1, hl104_1, hi104_1⟩ := at_T39 HR0.out x4_1 p104 q104
             obtain rfl : ad101 = ad104 := (by injection e104)
             have HR104_1 := Aside0.mk hi104_1
             have HC104_1 := Aside0.mk hl104_1
             clear hi104_1 hl104_1
             replace p104 := eq_true p104
             replace q104 := eq_true q104
             have ea_ := Option.some.inj (hx101_1.symm.trans hx104_1)
             injection ea_ with ea_ en_ ec_
             subst ea_
             subst ec_
             clear en_
             have p105 : 0 ≤ (x5_3 : Int) := of_decide_eq_true (by assumption)
             have q105 : x5_3 < (((rd_T39 l0 x4_1).f1).length : Int) := of_decide_eq_true (by assumption)
             obtain ⟨ad105, e105, hx105_0, hx105_1⟩ := at_T41 HR104_1.out x5_3 p105 q105
             cases e105
             replace p105 := eq_true p105
             replace q105 := eq_true q105
             go_wp2
             repeat (go_quiet (fail); try go_wp2)
             go_roundg k3
             case measure => have := HK1.out; have := HJ1.out; have := HK3.out; omega
             case rel => exact ⟨(wrap64 ((wrap64 ((wrap64 (x3_3 + 1)) + (((rd_T41 ((rd_T39 l0 x4_1).f1) x5_3).f0).size : Int))) + (((rd_T41 ((rd_T39 l0 x4_1).f1) x5_3).f1).size : Int))), (wrap64 (x5_3 + 1)), (by first | rfl | (simp; done) | (simp [*]; done)), (by first | rfl | (simp; done) | (simp [*]; done)), H', ⟨by have := HK1.out; have := HJ1.out; have := HK3.out; omega⟩, by repeat (first | exact Drawn0.refl _ | apply Drawn0.step)⟩
            ·rw [if_neg c9] at H
             exact absurd H (by simp)
           ·rw [if_neg c8] at H
            have c8b0 : decide (x3_3 ≤ 6000) = false := decide_eq_false c8
            clear c8
            have H' := Aside0.mk H
            clear H
            have p101 : 0 ≤ (x4_1 : Int) := of_decide_eq_true (by assumption)
            have q101 : x4_1 < (l0.length : Int) := of_decide_eq_true (by assumption)
            obtain ⟨ad101, A101_1, c101_1, e101, hx101_0, hx101_1, hl101_1, hi101_1⟩ := at_T39 HR0.out x4_1 p101 q101
            cases e101
            have HR101_1 := Aside0.mk hi101_1
            have HC101_1 := Aside0.mk hl101_1
            clear hi101_1 hl101_1
            replace p101 := eq_true p101
            replace q101 := eq_true q101
            go_wp2
            repeat (go_quiet (fail); try go_wp2)
            go_roundg k3
            case measure => have := HK1.out; have := HJ1.out; have := HK3.out; omega
            case rel => exact ⟨(x3_3), (wrap64 (x4_1 + 1)), (by first | rfl | (simp; done) | (simp [*]; done)), (by first | rfl | (simp; done) | (simp [*]; done)), H', ⟨by have := HK1.out; have := HJ1.out; have := HK3.out; omega⟩, by repeat (first | exact Drawn0.refl _ | apply Drawn0.step)⟩
          ·rw [if_neg c7] at H
           have c7b0 : decide (x5_3 < (((rd_T39 l0 x4_1).f1).length : Int)) = false := decide_eq_false c7
           clear c7
           have H' := Aside0.mk H
           clear H
           have p101 : 0 ≤ (x4_1 : Int) := of_decide_eq_true (by assumption)
           have q101 : x4_1 < (l0.length : Int) := of_decide_eq_true (by assumption)
           obtain ⟨ad101, A101_1, c101_1, e101, hx101_0, hx101_1, hl101_1, hi101_1⟩ := at_T39 HR0.out x4_1 p101 q101
           cases e101
           have HR101_1 := Aside0.mk hi101_1
           have HC101_1 := Aside0.mk hl101_1
           clear hi101_1 hl101_1
           replace p101 := eq_true p101
           replace q101 := eq_true q101
           go_wp2
           repeat (go_quiet (fail); try go_wp2)
           go_roundg k3
           case measure => have := HK1.out; have := HJ1.out; have := HK3.out; omega
           case rel => exact ⟨(x3_3), (wrap64 (x4_1 + 1)), (by first | rfl | (simp; done) | (simp [*]; done)), (by first | rfl | (simp; done) | (simp [*]; done)), H', ⟨by have := HK1.out; have := HJ1.out; have := HK3.out; omega⟩, by repeat (first | exact Drawn0.refl _ | apply Drawn0.step)⟩
         ·rw [if_neg c6] at H
          exact absurd H (by simp)
        ·rw [if_neg c5] at H
         exact absurd H (by simp)
     ·replace c4 := Bool.eq_false_iff.mpr c4
      subst c4
      have H1 : (if x3_1 > 6000 then (some true) else (some (decide ((l0.length : Int) > 30)))) = some r := by rw [if_neg (show ¬ (false = true) by decide)] at H; exact H
      clear H
      have H := H1
      clear H1
      by_cases c10 : x3_1 > 6000
      ·rw [if_pos c10] at H
       have c10b0 : decide (6000 < x3_1) = true := decide_eq_true c10
       clear c10
       obtain rfl := Option.some.inj H
       go_wp2
       repeat (go_quiet (fail); try go_wp2)
       go_ret
       exact ⟨by first | rfl | (simp; done) | (simp [*]; done), by repeat (first | exact Drawn0.refl _ | apply Drawn0.step)⟩
      ·rw [if_neg c10] at H
       have c10b0 : decide (6000 < x3_1) = false := decide_eq_false c10
       clear c10
       obtain rfl := Option.some.inj H
       go_wp2
       repeat (go_quiet (fail); try go_wp2)
       go_ret
       exact ⟨by first | rfl | (simp; done) | (simp [*]; done), by repeat (first | exact Drawn0.refl _ | apply Drawn0.step)⟩

end Go.Proofs.YthimblhfjfngiaaGreat.PText

namespace Go.Proofs.YthimblhfjfngiaaGreat.PText
open Go.RowKit Go.Proofs.YthimblhfjfngiaaGreatW.PrintWords Go.Proofs.YthimblhfjfngiaaGreatW.PrintLast Go.Proofs.YthimblhfjfngiaaGreatW.PrintMore
attribute [local go_sem] max2_int min2_int max_two min_two max_three min_three max_four min_four   -- for this text's walks alone
set_option linter.unusedVariables false
set_option linter.unusedSimpArgs false

def rf0_EqStrings.l0 : Nat → List ByteArray → List ByteArray → Int → Option (Bool)
 | 0, _, _, _ => none
 | k + 1, x0, x1, x5 => if x5 < (x0.length : Int) then (if 0 ≤ x5 then (if x5 < (x1.length : Int) then (if (rdOf ByteArray.empty x0 x5).toList = (rdOf ByteArray.empty x1 x5).toList then (rf0_EqStrings.l0 k x0 x1 (wrap64 (x5 + 1))) else (some false)) else (none)) else (none)) else (some true)
def rf0_EqStrings.f (k : Nat) (l0 : List ByteArray) (l1 : List ByteArray) : Option (Bool) := if (l0.length : Int) = (l1.length : Int) then (rf0_EqStrings.l0 k l0 l1 0) else (some false)
set_option maxHeartbeats 8000000 in
set_option maxRecDepth 100000 in
theorem rf0_EqStrings.calls (k : Nat) (A0 : Option Addr) (c0 : Nat) (l0 : List ByteArray) (A1 : Option Addr) (c1 : Nat) (l1 : List ByteArray) (r : Bool) (w : World) (hr0 : Kd.C Kd.string w A0 l0.length l0) (hc0 : l0.length ≤ c0) (hr1 : Kd.C Kd.string w A1 l1.length l1) (hc1 : l1.length ≤ c1) (h : rf0_EqStrings.f k l0 l1 = some r) :
  Calls Tryz.prog 18 #[.slice A0 l0.length c0, .slice A1 l1.length c1] w fun e w' => e = .returned (.bool r) ∧ Drawn0 w w' := by
 have HR0 := Aside0.mk hr0
 have HC0 := Aside0.mk hc0
 clear hr0 hc0
 have HR1 := Aside0.mk hr1
 have HC1 := Aside0.mk hc1
 clear hr1 hc1
 have H : (if (l0.length : Int) = (l1.length : Int) then (rf0_EqStrings.l0 k l0 l1 0) else (some false)) = some r := h
 clear h
 by_cases c3 : (l0.length : Int) = (l1.length : Int)
 ·rw [if_pos c3] at H
  have c3b0 : ((l0.length : Int) == (l1.length : Int)) = true := beq_iff_eq.mpr c3
  have c3b1 : ((l0.length : Int) != (l1.length : Int)) = false := bne_eq_false_iff_eq.mpr c3
  have c3b2 : (l0.length == l1.length) = true := by first | simpa using c3 | (simp at c3 ⊢; omega)
  clear c3
  have H' := Aside0.mk H
  clear H
  go_enter Tryz.func18, Tryz.ntmps18
  go_wp2
  repeat (go_quiet (fail); try go_wp2)
  try simp only [Act.put, List.setIfInBounds_toArray, List.set_cons_succ, List.set_cons_zero]
  go_loopg [5] k (fun kq v5 w' => ∃ (x5_1 : Int), v5 = .int .i64 x5_1 ∧ Aside0 (rf0_EqStrings.l0 kq l0 l1 x5_1 = some r) ∧ Aside0 (kq ≤ k) ∧ Drawn0 w w')
  case atStart => exact ⟨(0), (by first | rfl | (simp; done) | (simp [*]; done)), H', ⟨Nat.le_refl _⟩, by repeat (first | exact Drawn0.refl _ | apply Drawn0.step)⟩
  case round =>
   clear H'
   try clear c1
   try clear p2
   try clear c3
   try clear c3b0
   try clear c3b1
   try clear c3b2
   obtain ⟨x5_1, rfl, HA, HK1, ⟨m1, rfl⟩⟩ := hrel
   cases gk with
   | zero => exact absurd HA.out (by simp [rf0_EqStrings.l0])
   | succ k1 =>
    have H := HA.out
    clear HA
    simp only [rf0_EqStrings.l0] at H
    by_cases c4 : x5_1 < (l0.length : Int)
    ·rw [if_pos c4] at H
     have c4b0 : decide (x5_1 < (l0.length : Int)) = true := decide_eq_true c4
     clear c4
     by_cases c5 : 0 ≤ x5_1
     ·rw [if_pos c5] at H
      have c5b0 : decide (0 ≤ x5_1) = true := decide_eq_true c5
      clear c5
      by_cases c6 : x5_1 < (l1.length : Int)
      ·rw [if_pos c6] at H
       have c6b0 : decide (x5_1 < (l1.length : Int)) = true := decide_eq_true c6
       clear c6
       by_cases c7 : (rdOf ByteArray.empty l0 x5_1).toList = (rdOf ByteArray.empty l1 x5_1).toList
       ·rw [if_pos c7] at H
        have c7b0 : ((rdOf ByteArray.empty l0 x5_1).toList == (rdOf ByteArray.empty l1 x5_1).toList) = true := beq_iff_eq.mpr c7
        have c7b1 : ((rdOf ByteArray.empty l0 x5_1).toList != (rdOf ByteArray.empty l1 x5_1).toList) = false := bne_eq_false_iff_eq.mpr c7
        clear c7
        have H' := Aside0.mk H
        clear H
        have p494 : 0 ≤ (x5_1 : Int) := of_decide_eq_true (by assumption)
        have q494 : x5_1 < (l0.length : Int) := of_decide_eq_true (by assumption)
        obtain ⟨ad494, e494, hx494_0⟩ := Kd.at_string HR0.out x5_1 p494 q494
        cases e494
        replace p494 := eq_true p494
        replace q494 := eq_true q494
        have p495 : 0 ≤ (x5_1 : Int) := of_decide_eq_true (by assumption)
        have q495 : x5_1 < (l1.length : Int) := of_decide_eq_true (by assumption)
        obtain ⟨ad495, e495, hx495_0⟩ := Kd.at_string HR1.out x5_1 p495 q495
        cases e495
        replace p495 := eq_true p495
        replace q495 := eq_true q495
        go_wp2
        repeat (go_quiet (fail); try go_wp2)
        go_roundg k1
        case measure => have := HK1.out; omega
        case rel => exact ⟨(wrap64 (x5_1 + 1)), (by first | rfl | (simp; done) | (simp [*]; done)), H', ⟨by have := HK1.out; omega⟩, by repeat (first | exact Drawn0.refl _ | apply Drawn0.step)⟩
       ·rw [if_neg c7] at H
        have c7b0 : ((rdOf ByteArray.empty l0 x5_1).toList == (rdOf ByteArray.empty l1 x5_1).toList) = false := beq_eq_false_iff_ne.mpr c7
        have c7b1 : ((rdOf ByteArray.empty l0 x5_1).toList != (rdOf ByteArray.empty l1 x5_1).toList) = true := bne_iff_ne.mpr c7
        obtain rfl := Option.some.inj H
        have p494 : 0 ≤ (x5_1 : Int) := of_decide_eq_true (by assumption)
        have q494 : x5_1 < (l0.length : Int) := of_decide_eq_true (by assumption)
        obtain ⟨ad494, e494, hx494_0⟩ := Kd.at_string HR0.out x5_1 p494 q494
        cases e494
        replace p494 := eq_true p494
        replace q494 := eq_true q494
        have p495 : 0 ≤ (x5_1 : Int) := of_decide_eq_true (by assumption)
        have q495 : x5_1 < (l1.length : Int) := of_decide_eq_true (by assumption)
        obtain ⟨ad495, e495, hx495_0⟩ := Kd.at_string HR1.out x5_1 p495 q495
        cases e495
        replace p495 := eq_true p495
        replace q495 := eq_true q495
        go_wp2
        repeat (go_quiet (fail); try go_wp2)
        go_ret
        exact ⟨by first | rfl | (simp; done) | (simp [*]; done), by repeat (first | exact Drawn0.refl _ | apply Drawn0.step)⟩
      ·rw [if_neg c6] at H
       exact absurd H (by simp)
     ·rw [if_neg c5] at H
      exact absurd H (by simp)
    ·rw [if_neg c4] at H
     have c4b0 : decide (x5_1 < (l0.length : Int)) = false := decide_eq_false c4
     clear c4
     obtain rfl := Option.some.inj H
     go_wp2
     repeat (go_quiet (fail); try go_wp2)
     go_ret
     exact ⟨by first | rfl | (simp; done) | (simp [*]; done), by repeat (first | exact Drawn0.refl _ | apply Drawn0.step)⟩
 ·rw [if_neg c3] at H
  have c3b0 : ((l0.length : Int) == (l1.length : Int)) = false := beq_eq_false_iff_ne.mpr c3
  have c3b1 : ((l0.length : Int) != (l1.length : Int)) = true := bne_iff_ne.mpr c3
  have c3b2 : (l0.length == l1.length) = false := by first | simpa using c3 | (simp at c3 ⊢; omega)
  obtain rfl := Option.some.inj H
  go_enter Tryz.func18, Tryz.ntmps18
  go_wp2
  repeat (go_quiet (fail); try go_wp2)
  go_ret
  exact ⟨by first | rfl | (simp; done) | (simp [*]; done), by repeat (first | exact Drawn0.refl _ | apply Drawn0.step)⟩

end Go.Proofs.YthimblhfjfngiaaGreat.PText

namespace Go.Proofs.YthimblhfjfngiaaGreat.PText
open Go.RowKit Go.Proofs.YthimblhfjfngiaaGreatW.PrintWords Go.Proofs.YthimblhfjfngiaaGreatW.PrintLast Go.Proofs.YthimblhfjfngiaaGreatW.PrintMore
attribute [local go_sem] max2_int min2_int max_two min_two max_three min_three max_four min_four   -- for this text's walks alone
set_option linter.unusedVariables false
set_option linter.unusedSimpArgs false

theorem eqA41 (d : Nat) (w : World) (x0 y0 : ByteArray) (x1 y1 : ByteArray) :
  (Op.equalIn (d + 2) 41 (.agg #[.string x0, .string x1]) (.agg #[.string y0, .string y1])).run Tryz.prog w = .ok (x0.toList == y0.toList && (x1.toList == y1.toList)) w := by
 refine eqA_of Tryz.underlying41 (by kernel_rfl) ?_
 refine eqf_cons (by rfl) (by go_simp; rfl) (by go_simp; rfl) (by go_simp) ?_
 exact eqf_last (by rfl) (by go_simp; rfl) (by go_simp; rfl) (by go_simp)
end Go.Proofs.YthimblhfjfngiaaGreat.PText

namespace Go.Proofs.YthimblhfjfngiaaGreat.PText
open Go.RowKit Go.Proofs.YthimblhfjfngiaaGreatW.PrintWords Go.Proofs.YthimblhfjfngiaaGreatW.PrintLast Go.Proofs.YthimblhfjfngiaaGreatW.PrintMore
attribute [local go_sem] max2_int min2_int max_two min_two max_three min_three max_four min_four   -- for this text's walks alone
set_option linter.unusedVariables false
set_option linter.unusedSimpArgs false

attribute [local go_sem high] eqA41
def rf0_EqFiles.l0 : Nat → List (S41) → List (S41) → Int → Option (Bool)
 | 0, _, _, _ => none
 | k + 1, x0, x1, x5 => if x5 < (x0.length : Int) then (if 0 ≤ x5 then (if x5 < (x1.length : Int) then (if (!((((rd_T41 x0 x5).f0).toList) == (((rd_T41 x1 x5).f0).toList)) || (!((((rd_T41 x0 x5).f1).toList) == (((rd_T41 x1 x5).f1).toList)))) = true then (some false) else (rf0_EqFiles.l0 k x0 x1 (wrap64 (x5 + 1)))) else (none)) else (none)) else (some true)
def rf0_EqFiles.f (k : Nat) (l0 : List (S41)) (l1 : List (S41)) : Option (Bool) := if (l0.length : Int) = (l1.length : Int) then (rf0_EqFiles.l0 k l0 l1 0) else (some false)
set_option maxHeartbeats 8000000 in
set_option maxRecDepth 100000 in
theorem rf0_EqFiles.calls (k : Nat) (A0 : Option Addr) (c0 : Nat) (l0 : List (S41)) (A1 : Option Addr) (c1 : Nat) (l1 : List (S41)) (r : Bool) (w : World) (hr0 : Kd.C k41 w A0 l0.length l0) (hc0 : l0.length ≤ c0) (hr1 : Kd.C k41 w A1 l1.length l1) (hc1 : l1.length ≤ c1) (h : rf0_EqFiles.f k l0 l1 = some r) :
  Calls Tryz.prog 17 #[.slice A0 l0.length c0, .slice A1 l1.length c1] w fun e w' => e = .returned (.bool r) ∧ Drawn0 w w' := by
 have hu41 := Tryz.underlying41
 have HR0 := Aside0.mk hr0
 have HC0 := Aside0.mk hc0
 clear hr0 hc0
 have HR1 := Aside0.mk hr1
 have HC1 := Aside0.mk hc1
 clear hr1 hc1
 have H : (if (l0.length : Int) = (l1.length : Int) then (rf0_EqFiles.l0 k l0 l1 0) else (some false)) = some r := h
 clear h
 by_cases c3 : (l0.length : Int) = (l1.length : Int)
 ·rw [if_pos c3] at H
  have c3b0 : ((l0.length : Int) == (l1.length : Int)) = true := beq_iff_eq.mpr c3
  have c3b1 : ((l0.length : Int) != (l1.length : Int)) = false := bne_eq_false_iff_eq.mpr c3
  have c3b2 : (l0.length == l1.length) = true := by first | simpa using c3 | (simp at c3 ⊢; omega)
  clear c3
  have H' := Aside0.mk H
  clear H
  go_enter Tryz.func17, Tryz.ntmps17
  go_wp2
  repeat (go_quiet (fail); try go_wp2)
  try simp only [Act.put, List.setIfInBounds_toArray, List.set_cons_succ, List.set_cons_zero]
  go_loopg [5] k (fun kq v5 w' => ∃ (x5_1 : Int), v5 = .int .i64 x5_1 ∧ Aside0 (rf0_EqFiles.l0 kq l0 l1 x5_1 = some r) ∧ Aside0 (kq ≤ k) ∧ Drawn0 w w')
  case atStart => exact ⟨(0), (by first | rfl | (simp; done) | (simp [*]; done)), H', ⟨Nat.le_refl _⟩, by repeat (first | exact Drawn0.refl _ | apply Drawn0.step)⟩
  case round =>
   clear H'
   try clear c1
   try clear p2
   try clear c3
   try clear c3b0
   try clear c3b1
   try clear c3b2
   obtain ⟨x5_1, rfl, HA, HK1, ⟨m1, rfl⟩⟩ := hrel
   cases gk with
   | zero => exact absurd HA.out (by simp [rf0_EqFiles.l0])
   | succ k1 =>
    have H := HA.out
    clear HA
    simp only [rf0_EqFiles.l0] at H
    by_cases c4 : x5_1 < (l0.length : Int)
    ·rw [if_pos c4] at H
     have c4b0 : decide (x5_1 < (l0.length : Int)) = true := decide_eq_true c4
     clear c4
     by_cases c5 : 0 ≤ x5_1
     ·rw [if_pos c5] at H
      have c5b0 : decide (0 ≤ x5_1) = true := decide_eq_true c5
      clear c5
      by_cases c6 : x5_1 < (l1.length : Int)
      ·rw [if_pos c6] at H
       have c6b0 : decide (x5_1 < (l1.length : Int)) = true := decide_eq_true c6
       clear c6
       by_cases c7 : (!((((rd_T41 l0 x5_1).f0).toList) == (((rd_T41 l1 x5_1).f0).toList)) || (!((((rd_T41 l0 x5_1).f1).toList) == (((rd_T41 l1 x5_1).f1).toList)))) = true
       ·rw [if_pos c7] at H
        have c7b0 : (!((((rd_T41 l0 x5_1).f0).toList) == (((rd_T41 l1 x5_1).f0).toList)) || (!((((rd_T41 l0 x5_1).f1).toList) == (((rd_T41 l1 x5_1).f1).toList)))) = true := c7
        clear c7
        obtain rfl := Option.some.inj H
        have p485 : 0 ≤ (x5_1 : Int) := of_decide_eq_true (by assumption)
        have q485 : x5_1 < (l0.length : Int) := of_decide_eq_true (by assumption)
        obtain ⟨ad485, e485, hx485_0, hx485_1⟩ := at_T41 HR0.out x5_1 p485 q485
        cases e485
        replace p485 := eq_true p485
        replace q485 := eq_true q485
        have p486 : 0 ≤ (x5_1 : Int) := of_decide_eq_true (by assumption)
        have q486 : x5_1 < (l1.length : Int) := of_decide_eq_true (by assumption)
        obtain ⟨ad486, e486, hx486_0, hx486_1⟩ := at_T41 HR1.out x5_1 p486 q486
        cases e486
        replace p486 := eq_true p486
        replace q486 := eq_true q486
        go_wp2
        repeat (go_quiet (fail); try go_wp2)
        go_ret
        exact ⟨by first | rfl | (simp; done) | (simp [*]; done), by repeat (first | exact Drawn0.refl _ | apply Drawn0.step)⟩
       ·rw [if_neg c7] at H
        have c7b0 : (!((((rd_T41 l0 x5_1).f0).toList) == (((rd_T41 l1 x5_1).f0).toList)) || (!((((rd_T41 l0 x5_1).f1).toList) == (((rd_T41 l1 x5_1).f1).toList)))) = false := by simpa using c7
        clear c7
        have H' := Aside0.mk H
        clear H
        have p485 : 0 ≤ (x5_1 : Int) := of_decide_eq_true (by assumption)
        have q485 : x5_1 < (l0.length : Int) := of_decide_eq_true (by assumption)
        obtain ⟨ad485, e485, hx485_0, hx485_1⟩ := at_T41 HR0.out x5_1 p485 q485
        cases e485
        replace p485 := eq_true p485
        replace q485 := eq_true q485
        have p486 : 0 ≤ (x5_1 : Int) := of_decide_eq_true (by assumption)
        have q486 : x5_1 < (l1.length : Int) := of_decide_eq_true (by assumption)
        obtain ⟨ad486, e486, hx486_0, hx486_1⟩ := at_T41 HR1.out x5_1 p486 q486
        cases e486
        replace p486 := eq_true p486
        replace q486 := eq_true q486
        go_wp2
        repeat (go_quiet (fail); try go_wp2)
        go_roundg k1
        case measure => have := HK1.out; omega
        case rel => exact ⟨(wrap64 (x5_1 + 1)), (by first | rfl | (simp; done) | (simp [*]; done)), H', ⟨by have := HK1.out; omega⟩, by repeat (first | exact Drawn0.refl _ | apply Drawn0.step)⟩
      ·rw [if_neg c6] at H
       exact absurd H (by simp)
     ·rw [if_neg c5] at H
      exact absurd H (by simp)
    ·rw [if_neg c4] at H
     have c4b0 : decide (x5_1 < (l0.length : Int)) = false := decide_eq_false c4
     clear c4
     obtain rfl := Option.some.inj H
     go_wp2
     repeat (go_quiet (fail); try go_wp2)
     go_ret
     exact ⟨by first | rfl | (simp; done) | (simp [*]; done), by repeat (first | exact Drawn0.refl _ | apply Drawn0.step)⟩
 ·rw [if_neg c3] at H
  have c3b0 : ((l0.length : Int) == (l1.length : Int)) = false := beq_eq_false_iff_ne.mpr c3
  have c3b1 : ((l0.length : Int) != (l1.length : Int)) = true := bne_iff_ne.mpr c3
  have c3b2 : (l0.length == l1.length) = false := by first | simpa using c3 | (simp at c3 ⊢; omega)
  obtain rfl := Option.some.inj H
  go_enter Tryz.func17, Tryz.ntmps17
  go_wp2
  repeat (go_quiet (fail); try go_wp2)
  go_ret
  exact ⟨by first | rfl | (simp; done) | (simp [*]; done), by repeat (first | exact Drawn0.refl _ | apply Drawn0.step)⟩

end Go.Proofs.YthimblhfjfngiaaGreat.PText

namespace Go.Proofs.YthimblhfjfngiaaGreat.Tx
section
variable {α : Type} [DecidableEq α] {lt : α → α → Bool}
structure Lin (lt : α → α → Bool) : Prop where
  irr : ∀ a, lt a a = false
  tr : ∀ {a b c}, lt a b = true → lt b c = true → lt a c = true
  tri : ∀ {a b}, lt a b = false → lt b a = false → a = b
omit [DecidableEq α] in
theorem Lin.asym (h : Lin lt) {a b : α} (q : lt a b = true) : lt b a = false := by
  cases e : lt b a with
  | false => rfl
  | true => have := h.tr q e; rw [h.irr] at this; cases this
def Asc (lt : α → α → Bool) (l : List α) : Prop := l.Pairwise fun a b => lt a b = true
omit [DecidableEq α] in
theorem Asc.nil : Asc lt ([] : List α) := List.Pairwise.nil
omit [DecidableEq α] in
theorem asc_cons {a : α} {l : List α} : Asc lt (a :: l) ↔ (∀ b ∈ l, lt a b = true) ∧ Asc lt l := List.pairwise_cons
omit [DecidableEq α] in
theorem asc_append {l m : List α} : Asc lt (l ++ m) ↔ Asc lt l ∧ Asc lt m ∧ ∀ a ∈ l, ∀ b ∈ m, lt a b = true := List.pairwise_append
omit [DecidableEq α] in
theorem asc_unique (h : Lin lt) : ∀ {l m : List α}, Asc lt l → Asc lt m → (∀ a, a ∈ l ↔ a ∈ m) → l = m
  | [], [], _, _, _ => rfl
  | [], b :: m, _, _, q => by have := (q b).2 List.mem_cons_self; cases this
  | a :: l, [], _, _, q => by have := (q a).1 List.mem_cons_self; cases this
  | a :: l, b :: m, p1, p2, q => by
    obtain ⟨u1, v1⟩ := asc_cons.1 p1
    obtain ⟨u2, v2⟩ := asc_cons.1 p2
    have e : a = b := by
      rcases List.mem_cons.1 ((q a).1 List.mem_cons_self) with e | e
      · exact e
      rcases List.mem_cons.1 ((q b).2 List.mem_cons_self) with e' | e'
      · exact e'.symm
      have := h.asym (u2 a e)
      rw [u1 b e'] at this; cases this
    subst e
    rw [asc_unique h v1 v2 fun c => ⟨fun k => ?_, fun k => ?_⟩]
    · rcases List.mem_cons.1 ((q c).1 (List.mem_cons_of_mem _ k)) with e | e
      · subst e; have := u1 c k; rw [h.irr] at this; cases this
      · exact e
    · rcases List.mem_cons.1 ((q c).2 (List.mem_cons_of_mem _ k)) with e | e
      · subst e; have := u2 c k; rw [h.irr] at this; cases this
      · exact e
/-- The ascending list of a list's members. -/
def ord (lt : α → α → Bool) : List α → List α
  | [] => []
  | a :: l => ins a (ord lt l)
where ins (a : α) : List α → List α
  | [] => [a]
  | b :: l => if lt a b then a :: b :: l else if a = b then b :: l else b :: ins a l
theorem mem_ins (h : Lin lt) {a c : α} : ∀ {l : List α}, c ∈ ord.ins lt a l ↔ c = a ∨ c ∈ l
  | [] => by simp [ord.ins]
  | b :: l => by
    unfold ord.ins
    by_cases e : lt a b = true
    · rw [if_pos e, List.mem_cons]
    · rw [if_neg e]
      by_cases e' : a = b
      · rw [if_pos e']; subst e'; simp
      · rw [if_neg e', List.mem_cons, mem_ins h, List.mem_cons]
        constructor <;> rintro (k | k | k) <;> simp [k]
theorem asc_ins (h : Lin lt) {a : α} : ∀ {l : List α}, Asc lt l → Asc lt (ord.ins lt a l)
  | [], _ => List.pairwise_singleton _ _
  | b :: l, q => by
    obtain ⟨u, v⟩ := asc_cons.1 q
    unfold ord.ins
    by_cases e : lt a b = true
    · rw [if_pos e]
      exact asc_cons.2 ⟨fun c hc => (List.mem_cons.1 hc).elim (fun k => k ▸ e) fun k => h.tr e (u c k), q⟩
    · rw [if_neg e]
      by_cases e' : a = b
      · rw [if_pos e']; exact q
      · rw [if_neg e']
        refine asc_cons.2 ⟨fun c hc => ?_, asc_ins h v⟩
        rcases (mem_ins h).1 hc with k | k
        · subst k
          cases k : lt b c with
          | true => rfl
          | false => exact absurd (h.tri (by simpa using e) k) e'
        · exact u c k
theorem mem_ord (h : Lin lt) {c : α} : ∀ {l : List α}, c ∈ ord lt l ↔ c ∈ l
  | [] => Iff.rfl
  | a :: l => by unfold ord; rw [mem_ins h, mem_ord h, List.mem_cons]
theorem asc_ord (h : Lin lt) : ∀ {l : List α}, Asc lt (ord lt l)
  | [] => List.Pairwise.nil
  | a :: l => by unfold ord; exact asc_ins h (asc_ord h)
theorem ord_of_asc (h : Lin lt) {l m : List α} (q : Asc lt m) (k : ∀ a, a ∈ m ↔ a ∈ l) : m = ord lt l :=
  asc_unique h q (asc_ord h) fun a => by rw [mem_ord h]; exact k a
theorem ord_ord (h : Lin lt) {l : List α} (q : Asc lt l) : ord lt l = l := (ord_of_asc h q fun _ => Iff.rfl).symm
theorem ord_congr (h : Lin lt) {l m : List α} (k : ∀ a, a ∈ l ↔ a ∈ m) : ord lt l = ord lt m :=
  ord_of_asc h (asc_ord h) fun a => by rw [mem_ord h]; exact k a
theorem ord_len (l : List α) : (ord lt l).length ≤ l.length := by
  have hi : ∀ (a : α) (m : List α), (ord.ins lt a m).length ≤ m.length + 1 := by
    intro a m
    induction m with
    | nil => simp [ord.ins]
    | cons b m ih =>
      unfold ord.ins
      split
      · simp
      split
      · simp
      · simp only [List.length_cons]; omega
  induction l with
  | nil => exact Nat.le_refl _
  | cons a l ih => unfold ord; have := hi a (ord lt l); simp only [List.length_cons]; omega
end
end Go.Proofs.YthimblhfjfngiaaGreat.Tx

namespace Go.Proofs.YthimblhfjfngiaaGreat.Tx
structure Ed where
  f : Int
  t : Int
  x : List UInt8
theorem Ed.ext' {a b : Ed} (h1 : a.f = b.f) (h2 : a.t = b.t) (h3 : a.x = b.x) : a = b := by cases a; cases b; simp_all
instance : DecidableEq Ed := fun a b => decidable_of_iff (a.f = b.f ∧ a.t = b.t ∧ a.x = b.x) ⟨fun h => Ed.ext' h.1 h.2.1 h.2.2, fun h => by subst h; exact ⟨rfl, rfl, rfl⟩⟩
/-- the order of edits -/
def elt (a b : Ed) : Bool := decide (a.f < b.f) || (decide (a.f = b.f) && (decide (a.t < b.t) || (decide (a.t = b.t) && decide (a.x < b.x))))
theorem elt_iff {a b : Ed} : elt a b = true ↔ a.f < b.f ∨ (a.f = b.f ∧ (a.t < b.t ∨ (a.t = b.t ∧ a.x < b.x))) := by
  unfold elt
  simp only [Bool.or_eq_true, Bool.and_eq_true, decide_eq_true_eq]
theorem elt_lin : Lin elt where
  irr a := by
    cases h : elt a a with
    | false => rfl
    | true =>
      rcases elt_iff.1 h with k | ⟨_, k | ⟨_, k⟩⟩
      · omega
      · omega
      · exact absurd k (List.lt_irrefl _)
  tr := by
    intro a b c h1 h2
    rw [elt_iff] at h1 h2 ⊢
    rcases h1 with h1 | ⟨e1, h1 | ⟨e1', h1⟩⟩
    · rcases h2 with h2 | ⟨e2, h2⟩
      · exact Or.inl (by omega)
      · exact Or.inl (by omega)
    · rcases h2 with h2 | ⟨e2, h2 | ⟨e2', h2⟩⟩
      · exact Or.inl (by omega)
      · exact Or.inr ⟨by omega, Or.inl (by omega)⟩
      · exact Or.inr ⟨by omega, Or.inl (by omega)⟩
    · rcases h2 with h2 | ⟨e2, h2 | ⟨e2', h2⟩⟩
      · exact Or.inl (by omega)
      · exact Or.inr ⟨by omega, Or.inl (by omega)⟩
      · exact Or.inr ⟨by omega, Or.inr ⟨by omega, List.lt_trans h1 h2⟩⟩
  tri := by
    intro a b h1 h2
    have n1 : ¬ (elt a b = true) := by rw [h1]; decide
    have n2 : ¬ (elt b a = true) := by rw [h2]; decide
    rw [elt_iff] at n1 n2
    have ef : a.f = b.f := by
      rcases Int.lt_trichotomy a.f b.f with k | k | k
      · exact absurd (Or.inl k) n1
      · exact k
      · exact absurd (Or.inl k) n2
    have et : a.t = b.t := by
      rcases Int.lt_trichotomy a.t b.t with k | k | k
      · exact absurd (Or.inr ⟨ef, Or.inl k⟩) n1
      · exact k
      · exact absurd (Or.inr ⟨ef.symm, Or.inl k⟩) n2
    have n1' : ¬ a.x < b.x := fun k => n1 (Or.inr ⟨ef, Or.inr ⟨et, k⟩⟩)
    have n2' : ¬ b.x < a.x := fun k => n2 (Or.inr ⟨ef.symm, Or.inr ⟨et.symm, k⟩⟩)
    exact Ed.ext' ef et (List.le_antisymm (List.not_lt.1 n2') (List.not_lt.1 n1'))
/-- two edits touch -/
def touch (a b : Ed) : Bool :=
  if a.f = a.t ∧ b.f = b.t then decide (a.f = b.f)
  else if a.f = a.t then decide (b.f < a.f) && decide (a.f < b.t)
  else if b.f = b.t then decide (a.f < b.f) && decide (b.f < a.t)
  else decide (a.f < b.t) && decide (b.f < a.t)
def Okay (n : Int) (l : List Ed) : Prop := ∀ e ∈ l, 0 ≤ e.f ∧ e.f ≤ e.t ∧ e.t ≤ n
/-- does one of the sorted edits touch one before it -/
def clash (e last : Int) : List Ed → Bool
  | [] => false
  | x :: l => if x.f < e ∨ (x.f = x.t ∧ x.f = last) then true else clash (max e x.t) (if x.f = x.t then x.f else last) l
/-- edits one behind the other -/
def Ch (n : Int) : Int → List Ed → Prop
  | p, [] => p ≤ n
  | p, e :: l => p ≤ e.f ∧ e.f ≤ e.t ∧ Ch n e.t l
theorem clash_ch {n : Int} : ∀ (l : List Ed) (e last : Int), Okay n l → e ≤ n → clash e last l = false → Ch n e l
  | [], e, last, _, h, _ => h
  | x :: l, e, last, ho, hn, hc => by
    have hx := ho x List.mem_cons_self
    unfold clash at hc
    by_cases k : x.f < e ∨ (x.f = x.t ∧ x.f = last)
    · rw [if_pos k] at hc; cases hc
    · rw [if_neg k] at hc
      have e1 : max e x.t = x.t := by omega
      rw [e1] at hc
      exact ⟨by omega, hx.2.1, clash_ch l x.t _ (fun a m => ho a (List.mem_cons_of_mem _ m)) hx.2.2 hc⟩
end Go.Proofs.YthimblhfjfngiaaGreat.Tx

namespace Go.Proofs.YthimblhfjfngiaaGreat.Tx
/-- a part of a text -/
def sl (s : List UInt8) (a b : Int) : List UInt8 := (s.drop a.toNat).take (b.toNat - a.toNat)
/-- the text from a place on, behind edits -/
def ap (s : List UInt8) : Int → List Ed → List UInt8
  | p, [] => s.drop p.toNat
  | p, e :: l => sl s p e.f ++ e.x ++ ap s e.t l
theorem ch_le {n : Int} : ∀ {l : List Ed} {p : Int}, Ch n p l → p ≤ n
  | [], _, h => h
  | e :: l, p, h => by have := ch_le h.2.2; have := h.1; have := h.2.1; omega
end Go.Proofs.YthimblhfjfngiaaGreat.Tx

namespace Go.Proofs.YthimblhfjfngiaaGreat.Tx
end Go.Proofs.YthimblhfjfngiaaGreat.Tx

namespace Go.Proofs.YthimblhfjfngiaaGreat.Tx
/-- the lines of a text, the first part of the first one is told -/
def lgo (cur : List UInt8) : List UInt8 → List (List UInt8)
  | [] => if cur = [] then [] else [cur]
  | c :: r => if c = 10 then (cur ++ [c]) :: lgo [] r else lgo (cur ++ [c]) r
def lines (s : List UInt8) : List (List UInt8) := lgo [] s
theorem lgo_flat : ∀ (s cur : List UInt8), (lgo cur s).flatten = cur ++ s
  | [], cur => by
    unfold lgo
    by_cases h : cur = []
    · rw [if_pos h, h]; rfl
    · rw [if_neg h]; simp
  | c :: r, cur => by
    unfold lgo
    by_cases h : c = 10
    · rw [if_pos h, List.flatten_cons, lgo_flat r []]; simp
    · rw [if_neg h, lgo_flat r]; simp
theorem lines_flat (s : List UInt8) : (lines s).flatten = s := lgo_flat s []
theorem lgo_ne : ∀ (s cur : List UInt8), ∀ x ∈ lgo cur s, x ≠ []
  | [], cur, x, hx => by
    unfold lgo at hx
    by_cases h : cur = []
    · rw [if_pos h] at hx; cases hx
    · rw [if_neg h] at hx; rw [List.mem_singleton.1 hx]; exact h
  | c :: r, cur, x, hx => by
    unfold lgo at hx
    by_cases h : c = 10
    · rw [if_pos h] at hx
      rcases List.mem_cons.1 hx with k | k
      · subst k; simp
      · exact lgo_ne r [] x k
    · rw [if_neg h] at hx; exact lgo_ne r _ x hx
theorem lines_ne (s : List UInt8) : ∀ x ∈ lines s, x ≠ [] := lgo_ne s []
/-- a first line that ends -/
theorem lgo_line : ∀ (a cur r : List UInt8), (10 : UInt8) ∉ a → lgo cur (a ++ 10 :: r) = (cur ++ a ++ [10]) :: lgo [] r
  | [], cur, r, _ => by
    have e : lgo cur (10 :: r) = if (10 : UInt8) = 10 then (cur ++ [10]) :: lgo [] r else lgo (cur ++ [10]) r := rfl
    rw [List.nil_append, e, if_pos rfl, List.append_nil]
  | c :: a, cur, r, h => by
    have hc : c ≠ 10 := fun e => h (e ▸ List.mem_cons_self)
    show lgo cur (c :: (a ++ 10 :: r)) = _
    rw [lgo, if_neg hc, lgo_line a _ r fun k => h (List.mem_cons_of_mem _ k)]
    simp only [List.append_assoc, List.cons_append, List.nil_append]
section
variable {α : Type} [DecidableEq α]
/-- how many can be kept -/
def lcs : List α → List α → Nat
  | a :: l, b :: m => if a = b then lcs l m + 1 else max (lcs l (b :: m)) (lcs (a :: l) m)
  | _, _ => 0
termination_by l m => l.length + m.length
theorem lcs_nil_l (m : List α) : lcs [] m = 0 := by rw [lcs]; intro a l b m' h; cases h
theorem lcs_nil_r (l : List α) : lcs l [] = 0 := by rw [lcs]; intro a l' b m' _ h; cases h
theorem lcs_cons (a b : α) (l m : List α) : lcs (a :: l) (b :: m) = if a = b then lcs l m + 1 else max (lcs l (b :: m)) (lcs (a :: l) m) := by rw [lcs]
theorem lcs_step : ∀ (k : Nat) (l m : List α), l.length + m.length ≤ k →
    (∀ b, lcs l m ≤ lcs l (b :: m) ∧ lcs l (b :: m) ≤ lcs l m + 1) ∧ (∀ a, lcs l m ≤ lcs (a :: l) m ∧ lcs (a :: l) m ≤ lcs l m + 1) := by
  intro k
  induction k with
  | zero =>
    intro l m h
    have hl : l = [] := List.eq_nil_of_length_eq_zero (by omega)
    have hm : m = [] := List.eq_nil_of_length_eq_zero (by omega)
    subst hl hm
    refine ⟨fun b => ?_, fun a => ?_⟩
    · rw [lcs_nil_l, lcs_nil_l]; omega
    · rw [lcs_nil_r, lcs_nil_r]; omega
  | succ k ih =>
    intro l m h
    constructor
    · intro b
      cases l with
      | nil => rw [lcs_nil_l, lcs_nil_l]; omega
      | cons a l =>
        simp only [List.length_cons] at h
        have h1 := (ih l m (by omega)).1 b
        have h2 := (ih l m (by omega)).2 a
        rw [lcs_cons]
        by_cases e : a = b
        · rw [if_pos e]; omega
        · rw [if_neg e]; omega
    · intro a
      cases m with
      | nil => rw [lcs_nil_r, lcs_nil_r]; omega
      | cons b m =>
        simp only [List.length_cons] at h
        have h1 := (ih l m (by omega)).1 b
        have h2 := (ih l m (by omega)).2 a
        rw [lcs_cons]
        by_cases e : a = b
        · rw [if_pos e]; omega
        · rw [if_neg e]; omega
theorem lcs_len_l (l m : List α) : lcs l m ≤ l.length := by
  induction l with
  | nil => rw [lcs_nil_l]; exact Nat.le_refl _
  | cons a l ih => have := ((lcs_step _ l m (Nat.le_refl _)).2 a).2; simp only [List.length_cons]; omega
/-- the steps: 32 is kept, 45 goes, 43 comes -/
def stp : List α → List α → List (UInt8 × α)
  | a :: l, b :: m => if a = b then (32, a) :: stp l m else if lcs (a :: l) m ≤ lcs l (b :: m) then (45, a) :: stp l (b :: m) else (43, b) :: stp (a :: l) m
  | a :: l, [] => (45, a) :: stp l []
  | [], b :: m => (43, b) :: stp [] m
  | [], [] => []
termination_by l m => l.length + m.length
def news (l : List (UInt8 × α)) : List α := (l.filter fun x => x.1 != 45).map (·.2)
theorem stp_op : ∀ (k : Nat) (l m : List α), l.length + m.length ≤ k → ∀ x ∈ stp l m, (x.1 = 32 ∨ x.1 = 45 ∨ x.1 = 43) ∧ (x.2 ∈ l ∨ x.2 ∈ m) := by
  intro k
  induction k with
  | zero =>
    intro l m h
    have hl : l = [] := List.eq_nil_of_length_eq_zero (by omega)
    have hm : m = [] := List.eq_nil_of_length_eq_zero (by omega)
    subst hl hm
    rw [stp]; intro x hx; cases hx
  | succ k ih =>
    intro l m h x hx
    match l, m, h, hx with
    | [], [], _, hx => rw [stp] at hx; cases hx
    | a :: l, [], h, hx =>
      simp only [List.length_cons, List.length_nil] at h
      rw [stp] at hx
      rcases List.mem_cons.1 hx with q | q
      · subst q; exact ⟨Or.inr (Or.inl rfl), Or.inl List.mem_cons_self⟩
      · obtain ⟨h1, h2⟩ := ih l [] (by simp; omega) x q
        exact ⟨h1, h2.imp (List.mem_cons_of_mem _) id⟩
    | [], b :: m, h, hx =>
      simp only [List.length_cons, List.length_nil] at h
      rw [stp] at hx
      rcases List.mem_cons.1 hx with q | q
      · subst q; exact ⟨Or.inr (Or.inr rfl), Or.inr List.mem_cons_self⟩
      · obtain ⟨h1, h2⟩ := ih [] m (by simp; omega) x q
        exact ⟨h1, h2.imp id (List.mem_cons_of_mem _)⟩
    | a :: l, b :: m, h, hx =>
      simp only [List.length_cons] at h
      rw [stp] at hx
      by_cases e : a = b
      · rw [if_pos e] at hx
        rcases List.mem_cons.1 hx with q | q
        · subst q; exact ⟨Or.inl rfl, Or.inl List.mem_cons_self⟩
        · obtain ⟨h1, h2⟩ := ih l m (by omega) x q
          exact ⟨h1, h2.imp (List.mem_cons_of_mem _) (List.mem_cons_of_mem _)⟩
      · rw [if_neg e] at hx
        split at hx
        · rcases List.mem_cons.1 hx with q | q
          · subst q; exact ⟨Or.inr (Or.inl rfl), Or.inl List.mem_cons_self⟩
          · obtain ⟨h1, h2⟩ := ih l (b :: m) (by simp only [List.length_cons]; omega) x q
            exact ⟨h1, h2.imp (List.mem_cons_of_mem _) id⟩
        · rcases List.mem_cons.1 hx with q | q
          · subst q; exact ⟨Or.inr (Or.inr rfl), Or.inr List.mem_cons_self⟩
          · obtain ⟨h1, h2⟩ := ih (a :: l) m (by simp only [List.length_cons]; omega) x q
            exact ⟨h1, h2.imp id (List.mem_cons_of_mem _)⟩
end
end Go.Proofs.YthimblhfjfngiaaGreat.Tx

namespace Go.Proofs.YthimblhfjfngiaaGreat.Tx
abbrev St := UInt8 × List UInt8
/-- the edits of steps; the one that is not yet shut is told -/
def eg : Int → Option Ed → List St → List Ed
  | _, c, [] => c.toList
  | at_, c, (o, x) :: l =>
    if o = 32 then c.toList ++ eg (at_ + x.length) none l
    else
      let d := c.getD ⟨at_, at_, []⟩
      if o = 45 then eg (at_ + x.length) (some ⟨d.f, at_ + x.length, d.x⟩) l else eg at_ (some ⟨d.f, d.t, d.x ++ x⟩) l
theorem eg_keep (a : Int) (c : Option Ed) (x : List UInt8) (l : List St) : eg a c ((32, x) :: l) = c.toList ++ eg (a + x.length) none l := by
  rw [eg, if_pos rfl]
theorem eg_gone (a : Int) (c : Option Ed) (x : List UInt8) (l : List St) : eg a c ((45, x) :: l) = eg (a + x.length) (some ⟨(c.getD ⟨a, a, []⟩).f, a + x.length, (c.getD ⟨a, a, []⟩).x⟩) l := by
  rw [eg, if_neg (by decide), if_pos rfl]
theorem eg_come (a : Int) (c : Option Ed) (o : UInt8) (x : List UInt8) (l : List St) (h1 : o ≠ 32) (h2 : o ≠ 45) : eg a c ((o, x) :: l) = eg a (some ⟨(c.getD ⟨a, a, []⟩).f, (c.getD ⟨a, a, []⟩).t, (c.getD ⟨a, a, []⟩).x ++ x⟩) l := by
  rw [eg, if_neg h1, if_neg h2]
/-- the edits from a text to another one -/
def edits (a b : List UInt8) : List Ed := eg 0 none (stp (lines a) (lines b))
end Go.Proofs.YthimblhfjfngiaaGreat.Tx

namespace Go.Proofs.YthimblhfjfngiaaGreat.Tx
end Go.Proofs.YthimblhfjfngiaaGreat.Tx

namespace Go.Proofs.YthimblhfjfngiaaGreat.Tx
/-- the bytes before a line -/
def off (L : List (List UInt8)) (i : Nat) : Nat := (L.take i).flatten.length
/-- the first line at or behind a byte -/
def adv : List (List UInt8) → Int → Nat
  | [], _ => 0
  | x :: l, n => if 0 < n then adv l (n - x.length) + 1 else 0
/-- whose the lines are behind the edits, from a line on -/
def bl (lb : List (List UInt8)) (who : List Int) (k : Int) : Nat → List Ed → List Int
  | i, [] => who.drop i
  | i, e :: M => (who.drop i).take (adv lb e.f - i) ++ List.replicate (lines e.x).length k ++ bl lb who k (adv lb e.t) M
/-- behind one more edit: the line, and whose the lines so far are -/
def blp (lb : List (List UInt8)) (who : List Int) (k : Int) (s : Nat × List Int) (e : Ed) : Nat × List Int := (adv lb e.t, s.2 ++ (who.drop s.1).take (adv lb e.f - s.1) ++ List.replicate (lines e.x).length k)
/-- behind the first edits -/
def blS (lb : List (List UInt8)) (who : List Int) (k : Int) (E : List Ed) (i : Nat) : Nat × List Int := (E.take i).foldl (blp lb who k) (0, [])
end Go.Proofs.YthimblhfjfngiaaGreat.Tx

namespace Go.Proofs.YthimblhfjfngiaaGreat.Tx
end Go.Proofs.YthimblhfjfngiaaGreat.Tx

namespace Go.Proofs.YthimblhfjfngiaaGreat
theorem bl_lt : ∀ (x y : List UInt8), Op.bytesLess x y = decide (x < y)
  | [], [] => by simp [Op.bytesLess]
  | _ :: _, [] => by simp [Op.bytesLess]
  | [], _ :: _ => by simp [Op.bytesLess]
  | a :: x, b :: y => by
    rw [Op.bytesLess, bl_lt x y, Bool.eq_iff_iff]
    simp [List.cons_lt_cons_iff]
theorem bl_ne {x y : List UInt8} (h : Op.bytesLess y x = true) : (x == y) = false := by
  cases q : x == y with
  | false => rfl
  | true => rw [eq_of_beq q, bl_lt, decide_eq_true_eq] at h; exact absurd h (List.lt_irrefl _)
theorem bl_eq {x y : List UInt8} (h1 : Op.bytesLess x y = false) (h2 : Op.bytesLess y x = false) : (x == y) = true := by
  rw [bl_lt] at h1 h2
  exact beq_iff_eq.2 (List.le_antisymm (List.not_lt.1 (of_decide_eq_false h2)) (List.not_lt.1 (of_decide_eq_false h1)))
theorem bl_gtr (x y : List UInt8) : (!(Op.bytesLess x y || x == y)) = Op.bytesLess y x := by
  cases h1 : Op.bytesLess x y with
  | true =>
    cases h2 : Op.bytesLess y x with
    | false => rfl
    | true => rw [bl_lt, decide_eq_true_eq] at h1 h2; exact absurd (List.lt_trans h1 h2) (List.lt_irrefl _)
  | false =>
    cases h2 : Op.bytesLess y x with
    | false => rw [bl_eq h1 h2]; rfl
    | true => rw [bl_ne h2]; rfl
theorem run_gtr_str (P : Program) (T : TypeId) (x y : ByteArray) (w : World) : Sem.run P (binOp .gtr T (.string x) (.string y)) w = .ok (.bool (Op.bytesLess y.toList x.toList)) w := by
  rw [← bl_gtr]
  simp [binOp, Op.stringOp]
end Go.Proofs.YthimblhfjfngiaaGreat

namespace Go.Proofs.YthimblhfjfngiaaGreat.PText
open Go.RowKit Go.Proofs.YthimblhfjfngiaaGreatW.PrintWords Go.Proofs.YthimblhfjfngiaaGreatW.PrintLast Go.Proofs.YthimblhfjfngiaaGreatW.PrintMore
attribute [local go_sem] max2_int min2_int max_two min_two max_three min_three max_four min_four   -- for this text's walks alone
set_option linter.unusedVariables false
set_option linter.unusedSimpArgs false

def cmp_Compare_string.f (a0 : ByteArray) (a1 : ByteArray) : Option (Int) := (cmp_isNaN_string.f a0).bind fun t342 => ((cmp_isNaN_string.f a1).bind fun t343 => (if t342 = true then (if t343 = true then (some 0) else (some (-1))) else (if t343 = true then (some 1) else (if (Op.bytesLess a0.toList a1.toList) = true then (some (-1)) else (if (Op.bytesLess a1.toList a0.toList) = true then (some 1) else (some 0))))))
set_option maxHeartbeats 8000000 in
set_option maxRecDepth 100000 in
theorem cmp_Compare_string.calls (a0 : ByteArray) (a1 : ByteArray) (r : Int) (w : World) (h : cmp_Compare_string.f a0 a1 = some r) :
  Calls Tryz.prog 46 #[.string a0, .string a1] w fun e w' => e = .returned (.int .i64 r) ∧ Drawn0 w w' := by
 have H : ((cmp_isNaN_string.f a0).bind fun t342 => ((cmp_isNaN_string.f a1).bind fun t343 => (if t342 = true then (if t343 = true then (some 0) else (some (-1))) else (if t343 = true then (some 1) else (if (Op.bytesLess a0.toList a1.toList) = true then (some (-1)) else (if (Op.bytesLess a1.toList a0.toList) = true then (some 1) else (some 0))))))) = some r := h
 clear h
 replace H := Option.bind_eq_some_iff.mp H
 obtain ⟨t342, A30, H⟩ := H
 replace H : ((cmp_isNaN_string.f a1).bind fun t343 => (if t342 = true then (if t343 = true then (some 0) else (some (-1))) else (if t343 = true then (some 1) else (if (Op.bytesLess a0.toList a1.toList) = true then (some (-1)) else (if (Op.bytesLess a1.toList a0.toList) = true then (some 1) else (some 0)))))) = some r := H
 have A3 := Aside0.mk A30
 clear A30
 replace H := Option.bind_eq_some_iff.mp H
 obtain ⟨t343, A40, H⟩ := H
 replace H : (if t342 = true then (if t343 = true then (some 0) else (some (-1))) else (if t343 = true then (some 1) else (if (Op.bytesLess a0.toList a1.toList) = true then (some (-1)) else (if (Op.bytesLess a1.toList a0.toList) = true then (some 1) else (some 0))))) = some r := H
 have A4 := Aside0.mk A40
 clear A40
 by_cases c5 : t342 = true
 ·subst c5
  have H1 : (if t343 = true then (some 0) else (some (-1))) = some r := by rw [if_pos rfl] at H; exact H
  clear H
  have H := H1
  clear H1
  by_cases c6 : t343 = true
  ·subst c6
   have H1 : (some 0) = some r := by rw [if_pos rfl] at H; exact H
   clear H
   have H := H1
   clear H1
   obtain rfl := Option.some.inj H
   go_enter Tryz.func46, Tryz.ntmps46
   go_wp2_with (first | ((with_reducible refine gate_callee (f := 68) rfl ?_); refine goesL_ (some 8) rfl rfl Tryz.func68 (by kernel_rfl) rfl #[.string a0] rfl (by (try simp only [List.map_toArray, List.map_cons, List.map_nil]); first | done | rfl | (simp only [List.length_drop, List.length_take]; rfl)) ?_; (with_reducible refine (cmp_isNaN_string.calls a0 true _ A3.out).mono ?_); rintro e w' ⟨rfl, ⟨nd, rfl⟩⟩; refine ⟨_, rfl, ?_⟩) | ((with_reducible refine gate_callee (f := 68) rfl ?_); refine goesL_ (some 10) rfl rfl Tryz.func68 (by kernel_rfl) rfl #[.string a1] rfl (by (try simp only [List.map_toArray, List.map_cons, List.map_nil]); first | done | rfl | (simp only [List.length_drop, List.length_take]; rfl)) ?_; (with_reducible refine (cmp_isNaN_string.calls a1 true _ A4.out).mono ?_); rintro e w' ⟨rfl, ⟨nd, rfl⟩⟩; refine ⟨_, rfl, ?_⟩))
   go_ret
   exact ⟨by first | rfl | (simp; done) | (simp [*]; done), by repeat (first | exact Drawn0.refl _ | apply Drawn0.step)⟩
  ·replace c6 := Bool.eq_false_iff.mpr c6
   subst c6
   have H1 : (some (-1)) = some r := by rw [if_neg (show ¬ (false = true) by decide)] at H; exact H
   clear H
   have H := H1
   clear H1
   obtain rfl := Option.some.inj H
   go_enter Tryz.func46, Tryz.ntmps46
   go_wp2_with (first | ((with_reducible refine gate_callee (f := 68) rfl ?_); refine goesL_ (some 8) rfl rfl Tryz.func68 (by kernel_rfl) rfl #[.string a0] rfl (by (try simp only [List.map_toArray, List.map_cons, List.map_nil]); first | done | rfl | (simp only [List.length_drop, List.length_take]; rfl)) ?_; (with_reducible refine (cmp_isNaN_string.calls a0 true _ A3.out).mono ?_); rintro e w' ⟨rfl, ⟨nd, rfl⟩⟩; refine ⟨_, rfl, ?_⟩) | ((with_reducible refine gate_callee (f := 68) rfl ?_); refine goesL_ (some 10) rfl rfl Tryz.func68 (by kernel_rfl) rfl #[.string a1] rfl (by (try simp only [List.map_toArray, List.map_cons, List.map_nil]); first | done | rfl | (simp only [List.length_drop, List.length_take]; rfl)) ?_; (with_reducible refine (cmp_isNaN_string.calls a1 false _ A4.out).mono ?_); rintro e w' ⟨rfl, ⟨nd, rfl⟩⟩; refine ⟨_, rfl, ?_⟩))
   go_ret
   exact ⟨by first | rfl | (simp; done) | (simp [*]; done), by repeat (first | exact Drawn0.refl _ | apply Drawn0.step)⟩
 ·replace c5 := Bool.eq_false_iff.mpr c5
  subst c5
  have H1 : (if t343 = true then (some 1) else (if (Op.bytesLess a0.toList a1.toList) = true then (some (-1)) else (if (Op.bytesLess a1.toList a0.toList) = true then (some 1) else (some 0)))) = some r := by rw [if_neg (show ¬ (false = true) by decide)] at H; exact H
  clear H
  have H := H1
  clear H1
  by_cases c7 : t343 = true
  ·subst c7
   have H1 : (some 1) = some r := by rw [if_pos rfl] at H; exact H
   clear H
   have H := H1
   clear H1
   obtain rfl := Option.some.inj H
   go_enter Tryz.func46, Tryz.ntmps46
   go_wp2_with (first | ((with_reducible refine gate_callee (f := 68) rfl ?_); refine goesL_ (some 8) rfl rfl Tryz.func68 (by kernel_rfl) rfl #[.string a0] rfl (by (try simp only [List.map_toArray, List.map_cons, List.map_nil]); first | done | rfl | (simp only [List.length_drop, List.length_take]; rfl)) ?_; (with_reducible refine (cmp_isNaN_string.calls a0 false _ A3.out).mono ?_); rintro e w' ⟨rfl, ⟨nd, rfl⟩⟩; refine ⟨_, rfl, ?_⟩) | ((with_reducible refine gate_callee (f := 68) rfl ?_); refine goesL_ (some 10) rfl rfl Tryz.func68 (by kernel_rfl) rfl #[.string a1] rfl (by (try simp only [List.map_toArray, List.map_cons, List.map_nil]); first | done | rfl | (simp only [List.length_drop, List.length_take]; rfl)) ?_; (with_reducible refine (cmp_isNaN_string.calls a1 true _ A4.out).mono ?_); rintro e w' ⟨rfl, ⟨nd, rfl⟩⟩; refine ⟨_, rfl, ?_⟩))
   go_ret
   exact ⟨by first | rfl | (simp; done) | (simp [*]; done), by repeat (first | exact Drawn0.refl _ | apply Drawn0.step)⟩
  ·replace c7 := Bool.eq_false_iff.mpr c7
   subst c7
   have H1 : (if (Op.bytesLess a0.toList a1.toList) = true then (some (-1)) else (if (Op.bytesLess a1.toList a0.toList) = true then (some 1) else (some 0))) = some r := by rw [if_neg (show ¬ (false = true) by decide)] at H; exact H
   clear H
   have H := H1
   clear H1
   by_cases c8 : (Op.bytesLess a0.toList a1.toList) = true
   ·rw [if_pos c8] at H
    have c8b0 : (Op.bytesLess a0.toList a1.toList) = true := c8
    clear c8
    obtain rfl := Option.some.inj H
    go_enter Tryz.func46, Tryz.ntmps46
    go_wp2_with (first | ((with_reducible refine gate_callee (f := 68) rfl ?_); refine goesL_ (some 8) rfl rfl Tryz.func68 (by kernel_rfl) rfl #[.string a0] rfl (by (try simp only [List.map_toArray, List.map_cons, List.map_nil]); first | done | rfl | (simp only [List.length_drop, List.length_take]; rfl)) ?_; (with_reducible refine (cmp_isNaN_string.calls a0 false _ A3.out).mono ?_); rintro e w' ⟨rfl, ⟨nd, rfl⟩⟩; refine ⟨_, rfl, ?_⟩) | ((with_reducible refine gate_callee (f := 68) rfl ?_); refine goesL_ (some 10) rfl rfl Tryz.func68 (by kernel_rfl) rfl #[.string a1] rfl (by (try simp only [List.map_toArray, List.map_cons, List.map_nil]); first | done | rfl | (simp only [List.length_drop, List.length_take]; rfl)) ?_; (with_reducible refine (cmp_isNaN_string.calls a1 false _ A4.out).mono ?_); rintro e w' ⟨rfl, ⟨nd, rfl⟩⟩; refine ⟨_, rfl, ?_⟩))
    go_ret
    exact ⟨by first | rfl | (simp; done) | (simp [*]; done), by repeat (first | exact Drawn0.refl _ | apply Drawn0.step)⟩
   ·rw [if_neg c8] at H
    have c8b0 : (Op.bytesLess a0.toList a1.toList) = false := by simpa using c8
    clear c8
    by_cases c9 : (Op.bytesLess a1.toList a0.toList) = true
    ·rw [if_pos c9] at H
     have c9b0 : (Op.bytesLess a1.toList a0.toList) = true := c9
     have c9g := run_gtr_str Tryz.prog 9 a0 a1
     clear c9
     obtain rfl := Option.some.inj H
     go_enter Tryz.func46, Tryz.ntmps46
     go_wp2_with (first | ((with_reducible refine gate_callee (f := 68) rfl ?_); refine goesL_ (some 8) rfl rfl Tryz.func68 (by kernel_rfl) rfl #[.string a0] rfl (by (try simp only [List.map_toArray, List.map_cons, List.map_nil]); first | done | rfl | (simp only [List.length_drop, List.length_take]; rfl)) ?_; (with_reducible refine (cmp_isNaN_string.calls a0 false _ A3.out).mono ?_); rintro e w' ⟨rfl, ⟨nd, rfl⟩⟩; refine ⟨_, rfl, ?_⟩) | ((with_reducible refine gate_callee (f := 68) rfl ?_); refine goesL_ (some 10) rfl rfl Tryz.func68 (by kernel_rfl) rfl #[.string a1] rfl (by (try simp only [List.map_toArray, List.map_cons, List.map_nil]); first | done | rfl | (simp only [List.length_drop, List.length_take]; rfl)) ?_; (with_reducible refine (cmp_isNaN_string.calls a1 false _ A4.out).mono ?_); rintro e w' ⟨rfl, ⟨nd, rfl⟩⟩; refine ⟨_, rfl, ?_⟩))
     go_ret
     exact ⟨by first | rfl | (simp; done) | (simp [*]; done), by repeat (first | exact Drawn0.refl _ | apply Drawn0.step)⟩
    ·rw [if_neg c9] at H
     have c9b0 : (Op.bytesLess a1.toList a0.toList) = false := by simpa using c9
     have c9g := run_gtr_str Tryz.prog 9 a0 a1
     clear c9
     obtain rfl := Option.some.inj H
     go_enter Tryz.func46, Tryz.ntmps46
     go_wp2_with (first | ((with_reducible refine gate_callee (f := 68) rfl ?_); refine goesL_ (some 8) rfl rfl Tryz.func68 (by kernel_rfl) rfl #[.string a0] rfl (by (try simp only [List.map_toArray, List.map_cons, List.map_nil]); first | done | rfl | (simp only [List.length_drop, List.length_take]; rfl)) ?_; (with_reducible refine (cmp_isNaN_string.calls a0 false _ A3.out).mono ?_); rintro e w' ⟨rfl, ⟨nd, rfl⟩⟩; refine ⟨_, rfl, ?_⟩) | ((with_reducible refine gate_callee (f := 68) rfl ?_); refine goesL_ (some 10) rfl rfl Tryz.func68 (by kernel_rfl) rfl #[.string a1] rfl (by (try simp only [List.map_toArray, List.map_cons, List.map_nil]); first | done | rfl | (simp only [List.length_drop, List.length_take]; rfl)) ?_; (with_reducible refine (cmp_isNaN_string.calls a1 false _ A4.out).mono ?_); rintro e w' ⟨rfl, ⟨nd, rfl⟩⟩; refine ⟨_, rfl, ?_⟩))
     go_ret
     exact ⟨by first | rfl | (simp; done) | (simp [*]; done), by repeat (first | exact Drawn0.refl _ | apply Drawn0.step)⟩

end Go.Proofs.YthimblhfjfngiaaGreat.PText

-- mended25

namespace Go.Proofs.YthimblhfjfngiaaGreat.PText
open Go.RowKit Go.Proofs.YthimblhfjfngiaaGreatW.PrintWords Go.Proofs.YthimblhfjfngiaaGreatW.PrintLast Go.Proofs.YthimblhfjfngiaaGreatW.PrintMore
attribute [local go_sem] max2_int min2_int max_two min_two max_three min_three max_four min_four   -- for this text's walks alone
set_option linter.unusedVariables false
set_option linter.unusedSimpArgs false

def text_order.f (k : Nat) (a0_0 : Int) (a0_1 : Int) (a0_2 : ByteArray) (a1_0 : Int) (a1_1 : Int) (a1_2 : ByteArray) : Option (Int) := (cmp_Compare_int.f a0_0 a1_0).bind fun t349 => ((cmp_Compare_int.f a0_1 a1_1).bind fun t350 => ((cmp_Compare_string.f a0_2 a1_2).bind fun t351 => ((cmp_Or_int.f k (([t349, t350, t351] : List Int))).bind fun t355 => (some t355))))
def text_order.T1 : Bool × List (List Nat × List Nat) := (true, [([], []), ([0], [0]), ([], []), ([2], [2]), ([1, 3], [1, 3]), ([], []), ([5], [5]), ([], []), ([7], [7]), ([6, 8, 4], [6, 8]), ([], []), ([10], [10]), ([], []), ([12], [12]), ([11, 13, 9], [11, 13]), ([4, 9, 14], [4, 9, 14]), ([15, 14], [15]), ([16, 16, 0, 1, 2, 3, 4, 5, 6, 7, 8, 9, 10, 11, 12, 13, 14, 15, 16], [16])])
def text_order.B1 : List Nat := [0, 1, 0, 4, 15, 0, 32, 0, 128, 511, 0, 1024, 0, 4096, 16383, 32767, 65535, 131071]
theorem text_order.tab1 : rtab .any (opsOf Tryz.f108 1) = text_order.T1 := by kernel_rfl
theorem text_order.bits1 : waitsOk text_order.T1.2 text_order.B1 = true := by kernel_rfl
end Go.Proofs.YthimblhfjfngiaaGreat.PText

namespace Go.Proofs.YthimblhfjfngiaaGreat.PText
open Go.RowKit Go.Proofs.YthimblhfjfngiaaGreatW.PrintWords Go.Proofs.YthimblhfjfngiaaGreatW.PrintLast Go.Proofs.YthimblhfjfngiaaGreatW.PrintMore
attribute [local go_sem] max2_int min2_int max_two min_two max_three min_three max_four min_four
set_option linter.unusedVariables false
set_option linter.unusedSimpArgs false
theorem grow_of_below {w w' : World} (h : Below w.heap.size w w') (hd : w.drawn ≤ w'.drawn) : ∃ q os', w' = Sort.grow (w.drewN q) os' := by
  refine ⟨w'.drawn - w.drawn, w'.heap.extract w.heap.size w'.heap.size, ?_⟩
  obtain ⟨h1, h2, h3, h4, h5⟩ := h
  have e : w'.heap = w.heap ++ w'.heap.extract w.heap.size w'.heap.size := by
    apply Array.ext_getElem?
    intro i
    rcases Nat.lt_or_ge i w.heap.size with hi | hi
    · rw [h5 i hi, Array.getElem?_append_left hi]
    · rw [Array.getElem?_append_right hi, Array.getElem?_extract]
      by_cases hk : i < w'.heap.size
      · rw [if_pos (by omega)]; congr 1; omega
      · rw [if_neg (by omega), Array.getElem?_eq_none (by omega)]
  cases w' with
  | mk heap tape drawn os output =>
    simp only [Sort.grow, World.drewN] at *
    subst h1 h2 h3
    rw [World.mk.injEq]
    exact ⟨e, rfl, by omega, rfl, rfl⟩
section
variable {P : Program} {o : Oper} {ops : Array Oper} {rest : List Oper} {a : Act} {Q : Exit → Act → World → Prop} {Kc : Act → World → Prop}
theorem box_eventD {W : World} (hgd : o.guard = none) {N : Tmp} (_hd : o.dst = some N) {cs : Array Value} {t : TypeId}
    (hrun : (execOp a.eval o).run P W = .ok (.value (.pointer (some ⟨W.heap.size, 0, none⟩))) (W.alloc (.cells cs t (0, 0))))
    (h : ∀ g, g = W.heap.size → ∀ w1, w1.heap[g]? = some (.cells cs t (0, 0)) → Below W.heap.size W w1 → w1.drawn = W.drawn → wpList P ops Q rest (a.put o.dst (.pointer (some ⟨g, 0, none⟩))) w1) : wpList P ops Q (o :: rest) a W :=
  Kd.event_run hgd hrun (h _ rfl _ (blk_new W _) (below_alloc (Below.refl _ _) _) rfl)
theorem Kd.R_lit_stepD {α : Type} (d : Kd α) {w0 W : World} (base e : Nat) (hw : Region.wanted o (yielded ops a.tmps) = true) {N : Tmp} (hd : o.dst = some N) {xs : List α} {inner : List Value} {ok okp : Nat → Prop}
    (hrun : (execOp a.eval o).run P W = .ok (.value (.slice (some ⟨W.heap.size, 0, none⟩) xs.length xs.length)) (W.alloc (.cells inner.toArray e)))
    (hrep : Reps (d.M W base okp) d.sz xs inner) (hok : ∀ k, okp k → ok k) (hfresh : ok W.heap.size) (HB : Below base w0 W) (hbase : base ≤ W.heap.size) (hm : xs.length ≤ 9223372036854775807)
    (h : ∀ v1 w1, d.R e w1 base ok v1 xs → Below base w0 w1 → W.grownBy w1 none → (∃ b, v1.ownBlock = some b ∧ W.heap.size ≤ b) → w1.drawn = W.drawn → Kc (a.put o.dst v1) w1) : if Region.wanted o (yielded ops a.tmps) = true then Oper.wp P o a W Kc Q else Kc (a.put o.dst undef) W := by
  have q := Kd.R_lit_step (Kc := fun a' w' => w'.drawn = W.drawn → Kc a' w') (Q := Q) d base e hw hd hrun hrep hok hfresh HB hbase hm (fun v1 w1 p1 p2 p3 p4 p5 => h v1 w1 p1 p2 p3 p4 p5)
  rw [if_pos hw] at q ⊢
  unfold Oper.wp at q ⊢
  rw [hrun] at q ⊢
  exact q rfl
end
set_option maxHeartbeats 8000000 in
set_option maxRecDepth 100000 in
theorem text_order.grows (k : Nat) (a0_0 : Int) (a0_1 : Int) (a0_2 : ByteArray) (a1_0 : Int) (a1_1 : Int) (a1_2 : ByteArray) (r : Int) (w : World) (h : text_order.f k a0_0 a0_1 a0_2 a1_0 a1_1 a1_2 = some r) :
    Calls Tryz.prog 108 #[.agg #[.int .i64 a0_0, .int .i64 a0_1, .string a0_2], .agg #[.int .i64 a1_0, .int .i64 a1_1, .string a1_2]] w fun e w' => e = .returned (.int .i64 r) ∧ ∃ q os', w' = Sort.grow (w.drewN q) os' := by
  have hu91 := Tryz.underlying91
  have HB := Aside0.mk (Below.refl w.heap.size w)
  have HD := Aside0.mk (Nat.le_refl w.drawn)
  have H : ((cmp_Compare_int.f a0_0 a1_0).bind fun t349 => ((cmp_Compare_int.f a0_1 a1_1).bind fun t350 => ((cmp_Compare_string.f a0_2 a1_2).bind fun t351 => ((cmp_Or_int.f k (([t349, t350, t351] : List Int))).bind fun t355 => (some t355))))) = some r := h
  clear h
  replace H := Option.bind_eq_some_iff.mp H
  obtain ⟨t349, A30, H⟩ := H
  replace H : ((cmp_Compare_int.f a0_1 a1_1).bind fun t350 => ((cmp_Compare_string.f a0_2 a1_2).bind fun t351 => ((cmp_Or_int.f k (([t349, t350, t351] : List Int))).bind fun t355 => (some t355)))) = some r := H
  have A3 := Aside0.mk A30
  clear A30
  replace H := Option.bind_eq_some_iff.mp H
  obtain ⟨t350, A40, H⟩ := H
  replace H : ((cmp_Compare_string.f a0_2 a1_2).bind fun t351 => ((cmp_Or_int.f k (([t349, t350, t351] : List Int))).bind fun t355 => (some t355))) = some r := H
  have A4 := Aside0.mk A40
  clear A40
  replace H := Option.bind_eq_some_iff.mp H
  obtain ⟨t351, A50, H⟩ := H
  replace H : ((cmp_Or_int.f k (([t349, t350, t351] : List Int))).bind fun t355 => (some t355)) = some r := H
  have A5 := Aside0.mk A50
  clear A50
  obtain ⟨y352, hy352⟩ : ∃ y_ : List Int, y_ = (([t349, t350, t351] : List Int)) := ⟨_, rfl⟩
  replace H : ((cmp_Or_int.f k y352).bind fun t355 => (some t355)) = some r := by first | (rw [hy352]; with_reducible exact H) | (have H2_ := (Option.bind_some _ _).symm.trans H; rw [hy352]; with_reducible exact H2_) | (have H2_ := (Option.bind_some _ _).symm.trans H; with_reducible exact H2_) | with_reducible exact H | (rw [hy352]; exact H) | exact H
  have Ny352 := Aside0.mk hy352
  clear hy352
  replace H := Option.bind_eq_some_iff.mp H
  obtain ⟨t355, A60, H⟩ := H
  replace H : (some t355) = some r := H
  have A6 := Aside0.mk A60
  clear A60
  obtain rfl := Option.some.inj H
  go_enter Tryz.func108, Tryz.ntmps108
  try go_wp2_with (first | ((with_reducible refine gate_dst (N := 2) rfl ?_); refine box_eventD ?hg (N := 2) ?hd (cs := #[.int .i64 a0_0, .int .i64 a0_1, .string a0_2]) (t := 91) ?hr ?_; (case hd => rfl); (case hg => rfl); (case hr => first | (go_simp; done) | (go_simp; rfl)); intro gb347 hg w7 hbox hb hd_; have m_ := Aside0.mk (show w.drawn ≤ w7.drawn from by have h_ := HD.out; first | omega | (simp only [World.drewN, World.drew] at hd_; omega)); clear HD; have HD := m_; clear m_ hd_; have n0_ := Aside0.mk (below_step (by repeat (first | (with_reducible first | exact HB.out | apply below_alloc | apply pw_below_drewN | apply below_drew1) | exact HB.out)) hb); have n1_ := Aside0.mk (hbox); have n2_ := Aside0.mk ((by rw [hg]; exact (below_size (by repeat (first | (with_reducible first | exact HB.out | apply below_alloc | apply pw_below_drewN | apply below_drew1) | exact HB.out))) : w.heap.size ≤ gb347)); have n3_ := Aside0.mk ((by rw [hg]; exact (below_size (by repeat (first | (with_reducible first | exact HB.out | apply below_alloc | apply pw_below_drewN | apply below_drew1) | exact HB.out))) : w.heap.size ≤ gb347)); clear HB; have HB := n0_; have BK347 := n1_; have GW347 := n2_; have GE347 := n3_; clear n0_ n1_ n2_ n3_; clear hb hbox hg) | ((with_reducible refine gate_dst (N := 3) rfl ?_); refine box_eventD ?hg (N := 3) ?hd (cs := #[.int .i64 a1_0, .int .i64 a1_1, .string a1_2]) (t := 91) ?hr ?_; (case hd => rfl); (case hg => rfl); (case hr => first | (go_simp; done) | (go_simp; rfl)); intro gb348 hg w8 hbox hb hd_; have m_ := Aside0.mk (show w.drawn ≤ w8.drawn from by have h_ := HD.out; first | omega | (simp only [World.drewN, World.drew] at hd_; omega)); clear HD; have HD := m_; clear m_ hd_; have n0_ := Aside0.mk (blk_below (g := gb347) (o := .cells #[.int .i64 a0_0, .int .i64 a0_1, .string a0_2] 91 (0, 0)) (by (with_reducible repeat (first | refine blk_drewN ?_ _ | refine blk_drew ?_ | refine blk_alloc ?_ _)); exact BK347.out) hb); have n1_ := Aside0.mk (below_step (by repeat (first | (with_reducible first | exact HB.out | apply below_alloc | apply pw_below_drewN | apply below_drew1 | refine below_set ?_ GE347.out) | exact HB.out)) hb); have n2_ := Aside0.mk (hbox); have n3_ := Aside0.mk ((by rw [hg]; exact (below_size (by repeat (first | (with_reducible first | exact HB.out | apply below_alloc | apply pw_below_drewN | apply below_drew1 | refine below_set ?_ GE347.out) | exact HB.out))) : w.heap.size ≤ gb348)); have n4_ := Aside0.mk ((by rw [hg]; exact (below_size (by repeat (first | (with_reducible first | exact HB.out | apply below_alloc | apply pw_below_drewN | apply below_drew1 | refine below_set ?_ GE347.out) | exact HB.out))) : w.heap.size ≤ gb348)); have n5_ := Aside0.mk ((by rw [hg]; exact Nat.ne_of_lt (blk_lt (g := gb347) (o := .cells #[.int .i64 a0_0, .int .i64 a0_1, .string a0_2] 91 (0, 0)) (by (with_reducible repeat (first | refine blk_drewN ?_ _ | refine blk_drew ?_ | refine blk_alloc ?_ _)); exact BK347.out)) : gb347 ≠ gb348)); have n6_ := Aside0.mk ((by rw [hg]; exact Nat.ne_of_gt (blk_lt (g := gb347) (o := .cells #[.int .i64 a0_0, .int .i64 a0_1, .string a0_2] 91 (0, 0)) (by (with_reducible repeat (first | refine blk_drewN ?_ _ | refine blk_drew ?_ | refine blk_alloc ?_ _)); exact BK347.out)) : gb348 ≠ gb347)); clear BK347; clear HB; have BK347 := n0_; have HB := n1_; have BK348 := n2_; have GW348 := n3_; have GE348 := n4_; have NB347_348 := n5_; have NB348_347 := n6_; clear n0_ n1_ n2_ n3_ n4_ n5_ n6_; clear hb hbox hg))
  have n0_ := Aside0.mk (blk_drew BK347.out)
  have n1_ := Aside0.mk (blk_drew BK348.out)
  have n2_ := Aside0.mk (below_drew1 HB.out)
  clear BK347
  clear BK348
  clear HB
  have BK347 := n0_
  have BK348 := n1_
  have HB := n2_
  clear n0_ n1_ n2_
  refine start_ (n := 18) (S := fun w' => w'.cell? ⟨gb347, 0, none⟩ = some (.int .i64 a0_0) ∧ w'.cell? ⟨gb347, 1, none⟩ = some (.int .i64 a0_1) ∧ w'.cell? ⟨gb347, 2, none⟩ = some (.string a0_2) ∧ w'.cell? ⟨gb348, 0, none⟩ = some (.int .i64 a1_0) ∧ w'.cell? ⟨gb348, 1, none⟩ = some (.int .i64 a1_1) ∧ w'.cell? ⟨gb348, 2, none⟩ = some (.string a1_2)) (ds := []) #[false, false, false, false, false, false, false, false, false, false, false, false, false, false, false, false, false, false] (by kernel_rfl) rfl rfl ⟨(blk_cell BK347.out 0).trans rfl, (blk_cell BK347.out 1).trans rfl, (blk_cell BK347.out 2).trans rfl, (blk_cell BK348.out 0).trans rfl, (blk_cell BK348.out 1).trans rfl, (blk_cell BK348.out 2).trans rfl⟩ (fun hHeld => ?_); refine with_tabW text_order.tab1 text_order.bits1 (fun HT_ HW_ => ?_)
  have m_ := Aside0.mk (show w.drawn ≤ w8.drew.drawn from Nat.le_trans HD.out (Nat.le_succ _))
  clear HD
  have HD := m_
  clear m_
  generalize w8.drew = w9 at BK347 BK348 HB hHeld HD ⊢
  refine pure_ (i := 0) (N := some 5) (v := ?_) (a' := ?_) #[true, false, false, false, false, false, false, false, false, false, false, false, false, false, false, false, false, false] rfl rfl (any_of HT_.out (by kernel_rfl)) (fun _ _ _ h => h) (Or.inl ⟨by rfl, ?_⟩) ?_ ?_
  rotate_left
  · intro w'
    go_simp
    with_reducible rfl
  rotate_left
  · simp only [Act.put, List.setIfInBounds_toArray, List.set_cons_zero, List.set_cons_succ, i64_w, i32_w]
    rfl
  refine pure_ (i := 2) (N := some 7) (v := ?_) (a' := ?_) #[true, false, true, false, false, false, false, false, false, false, false, false, false, false, false, false, false, false] rfl rfl (any_of HT_.out (by kernel_rfl)) (fun _ _ _ h => h) (Or.inl ⟨by rfl, ?_⟩) ?_ ?_
  rotate_left
  · intro w'
    go_simp
    with_reducible rfl
  rotate_left
  · simp only [Act.put, List.setIfInBounds_toArray, List.set_cons_zero, List.set_cons_succ, i64_w, i32_w]
    rfl
  refine pure_ (i := 5) (N := some 10) (v := ?_) (a' := ?_) #[true, false, true, false, false, true, false, false, false, false, false, false, false, false, false, false, false, false] rfl rfl (any_of HT_.out (by kernel_rfl)) (fun _ _ _ h => h) (Or.inl ⟨by rfl, ?_⟩) ?_ ?_
  rotate_left
  · intro w'
    go_simp
    with_reducible rfl
  rotate_left
  · simp only [Act.put, List.setIfInBounds_toArray, List.set_cons_zero, List.set_cons_succ, i64_w, i32_w]
    rfl
  refine pure_ (i := 7) (N := some 12) (v := ?_) (a' := ?_) #[true, false, true, false, false, true, false, true, false, false, false, false, false, false, false, false, false, false] rfl rfl (any_of HT_.out (by kernel_rfl)) (fun _ _ _ h => h) (Or.inl ⟨by rfl, ?_⟩) ?_ ?_
  rotate_left
  · intro w'
    go_simp
    with_reducible rfl
  rotate_left
  · simp only [Act.put, List.setIfInBounds_toArray, List.set_cons_zero, List.set_cons_succ, i64_w, i32_w]
    rfl
  refine pure_ (i := 10) (N := some 15) (v := ?_) (a' := ?_) #[true, false, true, false, false, true, false, true, false, false, true, false, false, false, false, false, false, false] rfl rfl (any_of HT_.out (by kernel_rfl)) (fun _ _ _ h => h) (Or.inl ⟨by rfl, ?_⟩) ?_ ?_
  rotate_left
  · intro w'
    go_simp
    with_reducible rfl
  rotate_left
  · simp only [Act.put, List.setIfInBounds_toArray, List.set_cons_zero, List.set_cons_succ, i64_w, i32_w]
    rfl
  refine pure_ (i := 12) (N := some 17) (v := ?_) (a' := ?_) #[true, false, true, false, false, true, false, true, false, false, true, false, true, false, false, false, false, false] rfl rfl (any_of HT_.out (by kernel_rfl)) (fun _ _ _ h => h) (Or.inl ⟨by rfl, ?_⟩) ?_ ?_
  rotate_left
  · intro w'
    go_simp
    with_reducible rfl
  rotate_left
  · simp only [Act.put, List.setIfInBounds_toArray, List.set_cons_zero, List.set_cons_succ, i64_w, i32_w]
    rfl
  refine take_ (i := 1) (N := some 6) (v := ?_) (a' := ?_) #[true, true, true, false, false, true, false, true, false, false, true, false, true, false, false, false, false, false] rfl rfl (take_ofW HT_.out HW_.out (by kernel_rfl)) (fun _ _ _ h => h) (Or.inl ⟨by rfl, ?_⟩) hHeld ?_ ?_
  rotate_left
  · rintro w' ⟨s0, s1, s2, s3, s4, s5⟩
    go_simp
    with_reducible rfl
  rotate_left
  · simp only [Act.put, List.setIfInBounds_toArray, List.set_cons_zero, List.set_cons_succ, i64_w, i32_w]
    rfl
  refine take_ (i := 3) (N := some 8) (v := ?_) (a' := ?_) #[true, true, true, true, false, true, false, true, false, false, true, false, true, false, false, false, false, false] rfl rfl (take_ofW HT_.out HW_.out (by kernel_rfl)) (fun _ _ _ h => h) (Or.inl ⟨by rfl, ?_⟩) hHeld ?_ ?_
  rotate_left
  · rintro w' ⟨s0, s1, s2, s3, s4, s5⟩
    go_simp
    with_reducible rfl
  rotate_left
  · simp only [Act.put, List.setIfInBounds_toArray, List.set_cons_zero, List.set_cons_succ, i64_w, i32_w]
    rfl
  refine take_ (i := 6) (N := some 11) (v := ?_) (a' := ?_) #[true, true, true, true, false, true, true, true, false, false, true, false, true, false, false, false, false, false] rfl rfl (take_ofW HT_.out HW_.out (by kernel_rfl)) (fun _ _ _ h => h) (Or.inl ⟨by rfl, ?_⟩) hHeld ?_ ?_
  rotate_left
  · rintro w' ⟨s0, s1, s2, s3, s4, s5⟩
    go_simp
    with_reducible rfl
  rotate_left
  · simp only [Act.put, List.setIfInBounds_toArray, List.set_cons_zero, List.set_cons_succ, i64_w, i32_w]
    rfl
  refine take_ (i := 8) (N := some 13) (v := ?_) (a' := ?_) #[true, true, true, true, false, true, true, true, true, false, true, false, true, false, false, false, false, false] rfl rfl (take_ofW HT_.out HW_.out (by kernel_rfl)) (fun _ _ _ h => h) (Or.inl ⟨by rfl, ?_⟩) hHeld ?_ ?_
  rotate_left
  · rintro w' ⟨s0, s1, s2, s3, s4, s5⟩
    go_simp
    with_reducible rfl
  rotate_left
  · simp only [Act.put, List.setIfInBounds_toArray, List.set_cons_zero, List.set_cons_succ, i64_w, i32_w]
    rfl
  refine take_ (i := 11) (N := some 16) (v := ?_) (a' := ?_) #[true, true, true, true, false, true, true, true, true, false, true, true, true, false, false, false, false, false] rfl rfl (take_ofW HT_.out HW_.out (by kernel_rfl)) (fun _ _ _ h => h) (Or.inl ⟨by rfl, ?_⟩) hHeld ?_ ?_
  rotate_left
  · rintro w' ⟨s0, s1, s2, s3, s4, s5⟩
    go_simp
    with_reducible rfl
  rotate_left
  · simp only [Act.put, List.setIfInBounds_toArray, List.set_cons_zero, List.set_cons_succ, i64_w, i32_w]
    rfl
  refine take_ (i := 13) (N := some 18) (v := ?_) (a' := ?_) #[true, true, true, true, false, true, true, true, true, false, true, true, true, true, false, false, false, false] rfl rfl (take_ofW HT_.out HW_.out (by kernel_rfl)) (fun _ _ _ h => h) (Or.inl ⟨by rfl, ?_⟩) hHeld ?_ ?_
  rotate_left
  · rintro w' ⟨s0, s1, s2, s3, s4, s5⟩
    go_simp
    with_reducible rfl
  rotate_left
  · simp only [Act.put, List.setIfInBounds_toArray, List.set_cons_zero, List.set_cons_succ, i64_w, i32_w]
    rfl
  refine one_ (i := 4) (N := some 9) #[true, true, true, true, true, true, true, true, true, false, true, true, true, true, false, false, false, false] rfl rfl (one_of HT_.out (by kernel_rfl)) (by decide) (fun K hK => ?_)
  refine goes_ Tryz.func124 (by kernel_rfl) rfl #[.int .i64 a0_0, .int .i64 a1_0] (by rfl) rfl rfl (by (try simp only [List.map_toArray, List.map_cons, List.map_nil]); first | done | rfl | (simp only [List.length_drop, List.length_take]; rfl)) ?_
  with_reducible refine (cmp_Compare_int.calls a0_0 a1_0 t349 _ A3.out).mono ?_
  rintro e w' ⟨rfl, ⟨nd, rfl⟩⟩
  refine ⟨_, rfl, ?_⟩
  refine hK.out _ _ ⟨(blk_cell BK347.out 0).trans rfl, (blk_cell BK347.out 1).trans rfl, (blk_cell BK347.out 2).trans rfl, (blk_cell BK348.out 0).trans rfl, (blk_cell BK348.out 1).trans rfl, (blk_cell BK348.out 2).trans rfl⟩ (fun hHeld => ?_)
  clear hK K
  refine norm_ (a' := ?_) ?_ ?_
  rotate_left
  · show Act.put _ (some 9) _ = _
    simp only [Act.put, List.setIfInBounds_toArray, List.set_cons_zero, List.set_cons_succ, i64_w, i32_w]
    rfl
  refine one_ (i := 9) (N := some 14) #[true, true, true, true, true, true, true, true, true, true, true, true, true, true, false, false, false, false] rfl rfl (one_of HT_.out (by kernel_rfl)) (by decide) (fun K hK => ?_)
  refine goes_ Tryz.func124 (by kernel_rfl) rfl #[.int .i64 a0_1, .int .i64 a1_1] (by rfl) rfl rfl (by (try simp only [List.map_toArray, List.map_cons, List.map_nil]); first | done | rfl | (simp only [List.length_drop, List.length_take]; rfl)) ?_
  with_reducible refine (cmp_Compare_int.calls a0_1 a1_1 t350 _ A4.out).mono ?_
  rintro e w' ⟨rfl, ⟨nd, rfl⟩⟩
  refine ⟨_, rfl, ?_⟩
  refine hK.out _ _ ⟨(blk_cell BK347.out 0).trans rfl, (blk_cell BK347.out 1).trans rfl, (blk_cell BK347.out 2).trans rfl, (blk_cell BK348.out 0).trans rfl, (blk_cell BK348.out 1).trans rfl, (blk_cell BK348.out 2).trans rfl⟩ (fun hHeld => ?_)
  clear hK K
  refine norm_ (a' := ?_) ?_ ?_
  rotate_left
  · show Act.put _ (some 14) _ = _
    simp only [Act.put, List.setIfInBounds_toArray, List.set_cons_zero, List.set_cons_succ, i64_w, i32_w]
    rfl
  refine one_ (i := 14) (N := some 19) #[true, true, true, true, true, true, true, true, true, true, true, true, true, true, true, false, false, false] rfl rfl (one_of HT_.out (by kernel_rfl)) (by decide) (fun K hK => ?_)
  refine goes_ Tryz.func46 (by kernel_rfl) rfl #[.string a0_2, .string a1_2] (by rfl) rfl rfl (by (try simp only [List.map_toArray, List.map_cons, List.map_nil]); first | done | rfl | (simp only [List.length_drop, List.length_take]; rfl)) ?_
  with_reducible refine (cmp_Compare_string.calls a0_2 a1_2 t351 _ A5.out).mono ?_
  rintro e w' ⟨rfl, ⟨nd, rfl⟩⟩
  refine ⟨_, rfl, ?_⟩
  refine hK.out _ _ ⟨(blk_cell BK347.out 0).trans rfl, (blk_cell BK347.out 1).trans rfl, (blk_cell BK347.out 2).trans rfl, (blk_cell BK348.out 0).trans rfl, (blk_cell BK348.out 1).trans rfl, (blk_cell BK348.out 2).trans rfl⟩ (fun hHeld => ?_)
  clear hK K
  refine norm_ (a' := ?_) ?_ ?_
  rotate_left
  · show Act.put _ (some 19) _ = _
    simp only [Act.put, List.setIfInBounds_toArray, List.set_cons_zero, List.set_cons_succ, i64_w, i32_w]
    rfl
  refine one_ (i := 15) (N := some 20) #[true, true, true, true, true, true, true, true, true, true, true, true, true, true, true, true, false, false] rfl rfl (one_of HT_.out (by kernel_rfl)) (by decide) (fun K hK => ?_)
  refine Kd.R_lit_stepD (Kd.int .i64) _ 3 ?hg (N := 20) ?hd (xs := ([t349, t350, t351] : List Int)) (inner := [.int .i64 t349, .int .i64 t350, .int .i64 t351]) (ok := fun _ => True) (okp := fun _ => True) ?hr ?hp (fun _ hk => hk) trivial (Below.refl _ _) (Nat.le_refl _) (by simp) ?_; (case hd => rfl); (case hg => rfl); (case hr => first | (go_simp; done) | (go_simp; rfl)); (case hp => exact (Reps.one (show Kd.M (Kd.int .i64) _ _ _ t349 [.int .i64 t349] from rfl) (Reps.one (show Kd.M (Kd.int .i64) _ _ _ t350 [.int .i64 t350] from rfl) (Reps.one (show Kd.M (Kd.int .i64) _ _ _ t351 [.int .i64 t351] from rfl) (Reps.none _ _)))))
  intro v353 w10 ho11 hb hg_ hnew_ hd_
  have m_ := Aside0.mk (show w.drawn ≤ w10.drawn from by have h_ := HD.out; rw [hd_]; first | omega | (simp only [World.drewN]; omega))
  clear HD
  have HD := m_
  clear m_ hd_
  clear hg_ hnew_
  (first | rw [← Ny352.out] at ho11 | (simp only [Int.reduceToNat] at ho11; rw [← Ny352.out] at ho11))
  have n0_ := Aside0.mk (Kd.R_lower ho11 (below_size (by repeat (first | (with_reducible first | exact HB.out | apply below_alloc | apply pw_below_drewN | apply below_drew1 | refine below_set ?_ GE347.out | refine below_set ?_ GE348.out) | exact HB.out))))
  have n1_ := Aside0.mk (blk_below (g := gb347) (o := .cells #[.int .i64 a0_0, .int .i64 a0_1, .string a0_2] 91 (0, 0)) (by (with_reducible repeat (first | refine blk_drewN ?_ _ | refine blk_drew ?_ | refine blk_alloc ?_ _)); exact BK347.out) hb)
  have n2_ := Aside0.mk (blk_below (g := gb348) (o := .cells #[.int .i64 a1_0, .int .i64 a1_1, .string a1_2] 91 (0, 0)) (by (with_reducible repeat (first | refine blk_drewN ?_ _ | refine blk_drew ?_ | refine blk_alloc ?_ _)); exact BK348.out) hb)
  have n3_ := Aside0.mk (below_step (by repeat (first | (with_reducible first | exact HB.out | apply below_alloc | apply pw_below_drewN | apply below_drew1 | refine below_set ?_ GE347.out | refine below_set ?_ GE348.out) | exact HB.out)) hb)
  clear BK347
  clear BK348
  clear HB
  have HO354 := n0_
  have BK347 := n1_
  have BK348 := n2_
  have HB := n3_
  clear n0_ n1_ n2_ n3_
  clear hb ho11
  obtain ⟨Ao12, co12, eo12⟩ := Kd.R_slice HO354.out
  (first | subst eo12 | (injection eo12 with f1_ f2_ f3_; have f4_ := f1_.symm; have f5_ := f3_.symm; clear f1_ f2_ f3_; subst f4_; subst f5_))
  refine hK.out _ _ ⟨(blk_cell BK347.out 0).trans rfl, (blk_cell BK347.out 1).trans rfl, (blk_cell BK347.out 2).trans rfl, (blk_cell BK348.out 0).trans rfl, (blk_cell BK348.out 1).trans rfl, (blk_cell BK348.out 2).trans rfl⟩ (fun hHeld => ?_)
  clear hK K
  refine norm_ (a' := ?_) ?_ ?_
  rotate_left
  · show Act.put _ (some 20) _ = _
    simp only [Act.put, List.setIfInBounds_toArray, List.set_cons_zero, List.set_cons_succ, i64_w, i32_w]
    rfl
  refine one_ (i := 16) (N := some 21) #[true, true, true, true, true, true, true, true, true, true, true, true, true, true, true, true, true, false] rfl rfl (one_of HT_.out (by kernel_rfl)) (by decide) (fun K hK => ?_)
  refine goes_ Tryz.func123 (by kernel_rfl) rfl #[.slice Ao12 y352.length co12] (by rfl) rfl rfl (by (try simp only [List.map_toArray, List.map_cons, List.map_nil]); first | done | rfl | (simp only [List.length_drop, List.length_take]; rfl)) ?_
  with_reducible refine (cmp_Or_int.calls k _ _ y352 t355 _ ?side1 ?side2 A6.out).mono ?_
  (case side1 => repeat (first | exact (Kd.R_reads' HO354.out).2.2 | (with_reducible refine Kd.C_alloc ?_ _) | (with_reducible refine Kd.C_drewN ?_ _) | (with_reducible refine Kd.C_drew ?_)))
  (case side2 => exact (Kd.R_reads' HO354.out).2.1)
  rintro e w' ⟨rfl, ⟨nd, rfl⟩⟩
  refine ⟨_, rfl, ?_⟩
  refine hK.out _ _ ⟨(blk_cell BK347.out 0).trans rfl, (blk_cell BK347.out 1).trans rfl, (blk_cell BK347.out 2).trans rfl, (blk_cell BK348.out 0).trans rfl, (blk_cell BK348.out 1).trans rfl, (blk_cell BK348.out 2).trans rfl⟩ (fun hHeld => ?_)
  clear hK K
  refine norm_ (a' := ?_) ?_ ?_
  rotate_left
  · show Act.put _ (some 21) _ = _
    simp only [Act.put, List.setIfInBounds_toArray, List.set_cons_zero, List.set_cons_succ, i64_w, i32_w]
    rfl
  refine pure_ (i := 17) (N := some 4) (v := ?_) (a' := ?_) #[true, true, true, true, true, true, true, true, true, true, true, true, true, true, true, true, true, true] rfl rfl (any_of HT_.out (by kernel_rfl)) (fun _ _ _ h => h) (Or.inl ⟨by rfl, ?_⟩) ?_ ?_
  rotate_left
  · intro w'
    go_simp
    with_reducible rfl
  rotate_left
  · simp only [Act.put, List.setIfInBounds_toArray, List.set_cons_zero, List.set_cons_succ, i64_w, i32_w]
    rfl
  refine done_ (done_of HT_.out (by kernel_rfl)) ?_
  try go_wp2
  go_ret
  exact ⟨by first | rfl | (simp [errW_none, errW_some] <;> rfl) | (simp [*, errW_none, errW_some] <;> rfl), grow_of_below (by repeat (first | (with_reducible first | exact HB.out | apply below_alloc | apply pw_below_drewN | apply below_drew1 | refine below_set ?_ GE347.out | refine below_set ?_ GE348.out) | exact HB.out)) (by have h_ := HD.out; first | omega | (simp only [World.drewN]; omega))⟩
end Go.Proofs.YthimblhfjfngiaaGreat.PText

namespace Go.Proofs.YthimblhfjfngiaaGreat.PText
open Go.RowKit Go.Proofs.YthimblhfjfngiaaGreatW.PrintWords Go.Proofs.YthimblhfjfngiaaGreatW.PrintLast Go.Proofs.YthimblhfjfngiaaGreatW.PrintMore
set_option linter.unusedVariables false
set_option linter.unusedSimpArgs false
theorem C_none34 {w : World} {l : List S91} (h : Kd.C k91 w none l.length l) : l = [] := by
  cases l with
  | nil => rfl
  | cons x r =>
    obtain ⟨ad, _, q, _⟩ := Kd.C_get h z91 0 (Int.le_refl _) (by rw [List.length_cons]; omega)
    cases q
set_option maxHeartbeats 8000000 in
set_option maxRecDepth 100000 in
theorem clone_calls (A0 : Option Addr) (c0 : Nat) (l0 : List S91) (w : World) (hr0 : Kd.C k91 w A0 l0.length l0) (hl : l0.length ≤ 10000) :
    Calls Tryz.prog 106 #[.slice A0 l0.length c0] w fun e w' => ∃ v0_ : Value, e = .returned v0_ ∧ Kd.R k91 91 w' w.heap.size (fun _ => True) v0_ l0 ∧ Below w.heap.size w w' := by
  have hnil : ∀ w', Sem.run Tryz.prog (binOp .eql 68 (.slice A0 l0.length c0) (.slice none 0 0)) w' = .ok (.bool A0.isNone) w' := fun w' => Go.Lib.run_eql_slice_nil w' 68 91 A0 l0.length c0 0 0 Tryz.underlying68
  have HR1 := Aside0.mk hr0
  clear hr0
  cases hA : A0.isNone with
  | true =>
    obtain rfl : A0 = none := by cases A0 with | none => rfl | some a => cases hA
    obtain rfl := C_none34 HR1.out
    rw [hA] at hnil
    simp only [List.length_nil] at hnil ⊢
    go_enter Tryz.func106, Tryz.ntmps106
    go_wp2
    go_ret
    exact ⟨_, rfl, Kd.R_nil _ _ _ _ _, Below.refl _ _⟩
  | false =>
    rw [hA] at hnil
    have HB := Aside0.mk (Below.refl w.heap.size w)
    obtain ⟨y467, hy467⟩ : ∃ y_ : List (S91), y_ = (([] : List (S91))) := ⟨_, rfl⟩
    have Ny467 := Aside0.mk hy467
    have LMc8 := Aside0.mk (show y467.length + l0.length < 4398046511104 by rw [hy467]; simp; omega)
    clear hy467
    obtain ⟨y470, hy470⟩ : ∃ y_ : List (S91), y_ = (y467 ++ l0) := ⟨_, rfl⟩
    have Ny470 := Aside0.mk hy470
    clear hy470
    go_enter Tryz.func106, Tryz.ntmps106
    go_wp2_with (first | ((with_reducible refine gate_dst (N := 5) rfl ?_); refine Kd.R_lit k91 _ 91 ?hg (N := 5) ?hd (xs := ([] : List (S91))) (inner := []) (ok := fun _ => True) (okp := fun _ => True) ?hr ?hp (fun _ hk => hk) trivial (Below.refl _ _) (Nat.le_refl _) (by simp) ?_; (case hd => rfl); (case hg => rfl); (case hr => first | (go_simp; done) | (go_simp; rfl)); (case hp => exact (Reps.none _ _)); intro v468 w13 ho14 hb hg_ hnew_; clear hg_ hnew_; (first | rw [← Ny467.out] at ho14 | (simp only [Int.reduceToNat] at ho14; rw [← Ny467.out] at ho14)); have n0_ := Aside0.mk (Kd.R_lower ho14 (below_size (by repeat (first | (with_reducible first | exact HB.out | apply below_alloc | apply pw_below_drewN | apply below_drew1) | exact HB.out)))); have n1_ := Aside0.mk (below_step (by repeat (first | (with_reducible first | exact HB.out | apply below_alloc | apply pw_below_drewN | apply below_drew1) | exact HB.out)) hb); clear HB; have HO469 := n0_; have HB := n1_; clear n0_ n1_; clear hb ho14) | ((with_reducible refine gate_builtin (b := .append) (xs := #[.tmp 5, .tmp 6]) rfl ?_); at_builtin; refine Kd.R_append_rows k91 (w0 := w) w.heap.size rfl (.tmp 5) (.tmp 6) 68 91 (.agg #[(.int .i64 0), (.int .i64 0), (.string ⟨#[]⟩)]) 32 rfl Tryz.underlying68 info91 rfl (by decide) (by omega) v468 y467 l0 _ _ _ (fun _ => True) (fun _ => False) rfl rfl ?aO ?aR (fun _ _ h => h) (fun _ h => h.elim) ?aF ?aB ?aS ?aL ?_; (case aR => repeat (first | exact (Kd.C_below HR1.out HB.out) | (with_reducible refine Kd.C_alloc ?_ _) | (with_reducible refine Kd.C_drewN ?_ _) | (with_reducible refine Kd.C_drew ?_))); (case aB => exact (by repeat (first | (with_reducible first | exact HB.out | apply below_alloc | apply pw_below_drewN | apply below_drew1) | exact HB.out))); (case aF => exact (fun _ _ => trivial)); (case aO => exact (by (with_reducible repeat (first | apply Kd.R_alloc | apply Kd.R_drewN | apply Kd.R_drew)); exact HO469.out)); (case aS => exact (below_size (by repeat (first | (with_reducible first | exact HB.out | apply below_alloc | apply pw_below_drewN | apply below_drew1) | exact HB.out)))); (case aL => have := LMc8.out; omega); intro v471 w15 ho hb hg hat; rw [← Ny470.out] at ho; have n0_ := Aside0.mk (hb); have n1_ := Aside0.mk (ho); clear HB; clear HO469; have HB := n0_; have HO472 := n1_; clear n0_ n1_; clear ho hb hg hat))
    go_ret
    have e : y470 = l0 := by rw [Ny470.out, Ny467.out]; rfl
    rw [e] at HO472
    exact ⟨_, rfl, HO472.out, HB.out⟩
end Go.Proofs.YthimblhfjfngiaaGreat.PText

namespace Go.Proofs.YthimblhfjfngiaaGreat.Tx
open Go.Lib
section
variable {α : Type} [DecidableEq α] [Inhabited α] {lt : α → α → Bool}
theorem compact_mem (d : Array α) (m : Nat) (a : α) : a ∈ compactUpTo d m ↔ ∃ j, j < m ∧ keeps d j = true ∧ d[j]! = a := by
  unfold compactUpTo
  simp only [List.mem_map, List.mem_filter, List.mem_range]
  constructor
  · rintro ⟨j, ⟨h1, h2⟩, h3⟩; exact ⟨j, h1, h2, h3⟩
  · rintro ⟨j, h1, h2, h3⟩; exact ⟨j, ⟨h1, h2⟩, h3⟩
theorem compact_kept (d : Array α) : ∀ j, ∃ i, i ≤ j ∧ keeps d i = true ∧ d[i]! = d[j]! := by
  intro j
  induction j with
  | zero => exact ⟨0, Nat.le_refl _, by simp [keeps], rfl⟩
  | succ j ih =>
    by_cases h : d[j + 1]! = d[j]!
    · obtain ⟨i, h1, h2, h3⟩ := ih
      exact ⟨i, by omega, h2, by rw [h, h3]⟩
    · exact ⟨j + 1, Nat.le_refl _, keeps_pos (by simpa using h), rfl⟩
theorem compact_asc (h : Lin lt) (d : Array α) (hs : ∀ i j, i < j → j < d.size → lt d[j]! d[i]! = false) : ∀ m, m ≤ d.size → Asc lt (compactUpTo d m)
  | 0, _ => by unfold compactUpTo; exact List.Pairwise.nil
  | m + 1, hm => by
    rw [compactUpTo_succ]
    have ih := compact_asc h d hs m (by omega)
    by_cases hk : keeps d m = true
    · rw [if_pos hk]
      refine asc_append.2 ⟨ih, List.pairwise_singleton _ _, fun a ha b hb => ?_⟩
      rw [List.mem_singleton.1 hb]
      obtain ⟨j, hj, _, rfl⟩ := (compact_mem d m a).1 ha
      have hne : d[m]! ≠ d[m - 1]! := by
        intro e
        rw [keeps_neg (by omega) e] at hk; cases hk
      cases q : lt d[j]! d[m]! with
      | true => rfl
      | false =>
        have e := h.tri q (hs j m hj (by omega))
        exfalso
        rcases Nat.lt_or_ge j (m - 1) with c | c
        · have h1 := hs j (m - 1) c (by omega)
          rw [e] at h1
          exact hne (h.tri (hs (m - 1) m (by omega) (by omega)) h1)
        · have : j = m - 1 := by omega
          subst this
          exact hne e.symm
    · rw [if_neg hk, List.append_nil]; exact ih
theorem compact_ord (h : Lin lt) (d : Array α) (l : List α) (hs : ∀ i j, i < j → j < d.size → lt d[j]! d[i]! = false) (hm : ∀ a, a ∈ d.toList ↔ a ∈ l) : compactUpTo d d.size = ord lt l := by
  refine ord_of_asc h (compact_asc h d hs d.size (Nat.le_refl _)) fun a => ?_
  rw [← hm, compact_mem]
  constructor
  · rintro ⟨j, h1, _, rfl⟩
    rw [getElem!_pos d j h1]
    exact Array.mem_toList_iff.2 (Array.getElem_mem h1)
  · intro ha
    obtain ⟨j, h1, rfl⟩ := List.getElem_of_mem ha
    obtain ⟨i, h2, h3, h4⟩ := compact_kept d j
    have h1' : j < d.size := by simpa using h1
    refine ⟨i, by omega, h3, ?_⟩
    rw [h4, getElem!_pos d j h1', Array.getElem_toList]
end
end Go.Proofs.YthimblhfjfngiaaGreat.Tx

namespace Go.Proofs.YthimblhfjfngiaaGreat.PText
open Go.RowKit Go.Lib Go.Sort Go.Proofs.YthimblhfjfngiaaGreatW.PrintWords Go.Proofs.YthimblhfjfngiaaGreatW.PrintLast Go.Proofs.YthimblhfjfngiaaGreatW.PrintMore
set_option linter.unusedVariables false
set_option linter.unusedSimpArgs false
instance : Inhabited S91 := ⟨z91⟩
theorem S91.ext' {a b : S91} (h0 : a.f0 = b.f0) (h1 : a.f1 = b.f1) (h2 : a.f2 = b.f2) : a = b := by cases a; cases b; simp_all
instance : DecidableEq S91 := fun a b => decidable_of_iff (a.f0 = b.f0 ∧ a.f1 = b.f1 ∧ a.f2 = b.f2) ⟨fun h => S91.ext' h.1 h.2.1 h.2.2, fun h => by subst h; exact ⟨rfl, rfl, rfl⟩⟩
def enc34 (x : S91) : List Value := [.int .i64 x.f0, .int .i64 x.f1, .string x.f2]
theorem enc34_len (x : S91) : (enc34 x).length = 3 := rfl
theorem enc34_one (x : S91) : ∀ v ∈ enc34 x, v.oneCell' = true := by
  intro v hv
  simp [enc34] at hv
  rcases hv with rfl | rfl | rfl <;> rfl
theorem holds34 {w : World} {blk : Nat} {d : Array S91} (h : HoldsK enc34 3 w blk 0 d) {i : Nat} (hi : i < d.size) :
    w.cell? ⟨blk, i * 3, none⟩ = some (.int .i64 d[i]!.f0) ∧ w.cell? ⟨blk, i * 3 + 1, none⟩ = some (.int .i64 d[i]!.f1) ∧ w.cell? ⟨blk, i * 3 + 2, none⟩ = some (.string d[i]!.f2) := by
  have h0 := (h.cell hi (c := 0) (by omega)).1
  have h1 := (h.cell hi (c := 1) (by omega)).1
  have h2 := (h.cell hi (c := 2) (by omega)).1
  simp only [Nat.zero_add, Nat.add_zero] at h0 h1 h2
  exact ⟨h0, h1, h2⟩
theorem frozen34 {w : World} {blk : Nat} {d : Array S91} (h : HoldsK enc34 3 w blk 0 d) {i : Nat} (hi : i < d.size) :
    w.frozen? ⟨blk, i * 3, none⟩ = false ∧ w.frozen? ⟨blk, i * 3 + 1, none⟩ = false ∧ w.frozen? ⟨blk, i * 3 + 2, none⟩ = false := by
  have h0 := (h.cell hi (c := 0) (by omega)).2
  have h1 := (h.cell hi (c := 1) (by omega)).2
  have h2 := (h.cell hi (c := 2) (by omega)).2
  simp only [Nat.zero_add, Nat.add_zero] at h0 h1 h2
  exact ⟨h0, h1, h2⟩
theorem eqb34 (x y : S91) : (x.f0 == y.f0 && (x.f1 == y.f1 && (x.f2.toList == y.f2.toList))) = decide (x = y) := by
  rw [Bool.eq_iff_iff]
  simp only [Bool.and_eq_true, beq_iff_eq, decide_eq_true_eq]
  constructor
  · rintro ⟨h0, h1, h2⟩
    refine S91.ext' h0 h1 ?_
    rw [Lib.toList_data, Lib.toList_data] at h2
    exact ByteArray.ext (Array.toList_inj.1 h2)
  · intro h; subst h; exact ⟨rfl, rfl, rfl⟩
theorem eq34 (x y : S91) (w : World) : Sem.run Tryz.prog (binOp .eql 91 (.agg #[.int .i64 x.f0, .int .i64 x.f1, .string x.f2]) (.agg #[.int .i64 y.f0, .int .i64 y.f1, .string y.f2])) w = .ok (.bool (decide (x = y))) w := by
  rw [← eqb34]
  simp [binOp, Op.equal, Op.maxDepth, eqA91]
theorem ne34 (x y : S91) (w : World) : Sem.run Tryz.prog (binOp .neq 91 (.agg #[.int .i64 x.f0, .int .i64 x.f1, .string x.f2]) (.agg #[.int .i64 y.f0, .int .i64 y.f1, .string y.f2])) w = .ok (.bool (!decide (x = y))) w := by
  rw [← eqb34]
  simp [binOp, Op.equal, Op.maxDepth, eqA91]
theorem gd34 (op : BinOp) (a b : Operand) (xs ys : Array Value) (w : World) : Sem.run Tryz.prog (eqGuard op 91 a b (.agg xs) (.agg ys)) w = .ok () w := run_eqGuard_agg w op 91 a b xs ys (by kernel_rfl)
theorem setMany34 (dk : Array S91) (kk : Nat) (u : S91) (hk : kk < dk.size) : setMany (flatK enc34 3 dk) (kk * 3) (enc34 u) = flatK enc34 3 (dk.setIfInBounds kk u) := by
  refine ext_get! (by simp) fun t ht => ?_
  have ht' : t < dk.size * 3 := by simpa using ht
  rw [get_setMany _ _ _ t (by simpa using ht'), get_flatK _ _ _ t ht', get_flatK _ _ _ t (by simpa using ht')]
  have hb := blk_iff 3 kk t (by omega)
  rw [show (enc34 u).length = 3 from rfl]
  by_cases h : kk * 3 ≤ t ∧ t < kk * 3 + 3
  · rw [if_pos h, hb.1 h, getElem!_set_same dk kk u hk]
    congr 1
    have := hb.1 h; omega
  · rw [if_neg h, getElem!_set_other dk kk (t / 3) u fun e => h (hb.2 e)]
theorem store34 {w wr : World} {q n blk kk : Nat} {dk : Array S91} (u : S91) (hwr : wr = putRowK enc34 3 (Sort.ahead w q) blk 0 dk) (hk : kk < dk.size) :
    (((wr.drewN n).setCell ⟨blk, kk * 3, none⟩ (.int .i64 u.f0)).setCell ⟨blk, kk * 3 + 1, none⟩ (.int .i64 u.f1)).setCell ⟨blk, kk * 3 + 2, none⟩ (.string u.f2) = putRowK enc34 3 (Sort.ahead w (q + n)) blk 0 (dk.setIfInBounds kk u) := by
  subst hwr
  rw [putRowK_drewN]
  have h := setCells_putRow (Sort.ahead w (q + n)) blk 0 (enc34 u) (kk * 3) (flatK enc34 3 dk) (by rw [size_flatK, show (enc34 u).length = 3 from rfl]; omega)
  rw [setMany34 dk kk u hk, Nat.zero_add] at h
  exact h
theorem clear34 (W : World) (ty b o n c : Nat) (hn : 0 < n) (hc : ∀ j, j < n * 3 → (W.cell? ⟨b, o + j, none⟩).isSome = true) (hf : ∀ j, j < n * 3 → W.frozen? ⟨b, o + j, none⟩ = false) :
    ∃ zs : List Value, zs.length = n * 3 ∧ (Builtin.clear_ #[68] ty #[.slice (some ⟨b, o, none⟩) n c]).run Tryz.prog W = .ok (.tuple #[]) (W.setCells b o zs) := by
  refine ⟨(Builtin.zeroCells #[.int .i64 0, .int .i64 0, .string ⟨#[]⟩] n).toList, by simp [Builtin.zeroCells], ?_⟩
  obtain ⟨i0, hi, hz0, hz1, hz2⟩ := info_parts info91
  have hv : ∀ w, (zeroValue 91).run Tryz.prog w = .ok (.agg #[.int .i64 0, .int .i64 0, .string ⟨#[]⟩]) w := fun w => by simp [zeroValue, typeInfo, hi, hz0]
  have hlen : (Builtin.zeroCells #[.int .i64 0, .int .i64 0, .string ⟨#[]⟩] n).toList.length = n * 3 := by simp [Builtin.zeroCells]
  have hst := run_storeCells_cells (P := Tryz.prog) b o (Builtin.zeroCells #[.int .i64 0, .int .i64 0, .string ⟨#[]⟩] n).toList 0 W (by rw [hlen]; simpa using hc) (by rw [hlen]; simpa using hf) (by
    intro v hv'
    simp only [Builtin.zeroCells, Array.toList_map, List.mem_map] at hv'
    obtain ⟨a, _, rfl⟩ := hv'
    have : a % 3 = 0 ∨ a % 3 = 1 ∨ a % 3 = 2 := by omega
    rcases this with h | h | h <;> simp [h] <;> rfl)
  simp only [Nat.add_zero] at hst
  obtain ⟨m, rfl⟩ : ∃ m, n = m + 1 := ⟨n - 1, by omega⟩
  simp [Builtin.clear_, run_underlying Tryz.underlying68, hv, hst, Value.cells]
set_option maxHeartbeats 4000000 in
set_option maxRecDepth 1000000 in
theorem compact_calls (blk cap : Nat) (d : Array S91) (w : World) (hH : HoldsK enc34 3 w blk 0 d) (hsz : d.size ≤ 100000) (hcap : d.size ≤ cap) :
    Calls Tryz.prog 109 #[.slice (some ⟨blk, 0, none⟩) d.size cap] w fun e w' => e = .returned (.slice (some ⟨blk, 0, none⟩) (compactUpTo d d.size).length cap) ∧
      ∃ q F, F.size = d.size * 3 ∧ (∀ t, t < (compactUpTo d d.size).length * 3 → F[t]! = (flatK enc34 3 (compactUpTo d d.size).toArray)[t]!) ∧ w' = putRow id (Sort.ahead w q) blk 0 F := by
  have hu34 := Tryz.underlying91
  have same : ∀ q, (∀ j, j < d.size → keeps d j = true) → (compactUpTo d d.size).length = d.size ∧ ∃ F : Array Value, F.size = d.size * 3 ∧ (∀ t, t < (compactUpTo d d.size).length * 3 → F[t]! = (flatK enc34 3 (compactUpTo d d.size).toArray)[t]!) ∧ w.drewN q = putRow id (Sort.ahead w q) blk 0 F := by
    intro q hall
    have e : compactUpTo d d.size = d.toList := by rw [compactUpTo_all d _ hall, range_map_get]
    rw [e]
    refine ⟨by simp, flatK enc34 3 d, size_flatK _ _ _, fun t _ => ?_, ?_⟩
    · rw [Array.toArray_toList]
    · exact (putRowK_self enc34 3 (Sort.ahead w q) blk 0 d (holdsK_ahead enc34 3 w q blk 0 d hH)).symm
  have HS := Aside0.mk same
  clear same
  by_cases h2 : d.size < 2
  · have HH := Aside0.mk hH
    clear hH
    go_enter Tryz.func109, Tryz.ntmps109
    go_wp2
    go_ret
    obtain ⟨e1, F, e2, e3, e4⟩ := HS.out 0 (fun j hj => keeps_lt_one d j (by omega))
    exact ⟨by rw [e1]; rfl, 0, F, e2, e3, e4⟩
  · go_enter Tryz.func109, Tryz.ntmps109
    go_wp2
    go_loopg [3] d.size (fun g s3 wr => ∃ k q : Nat, 1 ≤ k ∧ k ≤ d.size ∧ d.size - k ≤ g ∧ s3 = .int .i64 k ∧ wr = w.drewN q ∧ ∀ j, j < k → keeps d j = true)
    case atStart => exact ⟨1, 0, Nat.le_refl _, by omega, by omega, rfl, rfl, keeps_lt_one d⟩
    case round =>
      obtain ⟨k, q, hk1, hk, hg, rfl, rfl, hall⟩ := hrel
      by_cases hlt : k < d.size
      · obtain ⟨c0, c1, c2⟩ := holds34 hH hlt
        obtain ⟨i, hi⟩ : ∃ i, i = k - 1 := ⟨_, rfl⟩
        have hid : i < d.size := by omega
        obtain ⟨p0, p1, p2⟩ := holds34 hH (i := i) hid
        have A := Aside0.mk hall
        have HH := Aside0.mk hH
        clear hall hH
        generalize hx : d[k]! = x at c0 c1 c2
        generalize hy : d[i]! = y at p0 p1 p2
        have B := Aside0.mk (show d[k]! = x ∧ d[i]! = y from ⟨hx, hy⟩)
        clear hx hy
        generalize hwq : w.drewN q = wq
        have D : ∀ a, wq.cell? a = w.cell? a := fun a => by rw [← hwq]; rfl
        rw [← D] at c0 c1 c2 p0 p1 p2
        clear D
        have HW := Aside0.mk hwq
        clear hwq
        have hw : IntKind.i64.wrap ((k : Int) - 1) = (i : Int) := by
          have e : (k : Int) - 1 = (i : Int) := by omega
          rw [e]; simp [IntKind.wrap, IntKind.bits, IntKind.signed]; omega
        have HI := Aside0.mk hi
        clear hi
        have heq := eq34 x y
        have hgd := gd34
        by_cases hdup : x = y
        · rw [decide_eq_true hdup] at heq
          have HD := Aside0.mk hdup
          clear hdup
          go_wp2_with fail
          go_quiet (fail)
          go_wp2
          clear c0 c1 c2 p0 p1 p2 heq hw
          go_loopg [3, 5] d.size (fun g s3 s5 wr => ∃ (kk k2 q2 : Nat) (dk : Array S91), s3 = .int .i64 kk ∧ s5 = .int .i64 k2 ∧ 1 ≤ k2 ∧ k + k2 ≤ d.size ∧ d.size - (k + k2) ≤ g ∧ wr = putRowK enc34 3 (Sort.ahead w q2) blk 0 dk ∧ CompInv d (k + k2) kk dk)
          case atStart =>
            refine ⟨k, 1, q + nq, d, rfl, rfl, Nat.le_refl _, by omega, by omega, ?_, CompInv.start A.out (keeps_neg (by omega) (by rw [B.out.1, ← HI.out, B.out.2, HD.out]))⟩
            rw [← HW.out, World.drewN_drewN]
            exact (putRowK_self enc34 3 (Sort.ahead w (q + nq)) blk 0 d (holdsK_ahead enc34 3 w (q + nq) blk 0 d HH.out)).symm
          case round =>
            obtain ⟨kk, k2, q2, dk, rfl, rfl, h1, hle, hg2, hwr, hI⟩ := hrel
            have hkk := hI.lt
            have hds := hI.size
            have hHk : HoldsK enc34 3 wr blk 0 dk := by rw [hwr]; exact holdsK_putRowK enc34 3 _ blk 0 d dk (holdsK_ahead enc34 3 w q2 blk 0 d HH.out) hds
            have W2 := Aside0.mk hwr
            have I2 := Aside0.mk hI
            have H2 := Aside0.mk hHk
            clear hwr
            by_cases hlt2 : k + k2 < d.size
            · obtain ⟨m0, m1, m2⟩ := holds34 hHk (i := k + k2) (by omega)
              obtain ⟨i2, hi2⟩ : ∃ i, i = k2 - 1 := ⟨_, rfl⟩
              have hid2 : k + i2 < d.size := by omega
              have hid3 : i2 < d.size - k := by omega
              obtain ⟨n0, n1, n2⟩ := holds34 hHk (i := k + i2) (by omega)
              obtain ⟨o0, o1, o2⟩ := holds34 hHk (i := kk) (by omega)
              obtain ⟨f0, f1, f2⟩ := frozen34 hHk (i := kk) (by omega)
              rw [hI.high (k + k2) (by omega), Nat.add_mul] at m0 m1 m2
              rw [hI.high (k + i2) (by omega), Nat.add_mul] at n0 n1 n2
              clear hHk hI
              generalize hu : d[k + k2]! = u at m0 m1 m2
              generalize hv : d[k + i2]! = v at n0 n1 n2
              generalize dk[kk]! = old at o0 o1 o2
              have C := Aside0.mk (show d[k + k2]! = u ∧ d[k + i2]! = v from ⟨hu, hv⟩)
              clear hu hv
              have hw2 : IntKind.i64.wrap ((k2 : Int) - 1) = (i2 : Int) := by
                have e : (k2 : Int) - 1 = (i2 : Int) := by omega
                rw [e]; simp [IntKind.wrap, IntKind.bits, IntKind.signed]; omega
              have HI2 := Aside0.mk hi2
              clear hi2
              have hne := ne34 u v
              have key : d[k + k2 - 1]! = d[k + i2]! := by rw [HI2.out]; congr 1; omega
              have K2 := Aside0.mk key
              clear key
              by_cases huv : u = v
              · rw [decide_eq_true huv] at hne
                have HU := Aside0.mk huv
                clear huv
                go_wp2_with fail
                go_quiet (fail)
                go_wp2
                go_roundg (d.size - (k + (k2 + 1)))
                case measure => omega
                case rel => exact ⟨kk, k2 + 1, q2 + nq, dk, rfl, by go_num, by omega, by omega, Nat.le_refl _, by rw [W2.out]; exact putRowK_drewN enc34 3 w q2 nq blk 0 dk, I2.out.skip (keeps_neg (by omega) (by rw [C.out.1, K2.out, C.out.2, HU.out]))⟩
              · rw [decide_eq_false huv] at hne
                have HU := Aside0.mk huv
                clear huv
                go_wp2_with fail
                go_quiet (fail)
                go_wp2
                go_roundg (d.size - (k + (k2 + 1)))
                case measure => omega
                case rel => exact ⟨kk + 1, k2 + 1, q2 + nq, dk.setIfInBounds kk u, by go_num, by go_num, by omega, by omega, Nat.le_refl _, store34 u W2.out (by omega), by have h_ := I2.out.keep hlt2 (keeps_pos (by rw [C.out.1, K2.out, C.out.2]; exact HU.out)); rwa [C.out.1] at h_⟩
            · have hend : k + k2 = d.size := by omega
              have hcl := fun ty => clear34 wr ty blk (kk * 3) (d.size - kk) (cap - kk) (by omega) (fun j hj => by
                have h_ := (hHk (kk * 3 + j) (by rw [size_flatK]; omega)).1
                rw [Nat.zero_add] at h_; rw [h_]; rfl) (fun j hj => by
                have h_ := (hHk (kk * 3 + j) (by rw [size_flatK]; omega)).2
                rwa [Nat.zero_add] at h_)
              obtain ⟨zs, hzl, hrun⟩ := hcl 0
              clear hHk hI
              go_wp2
              go_ret
              have hI := I2.out
              rw [hend] at hI
              refine ⟨by rw [hI.len]; rfl, q2, setMany (flatK enc34 3 dk) (kk * 3) zs, by rw [size_setMany, size_flatK, hds], fun t ht => ?_, ?_⟩
              · have ht' : t < kk * 3 := by rw [hI.len] at ht; exact ht
                rw [get_setMany _ _ _ t (by rw [size_flatK]; omega), if_neg (by omega), get_flatK _ _ _ t (by omega), get_flatK _ _ _ t (by rw [List.size_toArray]; exact ht)]
                have h_ := hI.low (t / 3) (by omega)
                have e_ : (compactUpTo d d.size).toArray[t / 3]! = dk[t / 3]! := by
                  rw [getElem!_pos _ (t / 3) (by rw [List.size_toArray, hI.len]; omega), List.getElem_toArray]
                  exact (List.getElem?_eq_some_iff.1 h_).2
                rw [e_]
              · rw [W2.out]
                have h_ := setCells_putRow (Sort.ahead w q2) blk 0 zs (kk * 3) (flatK enc34 3 dk) (by rw [size_flatK, hzl]; omega)
                rw [Nat.zero_add] at h_
                exact h_
        · rw [decide_eq_false hdup] at heq
          have HD := Aside0.mk hdup
          clear hdup
          go_wp2_with fail
          go_quiet (fail)
          go_wp2
          go_roundg (d.size - (k + 1))
          case measure => omega
          case rel =>
            refine ⟨k + 1, q + nq, by omega, by omega, Nat.le_refl _, by go_num, by rw [← HW.out, World.drewN_drewN], fun j hj => ?_⟩
            by_cases e : j = k
            · subst e
              exact keeps_pos (by rw [B.out.1, ← HI.out, B.out.2]; exact HD.out)
            · exact A.out j (by omega)
      · have : k = d.size := by omega
        subst this
        go_wp2
        go_ret
        obtain ⟨e1, F, e2, e3, e4⟩ := HS.out q hall
        exact ⟨by rw [e1]; rfl, q, F, e2, e3, e4⟩
end Go.Proofs.YthimblhfjfngiaaGreat.PText

namespace Go.Proofs.YthimblhfjfngiaaGreat.PText
open Go.RowKit Go.Lib Go.Proofs.YthimblhfjfngiaaGreatW.PrintWords Go.Proofs.YthimblhfjfngiaaGreatW.PrintLast Go.Proofs.YthimblhfjfngiaaGreatW.PrintMore
set_option linter.unusedVariables false
set_option linter.unusedSimpArgs false
theorem below_ahead (B : Nat) (w : World) (n : Nat) : Below B w (Sort.ahead w n) := ⟨rfl, rfl, rfl, Nat.le_refl _, fun _ _ => rfl⟩
theorem below_grow {B : Nat} {w : World} (h : B ≤ w.heap.size) (os : Array Obj) : Below B w (Sort.grow w os) :=
  ⟨rfl, rfl, rfl, by show w.heap.size ≤ (w.heap ++ os).size; rw [Array.size_append]; omega, fun k hk => by
    show (w.heap ++ os)[k]? = _
    rw [Array.getElem?_append_left (by omega)]⟩
theorem below_putRow {B blk : Nat} {α : Type} [Inhabited α] (enc : α → Value) (w : World) (off : Nat) (F : Array α) (h : B ≤ blk) : Below B w (Sort.putRow enc w blk off F) :=
  ⟨rfl, rfl, rfl, by show w.heap.size ≤ (w.heap.modify blk _).size; rw [Array.size_modify]; exact Nat.le_refl _, fun k hk => by
    show (w.heap.modify blk _)[k]? = _
    rw [Array.getElem?_modify, if_neg (by omega)]⟩
theorem putRow_heap {α : Type} [Inhabited α] (enc : α → Value) {w : World} {blk off : Nat} {F : Array α} {cur : Array Value} {e : TypeId} {fr : Nat × Nat} (h : w.heap[blk]? = some (.cells cur e fr)) :
    ∃ cur', (Sort.putRow enc w blk off F).heap[blk]? = some (.cells cur' e fr) ∧ cur'.size = cur.size := by
  refine ⟨Sort.putCells enc off F cur, ?_, by simp [Sort.putCells]⟩
  show (w.heap.modify blk _)[blk]? = _
  rw [Array.getElem?_modify, if_pos rfl, h]
  rfl
theorem grow_heap {w : World} {blk : Nat} {o : Obj} (os : Array Obj) (h : w.heap[blk]? = some o) : (Sort.grow w os).heap[blk]? = some o := by
  show (w.heap ++ os)[blk]? = _
  rw [Array.getElem?_append_left (Array.getElem?_eq_some_iff.1 h).1, h]
/-- a row of one's own, out of its cells -/
theorem row34 {W : World} {base g cap : Nat} {cur : Array Value} {r : List S91} (hh : W.heap[g]? = some (.cells cur 91 (0, 0))) (hb : base ≤ g) (hl : r.length ≤ cap) (hm : cap ≤ maxLen) (hs : cur.size = cap * 3)
    (hc : ∀ t, t < r.length * 3 → cur[t]! = (Sort.flatK enc34 3 r.toArray)[t]!) : Kd.R k91 91 W base (fun _ => True) (.slice (some ⟨g, 0, none⟩) r.length cap) r := by
  have hle : r.length * 3 ≤ cur.size := by omega
  refine ⟨fun _ _ => trivial, cur.toList.take (r.length * 3), ⟨by rw [List.length_take, Nat.min_eq_left (by rw [Array.length_toList]; exact hle)]; rfl, Or.inr ⟨g, cap, cur, rfl, hb, hh, hl, hm, hs, rfl⟩⟩, by rw [List.length_take, Nat.min_eq_left (by rw [Array.length_toList]; exact hle)]; rfl, fun j p hp => ?_⟩
  obtain ⟨hj, rfl⟩ := List.getElem?_eq_some_iff.1 hp
  have key : ((cur.toList.take (r.length * 3)).drop (j * 3)).take 3 = [.int .i64 r[j].f0, .int .i64 r[j].f1, .string r[j].f2] := by
    have one : ∀ c, c < 3 → cur[j * 3 + c]? = some (enc34 r[j])[c]! := by
      intro c hcc
      have h1 := hc (j * 3 + c) (by omega)
      rw [Sort.get_flatK _ _ _ _ (by rw [List.size_toArray]; omega), show (j * 3 + c) / 3 = j by omega, show (j * 3 + c) % 3 = c by omega] at h1
      rw [Array.getElem?_eq_getElem (by omega), ← getElem!_pos cur (j * 3 + c) (by omega), h1, getElem!_pos r.toArray j (by rw [List.size_toArray]; exact hj), List.getElem_toArray]
    have z0 := one 0 (by omega)
    have z1 := one 1 (by omega)
    have z2 := one 2 (by omega)
    apply List.ext_getElem?
    intro c
    rw [List.getElem?_take]
    by_cases h3 : c < 3
    · rw [if_pos h3, List.getElem?_drop, List.getElem?_take, if_pos (by omega), Array.getElem?_toList]
      have : c = 0 ∨ c = 1 ∨ c = 2 := by omega
      rcases this with rfl | rfl | rfl
      · rw [z0]; rfl
      · rw [z1]; rfl
      · rw [z2]; rfl
    · rw [if_neg h3, List.getElem?_eq_none (by simp; omega)]
  show k91.M W base _ r[j] (((cur.toList.take (r.length * 3)).drop (j * 3)).take 3)
  rw [key]
  exact k91_mkM _ _ _ _
/-- the cells of a row of one's own -/
theorem holds_of_row {W : World} {base g cap : Nat} {ok : Nat → Prop} {l : List S91} (h : Kd.R k91 91 W base ok (.slice (some ⟨g, 0, none⟩) l.length cap) l) (hg : ∃ cur, W.heap[g]? = some (.cells cur 91 (0, 0))) : Sort.HoldsK enc34 3 W g 0 l.toArray := by
  intro t ht
  rw [Sort.size_flatK, List.size_toArray] at ht
  have hC := (Kd.R_reads' h).2.2
  obtain ⟨ad, e, h0, h1, h2⟩ := at_T91 hC ((t / 3 : Nat) : Int) (by omega) (by omega)
  cases e
  obtain ⟨cur, hcur⟩ := hg
  refine ⟨?_, by simp [World.frozen?, hcur]⟩
  rw [Sort.get_flatK _ _ _ _ (by rw [List.size_toArray]; exact ht)]
  have hx : (l.toArray)[t / 3]! = rd_T91 l ((t / 3 : Nat) : Int) := by
    unfold rd_T91
    rw [Int.toNat_natCast, getElem!_pos l.toArray (t / 3) (by rw [List.size_toArray]; omega), List.getElem_toArray, List.getD_eq_getElem?_getD, List.getElem?_eq_getElem (by omega)]
    rfl
  rw [hx]
  simp only [Int.toNat_natCast, add_plain] at h0 h1 h2
  have : t % 3 = 0 ∨ t % 3 = 1 ∨ t % 3 = 2 := by omega
  rcases this with c | c | c
  · rw [c, show 0 + t = t / 3 * 3 by omega]; exact h0
  · rw [c, show 0 + t = t / 3 * 3 + 1 by omega]; exact h1
  · rw [c, show 0 + t = t / 3 * 3 + 2 by omega]; exact h2
end Go.Proofs.YthimblhfjfngiaaGreat.PText

namespace Go.Proofs.YthimblhfjfngiaaGreat.PText
open Go.RowKit Go.Lib Go.Proofs.YthimblhfjfngiaaGreatW.PrintWords Go.Proofs.YthimblhfjfngiaaGreatW.PrintLast Go.Proofs.YthimblhfjfngiaaGreatW.PrintMore
def toE (x : S91) : Tx.Ed := ⟨x.f0, x.f1, x.f2.toList⟩
theorem toE_inj {x y : S91} (h : toE x = toE y) : x = y := by
  have h0 := congrArg Tx.Ed.f h
  have h1 := congrArg Tx.Ed.t h
  have h2 := congrArg Tx.Ed.x h
  refine S91.ext' h0 h1 ?_
  simp only [toE] at h2
  rw [Lib.toList_data, Lib.toList_data] at h2
  exact ByteArray.ext (Array.toList_inj.1 h2)
def eltS (x y : S91) : Bool := Tx.elt (toE x) (toE y)
theorem eltS_lin : Tx.Lin eltS where
  irr _ := Tx.elt_lin.irr _
  tr := fun h1 h2 => Tx.elt_lin.tr h1 h2
  tri := fun h1 h2 => toE_inj (Tx.elt_lin.tri h1 h2)
def cI (a b : Int) : Int := if a < b then -1 else if b < a then 1 else 0
def cS (a b : List UInt8) : Int := if a < b then -1 else if b < a then 1 else 0
def cfE (x y : S91) : Int := if cI x.f0 y.f0 ≠ 0 then cI x.f0 y.f0 else if cI x.f1 y.f1 ≠ 0 then cI x.f1 y.f1 else cS x.f2.toList y.f2.toList
theorem cmpI_f (a b : Int) : cmp_Compare_int.f a b = some (cI a b) := by
  unfold cmp_Compare_int.f cmp_isNaN_int.f cI
  simp only [bne_self_eq_false, Option.bind_some, Bool.false_eq_true, if_false]
  by_cases h : a < b
  · rw [if_pos h, if_pos h]
  · rw [if_neg h, if_neg h]
    by_cases h' : b < a
    · rw [if_pos h', if_pos h']
    · rw [if_neg h', if_neg h']
theorem cmpS_f (a b : ByteArray) : cmp_Compare_string.f a b = some (cS a.toList b.toList) := by
  unfold cmp_Compare_string.f cmp_isNaN_string.f cS
  simp only [bne_self_eq_false, Option.bind_some, Bool.false_eq_true, if_false, bl_lt, decide_eq_true_eq]
  by_cases h : a.toList < b.toList
  · rw [if_pos h, if_pos h]
  · rw [if_neg h, if_neg h]
    by_cases h' : b.toList < a.toList
    · rw [if_pos h', if_pos h']
    · rw [if_neg h', if_neg h']
theorem or_f (a b c : Int) : cmp_Or_int.f 8 [a, b, c] = some (if a ≠ 0 then a else if b ≠ 0 then b else c) := by
  have w1 : wrap64 1 = 1 := by unfold wrap64; omega
  have w2 : wrap64 2 = 2 := by unfold wrap64; omega
  have w3 : wrap64 3 = 3 := by unfold wrap64; omega
  unfold cmp_Or_int.f
  by_cases ha : a = 0
  · by_cases hb : b = 0
    · by_cases hc : c = 0
      · simp [cmp_Or_int.l0, rd, ha, hb, hc, w1, w2, w3]
      · simp [cmp_Or_int.l0, rd, ha, hb, hc, w1, w2]
    · simp [cmp_Or_int.l0, rd, ha, hb, w1]
  · simp [cmp_Or_int.l0, rd, ha]
theorem order_f (x y : S91) : text_order.f 8 x.f0 x.f1 x.f2 y.f0 y.f1 y.f2 = some (cfE x y) := by
  unfold text_order.f
  rw [cmpI_f, Option.bind_some, cmpI_f, Option.bind_some, cmpS_f, Option.bind_some, or_f]
  rfl
theorem ltOf_cfE (x y : S91) : decide (cfE x y < 0) = eltS x y := by
  rw [Bool.eq_iff_iff, decide_eq_true_eq]
  unfold eltS
  rw [Tx.elt_iff]
  unfold cfE cI cS toE
  by_cases h0 : x.f0 < y.f0
  · rw [if_pos h0]; simp [h0]
  · rw [if_neg h0]
    by_cases h1 : y.f0 < x.f0
    · rw [if_pos h1]; simp; omega
    · have e0 : x.f0 = y.f0 := by omega
      rw [if_neg h1]
      by_cases h2 : x.f1 < y.f1
      · rw [if_pos h2]; simp [e0, h2]
      · rw [if_neg h2]
        by_cases h3 : y.f1 < x.f1
        · rw [if_pos h3]; simp [e0]; omega
        · have e1 : x.f1 = y.f1 := by omega
          rw [if_neg h3]
          by_cases h4 : x.f2.toList < y.f2.toList
          · rw [if_pos h4]; simp [e0, e1, h4]
          · rw [if_neg h4]
            by_cases h5 : y.f2.toList < x.f2.toList
            · rw [if_pos h5]; simp [e0, e1, h4]
            · rw [if_neg h5]; simp [e0, e1, h4]
end Go.Proofs.YthimblhfjfngiaaGreat.PText

namespace Go.Proofs.YthimblhfjfngiaaGreat.PText
open Go.RowKit Go.Lib Go.Proofs.YthimblhfjfngiaaGreatW.PrintWords Go.Proofs.YthimblhfjfngiaaGreatW.PrintLast Go.Proofs.YthimblhfjfngiaaGreatW.PrintMore
def badE (n : Nat) (x : S91) : Bool := decide (x.f0 < 0) || decide ((n : Int) < x.f1) || decide (x.f1 < x.f0)
def fineE (n : Nat) (l : List S91) : Int := if 200000 < n ∨ 10000 < l.length then 2 else if l.any (badE n) = true then 1 else if Tx.clash 0 (-1) ((Tx.ord eltS l).map toE) = true then 10 else 0
end Go.Proofs.YthimblhfjfngiaaGreat.PText

namespace Go.Proofs.YthimblhfjfngiaaGreat.PText
open Go.RowKit Go.Lib Go.Proofs.YthimblhfjfngiaaGreatW.PrintWords Go.Proofs.YthimblhfjfngiaaGreatW.PrintLast Go.Proofs.YthimblhfjfngiaaGreatW.PrintMore
theorem neS34 (x y : S91) : (!(x.f0 == y.f0) || (!(x.f1 == y.f1) || !(x.f2.toList == y.f2.toList))) = decide (x ≠ y) := by
  rw [show decide (x ≠ y) = !decide (x = y) by simp, ← eqb34]
  simp only [Bool.not_and]
end Go.Proofs.YthimblhfjfngiaaGreat.PText

namespace Go.Proofs.YthimblhfjfngiaaGreat.PText
open Go.RowKit Go.Lib Go.Proofs.YthimblhfjfngiaaGreatW.PrintWords Go.Proofs.YthimblhfjfngiaaGreatW.PrintLast Go.Proofs.YthimblhfjfngiaaGreatW.PrintMore
end Go.Proofs.YthimblhfjfngiaaGreat.PText

