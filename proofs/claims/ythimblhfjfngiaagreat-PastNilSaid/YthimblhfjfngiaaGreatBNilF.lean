/- PastNil holds: for every number and every text the statement answers true. Part 6 of 19. -/
import Derived.Test.YthimblhfjfngiaaGreatBNilE
import Derived.Lib.Walk
namespace Go.Proofs.YthimblhfjfngiaaGreat.PText
open Go.RowKit Go.Proofs.YthimblhfjfngiaaGreatW.PrintWords Go.Proofs.YthimblhfjfngiaaGreatW.PrintLast Go.Proofs.YthimblhfjfngiaaGreatW.PrintMore
attribute [local go_sem] max2_int min2_int max_two min_two max_three min_three max_four min_four   -- for this text's walks alone
set_option linter.unusedVariables false
set_option linter.unusedSimpArgs false

attribute [local go_sem high] eqA91
def past_meet.f (a0_0 : Int) (a0_1 : Int) (a0_2 : ByteArray) (a1_0 : Int) (a1_1 : Int) (a1_2 : ByteArray) : Option (Bool) := if (!(a0_0 == a1_0) || (!(a0_1 == a1_1) || (!(a0_2.toList == a1_2.toList)))) = true then (if a0_0 ≤ a1_1 then (some (decide (a1_0 ≤ a0_1))) else (some false)) else (some false)
set_option maxHeartbeats 8000000 in
set_option maxRecDepth 100000 in
theorem past_meet.calls (a0_0 : Int) (a0_1 : Int) (a0_2 : ByteArray) (a1_0 : Int) (a1_1 : Int) (a1_2 : ByteArray) (r : Bool) (w : World) (h : past_meet.f a0_0 a0_1 a0_2 a1_0 a1_1 a1_2 = some r) :
  Calls Tryz.prog 60 #[.agg #[.int .i64 a0_0, .int .i64 a0_1, .string a0_2], .agg #[.int .i64 a1_0, .int .i64 a1_1, .string a1_2]] w fun e w' => e = .returned (.bool r) ∧ Below w.heap.size w w' := by
 have hu91 := Tryz.underlying91
 have HB := Aside0.mk (Below.refl w.heap.size w)
 have H : (if (!(a0_0 == a1_0) || (!(a0_1 == a1_1) || (!(a0_2.toList == a1_2.toList)))) = true then (if a0_0 ≤ a1_1 then (some (decide (a1_0 ≤ a0_1))) else (some false)) else (some false)) = some r := h
 clear h
 by_cases c3 : (!(a0_0 == a1_0) || (!(a0_1 == a1_1) || (!(a0_2.toList == a1_2.toList)))) = true
 ·rw [if_pos c3] at H
  have c3b0 : (!(a0_0 == a1_0) || (!(a0_1 == a1_1) || (!(a0_2.toList == a1_2.toList)))) = true := c3
  clear c3
  by_cases c4 : a0_0 ≤ a1_1
  ·rw [if_pos c4] at H
   have c4b0 : decide (a0_0 ≤ a1_1) = true := decide_eq_true c4
   clear c4
   obtain rfl := Option.some.inj H
   go_enter Tryz.func60, Tryz.ntmps60
   go_wp2_with (first | ((with_reducible refine gate_dst (N := 2) rfl ?_); refine box_event ?hg (N := 2) ?hd (cs := #[.int .i64 a0_0, .int .i64 a0_1, .string a0_2]) (t := 91) ?hr ?_; (case hd => rfl); (case hg => rfl); (case hr => first | (go_simp; done) | (go_simp; rfl)); intro gb525 hg w5 hbox hb; have n0_ := Aside0.mk (below_step (by repeat (with_reducible first | exact HB.out | apply below_alloc | apply pw_below_drewN | apply below_drew1)) hb); have n1_ := Aside0.mk (hbox); have n2_ := Aside0.mk ((by rw [hg]; exact (below_size (by repeat (with_reducible first | exact HB.out | apply below_alloc | apply pw_below_drewN | apply below_drew1))) : w.heap.size ≤ gb525)); have n3_ := Aside0.mk ((by rw [hg]; exact (below_size (by repeat (with_reducible first | exact HB.out | apply below_alloc | apply pw_below_drewN | apply below_drew1))) : w.heap.size ≤ gb525)); clear HB; have HB := n0_; have BK525 := n1_; have GW525 := n2_; have GE525 := n3_; clear n0_ n1_ n2_ n3_; clear hb hbox hg) | ((with_reducible refine gate_dst (N := 3) rfl ?_); refine box_event ?hg (N := 3) ?hd (cs := #[.int .i64 a1_0, .int .i64 a1_1, .string a1_2]) (t := 91) ?hr ?_; (case hd => rfl); (case hg => rfl); (case hr => first | (go_simp; done) | (go_simp; rfl)); intro gb526 hg w6 hbox hb; have n0_ := Aside0.mk (blk_below (g := gb525) (o := .cells #[.int .i64 a0_0, .int .i64 a0_1, .string a0_2] 91 (0, 0)) (by (with_reducible repeat (first | refine blk_drewN ?_ _ | refine blk_drew ?_ | refine blk_alloc ?_ _)); exact BK525.out) hb); have n1_ := Aside0.mk (below_step (by repeat (with_reducible first | exact HB.out | apply below_alloc | apply pw_below_drewN | apply below_drew1 | refine below_set ?_ GE525.out)) hb); have n2_ := Aside0.mk (hbox); have n3_ := Aside0.mk ((by rw [hg]; exact (below_size (by repeat (with_reducible first | exact HB.out | apply below_alloc | apply pw_below_drewN | apply below_drew1 | refine below_set ?_ GE525.out))) : w.heap.size ≤ gb526)); have n4_ := Aside0.mk ((by rw [hg]; exact (below_size (by repeat (with_reducible first | exact HB.out | apply below_alloc | apply pw_below_drewN | apply below_drew1 | refine below_set ?_ GE525.out))) : w.heap.size ≤ gb526)); have n5_ := Aside0.mk ((by rw [hg]; exact Nat.ne_of_lt (blk_lt (g := gb525) (o := .cells #[.int .i64 a0_0, .int .i64 a0_1, .string a0_2] 91 (0, 0)) (by (with_reducible repeat (first | refine blk_drewN ?_ _ | refine blk_drew ?_ | refine blk_alloc ?_ _)); exact BK525.out)) : gb525 ≠ gb526)); have n6_ := Aside0.mk ((by rw [hg]; exact Nat.ne_of_gt (blk_lt (g := gb525) (o := .cells #[.int .i64 a0_0, .int .i64 a0_1, .string a0_2] 91 (0, 0)) (by (with_reducible repeat (first | refine blk_drewN ?_ _ | refine blk_drew ?_ | refine blk_alloc ?_ _)); exact BK525.out)) : gb526 ≠ gb525)); clear BK525; clear HB; have BK525 := n0_; have HB := n1_; have BK526 := n2_; have GW526 := n3_; have GE526 := n4_; have NB525_526 := n5_; have NB526_525 := n6_; clear n0_ n1_ n2_ n3_ n4_ n5_ n6_; clear hb hbox hg; have hnb7 := NB525_526.out; have hnc7 := NB526_525.out; have hcz8_0 : w6.cell? ⟨gb525, 0, none⟩ = some (.int .i64 a0_0) := (blk_cell BK525.out 0).trans rfl; have hcz8_1 : w6.cell? ⟨gb525, 1, none⟩ = some (.int .i64 a0_1) := (blk_cell BK525.out 1).trans rfl; have hcz8_2 : w6.cell? ⟨gb525, 2, none⟩ = some (.string a0_2) := (blk_cell BK525.out 2).trans rfl; have hfz8_0 := blk_frozen BK525.out 0; have hfz8_1 := blk_frozen BK525.out 1; have hfz8_2 := blk_frozen BK525.out 2; have hcz9_0 : w6.cell? ⟨gb526, 0, none⟩ = some (.int .i64 a1_0) := (blk_cell BK526.out 0).trans rfl; have hcz9_1 : w6.cell? ⟨gb526, 1, none⟩ = some (.int .i64 a1_1) := (blk_cell BK526.out 1).trans rfl; have hcz9_2 : w6.cell? ⟨gb526, 2, none⟩ = some (.string a1_2) := (blk_cell BK526.out 2).trans rfl; have hfz9_0 := blk_frozen BK526.out 0; have hfz9_1 := blk_frozen BK526.out 1; have hfz9_2 := blk_frozen BK526.out 2))
   go_ret
   exact ⟨by first | rfl | (simp [errW_none, errW_some] <;> rfl) | (simp [*, errW_none, errW_some] <;> rfl), by repeat (with_reducible first | exact HB.out | apply below_alloc | apply pw_below_drewN | apply below_drew1 | refine below_set ?_ GE525.out | refine below_set ?_ GE526.out)⟩
  ·rw [if_neg c4] at H
   have c4b0 : decide (a0_0 ≤ a1_1) = false := decide_eq_false c4
   clear c4
   obtain rfl := Option.some.inj H
   go_enter Tryz.func60, Tryz.ntmps60
   go_wp2_with (first | ((with_reducible refine gate_dst (N := 2) rfl ?_); refine box_event ?hg (N := 2) ?hd (cs := #[.int .i64 a0_0, .int .i64 a0_1, .string a0_2]) (t := 91) ?hr ?_; (case hd => rfl); (case hg => rfl); (case hr => first | (go_simp; done) | (go_simp; rfl)); intro gb525 hg w10 hbox hb; have n0_ := Aside0.mk (below_step (by repeat (with_reducible first | exact HB.out | apply below_alloc | apply pw_below_drewN | apply below_drew1)) hb); have n1_ := Aside0.mk (hbox); have n2_ := Aside0.mk ((by rw [hg]; exact (below_size (by repeat (with_reducible first | exact HB.out | apply below_alloc | apply pw_below_drewN | apply below_drew1))) : w.heap.size ≤ gb525)); have n3_ := Aside0.mk ((by rw [hg]; exact (below_size (by repeat (with_reducible first | exact HB.out | apply below_alloc | apply pw_below_drewN | apply below_drew1))) : w.heap.size ≤ gb525)); clear HB; have HB := n0_; have BK525 := n1_; have GW525 := n2_; have GE525 := n3_; clear n0_ n1_ n2_ n3_; clear hb hbox hg) | ((with_reducible refine gate_dst (N := 3) rfl ?_); refine box_event ?hg (N := 3) ?hd (cs := #[.int .i64 a1_0, .int .i64 a1_1, .string a1_2]) (t := 91) ?hr ?_; (case hd => rfl); (case hg => rfl); (case hr => first | (go_simp; done) | (go_simp; rfl)); intro gb526 hg w11 hbox hb; have n0_ := Aside0.mk (blk_below (g := gb525) (o := .cells #[.int .i64 a0_0, .int .i64 a0_1, .string a0_2] 91 (0, 0)) (by (with_reducible repeat (first | refine blk_drewN ?_ _ | refine blk_drew ?_ | refine blk_alloc ?_ _)); exact BK525.out) hb); have n1_ := Aside0.mk (below_step (by repeat (with_reducible first | exact HB.out | apply below_alloc | apply pw_below_drewN | apply below_drew1 | refine below_set ?_ GE525.out)) hb); have n2_ := Aside0.mk (hbox); have n3_ := Aside0.mk ((by rw [hg]; exact (below_size (by repeat (with_reducible first | exact HB.out | apply below_alloc | apply pw_below_drewN | apply below_drew1 | refine below_set ?_ GE525.out))) : w.heap.size ≤ gb526)); have n4_ := Aside0.mk ((by rw [hg]; exact (below_size (by repeat (with_reducible first | exact HB.out | apply below_alloc | apply pw_below_drewN | apply below_drew1 | refine below_set ?_ GE525.out))) : w.heap.size ≤ gb526)); have n5_ := Aside0.mk ((by rw [hg]; exact Nat.ne_of_lt (blk_lt (g := gb525) (o := .cells #[.int .i64 a0_0, .int .i64 a0_1, .string a0_2] 91 (0, 0)) (by (with_reducible repeat (first | refine blk_drewN ?_ _ | refine blk_drew ?_ | refine blk_alloc ?_ _)); exact BK525.out)) : gb525 ≠ gb526)); have n6_ := Aside0.mk ((by rw [hg]; exact Nat.ne_of_gt (blk_lt (g := gb525) (o := .cells #[.int .i64 a0_0, .int .i64 a0_1, .string a0_2] 91 (0, 0)) (by (with_reducible repeat (first | refine blk_drewN ?_ _ | refine blk_drew ?_ | refine blk_alloc ?_ _)); exact BK525.out)) : gb526 ≠ gb525)); clear BK525; clear HB; have BK525 := n0_; have HB := n1_; have BK526 := n2_; have GW526 := n3_; have GE526 := n4_; have NB525_526 := n5_; have NB526_525 := n6_; clear n0_ n1_ n2_ n3_ n4_ n5_ n6_; clear hb hbox hg; have hnb12 := NB525_526.out; have hnc12 := NB526_525.out; have hcz13_0 : w11.cell? ⟨gb525, 0, none⟩ = some (.int .i64 a0_0) := (blk_cell BK525.out 0).trans rfl; have hcz13_1 : w11.cell? ⟨gb525, 1, none⟩ = some (.int .i64 a0_1) := (blk_cell BK525.out 1).trans rfl; have hcz13_2 : w11.cell? ⟨gb525, 2, none⟩ = some (.string a0_2) := (blk_cell BK525.out 2).trans rfl; have hfz13_0 := blk_frozen BK525.out 0; have hfz13_1 := blk_frozen BK525.out 1; have hfz13_2 := blk_frozen BK525.out 2; have hcz14_0 : w11.cell? ⟨gb526, 0, none⟩ = some (.int .i64 a1_0) := (blk_cell BK526.out 0).trans rfl; have hcz14_1 : w11.cell? ⟨gb526, 1, none⟩ = some (.int .i64 a1_1) := (blk_cell BK526.out 1).trans rfl; have hcz14_2 : w11.cell? ⟨gb526, 2, none⟩ = some (.string a1_2) := (blk_cell BK526.out 2).trans rfl; have hfz14_0 := blk_frozen BK526.out 0; have hfz14_1 := blk_frozen BK526.out 1; have hfz14_2 := blk_frozen BK526.out 2))
   go_ret
   exact ⟨by first | rfl | (simp [errW_none, errW_some] <;> rfl) | (simp [*, errW_none, errW_some] <;> rfl), by repeat (with_reducible first | exact HB.out | apply below_alloc | apply pw_below_drewN | apply below_drew1 | refine below_set ?_ GE525.out | refine below_set ?_ GE526.out)⟩
 ·rw [if_neg c3] at H
  have c3b0 : (!(a0_0 == a1_0) || (!(a0_1 == a1_1) || (!(a0_2.toList == a1_2.toList)))) = false := by simpa using c3
  clear c3
  obtain rfl := Option.some.inj H
  go_enter Tryz.func60, Tryz.ntmps60
  go_wp2_with (first | ((with_reducible refine gate_dst (N := 2) rfl ?_); refine box_event ?hg (N := 2) ?hd (cs := #[.int .i64 a0_0, .int .i64 a0_1, .string a0_2]) (t := 91) ?hr ?_; (case hd => rfl); (case hg => rfl); (case hr => first | (go_simp; done) | (go_simp; rfl)); intro gb525 hg w15 hbox hb; have n0_ := Aside0.mk (below_step (by repeat (with_reducible first | exact HB.out | apply below_alloc | apply pw_below_drewN | apply below_drew1)) hb); have n1_ := Aside0.mk (hbox); have n2_ := Aside0.mk ((by rw [hg]; exact (below_size (by repeat (with_reducible first | exact HB.out | apply below_alloc | apply pw_below_drewN | apply below_drew1))) : w.heap.size ≤ gb525)); have n3_ := Aside0.mk ((by rw [hg]; exact (below_size (by repeat (with_reducible first | exact HB.out | apply below_alloc | apply pw_below_drewN | apply below_drew1))) : w.heap.size ≤ gb525)); clear HB; have HB := n0_; have BK525 := n1_; have GW525 := n2_; have GE525 := n3_; clear n0_ n1_ n2_ n3_; clear hb hbox hg) | ((with_reducible refine gate_dst (N := 3) rfl ?_); refine box_event ?hg (N := 3) ?hd (cs := #[.int .i64 a1_0, .int .i64 a1_1, .string a1_2]) (t := 91) ?hr ?_; (case hd => rfl); (case hg => rfl); (case hr => first | (go_simp; done) | (go_simp; rfl)); intro gb526 hg w16 hbox hb; have n0_ := Aside0.mk (blk_below (g := gb525) (o := .cells #[.int .i64 a0_0, .int .i64 a0_1, .string a0_2] 91 (0, 0)) (by (with_reducible repeat (first | refine blk_drewN ?_ _ | refine blk_drew ?_ | refine blk_alloc ?_ _)); exact BK525.out) hb); have n1_ := Aside0.mk (below_step (by repeat (with_reducible first | exact HB.out | apply below_alloc | apply pw_below_drewN | apply below_drew1 | refine below_set ?_ GE525.out)) hb); have n2_ := Aside0.mk (hbox); have n3_ := Aside0.mk ((by rw [hg]; exact (below_size (by repeat (with_reducible first | exact HB.out | apply below_alloc | apply pw_below_drewN | apply below_drew1 | refine below_set ?_ GE525.out))) : w.heap.size ≤ gb526)); have n4_ := Aside0.mk ((by rw [hg]; exact (below_size (by repeat (with_reducible first | exact HB.out | apply below_alloc | apply pw_below_drewN | apply below_drew1 | refine below_set ?_ GE525.out))) : w.heap.size ≤ gb526)); have n5_ := Aside0.mk ((by rw [hg]; exact Nat.ne_of_lt (blk_lt (g := gb525) (o := .cells #[.int .i64 a0_0, .int .i64 a0_1, .string a0_2] 91 (0, 0)) (by (with_reducible repeat (first | refine blk_drewN ?_ _ | refine blk_drew ?_ | refine blk_alloc ?_ _)); exact BK525.out)) : gb525 ≠ gb526)); have n6_ := Aside0.mk ((by rw [hg]; exact Nat.ne_of_gt (blk_lt (g := gb525) (o := .cells #[.int .i64 a0_0, .int .i64 a0_1, .string a0_2] 91 (0, 0)) (by (with_reducible repeat (first | refine blk_drewN ?_ _ | refine blk_drew ?_ | refine blk_alloc ?_ _)); exact BK525.out)) : gb526 ≠ gb525)); clear BK525; clear HB; have BK525 := n0_; have HB := n1_; have BK526 := n2_; have GW526 := n3_; have GE526 := n4_; have NB525_526 := n5_; have NB526_525 := n6_; clear n0_ n1_ n2_ n3_ n4_ n5_ n6_; clear hb hbox hg; have hnb17 := NB525_526.out; have hnc17 := NB526_525.out; have hcz18_0 : w16.cell? ⟨gb525, 0, none⟩ = some (.int .i64 a0_0) := (blk_cell BK525.out 0).trans rfl; have hcz18_1 : w16.cell? ⟨gb525, 1, none⟩ = some (.int .i64 a0_1) := (blk_cell BK525.out 1).trans rfl; have hcz18_2 : w16.cell? ⟨gb525, 2, none⟩ = some (.string a0_2) := (blk_cell BK525.out 2).trans rfl; have hfz18_0 := blk_frozen BK525.out 0; have hfz18_1 := blk_frozen BK525.out 1; have hfz18_2 := blk_frozen BK525.out 2; have hcz19_0 : w16.cell? ⟨gb526, 0, none⟩ = some (.int .i64 a1_0) := (blk_cell BK526.out 0).trans rfl; have hcz19_1 : w16.cell? ⟨gb526, 1, none⟩ = some (.int .i64 a1_1) := (blk_cell BK526.out 1).trans rfl; have hcz19_2 : w16.cell? ⟨gb526, 2, none⟩ = some (.string a1_2) := (blk_cell BK526.out 2).trans rfl; have hfz19_0 := blk_frozen BK526.out 0; have hfz19_1 := blk_frozen BK526.out 1; have hfz19_2 := blk_frozen BK526.out 2))
  go_ret
  exact ⟨by first | rfl | (simp [errW_none, errW_some] <;> rfl) | (simp [*, errW_none, errW_some] <;> rfl), by repeat (with_reducible first | exact HB.out | apply below_alloc | apply pw_below_drewN | apply below_drew1 | refine below_set ?_ GE525.out | refine below_set ?_ GE526.out)⟩

end Go.Proofs.YthimblhfjfngiaaGreat.PText

namespace Go.Proofs.YthimblhfjfngiaaGreat.Tx
section
variable {α : Type} [DecidableEq α] {lt : α → α → Bool}
structure Lin (lt : α → α → Bool) : Prop where
  irr : ∀ a, lt a a = false
  tr : ∀ {a b c}, lt a b = true → lt b c = true → lt a c = true
  tri : ∀ {a b}, lt a b = false → lt b a = false → a = b
omit [DecidableEq α] in
theorem Lin.asym (h : Lin lt) {a b : α} (q : lt a b = true) : lt b a = false := by
  cases e : lt b a with
  | false => rfl
  | true => have := h.tr q e; rw [h.irr] at this; cases this
def Asc (lt : α → α → Bool) (l : List α) : Prop := l.Pairwise fun a b => lt a b = true
omit [DecidableEq α] in
theorem Asc.nil : Asc lt ([] : List α) := List.Pairwise.nil
omit [DecidableEq α] in
theorem asc_cons {a : α} {l : List α} : Asc lt (a :: l) ↔ (∀ b ∈ l, lt a b = true) ∧ Asc lt l := List.pairwise_cons
omit [DecidableEq α] in
theorem asc_append {l m : List α} : Asc lt (l ++ m) ↔ Asc lt l ∧ Asc lt m ∧ ∀ a ∈ l, ∀ b ∈ m, lt a b = true := List.pairwise_append
omit [DecidableEq α] in
theorem asc_unique (h : Lin lt) : ∀ {l m : List α}, Asc lt l → Asc lt m → (∀ a, a ∈ l ↔ a ∈ m) → l = m
  | [], [], _, _, _ => rfl
  | [], b :: m, _, _, q => by have := (q b).2 List.mem_cons_self; cases this
  | a :: l, [], _, _, q => by have := (q a).1 List.mem_cons_self; cases this
  | a :: l, b :: m, p1, p2, q => by
    obtain ⟨u1, v1⟩ := asc_cons.1 p1
    obtain ⟨u2, v2⟩ := asc_cons.1 p2
    have e : a = b := by
      rcases List.mem_cons.1 ((q a).1 List.mem_cons_self) with e | e
      · exact e
      rcases List.mem_cons.1 ((q b).2 List.mem_cons_self) with e' | e'
      · exact e'.symm
      have := h.asym (u2 a e)
      rw [u1 b e'] at this; cases this
    subst e
    rw [asc_unique h v1 v2 fun c => ⟨fun k => ?_, fun k => ?_⟩]
    · rcases List.mem_cons.1 ((q c).1 (List.mem_cons_of_mem _ k)) with e | e
      · subst e; have := u1 c k; rw [h.irr] at this; cases this
      · exact e
    · rcases List.mem_cons.1 ((q c).2 (List.mem_cons_of_mem _ k)) with e | e
      · subst e; have := u2 c k; rw [h.irr] at this; cases this
      · exact e
/-- The ascending list of a list's members. -/
def ord (lt : α → α → Bool) : List α → List α
  | [] => []
  | a :: l => ins a (ord lt l)
where ins (a : α) : List α → List α
  | [] => [a]
  | b :: l => if lt a b then a :: b :: l else if a = b then b :: l else b :: ins a l
theorem mem_ins (h : Lin lt) {a c : α} : ∀ {l : List α}, c ∈ ord.ins lt a l ↔ c = a ∨ c ∈ l
  | [] => by simp [ord.ins]
  | b :: l => by
    unfold ord.ins
    by_cases e : lt a b = true
    · rw [if_pos e, List.mem_cons]
    · rw [if_neg e]
      by_cases e' : a = b
      · rw [if_pos e']; subst e'; simp
      · rw [if_neg e', List.mem_cons, mem_ins h, List.mem_cons]
        constructor <;> rintro (k | k | k) <;> simp [k]
theorem asc_ins (h : Lin lt) {a : α} : ∀ {l : List α}, Asc lt l → Asc lt (ord.ins lt a l)
  | [], _ => List.pairwise_singleton _ _
  | b :: l, q => by
    obtain ⟨u, v⟩ := asc_cons.1 q
    unfold ord.ins
    by_cases e : lt a b = true
    · rw [if_pos e]
      exact asc_cons.2 ⟨fun c hc => (List.mem_cons.1 hc).elim (fun k => k ▸ e) fun k => h.tr e (u c k), q⟩
    · rw [if_neg e]
      by_cases e' : a = b
      · rw [if_pos e']; exact q
      · rw [if_neg e']
        refine asc_cons.2 ⟨fun c hc => ?_, asc_ins h v⟩
        rcases (mem_ins h).1 hc with k | k
        · subst k
          cases k : lt b c with
          | true => rfl
          | false => exact absurd (h.tri (by simpa using e) k) e'
        · exact u c k
theorem mem_ord (h : Lin lt) {c : α} : ∀ {l : List α}, c ∈ ord lt l ↔ c ∈ l
  | [] => Iff.rfl
  | a :: l => by unfold ord; rw [mem_ins h, mem_ord h, List.mem_cons]
theorem asc_ord (h : Lin lt) : ∀ {l : List α}, Asc lt (ord lt l)
  | [] => List.Pairwise.nil
  | a :: l => by unfold ord; exact asc_ins h (asc_ord h)
theorem ord_of_asc (h : Lin lt) {l m : List α} (q : Asc lt m) (k : ∀ a, a ∈ m ↔ a ∈ l) : m = ord lt l :=
  asc_unique h q (asc_ord h) fun a => by rw [mem_ord h]; exact k a
theorem ord_len (l : List α) : (ord lt l).length ≤ l.length := by
  have hi : ∀ (a : α) (m : List α), (ord.ins lt a m).length ≤ m.length + 1 := by
    intro a m
    induction m with
    | nil => simp [ord.ins]
    | cons b m ih =>
      unfold ord.ins
      split
      · simp
      split
      · simp
      · simp only [List.length_cons]; omega
  induction l with
  | nil => exact Nat.le_refl _
  | cons a l ih => unfold ord; have := hi a (ord lt l); simp only [List.length_cons]; omega
end
end Go.Proofs.YthimblhfjfngiaaGreat.Tx

namespace Go.Proofs.YthimblhfjfngiaaGreat.Tx
structure Ed where
  f : Int
  t : Int
  x : List UInt8
theorem Ed.ext' {a b : Ed} (h1 : a.f = b.f) (h2 : a.t = b.t) (h3 : a.x = b.x) : a = b := by cases a; cases b; simp_all
instance : DecidableEq Ed := fun a b => decidable_of_iff (a.f = b.f ∧ a.t = b.t ∧ a.x = b.x) ⟨fun h => Ed.ext' h.1 h.2.1 h.2.2, fun h => by subst h; exact ⟨rfl, rfl, rfl⟩⟩
/-- the order of edits -/
def elt (a b : Ed) : Bool := decide (a.f < b.f) || (decide (a.f = b.f) && (decide (a.t < b.t) || (decide (a.t = b.t) && decide (a.x < b.x))))
theorem elt_iff {a b : Ed} : elt a b = true ↔ a.f < b.f ∨ (a.f = b.f ∧ (a.t < b.t ∨ (a.t = b.t ∧ a.x < b.x))) := by
  unfold elt
  simp only [Bool.or_eq_true, Bool.and_eq_true, decide_eq_true_eq]
theorem elt_lin : Lin elt where
  irr a := by
    cases h : elt a a with
    | false => rfl
    | true =>
      rcases elt_iff.1 h with k | ⟨_, k | ⟨_, k⟩⟩
      · omega
      · omega
      · exact absurd k (List.lt_irrefl _)
  tr := by
    intro a b c h1 h2
    rw [elt_iff] at h1 h2 ⊢
    rcases h1 with h1 | ⟨e1, h1 | ⟨e1', h1⟩⟩
    · rcases h2 with h2 | ⟨e2, h2⟩
      · exact Or.inl (by omega)
      · exact Or.inl (by omega)
    · rcases h2 with h2 | ⟨e2, h2 | ⟨e2', h2⟩⟩
      · exact Or.inl (by omega)
      · exact Or.inr ⟨by omega, Or.inl (by omega)⟩
      · exact Or.inr ⟨by omega, Or.inl (by omega)⟩
    · rcases h2 with h2 | ⟨e2, h2 | ⟨e2', h2⟩⟩
      · exact Or.inl (by omega)
      · exact Or.inr ⟨by omega, Or.inl (by omega)⟩
      · exact Or.inr ⟨by omega, Or.inr ⟨by omega, List.lt_trans h1 h2⟩⟩
  tri := by
    intro a b h1 h2
    have n1 : ¬ (elt a b = true) := by rw [h1]; decide
    have n2 : ¬ (elt b a = true) := by rw [h2]; decide
    rw [elt_iff] at n1 n2
    have ef : a.f = b.f := by
      rcases Int.lt_trichotomy a.f b.f with k | k | k
      · exact absurd (Or.inl k) n1
      · exact k
      · exact absurd (Or.inl k) n2
    have et : a.t = b.t := by
      rcases Int.lt_trichotomy a.t b.t with k | k | k
      · exact absurd (Or.inr ⟨ef, Or.inl k⟩) n1
      · exact k
      · exact absurd (Or.inr ⟨ef.symm, Or.inl k⟩) n2
    have n1' : ¬ a.x < b.x := fun k => n1 (Or.inr ⟨ef, Or.inr ⟨et, k⟩⟩)
    have n2' : ¬ b.x < a.x := fun k => n2 (Or.inr ⟨ef.symm, Or.inr ⟨et.symm, k⟩⟩)
    exact Ed.ext' ef et (List.le_antisymm (List.not_lt.1 n2') (List.not_lt.1 n1'))
/-- two edits touch -/
def touch (a b : Ed) : Bool :=
  if a.f = a.t ∧ b.f = b.t then decide (a.f = b.f)
  else if a.f = a.t then decide (b.f < a.f) && decide (a.f < b.t)
  else if b.f = b.t then decide (a.f < b.f) && decide (b.f < a.t)
  else decide (a.f < b.t) && decide (b.f < a.t)
def Okay (n : Int) (l : List Ed) : Prop := ∀ e ∈ l, 0 ≤ e.f ∧ e.f ≤ e.t ∧ e.t ≤ n
/-- does one of the sorted edits touch one before it -/
def clash (e last : Int) : List Ed → Bool
  | [] => false
  | x :: l => if x.f < e ∨ (x.f = x.t ∧ x.f = last) then true else clash (max e x.t) (if x.f = x.t then x.f else last) l
/-- edits one behind the other -/
def Ch (n : Int) : Int → List Ed → Prop
  | p, [] => p ≤ n
  | p, e :: l => p ≤ e.f ∧ e.f ≤ e.t ∧ Ch n e.t l
theorem clash_ch {n : Int} : ∀ (l : List Ed) (e last : Int), Okay n l → e ≤ n → clash e last l = false → Ch n e l
  | [], e, last, _, h, _ => h
  | x :: l, e, last, ho, hn, hc => by
    have hx := ho x List.mem_cons_self
    unfold clash at hc
    by_cases k : x.f < e ∨ (x.f = x.t ∧ x.f = last)
    · rw [if_pos k] at hc; cases hc
    · rw [if_neg k] at hc
      have e1 : max e x.t = x.t := by omega
      rw [e1] at hc
      exact ⟨by omega, hx.2.1, clash_ch l x.t _ (fun a m => ho a (List.mem_cons_of_mem _ m)) hx.2.2 hc⟩
end Go.Proofs.YthimblhfjfngiaaGreat.Tx

namespace Go.Proofs.YthimblhfjfngiaaGreat.Tx
/-- a part of a text -/
def sl (s : List UInt8) (a b : Int) : List UInt8 := (s.drop a.toNat).take (b.toNat - a.toNat)
/-- the text from a place on, behind edits -/
def ap (s : List UInt8) : Int → List Ed → List UInt8
  | p, [] => s.drop p.toNat
  | p, e :: l => sl s p e.f ++ e.x ++ ap s e.t l
theorem ch_le {n : Int} : ∀ {l : List Ed} {p : Int}, Ch n p l → p ≤ n
  | [], _, h => h
  | e :: l, p, h => by have := ch_le h.2.2; have := h.1; have := h.2.1; omega
end Go.Proofs.YthimblhfjfngiaaGreat.Tx

namespace Go.Proofs.YthimblhfjfngiaaGreat.Tx
end Go.Proofs.YthimblhfjfngiaaGreat.Tx

namespace Go.Proofs.YthimblhfjfngiaaGreat.Tx
/-- the lines of a text, the first part of the first one is told -/
def lgo (cur : List UInt8) : List UInt8 → List (List UInt8)
  | [] => if cur = [] then [] else [cur]
  | c :: r => if c = 10 then (cur ++ [c]) :: lgo [] r else lgo (cur ++ [c]) r
def lines (s : List UInt8) : List (List UInt8) := lgo [] s
theorem lgo_flat : ∀ (s cur : List UInt8), (lgo cur s).flatten = cur ++ s
  | [], cur => by
    unfold lgo
    by_cases h : cur = []
    · rw [if_pos h, h]; rfl
    · rw [if_neg h]; simp
  | c :: r, cur => by
    unfold lgo
    by_cases h : c = 10
    · rw [if_pos h, List.flatten_cons, lgo_flat r []]; simp
    · rw [if_neg h, lgo_flat r]; simp
theorem lines_flat (s : List UInt8) : (lines s).flatten = s := lgo_flat s []
theorem lgo_ne : ∀ (s cur : List UInt8), ∀ x ∈ lgo cur s, x ≠ []
  | [], cur, x, hx => by
    unfold lgo at hx
    by_cases h : cur = []
    · rw [if_pos h] at hx; cases hx
    · rw [if_neg h] at hx; rw [List.mem_singleton.1 hx]; exact h
  | c :: r, cur, x, hx => by
    unfold lgo at hx
    by_cases h : c = 10
    · rw [if_pos h] at hx
      rcases List.mem_cons.1 hx with k | k
      · subst k; simp
      · exact lgo_ne r [] x k
    · rw [if_neg h] at hx; exact lgo_ne r _ x hx
theorem lines_ne (s : List UInt8) : ∀ x ∈ lines s, x ≠ [] := lgo_ne s []
/-- a first line that ends -/
theorem lgo_line : ∀ (a cur r : List UInt8), (10 : UInt8) ∉ a → lgo cur (a ++ 10 :: r) = (cur ++ a ++ [10]) :: lgo [] r
  | [], cur, r, _ => by
    have e : lgo cur (10 :: r) = if (10 : UInt8) = 10 then (cur ++ [10]) :: lgo [] r else lgo (cur ++ [10]) r := rfl
    rw [List.nil_append, e, if_pos rfl, List.append_nil]
  | c :: a, cur, r, h => by
    have hc : c ≠ 10 := fun e => h (e ▸ List.mem_cons_self)
    show lgo cur (c :: (a ++ 10 :: r)) = _
    rw [lgo, if_neg hc, lgo_line a _ r fun k => h (List.mem_cons_of_mem _ k)]
    simp only [List.append_assoc, List.cons_append, List.nil_append]
section
variable {α : Type} [DecidableEq α]
/-- how many can be kept -/
def lcs : List α → List α → Nat
  | a :: l, b :: m => if a = b then lcs l m + 1 else max (lcs l (b :: m)) (lcs (a :: l) m)
  | _, _ => 0
termination_by l m => l.length + m.length
theorem lcs_nil_l (m : List α) : lcs [] m = 0 := by rw [lcs]; intro a l b m' h; cases h
theorem lcs_nil_r (l : List α) : lcs l [] = 0 := by rw [lcs]; intro a l' b m' _ h; cases h
theorem lcs_cons (a b : α) (l m : List α) : lcs (a :: l) (b :: m) = if a = b then lcs l m + 1 else max (lcs l (b :: m)) (lcs (a :: l) m) := by rw [lcs]
theorem lcs_step : ∀ (k : Nat) (l m : List α), l.length + m.length ≤ k →
    (∀ b, lcs l m ≤ lcs l (b :: m) ∧ lcs l (b :: m) ≤ lcs l m + 1) ∧ (∀ a, lcs l m ≤ lcs (a :: l) m ∧ lcs (a :: l) m ≤ lcs l m + 1) := by
  intro k
  induction k with
  | zero =>
    intro l m h
    have hl : l = [] := List.eq_nil_of_length_eq_zero (by omega)
    have hm : m = [] := List.eq_nil_of_length_eq_zero (by omega)
    subst hl hm
    refine ⟨fun b => ?_, fun a => ?_⟩
    · rw [lcs_nil_l, lcs_nil_l]; omega
    · rw [lcs_nil_r, lcs_nil_r]; omega
  | succ k ih =>
    intro l m h
    constructor
    · intro b
      cases l with
      | nil => rw [lcs_nil_l, lcs_nil_l]; omega
      | cons a l =>
        simp only [List.length_cons] at h
        have h1 := (ih l m (by omega)).1 b
        have h2 := (ih l m (by omega)).2 a
        rw [lcs_cons]
        by_cases e : a = b
        · rw [if_pos e]; omega
        · rw [if_neg e]; omega
    · intro a
      cases m with
      | nil => rw [lcs_nil_r, lcs_nil_r]; omega
      | cons b m =>
        simp only [List.length_cons] at h
        have h1 := (ih l m (by omega)).1 b
        have h2 := (ih l m (by omega)).2 a
        rw [lcs_cons]
        by_cases e : a = b
        · rw [if_pos e]; omega
        · rw [if_neg e]; omega
theorem lcs_len_l (l m : List α) : lcs l m ≤ l.length := by
  induction l with
  | nil => rw [lcs_nil_l]; exact Nat.le_refl _
  | cons a l ih => have := ((lcs_step _ l m (Nat.le_refl _)).2 a).2; simp only [List.length_cons]; omega
/-- the steps: 32 is kept, 45 goes, 43 comes -/
def stp : List α → List α → List (UInt8 × α)
  | a :: l, b :: m => if a = b then (32, a) :: stp l m else if lcs (a :: l) m ≤ lcs l (b :: m) then (45, a) :: stp l (b :: m) else (43, b) :: stp (a :: l) m
  | a :: l, [] => (45, a) :: stp l []
  | [], b :: m => (43, b) :: stp [] m
  | [], [] => []
termination_by l m => l.length + m.length
def news (l : List (UInt8 × α)) : List α := (l.filter fun x => x.1 != 45).map (·.2)
theorem stp_op : ∀ (k : Nat) (l m : List α), l.length + m.length ≤ k → ∀ x ∈ stp l m, (x.1 = 32 ∨ x.1 = 45 ∨ x.1 = 43) ∧ (x.2 ∈ l ∨ x.2 ∈ m) := by
  intro k
  induction k with
  | zero =>
    intro l m h
    have hl : l = [] := List.eq_nil_of_length_eq_zero (by omega)
    have hm : m = [] := List.eq_nil_of_length_eq_zero (by omega)
    subst hl hm
    rw [stp]; intro x hx; cases hx
  | succ k ih =>
    intro l m h x hx
    match l, m, h, hx with
    | [], [], _, hx => rw [stp] at hx; cases hx
    | a :: l, [], h, hx =>
      simp only [List.length_cons, List.length_nil] at h
      rw [stp] at hx
      rcases List.mem_cons.1 hx with q | q
      · subst q; exact ⟨Or.inr (Or.inl rfl), Or.inl List.mem_cons_self⟩
      · obtain ⟨h1, h2⟩ := ih l [] (by simp; omega) x q
        exact ⟨h1, h2.imp (List.mem_cons_of_mem _) id⟩
    | [], b :: m, h, hx =>
      simp only [List.length_cons, List.length_nil] at h
      rw [stp] at hx
      rcases List.mem_cons.1 hx with q | q
      · subst q; exact ⟨Or.inr (Or.inr rfl), Or.inr List.mem_cons_self⟩
      · obtain ⟨h1, h2⟩ := ih [] m (by simp; omega) x q
        exact ⟨h1, h2.imp id (List.mem_cons_of_mem _)⟩
    | a :: l, b :: m, h, hx =>
      simp only [List.length_cons] at h
      rw [stp] at hx
      by_cases e : a = b
      · rw [if_pos e] at hx
        rcases List.mem_cons.1 hx with q | q
        · subst q; exact ⟨Or.inl rfl, Or.inl List.mem_cons_self⟩
        · obtain ⟨h1, h2⟩ := ih l m (by omega) x q
          exact ⟨h1, h2.imp (List.mem_cons_of_mem _) (List.mem_cons_of_mem _)⟩
      · rw [if_neg e] at hx
        split at hx
        · rcases List.mem_cons.1 hx with q | q
          · subst q; exact ⟨Or.inr (Or.inl rfl), Or.inl List.mem_cons_self⟩
          · obtain ⟨h1, h2⟩ := ih l (b :: m) (by simp only [List.length_cons]; omega) x q
            exact ⟨h1, h2.imp (List.mem_cons_of_mem _) id⟩
        · rcases List.mem_cons.1 hx with q | q
          · subst q; exact ⟨Or.inr (Or.inr rfl), Or.inr List.mem_cons_self⟩
          · obtain ⟨h1, h2⟩ := ih (a :: l) m (by simp only [List.length_cons]; omega) x q
            exact ⟨h1, h2.imp id (List.mem_cons_of_mem _)⟩
end
end Go.Proofs.YthimblhfjfngiaaGreat.Tx

namespace Go.Proofs.YthimblhfjfngiaaGreat.Tx
abbrev St := UInt8 × List UInt8
/-- the edits of steps; the one that is not yet shut is told -/
def eg : Int → Option Ed → List St → List Ed
  | _, c, [] => c.toList
  | at_, c, (o, x) :: l =>
    if o = 32 then c.toList ++ eg (at_ + x.length) none l
    else
      let d := c.getD ⟨at_, at_, []⟩
      if o = 45 then eg (at_ + x.length) (some ⟨d.f, at_ + x.length, d.x⟩) l else eg at_ (some ⟨d.f, d.t, d.x ++ x⟩) l
theorem eg_keep (a : Int) (c : Option Ed) (x : List UInt8) (l : List St) : eg a c ((32, x) :: l) = c.toList ++ eg (a + x.length) none l := by
  rw [eg, if_pos rfl]
theorem eg_gone (a : Int) (c : Option Ed) (x : List UInt8) (l : List St) : eg a c ((45, x) :: l) = eg (a + x.length) (some ⟨(c.getD ⟨a, a, []⟩).f, a + x.length, (c.getD ⟨a, a, []⟩).x⟩) l := by
  rw [eg, if_neg (by decide), if_pos rfl]
theorem eg_come (a : Int) (c : Option Ed) (o : UInt8) (x : List UInt8) (l : List St) (h1 : o ≠ 32) (h2 : o ≠ 45) : eg a c ((o, x) :: l) = eg a (some ⟨(c.getD ⟨a, a, []⟩).f, (c.getD ⟨a, a, []⟩).t, (c.getD ⟨a, a, []⟩).x ++ x⟩) l := by
  rw [eg, if_neg h1, if_neg h2]
/-- the edits from a text to another one -/
def edits (a b : List UInt8) : List Ed := eg 0 none (stp (lines a) (lines b))
end Go.Proofs.YthimblhfjfngiaaGreat.Tx

namespace Go.Proofs.YthimblhfjfngiaaGreat
theorem bl_lt : ∀ (x y : List UInt8), Op.bytesLess x y = decide (x < y)
  | [], [] => by simp [Op.bytesLess]
  | _ :: _, [] => by simp [Op.bytesLess]
  | [], _ :: _ => by simp [Op.bytesLess]
  | a :: x, b :: y => by
    rw [Op.bytesLess, bl_lt x y, Bool.eq_iff_iff]
    simp [List.cons_lt_cons_iff]
theorem bl_ne {x y : List UInt8} (h : Op.bytesLess y x = true) : (x == y) = false := by
  cases q : x == y with
  | false => rfl
  | true => rw [eq_of_beq q, bl_lt, decide_eq_true_eq] at h; exact absurd h (List.lt_irrefl _)
theorem bl_eq {x y : List UInt8} (h1 : Op.bytesLess x y = false) (h2 : Op.bytesLess y x = false) : (x == y) = true := by
  rw [bl_lt] at h1 h2
  exact beq_iff_eq.2 (List.le_antisymm (List.not_lt.1 (of_decide_eq_false h2)) (List.not_lt.1 (of_decide_eq_false h1)))
theorem bl_gtr (x y : List UInt8) : (!(Op.bytesLess x y || x == y)) = Op.bytesLess y x := by
  cases h1 : Op.bytesLess x y with
  | true =>
    cases h2 : Op.bytesLess y x with
    | false => rfl
    | true => rw [bl_lt, decide_eq_true_eq] at h1 h2; exact absurd (List.lt_trans h1 h2) (List.lt_irrefl _)
  | false =>
    cases h2 : Op.bytesLess y x with
    | false => rw [bl_eq h1 h2]; rfl
    | true => rw [bl_ne h2]; rfl
theorem run_gtr_str (P : Program) (T : TypeId) (x y : ByteArray) (w : World) : Sem.run P (binOp .gtr T (.string x) (.string y)) w = .ok (.bool (Op.bytesLess y.toList x.toList)) w := by
  rw [← bl_gtr]
  simp [binOp, Op.stringOp]
end Go.Proofs.YthimblhfjfngiaaGreat

namespace Go.Proofs.YthimblhfjfngiaaGreat.PText
open Go.RowKit Go.Proofs.YthimblhfjfngiaaGreatW.PrintWords Go.Proofs.YthimblhfjfngiaaGreatW.PrintLast Go.Proofs.YthimblhfjfngiaaGreatW.PrintMore
attribute [local go_sem] max2_int min2_int max_two min_two max_three min_three max_four min_four   -- for this text's walks alone
set_option linter.unusedVariables false
set_option linter.unusedSimpArgs false

def cmp_Compare_string.f (a0 : ByteArray) (a1 : ByteArray) : Option (Int) := (cmp_isNaN_string.f a0).bind fun t342 => ((cmp_isNaN_string.f a1).bind fun t343 => (if t342 = true then (if t343 = true then (some 0) else (some (-1))) else (if t343 = true then (some 1) else (if (Op.bytesLess a0.toList a1.toList) = true then (some (-1)) else (if (Op.bytesLess a1.toList a0.toList) = true then (some 1) else (some 0))))))
set_option maxHeartbeats 8000000 in
set_option maxRecDepth 100000 in
theorem cmp_Compare_string.calls (a0 : ByteArray) (a1 : ByteArray) (r : Int) (w : World) (h : cmp_Compare_string.f a0 a1 = some r) :
  Calls Tryz.prog 46 #[.string a0, .string a1] w fun e w' => e = .returned (.int .i64 r) ∧ Drawn0 w w' := by
 have H : ((cmp_isNaN_string.f a0).bind fun t342 => ((cmp_isNaN_string.f a1).bind fun t343 => (if t342 = true then (if t343 = true then (some 0) else (some (-1))) else (if t343 = true then (some 1) else (if (Op.bytesLess a0.toList a1.toList) = true then (some (-1)) else (if (Op.bytesLess a1.toList a0.toList) = true then (some 1) else (some 0))))))) = some r := h
 clear h
 replace H := Option.bind_eq_some_iff.mp H
 obtain ⟨t342, A30, H⟩ := H
 replace H : ((cmp_isNaN_string.f a1).bind fun t343 => (if t342 = true then (if t343 = true then (some 0) else (some (-1))) else (if t343 = true then (some 1) else (if (Op.bytesLess a0.toList a1.toList) = true then (some (-1)) else (if (Op.bytesLess a1.toList a0.toList) = true then (some 1) else (some 0)))))) = some r := H
 have A3 := Aside0.mk A30
 clear A30
 replace H := Option.bind_eq_some_iff.mp H
 obtain ⟨t343, A40, H⟩ := H
 replace H : (if t342 = true then (if t343 = true then (some 0) else (some (-1))) else (if t343 = true then (some 1) else (if (Op.bytesLess a0.toList a1.toList) = true then (some (-1)) else (if (Op.bytesLess a1.toList a0.toList) = true then (some 1) else (some 0))))) = some r := H
 have A4 := Aside0.mk A40
 clear A40
 by_cases c5 : t342 = true
 ·subst c5
  have H1 : (if t343 = true then (some 0) else (some (-1))) = some r := by rw [if_pos rfl] at H; exact H
  clear H
  have H := H1
  clear H1
  by_cases c6 : t343 = true
  ·subst c6
   have H1 : (some 0) = some r := by rw [if_pos rfl] at H; exact H
   clear H
   have H := H1
   clear H1
   obtain rfl := Option.some.inj H
   go_enter Tryz.func46, Tryz.ntmps46
   go_wp2_with (first | ((with_reducible refine gate_callee (f := 68) rfl ?_); refine goesL_ (some 8) rfl rfl Tryz.func68 (by kernel_rfl) rfl #[.string a0] rfl (by (try simp only [List.map_toArray, List.map_cons, List.map_nil]); first | done | rfl | (simp only [List.length_drop, List.length_take]; rfl)) ?_; (with_reducible refine (cmp_isNaN_string.calls a0 true _ A3.out).mono ?_); rintro e w' ⟨rfl, ⟨nd, rfl⟩⟩; refine ⟨_, rfl, ?_⟩) | ((with_reducible refine gate_callee (f := 68) rfl ?_); refine goesL_ (some 10) rfl rfl Tryz.func68 (by kernel_rfl) rfl #[.string a1] rfl (by (try simp only [List.map_toArray, List.map_cons, List.map_nil]); first | done | rfl | (simp only [List.length_drop, List.length_take]; rfl)) ?_; (with_reducible refine (cmp_isNaN_string.calls a1 true _ A4.out).mono ?_); rintro e w' ⟨rfl, ⟨nd, rfl⟩⟩; refine ⟨_, rfl, ?_⟩))
   go_ret
   exact ⟨by first | rfl | (simp; done) | (simp [*]; done), by repeat (first | exact Drawn0.refl _ | apply Drawn0.step)⟩
  ·replace c6 := Bool.eq_false_iff.mpr c6
   subst c6
   have H1 : (some (-1)) = some r := by rw [if_neg (show ¬ (false = true) by decide)] at H; exact H
   clear H
   have H := H1
   clear H1
   obtain rfl := Option.some.inj H
   go_enter Tryz.func46, Tryz.ntmps46
   go_wp2_with (first | ((with_reducible refine gate_callee (f := 68) rfl ?_); refine goesL_ (some 8) rfl rfl Tryz.func68 (by kernel_rfl) rfl #[.string a0] rfl (by (try simp only [List.map_toArray, List.map_cons, List.map_nil]); first | done | rfl | (simp only [List.length_drop, List.length_take]; rfl)) ?_; (with_reducible refine (cmp_isNaN_string.calls a0 true _ A3.out).mono ?_); rintro e w' ⟨rfl, ⟨nd, rfl⟩⟩; refine ⟨_, rfl, ?_⟩) | ((with_reducible refine gate_callee (f := 68) rfl ?_); refine goesL_ (some 10) rfl rfl Tryz.func68 (by kernel_rfl) rfl #[.string a1] rfl (by (try simp only [List.map_toArray, List.map_cons, List.map_nil]); first | done | rfl | (simp only [List.length_drop, List.length_take]; rfl)) ?_; (with_reducible refine (cmp_isNaN_string.calls a1 false _ A4.out).mono ?_); rintro e w' ⟨rfl, ⟨nd, rfl⟩⟩; refine ⟨_, rfl, ?_⟩))
   go_ret
   exact ⟨by first | rfl | (simp; done) | (simp [*]; done), by repeat (first | exact Drawn0.refl _ | apply Drawn0.step)⟩
 ·replace c5 := Bool.eq_false_iff.mpr c5
  subst c5
  have H1 : (if t343 = true then (some 1) else (if (Op.bytesLess a0.toList a1.toList) = true then (some (-1)) else (if (Op.bytesLess a1.toList a0.toList) = true then (some 1) else (some 0)))) = some r := by rw [if_neg (show ¬ (false = true) by decide)] at H; exact H
  clear H
  have H := H1
  clear H1
  by_cases c7 : t343 = true
  ·subst c7
   have H1 : (some 1) = some r := by rw [if_pos rfl] at H; exact H
   clear H
   have H := H1
   clear H1
   obtain rfl := Option.some.inj H
   go_enter Tryz.func46, Tryz.ntmps46
   go_wp2_with (first | ((with_reducible refine gate_callee (f := 68) rfl ?_); refine goesL_ (some 8) rfl rfl Tryz.func68 (by kernel_rfl) rfl #[.string a0] rfl (by (try simp only [List.map_toArray, List.map_cons, List.map_nil]); first | done | rfl | (simp only [List.length_drop, List.length_take]; rfl)) ?_; (with_reducible refine (cmp_isNaN_string.calls a0 false _ A3.out).mono ?_); rintro e w' ⟨rfl, ⟨nd, rfl⟩⟩; refine ⟨_, rfl, ?_⟩) | ((with_reducible refine gate_callee (f := 68) rfl ?_); refine goesL_ (some 10) rfl rfl Tryz.func68 (by kernel_rfl) rfl #[.string a1] rfl (by (try simp only [List.map_toArray, List.map_cons, List.map_nil]); first | done | rfl | (simp only [List.length_drop, List.length_take]; rfl)) ?_; (with_reducible refine (cmp_isNaN_string.calls a1 true _ A4.out).mono ?_); rintro e w' ⟨rfl, ⟨nd, rfl⟩⟩; refine ⟨_, rfl, ?_⟩))
   go_ret
   exact ⟨by first | rfl | (simp; done) | (simp [*]; done), by repeat (first | exact Drawn0.refl _ | apply Drawn0.step)⟩
  ·replace c7 := Bool.eq_false_iff.mpr c7
   subst c7
   have H1 : (if (Op.bytesLess a0.toList a1.toList) = true then (some (-1)) else (if (Op.bytesLess a1.toList a0.toList) = true then (some 1) else (some 0))) = some r := by rw [if_neg (show ¬ (false = true) by decide)] at H; exact H
   clear H
   have H := H1
   clear H1
   by_cases c8 : (Op.bytesLess a0.toList a1.toList) = true
   ·rw [if_pos c8] at H
    have c8b0 : (Op.bytesLess a0.toList a1.toList) = true := c8
    clear c8
    obtain rfl := Option.some.inj H
    go_enter Tryz.func46, Tryz.ntmps46
    go_wp2_with (first | ((with_reducible refine gate_callee (f := 68) rfl ?_); refine goesL_ (some 8) rfl rfl Tryz.func68 (by kernel_rfl) rfl #[.string a0] rfl (by (try simp only [List.map_toArray, List.map_cons, List.map_nil]); first | done | rfl | (simp only [List.length_drop, List.length_take]; rfl)) ?_; (with_reducible refine (cmp_isNaN_string.calls a0 false _ A3.out).mono ?_); rintro e w' ⟨rfl, ⟨nd, rfl⟩⟩; refine ⟨_, rfl, ?_⟩) | ((with_reducible refine gate_callee (f := 68) rfl ?_); refine goesL_ (some 10) rfl rfl Tryz.func68 (by kernel_rfl) rfl #[.string a1] rfl (by (try simp only [List.map_toArray, List.map_cons, List.map_nil]); first | done | rfl | (simp only [List.length_drop, List.length_take]; rfl)) ?_; (with_reducible refine (cmp_isNaN_string.calls a1 false _ A4.out).mono ?_); rintro e w' ⟨rfl, ⟨nd, rfl⟩⟩; refine ⟨_, rfl, ?_⟩))
    go_ret
    exact ⟨by first | rfl | (simp; done) | (simp [*]; done), by repeat (first | exact Drawn0.refl _ | apply Drawn0.step)⟩
   ·rw [if_neg c8] at H
    have c8b0 : (Op.bytesLess a0.toList a1.toList) = false := by simpa using c8
    clear c8
    by_cases c9 : (Op.bytesLess a1.toList a0.toList) = true
    ·rw [if_pos c9] at H
     have c9b0 : (Op.bytesLess a1.toList a0.toList) = true := c9
     have c9g := run_gtr_str Tryz.prog 9 a0 a1
     clear c9
     obtain rfl := Option.some.inj H
     go_enter Tryz.func46, Tryz.ntmps46
     go_wp2_with (first | ((with_reducible refine gate_callee (f := 68) rfl ?_); refine goesL_ (some 8) rfl rfl Tryz.func68 (by kernel_rfl) rfl #[.string a0] rfl (by (try simp only [List.map_toArray, List.map_cons, List.map_nil]); first | done | rfl | (simp only [List.length_drop, List.length_take]; rfl)) ?_; (with_reducible refine (cmp_isNaN_string.calls a0 false _ A3.out).mono ?_); rintro e w' ⟨rfl, ⟨nd, rfl⟩⟩; refine ⟨_, rfl, ?_⟩) | ((with_reducible refine gate_callee (f := 68) rfl ?_); refine goesL_ (some 10) rfl rfl Tryz.func68 (by kernel_rfl) rfl #[.string a1] rfl (by (try simp only [List.map_toArray, List.map_cons, List.map_nil]); first | done | rfl | (simp only [List.length_drop, List.length_take]; rfl)) ?_; (with_reducible refine (cmp_isNaN_string.calls a1 false _ A4.out).mono ?_); rintro e w' ⟨rfl, ⟨nd, rfl⟩⟩; refine ⟨_, rfl, ?_⟩))
     go_ret
     exact ⟨by first | rfl | (simp; done) | (simp [*]; done), by repeat (first | exact Drawn0.refl _ | apply Drawn0.step)⟩
    ·rw [if_neg c9] at H
     have c9b0 : (Op.bytesLess a1.toList a0.toList) = false := by simpa using c9
     have c9g := run_gtr_str Tryz.prog 9 a0 a1
     clear c9
     obtain rfl := Option.some.inj H
     go_enter Tryz.func46, Tryz.ntmps46
     go_wp2_with (first | ((with_reducible refine gate_callee (f := 68) rfl ?_); refine goesL_ (some 8) rfl rfl Tryz.func68 (by kernel_rfl) rfl #[.string a0] rfl (by (try simp only [List.map_toArray, List.map_cons, List.map_nil]); first | done | rfl | (simp only [List.length_drop, List.length_take]; rfl)) ?_; (with_reducible refine (cmp_isNaN_string.calls a0 false _ A3.out).mono ?_); rintro e w' ⟨rfl, ⟨nd, rfl⟩⟩; refine ⟨_, rfl, ?_⟩) | ((with_reducible refine gate_callee (f := 68) rfl ?_); refine goesL_ (some 10) rfl rfl Tryz.func68 (by kernel_rfl) rfl #[.string a1] rfl (by (try simp only [List.map_toArray, List.map_cons, List.map_nil]); first | done | rfl | (simp only [List.length_drop, List.length_take]; rfl)) ?_; (with_reducible refine (cmp_isNaN_string.calls a1 false _ A4.out).mono ?_); rintro e w' ⟨rfl, ⟨nd, rfl⟩⟩; refine ⟨_, rfl, ?_⟩))
     go_ret
     exact ⟨by first | rfl | (simp; done) | (simp [*]; done), by repeat (first | exact Drawn0.refl _ | apply Drawn0.step)⟩

end Go.Proofs.YthimblhfjfngiaaGreat.PText

-- mended25

namespace Go.Proofs.YthimblhfjfngiaaGreat.PText
open Go.RowKit Go.Proofs.YthimblhfjfngiaaGreatW.PrintWords Go.Proofs.YthimblhfjfngiaaGreatW.PrintLast Go.Proofs.YthimblhfjfngiaaGreatW.PrintMore
attribute [local go_sem] max2_int min2_int max_two min_two max_three min_three max_four min_four   -- for this text's walks alone
set_option linter.unusedVariables false
set_option linter.unusedSimpArgs false

def text_order.f (k : Nat) (a0_0 : Int) (a0_1 : Int) (a0_2 : ByteArray) (a1_0 : Int) (a1_1 : Int) (a1_2 : ByteArray) : Option (Int) := (cmp_Compare_int.f a0_0 a1_0).bind fun t349 => ((cmp_Compare_int.f a0_1 a1_1).bind fun t350 => ((cmp_Compare_string.f a0_2 a1_2).bind fun t351 => ((cmp_Or_int.f k (([t349, t350, t351] : List Int))).bind fun t355 => (some t355))))
def text_order.T1 : Bool × List (List Nat × List Nat) := (true, [([], []), ([0], [0]), ([], []), ([2], [2]), ([1, 3], [1, 3]), ([], []), ([5], [5]), ([], []), ([7], [7]), ([6, 8, 4], [6, 8]), ([], []), ([10], [10]), ([], []), ([12], [12]), ([11, 13, 9], [11, 13]), ([4, 9, 14], [4, 9, 14]), ([15, 14], [15]), ([16, 16, 0, 1, 2, 3, 4, 5, 6, 7, 8, 9, 10, 11, 12, 13, 14, 15, 16], [16])])
def text_order.B1 : List Nat := [0, 1, 0, 4, 15, 0, 32, 0, 128, 511, 0, 1024, 0, 4096, 16383, 32767, 65535, 131071]
theorem text_order.tab1 : rtab .any (opsOf Tryz.f108 1) = text_order.T1 := by kernel_rfl
theorem text_order.bits1 : waitsOk text_order.T1.2 text_order.B1 = true := by kernel_rfl
end Go.Proofs.YthimblhfjfngiaaGreat.PText

