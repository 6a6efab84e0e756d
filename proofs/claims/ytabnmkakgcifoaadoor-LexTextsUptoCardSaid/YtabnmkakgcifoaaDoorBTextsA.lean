/- LexTexts holds of every list of tokens and every number that together are of bulk at most 1,048,576 (the second form), where the two listed package variables hold what the program's text lays. Part 1 of 5. -/
import Derived.Test.YtabnmkakgcifoaaDoorBLexK
namespace Go.Proofs.YtabnmkakgcifoaaDoor.PLex
open Go.RowKit Go.Proofs.YtabnmkakgcifoaaDoorW.PrintWords Go.Proofs.YtabnmkakgcifoaaDoorW.PrintLast Go.Proofs.YtabnmkakgcifoaaDoorW.PrintMore
attribute [local go_sem] max2_int min2_int max_two min_two max_three min_three max_four min_four   -- for this text's walks alone
set_option linter.unusedVariables false
set_option linter.unusedSimpArgs false

def rf0_EqStrings.l0 : Nat → List ByteArray → List ByteArray → Int → Option (Bool)
 | 0, _, _, _ => none
 | k + 1, x0, x1, x5 => if x5 < (x0.length : Int) then (if 0 ≤ x5 then (if x5 < (x1.length : Int) then (if (rdOf ByteArray.empty x0 x5).toList = (rdOf ByteArray.empty x1 x5).toList then (rf0_EqStrings.l0 k x0 x1 (wrap64 (x5 + 1))) else (some false)) else (none)) else (none)) else (some true)
def rf0_EqStrings.f (k : Nat) (l0 : List ByteArray) (l1 : List ByteArray) : Option (Bool) := if (l0.length : Int) = (l1.length : Int) then (rf0_EqStrings.l0 k l0 l1 0) else (some false)
set_option maxHeartbeats 8000000 in
set_option maxRecDepth 100000 in
theorem rf0_EqStrings.calls (k : Nat) (A0 : Option Addr) (c0 : Nat) (l0 : List ByteArray) (A1 : Option Addr) (c1 : Nat) (l1 : List ByteArray) (r : Bool) (w : World) (hr0 : Kd.C Kd.string w A0 l0.length l0) (hc0 : l0.length ≤ c0) (hr1 : Kd.C Kd.string w A1 l1.length l1) (hc1 : l1.length ≤ c1) (h : rf0_EqStrings.f k l0 l1 = some r) :
  Calls Tryd.prog 15 #[.slice A0 l0.length c0, .slice A1 l1.length c1] w fun e w' => e = .returned (.bool r) ∧ Drawn0 w w' := by
 have HR0 := Aside0.mk hr0
 have HC0 := Aside0.mk hc0
 clear hr0 hc0
 have HR1 := Aside0.mk hr1
 have HC1 := Aside0.mk hc1
 clear hr1 hc1
 have H : (if (l0.length : Int) = (l1.length : Int) then (rf0_EqStrings.l0 k l0 l1 0) else (some false)) = some r := h
 clear h
 by_cases c3 : (l0.length : Int) = (l1.length : Int)
 ·rw [if_pos c3] at H
  have c3b0 : ((l0.length : Int) == (l1.length : Int)) = true := beq_iff_eq.mpr c3
  have c3b1 : ((l0.length : Int) != (l1.length : Int)) = false := bne_eq_false_iff_eq.mpr c3
  have c3b2 : (l0.length == l1.length) = true := by first | simpa using c3 | (simp at c3 ⊢; omega)
  clear c3
  have H' := Aside0.mk H
  clear H
  go_enter Tryd.func15, Tryd.ntmps15
  go_wp2
  repeat (go_quiet (fail); try go_wp2)
  try simp only [Act.put, List.setIfInBounds_toArray, List.set_cons_succ, List.set_cons_zero]
  go_loopg [5] k (fun kq v5 w' => ∃ (x5_1 : Int), v5 = .int .i64 x5_1 ∧ Aside0 (rf0_EqStrings.l0 kq l0 l1 x5_1 = some r) ∧ Aside0 (kq ≤ k) ∧ Drawn0 w w')
  case atStart => exact ⟨(0), (by first | rfl | (simp; done) | (simp [*]; done)), H', ⟨Nat.le_refl _⟩, by repeat (first | exact Drawn0.refl _ | apply Drawn0.step)⟩
  case round =>
   clear H'
   try clear c1
   try clear p2
   try clear c3
   try clear c3b0
   try clear c3b1
   try clear c3b2
   obtain ⟨x5_1, rfl, HA, HK1, ⟨m1, rfl⟩⟩ := hrel
   cases gk with
   | zero => exact absurd HA.out (by simp [rf0_EqStrings.l0])
   | succ k1 =>
    have H := HA.out
    clear HA
    simp only [rf0_EqStrings.l0] at H
    by_cases c4 : x5_1 < (l0.length : Int)
    ·rw [if_pos c4] at H
     have c4b0 : decide (x5_1 < (l0.length : Int)) = true := decide_eq_true c4
     clear c4
     by_cases c5 : 0 ≤ x5_1
     ·rw [if_pos c5] at H
      have c5b0 : decide (0 ≤ x5_1) = true := decide_eq_true c5
      clear c5
      by_cases c6 : x5_1 < (l1.length : Int)
      ·rw [if_pos c6] at H
       have c6b0 : decide (x5_1 < (l1.length : Int)) = true := decide_eq_true c6
       clear c6
       by_cases c7 : (rdOf ByteArray.empty l0 x5_1).toList = (rdOf ByteArray.empty l1 x5_1).toList
       ·rw [if_pos c7] at H
        have c7b0 : ((rdOf ByteArray.empty l0 x5_1).toList == (rdOf ByteArray.empty l1 x5_1).toList) = true := beq_iff_eq.mpr c7
        have c7b1 : ((rdOf ByteArray.empty l0 x5_1).toList != (rdOf ByteArray.empty l1 x5_1).toList) = false := bne_eq_false_iff_eq.mpr c7
        clear c7
        have H' := Aside0.mk H
        clear H
        have p257 : 0 ≤ (x5_1 : Int) := of_decide_eq_true (by first | (with_reducible assumption) | assumption)
        have q257 : x5_1 < (l0.length : Int) := of_decide_eq_true (by first | (with_reducible assumption) | assumption)
        obtain ⟨ad257, e257, hx257_0⟩ := Kd.at_string HR0.out x5_1 p257 q257
        cases e257
        replace p257 := eq_true p257
        replace q257 := eq_true q257
        have p258 : 0 ≤ (x5_1 : Int) := of_decide_eq_true (by first | (with_reducible assumption) | assumption)
        have q258 : x5_1 < (l1.length : Int) := of_decide_eq_true (by first | (with_reducible assumption) | assumption)
        obtain ⟨ad258, e258, hx258_0⟩ := Kd.at_string HR1.out x5_1 p258 q258
        cases e258
        replace p258 := eq_true p258
        replace q258 := eq_true q258
        go_wp2
        repeat (go_quiet (fail); try go_wp2)
        go_roundg k1
        case measure => have := HK1.out; omega
        case rel => exact ⟨(wrap64 (x5_1 + 1)), (by first | rfl | (simp; done) | (simp [*]; done)), H', ⟨by have := HK1.out; omega⟩, by repeat (first | exact Drawn0.refl _ | apply Drawn0.step)⟩
       ·rw [if_neg c7] at H
        have c7b0 : ((rdOf ByteArray.empty l0 x5_1).toList == (rdOf ByteArray.empty l1 x5_1).toList) = false := beq_eq_false_iff_ne.mpr c7
        have c7b1 : ((rdOf ByteArray.empty l0 x5_1).toList != (rdOf ByteArray.empty l1 x5_1).toList) = true := bne_iff_ne.mpr c7
        obtain rfl := Option.some.inj H
        have p257 : 0 ≤ (x5_1 : Int) := of_decide_eq_true (by first | (with_reducible assumption) | assumption)
        have q257 : x5_1 < (l0.length : Int) := of_decide_eq_true (by first | (with_reducible assumption) | assumption)
        obtain ⟨ad257, e257, hx257_0⟩ := Kd.at_string HR0.out x5_1 p257 q257
        cases e257
        replace p257 := eq_true p257
        replace q257 := eq_true q257
        have p258 : 0 ≤ (x5_1 : Int) := of_decide_eq_true (by first | (with_reducible assumption) | assumption)
        have q258 : x5_1 < (l1.length : Int) := of_decide_eq_true (by first | (with_reducible assumption) | assumption)
        obtain ⟨ad258, e258, hx258_0⟩ := Kd.at_string HR1.out x5_1 p258 q258
        cases e258
        replace p258 := eq_true p258
        replace q258 := eq_true q258
        go_wp2
        repeat (go_quiet (fail); try go_wp2)
        go_ret
        exact ⟨by first | rfl | (simp; done) | (simp [*]; done), by repeat (first | exact Drawn0.refl _ | apply Drawn0.step)⟩
      ·rw [if_neg c6] at H
       exact absurd H (by simp)
     ·rw [if_neg c5] at H
      exact absurd H (by simp)
    ·rw [if_neg c4] at H
     have c4b0 : decide (x5_1 < (l0.length : Int)) = false := decide_eq_false c4
     clear c4
     obtain rfl := Option.some.inj H
     go_wp2
     repeat (go_quiet (fail); try go_wp2)
     go_ret
     exact ⟨by first | rfl | (simp; done) | (simp [*]; done), by repeat (first | exact Drawn0.refl _ | apply Drawn0.step)⟩
 ·rw [if_neg c3] at H
  have c3b0 : ((l0.length : Int) == (l1.length : Int)) = false := beq_eq_false_iff_ne.mpr c3
  have c3b1 : ((l0.length : Int) != (l1.length : Int)) = true := bne_iff_ne.mpr c3
  have c3b2 : (l0.length == l1.length) = false := by first | simpa using c3 | (simp at c3 ⊢; omega)
  obtain rfl := Option.some.inj H
  go_enter Tryd.func15, Tryd.ntmps15
  go_wp2
  repeat (go_quiet (fail); try go_wp2)
  go_ret
  exact ⟨by first | rfl | (simp; done) | (simp [*]; done), by repeat (first | exact Drawn0.refl _ | apply Drawn0.step)⟩

end Go.Proofs.YtabnmkakgcifoaaDoor.PLex

namespace Go.Proofs.YtabnmkakgcifoaaDoor.PLex
open Go.RowKit Go.Proofs.YtabnmkakgcifoaaDoorW.PrintWords Go.Proofs.YtabnmkakgcifoaaDoorW.PrintLast Go.Proofs.YtabnmkakgcifoaaDoorW.PrintMore
attribute [local go_sem] max2_int min2_int max_two min_two max_three min_three max_four min_four   -- for this text's walks alone
set_option linter.unusedVariables false
set_option linter.unusedSimpArgs false

def lex_Strip.l0 : Nat → List ByteArray → List (S30) → Int → Int → Option (List ByteArray)
 | 0, _, _, _, _ => none
 | k + 1, x3, x6, x7, x8 => if x8 < x7 then (if 0 ≤ x8 then (if x8 < (x6.length : Int) then (if ((rd_T30 x6 x8).f0) = 7 then (lex_Strip.l0 k x3 x6 x7 (wrap64 (x8 + 1))) else (if ((rd_T30 x6 x8).f0) = 0 then (lex_Strip.l0 k x3 x6 x7 (wrap64 (x8 + 1))) else (if x3.length < 8796093022208 then (lex_Strip.l0 k (x3 ++ [(rd_T30 x6 x8).f2]) x6 x7 (wrap64 (x8 + 1))) else (none)))) else (none)) else (none)) else (some x3)
def lex_Strip.f (k : Nat) (l0 : List (S30)) : Option (List ByteArray) := lex_Strip.l0 k ([] : List ByteArray) l0 (l0.length : Int) 0
set_option maxHeartbeats 8000000 in
set_option maxRecDepth 100000 in
theorem lex_Strip.calls (k : Nat) (A0 : Option Addr) (c0 : Nat) (l0 : List (S30)) (r : List ByteArray) (w : World) (hr0 : Kd.C k30 w A0 l0.length l0) (hc0 : l0.length ≤ c0) (h : lex_Strip.f k l0 = some r) :
  Calls Tryd.prog 16 #[.slice A0 l0.length c0] w fun e w' => ∃ v0_ : Value, e = .returned (v0_) ∧ Kd.R Kd.string 9 w' w.heap.size (fun _ => True) v0_ r ∧ Below w.heap.size w w' := by
 have hu30 := Tryd.underlying30
 have HR0 := Aside0.mk hr0
 have HC0 := Aside0.mk hc0
 clear hr0 hc0
 have HB := Aside0.mk (Below.refl w.heap.size w)
 have H : (lex_Strip.l0 k ([] : List ByteArray) l0 (l0.length : Int) 0) = some r := h
 clear h
 have H' := Aside0.mk H
 clear H
 go_enter Tryd.func16, Tryd.ntmps16
 go_wp2
 try simp only [Act.put, List.setIfInBounds_toArray, List.set_cons_succ, List.set_cons_zero]
 go_loopg [3, 8] k (fun kq v3 v8 w' => ∃ (x3_1 : List ByteArray) (x8_1 : Int), v8 = .int .i64 x8_1 ∧ Aside0 (lex_Strip.l0 kq x3_1 l0 (l0.length : Int) x8_1 = some r) ∧ Aside0 (kq ≤ k) ∧ Aside0 (Kd.R Kd.string 9 w' w.heap.size (fun _ => True) v3 x3_1) ∧ Aside0 (Below w.heap.size w w'))
 case atStart => exact ⟨(([] : List ByteArray)), (0), (by first | rfl | (simp; done) | (simp [*]; done)), H', ⟨Nat.le_refl _⟩, ⟨by first | exact Kd.R_nil _ _ _ _ _ | exact Kd.N_nil _ _ _ _ _ | exact Kd.V_nil _ _ _ _ _ | exact Kd.Q_nil _ _ _ _ _ | exact Kd.S_nil _ _ _ _ _⟩, ⟨by repeat (first | (with_reducible first | exact HB.out | apply below_alloc | apply pw_below_drewN | apply below_drew1) | exact HB.out)⟩⟩
 case round =>
  clear H'
  try clear c1
  obtain ⟨x3_1, x8_1, rfl, HA, HK1, HO_3, HB⟩ := hrel
  cases gk with
  | zero => exact absurd HA.out (by simp [lex_Strip.l0])
  | succ k1 =>
   have H := HA.out
   clear HA
   simp only [lex_Strip.l0] at H
   by_cases c2 : x8_1 < (l0.length : Int)
   ·rw [if_pos c2] at H
    have c2b0 : decide (x8_1 < (l0.length : Int)) = true := decide_eq_true c2
    clear c2
    by_cases c3 : 0 ≤ x8_1
    ·rw [if_pos c3] at H
     have c3b0 : decide (0 ≤ x8_1) = true := decide_eq_true c3
     clear c3
     by_cases c4 : x8_1 < (l0.length : Int)
     ·rw [if_pos c4] at H
      have c4b0 : decide (x8_1 < (l0.length : Int)) = true := decide_eq_true c4
      clear c4
      by_cases c5 : ((rd_T30 l0 x8_1).f0) = 7
      ·rw [if_pos c5] at H
       have c5b0 : (((rd_T30 l0 x8_1).f0) == 7) = true := beq_iff_eq.mpr c5
       have c5b1 : (((rd_T30 l0 x8_1).f0) != 7) = false := bne_eq_false_iff_eq.mpr c5
       clear c5
       have H' := Aside0.mk H
       clear H
       have p259 : 0 ≤ (x8_1 : Int) := of_decide_eq_true (by first | (with_reducible assumption) | assumption)
       have q259 : x8_1 < (l0.length : Int) := of_decide_eq_true (by first | (with_reducible assumption) | assumption)
       obtain ⟨ad259, e259, hx259_0, hx259_1, hx259_2, hx259_3⟩ := at_T30 HR0.out x8_1 p259 q259
       cases e259
       replace hx259_0 := (HB.out.cell (World.block_lt_of_cell? w _ hx259_0)).trans hx259_0
       replace hx259_1 := (HB.out.cell (World.block_lt_of_cell? w _ hx259_1)).trans hx259_1
       replace hx259_2 := (HB.out.cell (World.block_lt_of_cell? w _ hx259_2)).trans hx259_2
       replace hx259_3 := (HB.out.cell (World.block_lt_of_cell? w _ hx259_3)).trans hx259_3
       replace p259 := eq_true p259
       replace q259 := eq_true q259
       go_wp2_with (first | ((with_reducible refine gate_dst (N := 5) rfl ?_); refine box_event ?hg (N := 5) ?hd (cs := #[.int .i64 0, .string (⟨#[]⟩ : ByteArray), .string (⟨#[]⟩ : ByteArray), .int .i64 0]) (t := 30) ?hr ?_; (case hd => rfl); (case hg => rfl); (case hr => first | (go_simp; done) | (go_simp; rfl)); intro gb260 hg w6 hbox hb; have n0_ := Aside0.mk (Kd.R_below (by (with_reducible repeat (first | apply Kd.R_alloc | apply Kd.R_drewN | apply Kd.R_drew)); exact HO_3.out) hb); have n1_ := Aside0.mk (below_step (by repeat (first | (with_reducible first | exact HB.out | apply below_alloc | apply pw_below_drewN | apply below_drew1) | exact HB.out)) hb); have n2_ := Aside0.mk (hbox); have n3_ := Aside0.mk ((by rw [hg]; exact (below_size (by repeat (first | (with_reducible first | exact HB.out | apply below_alloc | apply pw_below_drewN | apply below_drew1) | exact HB.out))) : w.heap.size ≤ gb260)); have n4_ := Aside0.mk ((by rw [hg]; exact (below_size (by repeat (first | (with_reducible first | exact HB.out | apply below_alloc | apply pw_below_drewN | apply below_drew1) | exact HB.out))) : w.heap.size ≤ gb260)); clear HO_3; clear HB; have HO_3 := n0_; have HB := n1_; have BK260 := n2_; have GW260 := n3_; have GE260 := n4_; clear n0_ n1_ n2_ n3_ n4_; clear hb hbox hg; have hcz7_0 : w6.cell? ⟨gb260, 0, none⟩ = some (.int .i64 0) := (blk_cell BK260.out 0).trans rfl; have hcz7_1 : w6.cell? ⟨gb260, 1, none⟩ = some (.string (⟨#[]⟩ : ByteArray)) := (blk_cell BK260.out 1).trans rfl; have hcz7_2 : w6.cell? ⟨gb260, 2, none⟩ = some (.string (⟨#[]⟩ : ByteArray)) := (blk_cell BK260.out 2).trans rfl; have hcz7_3 : w6.cell? ⟨gb260, 3, none⟩ = some (.int .i64 0) := (blk_cell BK260.out 3).trans rfl; have hfz7_0 := blk_frozen BK260.out 0; have hfz7_1 := blk_frozen BK260.out 1; have hfz7_2 := blk_frozen BK260.out 2; have hfz7_3 := blk_frozen BK260.out 3))
       go_roundg k1
       case measure => have := HK1.out; omega
       case rel => exact ⟨(x3_1), (wrap64 (x8_1 + 1)), (by first | rfl | (simp; done) | (simp [*]; done)), H', ⟨by have := HK1.out; omega⟩, ⟨by (with_reducible repeat (first | apply Kd.R_alloc | apply Kd.R_drewN | apply Kd.R_drew)); exact Kd.R_mono (Kd.R_far (p := ⟨gb260, 3, none⟩) (Kd.R_far (p := ⟨gb260, 2, none⟩) (Kd.R_far (p := ⟨gb260, 1, none⟩) (Kd.R_far (p := ⟨gb260, 0, none⟩) (Kd.R_types HO_3.out BK260.out (by decide)) (fun _ hk => hk.2) (.int .i64 ((rd_T30 l0 x8_1).f0))) (fun _ hk => hk.2) (.string ((rd_T30 l0 x8_1).f1))) (fun _ hk => hk.2) (.string ((rd_T30 l0 x8_1).f2))) (fun _ hk => hk.2) (.int .i64 ((rd_T30 l0 x8_1).f3))) (fun _ hk => trivial)⟩, ⟨by repeat (first | (with_reducible first | exact HB.out | apply below_alloc | apply pw_below_drewN | apply below_drew1 | refine below_set ?_ GE260.out) | exact HB.out)⟩⟩
      ·rw [if_neg c5] at H
       have c5b0 : (((rd_T30 l0 x8_1).f0) == 7) = false := beq_eq_false_iff_ne.mpr c5
       have c5b1 : (((rd_T30 l0 x8_1).f0) != 7) = true := bne_iff_ne.mpr c5
       by_cases c8 : ((rd_T30 l0 x8_1).f0) = 0
       ·rw [if_pos c8] at H
        have c8b0 : (((rd_T30 l0 x8_1).f0) == 0) = true := beq_iff_eq.mpr c8
        have c8b1 : (((rd_T30 l0 x8_1).f0) != 0) = false := bne_eq_false_iff_eq.mpr c8
        clear c8
        have H' := Aside0.mk H
        clear H
        have p259 : 0 ≤ (x8_1 : Int) := of_decide_eq_true (by first | (with_reducible assumption) | assumption)
        have q259 : x8_1 < (l0.length : Int) := of_decide_eq_true (by first | (with_reducible assumption) | assumption)
        obtain ⟨ad259, e259, hx259_0, hx259_1, hx259_2, hx259_3⟩ := at_T30 HR0.out x8_1 p259 q259
        cases e259
        replace hx259_0 := (HB.out.cell (World.block_lt_of_cell? w _ hx259_0)).trans hx259_0
        replace hx259_1 := (HB.out.cell (World.block_lt_of_cell? w _ hx259_1)).trans hx259_1
        replace hx259_2 := (HB.out.cell (World.block_lt_of_cell? w _ hx259_2)).trans hx259_2
        replace hx259_3 := (HB.out.cell (World.block_lt_of_cell? w _ hx259_3)).trans hx259_3
        replace p259 := eq_true p259
        replace q259 := eq_true q259
        go_wp2_with (first | ((with_reducible refine gate_dst (N := 5) rfl ?_); refine box_event ?hg (N := 5) ?hd (cs := #[.int .i64 0, .string (⟨#[]⟩ : ByteArray), .string (⟨#[]⟩ : ByteArray), .int .i64 0]) (t := 30) ?hr ?_; (case hd => rfl); (case hg => rfl); (case hr => first | (go_simp; done) | (go_simp; rfl)); intro gb260 hg w9 hbox hb; have n0_ := Aside0.mk (Kd.R_below (by (with_reducible repeat (first | apply Kd.R_alloc | apply Kd.R_drewN | apply Kd.R_drew)); exact HO_3.out) hb); have n1_ := Aside0.mk (below_step (by repeat (first | (with_reducible first | exact HB.out | apply below_alloc | apply pw_below_drewN | apply below_drew1) | exact HB.out)) hb); have n2_ := Aside0.mk (hbox); have n3_ := Aside0.mk ((by rw [hg]; exact (below_size (by repeat (first | (with_reducible first | exact HB.out | apply below_alloc | apply pw_below_drewN | apply below_drew1) | exact HB.out))) : w.heap.size ≤ gb260)); have n4_ := Aside0.mk ((by rw [hg]; exact (below_size (by repeat (first | (with_reducible first | exact HB.out | apply below_alloc | apply pw_below_drewN | apply below_drew1) | exact HB.out))) : w.heap.size ≤ gb260)); clear HO_3; clear HB; have HO_3 := n0_; have HB := n1_; have BK260 := n2_; have GW260 := n3_; have GE260 := n4_; clear n0_ n1_ n2_ n3_ n4_; clear hb hbox hg; have hcz10_0 : w9.cell? ⟨gb260, 0, none⟩ = some (.int .i64 0) := (blk_cell BK260.out 0).trans rfl; have hcz10_1 : w9.cell? ⟨gb260, 1, none⟩ = some (.string (⟨#[]⟩ : ByteArray)) := (blk_cell BK260.out 1).trans rfl; have hcz10_2 : w9.cell? ⟨gb260, 2, none⟩ = some (.string (⟨#[]⟩ : ByteArray)) := (blk_cell BK260.out 2).trans rfl; have hcz10_3 : w9.cell? ⟨gb260, 3, none⟩ = some (.int .i64 0) := (blk_cell BK260.out 3).trans rfl; have hfz10_0 := blk_frozen BK260.out 0; have hfz10_1 := blk_frozen BK260.out 1; have hfz10_2 := blk_frozen BK260.out 2; have hfz10_3 := blk_frozen BK260.out 3))
        go_roundg k1
        case measure => have := HK1.out; omega
        case rel => exact ⟨(x3_1), (wrap64 (x8_1 + 1)), (by first | rfl | (simp; done) | (simp [*]; done)), H', ⟨by have := HK1.out; omega⟩, ⟨by (with_reducible repeat (first | apply Kd.R_alloc | apply Kd.R_drewN | apply Kd.R_drew)); exact Kd.R_mono (Kd.R_far (p := ⟨gb260, 3, none⟩) (Kd.R_far (p := ⟨gb260, 2, none⟩) (Kd.R_far (p := ⟨gb260, 1, none⟩) (Kd.R_far (p := ⟨gb260, 0, none⟩) (Kd.R_types HO_3.out BK260.out (by decide)) (fun _ hk => hk.2) (.int .i64 ((rd_T30 l0 x8_1).f0))) (fun _ hk => hk.2) (.string ((rd_T30 l0 x8_1).f1))) (fun _ hk => hk.2) (.string ((rd_T30 l0 x8_1).f2))) (fun _ hk => hk.2) (.int .i64 ((rd_T30 l0 x8_1).f3))) (fun _ hk => trivial)⟩, ⟨by repeat (first | (with_reducible first | exact HB.out | apply below_alloc | apply pw_below_drewN | apply below_drew1 | refine below_set ?_ GE260.out) | exact HB.out)⟩⟩
       ·rw [if_neg c8] at H
        have c8b0 : (((rd_T30 l0 x8_1).f0) == 0) = false := beq_eq_false_iff_ne.mpr c8
        have c8b1 : (((rd_T30 l0 x8_1).f0) != 0) = true := bne_iff_ne.mpr c8
        by_cases c11 : x3_1.length < 8796093022208
        ·rw [if_pos c11] at H
         have LMc11 := Aside0.mk c11
         clear c11
         obtain ⟨y261, hy261⟩ : ∃ y_ : List ByteArray, y_ = (x3_1 ++ [(rd_T30 l0 x8_1).f2]) := ⟨_, rfl⟩
         replace H : (lex_Strip.l0 k1 y261 l0 (l0.length : Int) (wrap64 (x8_1 + 1))) = some r := by first | (rw [hy261]; with_reducible exact H) | (have H2_ := (Option.bind_some _ _).symm.trans H; rw [hy261]; with_reducible exact H2_) | (have H2_ := (Option.bind_some _ _).symm.trans H; with_reducible exact H2_) | with_reducible exact H | (rw [hy261]; exact H) | exact H
         have Ny261 := Aside0.mk hy261
         clear hy261
         have H' := Aside0.mk H
         clear H
         have p259 : 0 ≤ (x8_1 : Int) := of_decide_eq_true (by first | (with_reducible assumption) | assumption)
         have q259 : x8_1 < (l0.length : Int) := of_decide_eq_true (by first | (with_reducible assumption) | assumption)
         obtain ⟨ad259, e259, hx259_0, hx259_1, hx259_2, hx259_3⟩ := at_T30 HR0.out x8_1 p259 q259
         cases e259
         replace hx259_0 := (HB.out.cell (World.block_lt_of_cell? w _ hx259_0)).trans hx259_0
         replace hx259_1 := (HB.out.cell (World.block_lt_of_cell? w _ hx259_1)).trans hx259_1
         replace hx259_2 := (HB.out.cell (World.block_lt_of_cell? w _ hx259_2)).trans hx259_2
         replace hx259_3 := (HB.out.cell (World.block_lt_of_cell? w _ hx259_3)).trans hx259_3
         replace p259 := eq_true p259
         replace q259 := eq_true q259
         go_wp2_with (first | ((with_reducible refine gate_dst (N := 5) rfl ?_); refine box_event ?hg (N := 5) ?hd (cs := #[.int .i64 0, .string (⟨#[]⟩ : ByteArray), .string (⟨#[]⟩ : ByteArray), .int .i64 0]) (t := 30) ?hr ?_; (case hd => rfl); (case hg => rfl); (case hr => first | (go_simp; done) | (go_simp; rfl)); intro gb260 hg w12 hbox hb; have n0_ := Aside0.mk (Kd.R_below (by (with_reducible repeat (first | apply Kd.R_alloc | apply Kd.R_drewN | apply Kd.R_drew)); exact HO_3.out) hb); have n1_ := Aside0.mk (below_step (by repeat (first | (with_reducible first | exact HB.out | apply below_alloc | apply pw_below_drewN | apply below_drew1) | exact HB.out)) hb); have n2_ := Aside0.mk (hbox); have n3_ := Aside0.mk ((by rw [hg]; exact (below_size (by repeat (first | (with_reducible first | exact HB.out | apply below_alloc | apply pw_below_drewN | apply below_drew1) | exact HB.out))) : w.heap.size ≤ gb260)); have n4_ := Aside0.mk ((by rw [hg]; exact (below_size (by repeat (first | (with_reducible first | exact HB.out | apply below_alloc | apply pw_below_drewN | apply below_drew1) | exact HB.out))) : w.heap.size ≤ gb260)); clear HO_3; clear HB; have HO_3 := n0_; have HB := n1_; have BK260 := n2_; have GW260 := n3_; have GE260 := n4_; clear n0_ n1_ n2_ n3_ n4_; clear hb hbox hg; have hcz13_0 : w12.cell? ⟨gb260, 0, none⟩ = some (.int .i64 0) := (blk_cell BK260.out 0).trans rfl; have hcz13_1 : w12.cell? ⟨gb260, 1, none⟩ = some (.string (⟨#[]⟩ : ByteArray)) := (blk_cell BK260.out 1).trans rfl; have hcz13_2 : w12.cell? ⟨gb260, 2, none⟩ = some (.string (⟨#[]⟩ : ByteArray)) := (blk_cell BK260.out 2).trans rfl; have hcz13_3 : w12.cell? ⟨gb260, 3, none⟩ = some (.int .i64 0) := (blk_cell BK260.out 3).trans rfl; have hfz13_0 := blk_frozen BK260.out 0; have hfz13_1 := blk_frozen BK260.out 1; have hfz13_2 := blk_frozen BK260.out 2; have hfz13_3 := blk_frozen BK260.out 3) | ((with_reducible refine gate_builtin (b := .append) (xs := #[.tmp 20, .tmp 23]) rfl ?_); at_builtin; refine Kd.R_append Kd.string (w0 := w) w.heap.size rfl (.tmp 20) (.tmp 23) 35 9 (.string ⟨#[]⟩) 16 rfl Tryd.underlying35 info9 rfl (by decide) (by omega) u3 x3_1 ((rd_T30 l0 x8_1).f2) [.string ((rd_T30 l0 x8_1).f2)] (fun _ => True) (fun _ => False) rfl (by first | (go_simp; done) | (go_simp; rfl)) ?aP (fun _ hk => hk.elim) ?aF ?aO ?aB ?aS ?aL ?_; (case aP => exact rfl); (case aB => exact (by repeat (first | (with_reducible first | exact HB.out | apply below_alloc | apply pw_below_drewN | apply below_drew1 | refine below_set ?_ GE260.out) | exact HB.out))); (case aF => exact (fun _ _ => trivial)); (case aO => exact (by (with_reducible repeat (first | apply Kd.R_alloc | apply Kd.R_drewN | apply Kd.R_drew)); exact Kd.R_mono (Kd.R_far (p := ⟨gb260, 3, none⟩) (Kd.R_far (p := ⟨gb260, 2, none⟩) (Kd.R_far (p := ⟨gb260, 1, none⟩) (Kd.R_far (p := ⟨gb260, 0, none⟩) (Kd.R_types HO_3.out BK260.out (by decide)) (fun _ hk => hk.2) (.int .i64 ((rd_T30 l0 x8_1).f0))) (fun _ hk => hk.2) (.string ((rd_T30 l0 x8_1).f1))) (fun _ hk => hk.2) (.string ((rd_T30 l0 x8_1).f2))) (fun _ hk => hk.2) (.int .i64 ((rd_T30 l0 x8_1).f3))) (fun _ hk => trivial))); (case aS => exact (below_size (by repeat (first | (with_reducible first | exact HB.out | apply below_alloc | apply pw_below_drewN | apply below_drew1 | refine below_set ?_ GE260.out) | exact HB.out)))); (case aL => have := LMc11.out; omega); intro v262 w14 ho hb hg hat; rw [← Ny261.out] at ho; have n0_ := Aside0.mk (blk_grown (g := gb260) (o := .cells #[.int .i64 ((rd_T30 l0 x8_1).f0), .string ((rd_T30 l0 x8_1).f1), .string ((rd_T30 l0 x8_1).f2), .int .i64 ((rd_T30 l0 x8_1).f3)] 30 (0, 0)) (by (with_reducible repeat (first | refine blk_drewN ?_ _ | refine blk_drew ?_ | refine blk_alloc ?_ _)); refine blk_put (cs := #[.int .i64 ((rd_T30 l0 x8_1).f0), .string ((rd_T30 l0 x8_1).f1), .string ((rd_T30 l0 x8_1).f2), .int .i64 0]) ?_ 3 _ rfl; (with_reducible repeat (first | refine blk_drewN ?_ _ | refine blk_drew ?_ | refine blk_alloc ?_ _)); refine blk_put (cs := #[.int .i64 ((rd_T30 l0 x8_1).f0), .string ((rd_T30 l0 x8_1).f1), .string (⟨#[]⟩ : ByteArray), .int .i64 0]) ?_ 2 _ rfl; (with_reducible repeat (first | refine blk_drewN ?_ _ | refine blk_drew ?_ | refine blk_alloc ?_ _)); refine blk_put (cs := #[.int .i64 ((rd_T30 l0 x8_1).f0), .string (⟨#[]⟩ : ByteArray), .string (⟨#[]⟩ : ByteArray), .int .i64 0]) ?_ 1 _ rfl; (with_reducible repeat (first | refine blk_drewN ?_ _ | refine blk_drew ?_ | refine blk_alloc ?_ _)); refine blk_put (cs := #[.int .i64 0, .string (⟨#[]⟩ : ByteArray), .string (⟨#[]⟩ : ByteArray), .int .i64 0]) ?_ 0 _ rfl; (with_reducible repeat (first | refine blk_drewN ?_ _ | refine blk_drew ?_ | refine blk_alloc ?_ _)); exact BK260.out) hg (Kd.R_ne HO_3.out BK260.out (by decide))); have n1_ := Aside0.mk (hb); have n2_ := Aside0.mk (ho); clear BK260; clear HB; clear HO_3; have BK260 := n0_; have HB := n1_; have HO263 := n2_; clear n0_ n1_ n2_; clear ho hb hg hat))
         go_roundg k1
         case measure => have := HK1.out; omega
         case rel => exact ⟨(y261), (wrap64 (x8_1 + 1)), (by first | rfl | (simp; done) | (simp [*]; done)), H', ⟨by have := HK1.out; omega⟩, ⟨by (with_reducible repeat (first | apply Kd.R_alloc | apply Kd.R_drewN | apply Kd.R_drew)); exact HO263.out⟩, ⟨by repeat (first | (with_reducible first | exact HB.out | apply below_alloc | apply pw_below_drewN | apply below_drew1 | refine below_set ?_ GE260.out) | exact HB.out)⟩⟩
        ·rw [if_neg c11] at H
         exact absurd H (by simp)
     ·rw [if_neg c4] at H
      exact absurd H (by simp)
    ·rw [if_neg c3] at H
     exact absurd H (by simp)
   ·rw [if_neg c2] at H
    have c2b0 : decide (x8_1 < (l0.length : Int)) = false := decide_eq_false c2
    clear c2
    obtain rfl := Option.some.inj H
    go_wp2
    go_ret
    exact ⟨_, by first | rfl | (simp [errW_none, errW_some] <;> rfl) | (simp [*, errW_none, errW_some] <;> rfl), by (with_reducible repeat (first | apply Kd.R_alloc | apply Kd.R_drewN | apply Kd.R_drew)); exact HO_3.out, by repeat (first | (with_reducible first | exact HB.out | apply below_alloc | apply pw_below_drewN | apply below_drew1) | exact HB.out)⟩

end Go.Proofs.YtabnmkakgcifoaaDoor.PLex

namespace Go.Proofs.YtabnmkakgcifoaaDoor.PLex
open Go.RowKit Go.Proofs.YtabnmkakgcifoaaDoorW.PrintWords Go.Proofs.YtabnmkakgcifoaaDoorW.PrintLast Go.Proofs.YtabnmkakgcifoaaDoorW.PrintMore
attribute [local go_sem] max2_int min2_int max_two min_two max_three min_three max_four min_four   -- for this text's walks alone
set_option linter.unusedVariables false
set_option linter.unusedSimpArgs false

mutual
def lex_At.l0 : Nat → List (S30) → Int → Int → Int → List (S30) → Int → Int → Option (Int × Int)
 | 0, _, _, _, _, _, _, _ => none
 | k + 1, x0, x1, x6, x7, x10, x11, x12 => if x12 < x11 then (if 0 ≤ x12 then (if x12 < (x10.length : Int) then (if x6 ≤ x1 then (if ((rd_T30 x10 x12).f3) = (wrap64 (x6 + (((rd_T30 x10 x12).f1).size : Int))) then (if ((((rd_T30 x10 x12).f0) == 0) != (x12 == (wrap64 ((x0.length : Int) - 1)))) = true then (some (0, 3)) else (if ((rd_T30 x10 x12).f0) = 0 then (if ((rd_T30 x10 x12).f2).toList = ([] : List UInt8) then (lex_At.l0 k x0 x1 (wrap64 ((wrap64 (x6 + (((rd_T30 x10 x12).f1).size : Int))) + (((rd_T30 x10 x12).f2).size : Int))) x12 x10 x11 (wrap64 (x12 + 1))) else (some (0, 3))) else (lex_At.l0 k x0 x1 (wrap64 ((wrap64 (x6 + (((rd_T30 x10 x12).f1).size : Int))) + (((rd_T30 x10 x12).f2).size : Int))) x12 x10 x11 (wrap64 (x12 + 1))))) else (some (0, 3))) else (if ((rd_T30 x10 x12).f3) = (wrap64 (x6 + (((rd_T30 x10 x12).f1).size : Int))) then (if ((((rd_T30 x10 x12).f0) == 0) != (x12 == (wrap64 ((x0.length : Int) - 1)))) = true then (some (0, 3)) else (if ((rd_T30 x10 x12).f0) = 0 then (if ((rd_T30 x10 x12).f2).toList = ([] : List UInt8) then (lex_At.l0 k x0 x1 (wrap64 ((wrap64 (x6 + (((rd_T30 x10 x12).f1).size : Int))) + (((rd_T30 x10 x12).f2).size : Int))) x7 x10 x11 (wrap64 (x12 + 1))) else (some (0, 3))) else (lex_At.l0 k x0 x1 (wrap64 ((wrap64 (x6 + (((rd_T30 x10 x12).f1).size : Int))) + (((rd_T30 x10 x12).f2).size : Int))) x7 x10 x11 (wrap64 (x12 + 1))))) else (some (0, 3)))) else (none)) else (none)) else (if (x0.length : Int) = 0 then (some (0, 3)) else (if x1 < 0 then (lex_At.j1 k x0 x1 x6 x7 true) else (lex_At.j1 k x0 x1 x6 x7 (decide (x1 > x6)))))
def lex_At.j1 : Nat → List (S30) → Int → Int → Int → Bool → Option (Int × Int)
 | 0, _, _, _, _, _ => none
 | k + 1, x0, x1, x6, x7, x61 => if x61 = true then (some (0, 1)) else (if x1 = x6 then (some (wrap64 ((x0.length : Int) - 1), 0)) else (some (x7, 0)))
end
def lex_At.f (k : Nat) (l0 : List (S30)) (a1 : Int) : Option (Int × Int) := lex_At.l0 k l0 a1 0 (-1) l0 (l0.length : Int) 0
set_option maxHeartbeats 8000000 in
set_option maxRecDepth 100000 in
theorem lex_At.calls (k : Nat) (A0 : Option Addr) (c0 : Nat) (l0 : List (S30)) (a1 : Int) (r1 : Int) (r2 : Int) (w : World) (hr0 : Kd.C k30 w A0 l0.length l0) (hc0 : l0.length ≤ c0) (h : lex_At.f k l0 a1 = some (r1, r2)) :
  Calls Tryd.prog 25 #[.slice A0 l0.length c0, .int .i64 a1] w fun e w' => e = .returned (.tuple #[.int .i64 r1, .int .i64 r2]) ∧ Below w.heap.size w w' := by
 have hu30 := Tryd.underlying30
 have HR0 := Aside0.mk hr0
 have HC0 := Aside0.mk hc0
 clear hr0 hc0
 have HB := Aside0.mk (Below.refl w.heap.size w)
 have H : (lex_At.l0 k l0 a1 0 (-1) l0 (l0.length : Int) 0) = some (r1, r2) := h
 clear h
 have H' := Aside0.mk H
 clear H
 go_enter Tryd.func25, Tryd.ntmps25
 go_wp2
 try simp only [Act.put, List.setIfInBounds_toArray, List.set_cons_succ, List.set_cons_zero]
 go_loopg [6, 7, 12] k (fun kq v6 v7 v12 w' => ∃ (x6_1 : Int) (x7_1 : Int) (x12_1 : Int), v6 = .int .i64 x6_1 ∧ v7 = .int .i64 x7_1 ∧ v12 = .int .i64 x12_1 ∧ Aside0 (lex_At.l0 kq l0 a1 x6_1 x7_1 l0 (l0.length : Int) x12_1 = some (r1, r2)) ∧ Aside0 (kq ≤ k) ∧ Aside0 (Below w.heap.size w w'))
 case atStart => exact ⟨(0), ((-1)), (0), (by first | rfl | (simp; done) | (simp [*]; done)), (by first | rfl | (simp; done) | (simp [*]; done)), (by first | rfl | (simp; done) | (simp [*]; done)), H', ⟨Nat.le_refl _⟩, ⟨by repeat (first | (with_reducible first | exact HB.out | apply below_alloc | apply pw_below_drewN | apply below_drew1) | exact HB.out)⟩⟩
 case round =>
  clear H'
  try clear c2
  try clear p2
  obtain ⟨x6_1, x7_1, x12_1, rfl, rfl, rfl, HA, HK1, HB⟩ := hrel
  cases gk with
  | zero => exact absurd HA.out (by simp [lex_At.l0])
  | succ k1 =>
   have H := HA.out
   clear HA
   simp only [lex_At.l0] at H
   by_cases c3 : x12_1 < (l0.length : Int)
   ·rw [if_pos c3] at H
    have c3b0 : decide (x12_1 < (l0.length : Int)) = true := decide_eq_true c3
    clear c3
    by_cases c4 : 0 ≤ x12_1
    ·rw [if_pos c4] at H
     have c4b0 : decide (0 ≤ x12_1) = true := decide_eq_true c4
     clear c4
     by_cases c5 : x12_1 < (l0.length : Int)
     ·rw [if_pos c5] at H
      have c5b0 : decide (x12_1 < (l0.length : Int)) = true := decide_eq_true c5
      clear c5
      by_cases c6 : x6_1 ≤ a1
      ·rw [if_pos c6] at H
       have c6b0 : decide (x6_1 ≤ a1) = true := decide_eq_true c6
       clear c6
       by_cases c7 : ((rd_T30 l0 x12_1).f3) = (wrap64 (x6_1 + (((rd_T30 l0 x12_1).f1).size : Int)))
       ·rw [if_pos c7] at H
        have c7b0 : (((rd_T30 l0 x12_1).f3) == (wrap64 (x6_1 + (((rd_T30 l0 x12_1).f1).size : Int)))) = true := beq_iff_eq.mpr c7
        have c7b1 : (((rd_T30 l0 x12_1).f3) != (wrap64 (x6_1 + (((rd_T30 l0 x12_1).f1).size : Int)))) = false := bne_eq_false_iff_eq.mpr c7
        clear c7
        by_cases c8 : ((((rd_T30 l0 x12_1).f0) == 0) != (x12_1 == (wrap64 ((l0.length : Int) - 1)))) = true
        ·rw [if_pos c8] at H
         have c8b0 : ((((rd_T30 l0 x12_1).f0) == 0) != (x12_1 == (wrap64 ((l0.length : Int) - 1)))) = true := c8
         (try (have c8b1 : decide ((((rd_T30 l0 x12_1).f0) == 0) = (x12_1 == (wrap64 ((l0.length : Int) - 1)))) = false := by simpa using c8))
         (try (have c8b2 : ((((rd_T30 l0 x12_1).f0) == 0) == (x12_1 == (wrap64 ((l0.length : Int) - 1)))) = false := by simpa using c8))
         (try (have c8b3 : ¬ ((((rd_T30 l0 x12_1).f0) == 0) = (x12_1 == (wrap64 ((l0.length : Int) - 1)))) := by simpa using c8))
         clear c8
         simp only [Option.some.injEq, Prod.mk.injEq] at H
         obtain ⟨rfl, rfl⟩ := H
         have p377 : 0 ≤ (x12_1 : Int) := of_decide_eq_true (by first | (with_reducible assumption) | assumption)
         have q377 : x12_1 < (l0.length : Int) := of_decide_eq_true (by first | (with_reducible assumption) | assumption)
         obtain ⟨ad377, e377, hx377_0, hx377_1, hx377_2, hx377_3⟩ := at_T30 HR0.out x12_1 p377 q377
         cases e377
         replace hx377_0 := (HB.out.cell (World.block_lt_of_cell? w _ hx377_0)).trans hx377_0
         replace hx377_1 := (HB.out.cell (World.block_lt_of_cell? w _ hx377_1)).trans hx377_1
         replace hx377_2 := (HB.out.cell (World.block_lt_of_cell? w _ hx377_2)).trans hx377_2
         replace hx377_3 := (HB.out.cell (World.block_lt_of_cell? w _ hx377_3)).trans hx377_3
         replace p377 := eq_true p377
         replace q377 := eq_true q377
         go_wp2_with (first | ((with_reducible refine gate_dst (N := 9) rfl ?_); (try (refine gate_guard (by rfl) ?_; dsimp only)); refine box_event ?hg (N := 9) ?hd (cs := #[.int .i64 0, .string (⟨#[]⟩ : ByteArray), .string (⟨#[]⟩ : ByteArray), .int .i64 0]) (t := 30) ?hr ?_; (case hd => rfl); (case hg => rfl); (case hr => first | (go_simp; done) | (go_simp; rfl)); intro gb378 hg w9 hbox hb; have n0_ := Aside0.mk (below_step (by repeat (first | (with_reducible first | exact HB.out | apply below_alloc | apply pw_below_drewN | apply below_drew1) | exact HB.out)) hb); have n1_ := Aside0.mk (hbox); have n2_ := Aside0.mk ((by rw [hg]; exact (below_size (by repeat (first | (with_reducible first | exact HB.out | apply below_alloc | apply pw_below_drewN | apply below_drew1) | exact HB.out))) : w.heap.size ≤ gb378)); have n3_ := Aside0.mk ((by rw [hg]; exact (below_size (by repeat (first | (with_reducible first | exact HB.out | apply below_alloc | apply pw_below_drewN | apply below_drew1) | exact HB.out))) : w.heap.size ≤ gb378)); clear HB; have HB := n0_; have BK378 := n1_; have GW378 := n2_; have GE378 := n3_; clear n0_ n1_ n2_ n3_; clear hb hbox hg; have hcz10_0 : w9.cell? ⟨gb378, 0, none⟩ = some (.int .i64 0) := (blk_cell BK378.out 0).trans rfl; have hcz10_1 : w9.cell? ⟨gb378, 1, none⟩ = some (.string (⟨#[]⟩ : ByteArray)) := (blk_cell BK378.out 1).trans rfl; have hcz10_2 : w9.cell? ⟨gb378, 2, none⟩ = some (.string (⟨#[]⟩ : ByteArray)) := (blk_cell BK378.out 2).trans rfl; have hcz10_3 : w9.cell? ⟨gb378, 3, none⟩ = some (.int .i64 0) := (blk_cell BK378.out 3).trans rfl; have hfz10_0 := blk_frozen BK378.out 0; have hfz10_1 := blk_frozen BK378.out 1; have hfz10_2 := blk_frozen BK378.out 2; have hfz10_3 := blk_frozen BK378.out 3))
         go_ret2
         exact ⟨by first | rfl | (simp [errW_none, errW_some] <;> rfl) | (simp [*, errW_none, errW_some] <;> rfl), by repeat (first | (with_reducible first | exact HB.out | apply below_alloc | apply pw_below_drewN | apply below_drew1 | refine below_set ?_ GE378.out) | exact HB.out)⟩
        ·rw [if_neg c8] at H
         have c8b0 : ((((rd_T30 l0 x12_1).f0) == 0) != (x12_1 == (wrap64 ((l0.length : Int) - 1)))) = false := by simpa using c8
         (try (have c8b1 : decide ((((rd_T30 l0 x12_1).f0) == 0) = (x12_1 == (wrap64 ((l0.length : Int) - 1)))) = true := by simpa using c8))
         (try (have c8b2 : ((((rd_T30 l0 x12_1).f0) == 0) == (x12_1 == (wrap64 ((l0.length : Int) - 1)))) = true := by simpa using c8))
         clear c8
         by_cases c11 : ((rd_T30 l0 x12_1).f0) = 0
         ·rw [if_pos c11] at H
          have c11b0 : (((rd_T30 l0 x12_1).f0) == 0) = true := beq_iff_eq.mpr c11
          have c11b1 : (((rd_T30 l0 x12_1).f0) != 0) = false := bne_eq_false_iff_eq.mpr c11
          have e11 : (x12_1 == wrap64 ((l0.length : Int) - 1)) = true := by simpa [c11b0] using c8b0
          have e11 : (x12_1 == wrap64 ((l0.length : Int) - 1)) = true := by simpa [c11b0] using c8b0
          clear c11
          by_cases c12 : ((rd_T30 l0 x12_1).f2).toList = ([] : List UInt8)
          ·rw [if_pos c12] at H
           have c12b0 : (((rd_T30 l0 x12_1).f2).toList == ([] : List UInt8)) = true := beq_iff_eq.mpr c12
           have c12b1 : (((rd_T30 l0 x12_1).f2).toList != ([] : List UInt8)) = false := bne_eq_false_iff_eq.mpr c12
           clear c12
           have H' := Aside0.mk H
           clear H
           have p377 : 0 ≤ (x12_1 : Int) := of_decide_eq_true (by first | (with_reducible assumption) | assumption)
           have q377 : x12_1 < (l0.length : Int) := of_decide_eq_true (by first | (with_reducible assumption) | assumption)
           obtain ⟨ad377, e377, hx377_0, hx377_1, hx377_2, hx377_3⟩ := at_T30 HR0.out x12_1 p377 q377
           cases e377
           replace hx377_0 := (HB.out.cell (World.block_lt_of_cell? w _ hx377_0)).trans hx377_0
           replace hx377_1 := (HB.out.cell (World.block_lt_of_cell? w _ hx377_1)).trans hx377_1
           replace hx377_2 := (HB.out.cell (World.block_lt_of_cell? w _ hx377_2)).trans hx377_2
           replace hx377_3 := (HB.out.cell (World.block_lt_of_cell? w _ hx377_3)).trans hx377_3
           replace p377 := eq_true p377
           replace q377 := eq_true q377
           go_wp2_with (first | ((with_reducible refine gate_dst (N := 9) rfl ?_); (try (refine gate_guard (by rfl) ?_; dsimp only)); refine box_event ?hg (N := 9) ?hd (cs := #[.int .i64 0, .string (⟨#[]⟩ : ByteArray), .string (⟨#[]⟩ : ByteArray), .int .i64 0]) (t := 30) ?hr ?_; (case hd => rfl); (case hg => rfl); (case hr => first | (go_simp; done) | (go_simp; rfl)); intro gb378 hg w13 hbox hb; have n0_ := Aside0.mk (below_step (by repeat (first | (with_reducible first | exact HB.out | apply below_alloc | apply pw_below_drewN | apply below_drew1) | exact HB.out)) hb); have n1_ := Aside0.mk (hbox); have n2_ := Aside0.mk ((by rw [hg]; exact (below_size (by repeat (first | (with_reducible first | exact HB.out | apply below_alloc | apply pw_below_drewN | apply below_drew1) | exact HB.out))) : w.heap.size ≤ gb378)); have n3_ := Aside0.mk ((by rw [hg]; exact (below_size (by repeat (first | (with_reducible first | exact HB.out | apply below_alloc | apply pw_below_drewN | apply below_drew1) | exact HB.out))) : w.heap.size ≤ gb378)); clear HB; have HB := n0_; have BK378 := n1_; have GW378 := n2_; have GE378 := n3_; clear n0_ n1_ n2_ n3_; clear hb hbox hg; have hcz14_0 : w13.cell? ⟨gb378, 0, none⟩ = some (.int .i64 0) := (blk_cell BK378.out 0).trans rfl; have hcz14_1 : w13.cell? ⟨gb378, 1, none⟩ = some (.string (⟨#[]⟩ : ByteArray)) := (blk_cell BK378.out 1).trans rfl; have hcz14_2 : w13.cell? ⟨gb378, 2, none⟩ = some (.string (⟨#[]⟩ : ByteArray)) := (blk_cell BK378.out 2).trans rfl; have hcz14_3 : w13.cell? ⟨gb378, 3, none⟩ = some (.int .i64 0) := (blk_cell BK378.out 3).trans rfl; have hfz14_0 := blk_frozen BK378.out 0; have hfz14_1 := blk_frozen BK378.out 1; have hfz14_2 := blk_frozen BK378.out 2; have hfz14_3 := blk_frozen BK378.out 3))
           go_roundg k1
           case measure => have := HK1.out; omega
           case rel => exact ⟨(wrap64 ((wrap64 (x6_1 + (((rd_T30 l0 x12_1).f1).size : Int))) + (((rd_T30 l0 x12_1).f2).size : Int))), (x12_1), (wrap64 (x12_1 + 1)), (by first | rfl | (simp; done) | (simp [*]; done)), (by first | rfl | (simp; done) | (simp [*]; done)), (by first | rfl | (simp; done) | (simp [*]; done)), H', ⟨by have := HK1.out; omega⟩, ⟨by repeat (first | (with_reducible first | exact HB.out | apply below_alloc | apply pw_below_drewN | apply below_drew1 | refine below_set ?_ GE378.out) | exact HB.out)⟩⟩
          ·rw [if_neg c12] at H
           have c12b0 : (((rd_T30 l0 x12_1).f2).toList == ([] : List UInt8)) = false := beq_eq_false_iff_ne.mpr c12
           have c12b1 : (((rd_T30 l0 x12_1).f2).toList != ([] : List UInt8)) = true := bne_iff_ne.mpr c12
           simp only [Option.some.injEq, Prod.mk.injEq] at H
           obtain ⟨rfl, rfl⟩ := H
           have p377 : 0 ≤ (x12_1 : Int) := of_decide_eq_true (by first | (with_reducible assumption) | assumption)
           have q377 : x12_1 < (l0.length : Int) := of_decide_eq_true (by first | (with_reducible assumption) | assumption)
           obtain ⟨ad377, e377, hx377_0, hx377_1, hx377_2, hx377_3⟩ := at_T30 HR0.out x12_1 p377 q377
           cases e377
           replace hx377_0 := (HB.out.cell (World.block_lt_of_cell? w _ hx377_0)).trans hx377_0
           replace hx377_1 := (HB.out.cell (World.block_lt_of_cell? w _ hx377_1)).trans hx377_1
           replace hx377_2 := (HB.out.cell (World.block_lt_of_cell? w _ hx377_2)).trans hx377_2
           replace hx377_3 := (HB.out.cell (World.block_lt_of_cell? w _ hx377_3)).trans hx377_3
           replace p377 := eq_true p377
           replace q377 := eq_true q377
           go_wp2_with (first | ((with_reducible refine gate_dst (N := 9) rfl ?_); (try (refine gate_guard (by rfl) ?_; dsimp only)); refine box_event ?hg (N := 9) ?hd (cs := #[.int .i64 0, .string (⟨#[]⟩ : ByteArray), .string (⟨#[]⟩ : ByteArray), .int .i64 0]) (t := 30) ?hr ?_; (case hd => rfl); (case hg => rfl); (case hr => first | (go_simp; done) | (go_simp; rfl)); intro gb378 hg w15 hbox hb; have n0_ := Aside0.mk (below_step (by repeat (first | (with_reducible first | exact HB.out | apply below_alloc | apply pw_below_drewN | apply below_drew1) | exact HB.out)) hb); have n1_ := Aside0.mk (hbox); have n2_ := Aside0.mk ((by rw [hg]; exact (below_size (by repeat (first | (with_reducible first | exact HB.out | apply below_alloc | apply pw_below_drewN | apply below_drew1) | exact HB.out))) : w.heap.size ≤ gb378)); have n3_ := Aside0.mk ((by rw [hg]; exact (below_size (by repeat (first | (with_reducible first | exact HB.out | apply below_alloc | apply pw_below_drewN | apply below_drew1) | exact HB.out))) : w.heap.size ≤ gb378)); clear HB; have HB := n0_; have BK378 := n1_; have GW378 := n2_; have GE378 := n3_; clear n0_ n1_ n2_ n3_; clear hb hbox hg; have hcz16_0 : w15.cell? ⟨gb378, 0, none⟩ = some (.int .i64 0) := (blk_cell BK378.out 0).trans rfl; have hcz16_1 : w15.cell? ⟨gb378, 1, none⟩ = some (.string (⟨#[]⟩ : ByteArray)) := (blk_cell BK378.out 1).trans rfl; have hcz16_2 : w15.cell? ⟨gb378, 2, none⟩ = some (.string (⟨#[]⟩ : ByteArray)) := (blk_cell BK378.out 2).trans rfl; have hcz16_3 : w15.cell? ⟨gb378, 3, none⟩ = some (.int .i64 0) := (blk_cell BK378.out 3).trans rfl; have hfz16_0 := blk_frozen BK378.out 0; have hfz16_1 := blk_frozen BK378.out 1; have hfz16_2 := blk_frozen BK378.out 2; have hfz16_3 := blk_frozen BK378.out 3))
           go_ret2
           exact ⟨by first | rfl | (simp [errW_none, errW_some] <;> rfl) | (simp [*, errW_none, errW_some] <;> rfl), by repeat (first | (with_reducible first | exact HB.out | apply below_alloc | apply pw_below_drewN | apply below_drew1 | refine below_set ?_ GE378.out) | exact HB.out)⟩
         ·rw [if_neg c11] at H
          have c11b0 : (((rd_T30 l0 x12_1).f0) == 0) = false := beq_eq_false_iff_ne.mpr c11
          have c11b1 : (((rd_T30 l0 x12_1).f0) != 0) = true := bne_iff_ne.mpr c11
          have e11 : (x12_1 == wrap64 ((l0.length : Int) - 1)) = false := by simpa [c11b0] using c8b0
          have e11 : (x12_1 == wrap64 ((l0.length : Int) - 1)) = false := by simpa [c11b0] using c8b0
          have H' := Aside0.mk H
          clear H
          have p377 : 0 ≤ (x12_1 : Int) := of_decide_eq_true (by first | (with_reducible assumption) | assumption)
          have q377 : x12_1 < (l0.length : Int) := of_decide_eq_true (by first | (with_reducible assumption) | assumption)
          obtain ⟨ad377, e377, hx377_0, hx377_1, hx377_2, hx377_3⟩ := at_T30 HR0.out x12_1 p377 q377
          cases e377
          replace hx377_0 := (HB.out.cell (World.block_lt_of_cell? w _ hx377_0)).trans hx377_0
          replace hx377_1 := (HB.out.cell (World.block_lt_of_cell? w _ hx377_1)).trans hx377_1
          replace hx377_2 := (HB.out.cell (World.block_lt_of_cell? w _ hx377_2)).trans hx377_2
          replace hx377_3 := (HB.out.cell (World.block_lt_of_cell? w _ hx377_3)).trans hx377_3
          replace p377 := eq_true p377
          replace q377 := eq_true q377
          go_wp2_with (first | ((with_reducible refine gate_dst (N := 9) rfl ?_); (try (refine gate_guard (by rfl) ?_; dsimp only)); refine box_event ?hg (N := 9) ?hd (cs := #[.int .i64 0, .string (⟨#[]⟩ : ByteArray), .string (⟨#[]⟩ : ByteArray), .int .i64 0]) (t := 30) ?hr ?_; (case hd => rfl); (case hg => rfl); (case hr => first | (go_simp; done) | (go_simp; rfl)); intro gb378 hg w17 hbox hb; have n0_ := Aside0.mk (below_step (by repeat (first | (with_reducible first | exact HB.out | apply below_alloc | apply pw_below_drewN | apply below_drew1) | exact HB.out)) hb); have n1_ := Aside0.mk (hbox); have n2_ := Aside0.mk ((by rw [hg]; exact (below_size (by repeat (first | (with_reducible first | exact HB.out | apply below_alloc | apply pw_below_drewN | apply below_drew1) | exact HB.out))) : w.heap.size ≤ gb378)); have n3_ := Aside0.mk ((by rw [hg]; exact (below_size (by repeat (first | (with_reducible first | exact HB.out | apply below_alloc | apply pw_below_drewN | apply below_drew1) | exact HB.out))) : w.heap.size ≤ gb378)); clear HB; have HB := n0_; have BK378 := n1_; have GW378 := n2_; have GE378 := n3_; clear n0_ n1_ n2_ n3_; clear hb hbox hg; have hcz18_0 : w17.cell? ⟨gb378, 0, none⟩ = some (.int .i64 0) := (blk_cell BK378.out 0).trans rfl; have hcz18_1 : w17.cell? ⟨gb378, 1, none⟩ = some (.string (⟨#[]⟩ : ByteArray)) := (blk_cell BK378.out 1).trans rfl; have hcz18_2 : w17.cell? ⟨gb378, 2, none⟩ = some (.string (⟨#[]⟩ : ByteArray)) := (blk_cell BK378.out 2).trans rfl; have hcz18_3 : w17.cell? ⟨gb378, 3, none⟩ = some (.int .i64 0) := (blk_cell BK378.out 3).trans rfl; have hfz18_0 := blk_frozen BK378.out 0; have hfz18_1 := blk_frozen BK378.out 1; have hfz18_2 := blk_frozen BK378.out 2; have hfz18_3 := blk_frozen BK378.out 3))
          go_roundg k1
          case measure => have := HK1.out; omega
          case rel => exact ⟨(wrap64 ((wrap64 (x6_1 + (((rd_T30 l0 x12_1).f1).size : Int))) + (((rd_T30 l0 x12_1).f2).size : Int))), (x12_1), (wrap64 (x12_1 + 1)), (by first | rfl | (simp; done) | (simp [*]; done)), (by first | rfl | (simp; done) | (simp [*]; done)), (by first | rfl | (simp; done) | (simp [*]; done)), H', ⟨by have := HK1.out; omega⟩, ⟨by repeat (first | (with_reducible first | exact HB.out | apply below_alloc | apply pw_below_drewN | apply below_drew1 | refine below_set ?_ GE378.out) | exact HB.out)⟩⟩
       ·rw [if_neg c7] at H
        have c7b0 : (((rd_T30 l0 x12_1).f3) == (wrap64 (x6_1 + (((rd_T30 l0 x12_1).f1).size : Int)))) = false := beq_eq_false_iff_ne.mpr c7
        have c7b1 : (((rd_T30 l0 x12_1).f3) != (wrap64 (x6_1 + (((rd_T30 l0 x12_1).f1).size : Int)))) = true := bne_iff_ne.mpr c7
        simp only [Option.some.injEq, Prod.mk.injEq] at H
        obtain ⟨rfl, rfl⟩ := H
        have p377 : 0 ≤ (x12_1 : Int) := of_decide_eq_true (by first | (with_reducible assumption) | assumption)
        have q377 : x12_1 < (l0.length : Int) := of_decide_eq_true (by first | (with_reducible assumption) | assumption)
        obtain ⟨ad377, e377, hx377_0, hx377_1, hx377_2, hx377_3⟩ := at_T30 HR0.out x12_1 p377 q377
        cases e377
        replace hx377_0 := (HB.out.cell (World.block_lt_of_cell? w _ hx377_0)).trans hx377_0
        replace hx377_1 := (HB.out.cell (World.block_lt_of_cell? w _ hx377_1)).trans hx377_1
        replace hx377_2 := (HB.out.cell (World.block_lt_of_cell? w _ hx377_2)).trans hx377_2
        replace hx377_3 := (HB.out.cell (World.block_lt_of_cell? w _ hx377_3)).trans hx377_3
        replace p377 := eq_true p377
        replace q377 := eq_true q377
        go_wp2_with (first | ((with_reducible refine gate_dst (N := 9) rfl ?_); (try (refine gate_guard (by rfl) ?_; dsimp only)); refine box_event ?hg (N := 9) ?hd (cs := #[.int .i64 0, .string (⟨#[]⟩ : ByteArray), .string (⟨#[]⟩ : ByteArray), .int .i64 0]) (t := 30) ?hr ?_; (case hd => rfl); (case hg => rfl); (case hr => first | (go_simp; done) | (go_simp; rfl)); intro gb378 hg w19 hbox hb; have n0_ := Aside0.mk (below_step (by repeat (first | (with_reducible first | exact HB.out | apply below_alloc | apply pw_below_drewN | apply below_drew1) | exact HB.out)) hb); have n1_ := Aside0.mk (hbox); have n2_ := Aside0.mk ((by rw [hg]; exact (below_size (by repeat (first | (with_reducible first | exact HB.out | apply below_alloc | apply pw_below_drewN | apply below_drew1) | exact HB.out))) : w.heap.size ≤ gb378)); have n3_ := Aside0.mk ((by rw [hg]; exact (below_size (by repeat (first | (with_reducible first | exact HB.out | apply below_alloc | apply pw_below_drewN | apply below_drew1) | exact HB.out))) : w.heap.size ≤ gb378)); clear HB; have HB := n0_; have BK378 := n1_; have GW378 := n2_; have GE378 := n3_; clear n0_ n1_ n2_ n3_; clear hb hbox hg; have hcz20_0 : w19.cell? ⟨gb378, 0, none⟩ = some (.int .i64 0) := (blk_cell BK378.out 0).trans rfl; have hcz20_1 : w19.cell? ⟨gb378, 1, none⟩ = some (.string (⟨#[]⟩ : ByteArray)) := (blk_cell BK378.out 1).trans rfl; have hcz20_2 : w19.cell? ⟨gb378, 2, none⟩ = some (.string (⟨#[]⟩ : ByteArray)) := (blk_cell BK378.out 2).trans rfl; have hcz20_3 : w19.cell? ⟨gb378, 3, none⟩ = some (.int .i64 0) := (blk_cell BK378.out 3).trans rfl; have hfz20_0 := blk_frozen BK378.out 0; have hfz20_1 := blk_frozen BK378.out 1; have hfz20_2 := blk_frozen BK378.out 2; have hfz20_3 := blk_frozen BK378.out 3))
        go_ret2
        exact ⟨by first | rfl | (simp [errW_none, errW_some] <;> rfl) | (simp [*, errW_none, errW_some] <;> rfl), by repeat (first | (with_reducible first | exact HB.out | apply below_alloc | apply pw_below_drewN | apply below_drew1 | refine below_set ?_ GE378.out) | exact HB.out)⟩
      ·rw [if_neg c6] at H
       have c6b0 : decide (x6_1 ≤ a1) = false := decide_eq_false c6
       clear c6
       by_cases c21 : ((rd_T30 l0 x12_1).f3) = (wrap64 (x6_1 + (((rd_T30 l0 x12_1).f1).size : Int)))
       ·rw [if_pos c21] at H
        have c21b0 : (((rd_T30 l0 x12_1).f3) == (wrap64 (x6_1 + (((rd_T30 l0 x12_1).f1).size : Int)))) = true := beq_iff_eq.mpr c21
        have c21b1 : (((rd_T30 l0 x12_1).f3) != (wrap64 (x6_1 + (((rd_T30 l0 x12_1).f1).size : Int)))) = false := bne_eq_false_iff_eq.mpr c21
        clear c21
        by_cases c22 : ((((rd_T30 l0 x12_1).f0) == 0) != (x12_1 == (wrap64 ((l0.length : Int) - 1)))) = true
        ·rw [if_pos c22] at H
         have c22b0 : ((((rd_T30 l0 x12_1).f0) == 0) != (x12_1 == (wrap64 ((l0.length : Int) - 1)))) = true := c22
         (try (have c22b1 : decide ((((rd_T30 l0 x12_1).f0) == 0) = (x12_1 == (wrap64 ((l0.length : Int) - 1)))) = false := by simpa using c22))
         (try (have c22b2 : ((((rd_T30 l0 x12_1).f0) == 0) == (x12_1 == (wrap64 ((l0.length : Int) - 1)))) = false := by simpa using c22))
         (try (have c22b3 : ¬ ((((rd_T30 l0 x12_1).f0) == 0) = (x12_1 == (wrap64 ((l0.length : Int) - 1)))) := by simpa using c22))
         clear c22
         simp only [Option.some.injEq, Prod.mk.injEq] at H
         obtain ⟨rfl, rfl⟩ := H
         have p377 : 0 ≤ (x12_1 : Int) := of_decide_eq_true (by first | (with_reducible assumption) | assumption)
         have q377 : x12_1 < (l0.length : Int) := of_decide_eq_true (by first | (with_reducible assumption) | assumption)
         obtain ⟨ad377, e377, hx377_0, hx377_1, hx377_2, hx377_3⟩ := at_T30 HR0.out x12_1 p377 q377
         cases e377
         replace hx377_0 := (HB.out.cell (World.block_lt_of_cell? w _ hx377_0)).trans hx377_0
         replace hx377_1 := (HB.out.cell (World.block_lt_of_cell? w _ hx377_1)).trans hx377_1
         replace hx377_2 := (HB.out.cell (World.block_lt_of_cell? w _ hx377_2)).trans hx377_2
         replace hx377_3 := (HB.out.cell (World.block_lt_of_cell? w _ hx377_3)).trans hx377_3
         replace p377 := eq_true p377
         replace q377 := eq_true q377
         go_wp2_with (first | ((with_reducible refine gate_dst (N := 9) rfl ?_); (try (refine gate_guard (by rfl) ?_; dsimp only)); refine box_event ?hg (N := 9) ?hd (cs := #[.int .i64 0, .string (⟨#[]⟩ : ByteArray), .string (⟨#[]⟩ : ByteArray), .int .i64 0]) (t := 30) ?hr ?_; (case hd => rfl); (case hg => rfl); (case hr => first | (go_simp; done) | (go_simp; rfl)); intro gb378 hg w23 hbox hb; have n0_ := Aside0.mk (below_step (by repeat (first | (with_reducible first | exact HB.out | apply below_alloc | apply pw_below_drewN | apply below_drew1) | exact HB.out)) hb); have n1_ := Aside0.mk (hbox); have n2_ := Aside0.mk ((by rw [hg]; exact (below_size (by repeat (first | (with_reducible first | exact HB.out | apply below_alloc | apply pw_below_drewN | apply below_drew1) | exact HB.out))) : w.heap.size ≤ gb378)); have n3_ := Aside0.mk ((by rw [hg]; exact (below_size (by repeat (first | (with_reducible first | exact HB.out | apply below_alloc | apply pw_below_drewN | apply below_drew1) | exact HB.out))) : w.heap.size ≤ gb378)); clear HB; have HB := n0_; have BK378 := n1_; have GW378 := n2_; have GE378 := n3_; clear n0_ n1_ n2_ n3_; clear hb hbox hg; have hcz24_0 : w23.cell? ⟨gb378, 0, none⟩ = some (.int .i64 0) := (blk_cell BK378.out 0).trans rfl; have hcz24_1 : w23.cell? ⟨gb378, 1, none⟩ = some (.string (⟨#[]⟩ : ByteArray)) := (blk_cell BK378.out 1).trans rfl; have hcz24_2 : w23.cell? ⟨gb378, 2, none⟩ = some (.string (⟨#[]⟩ : ByteArray)) := (blk_cell BK378.out 2).trans rfl; have hcz24_3 : w23.cell? ⟨gb378, 3, none⟩ = some (.int .i64 0) := (blk_cell BK378.out 3).trans rfl; have hfz24_0 := blk_frozen BK378.out 0; have hfz24_1 := blk_frozen BK378.out 1; have hfz24_2 := blk_frozen BK378.out 2; have hfz24_3 := blk_frozen BK378.out 3))
         go_ret2
         exact ⟨by first | rfl | (simp [errW_none, errW_some] <;> rfl) | (simp [*, errW_none, errW_some] <;> rfl), by repeat (first | (with_reducible first | exact HB.out | apply below_alloc | apply pw_below_drewN | apply below_drew1 | refine below_set ?_ GE378.out) | exact HB.out)⟩
        ·rw [if_neg c22] at H
         have c22b0 : ((((rd_T30 l0 x12_1).f0) == 0) != (x12_1 == (wrap64 ((l0.length : Int) - 1)))) = false := by simpa using c22
         (try (have c22b1 : decide ((((rd_T30 l0 x12_1).f0) == 0) = (x12_1 == (wrap64 ((l0.length : Int) - 1)))) = true := by simpa using c22))
         (try (have c22b2 : ((((rd_T30 l0 x12_1).f0) == 0) == (x12_1 == (wrap64 ((l0.length : Int) - 1)))) = true := by simpa using c22))
         clear c22
         by_cases c25 : ((rd_T30 l0 x12_1).f0) = 0
         ·rw [if_pos c25] at H
          have c25b0 : (((rd_T30 l0 x12_1).f0) == 0) = true := beq_iff_eq.mpr c25
          have c25b1 : (((rd_T30 l0 x12_1).f0) != 0) = false := bne_eq_false_iff_eq.mpr c25
          have e25 : (x12_1 == wrap64 ((l0.length : Int) - 1)) = true := by simpa [c25b0] using c22b0
          have e25 : (x12_1 == wrap64 ((l0.length : Int) - 1)) = true := by simpa [c25b0] using c22b0
          clear c25
          by_cases c26 : ((rd_T30 l0 x12_1).f2).toList = ([] : List UInt8)
          ·rw [if_pos c26] at H
           have c26b0 : (((rd_T30 l0 x12_1).f2).toList == ([] : List UInt8)) = true := beq_iff_eq.mpr c26
           have c26b1 : (((rd_T30 l0 x12_1).f2).toList != ([] : List UInt8)) = false := bne_eq_false_iff_eq.mpr c26
           clear c26
           have H' := Aside0.mk H
           clear H
           have p377 : 0 ≤ (x12_1 : Int) := of_decide_eq_true (by first | (with_reducible assumption) | assumption)
           have q377 : x12_1 < (l0.length : Int) := of_decide_eq_true (by first | (with_reducible assumption) | assumption)
           obtain ⟨ad377, e377, hx377_0, hx377_1, hx377_2, hx377_3⟩ := at_T30 HR0.out x12_1 p377 q377
           cases e377
           replace hx377_0 := (HB.out.cell (World.block_lt_of_cell? w _ hx377_0)).trans hx377_0
           replace hx377_1 := (HB.out.cell (World.block_lt_of_cell? w _ hx377_1)).trans hx377_1
           replace hx377_2 := (HB.out.cell (World.block_lt_of_cell? w _ hx377_2)).trans hx377_2
           replace hx377_3 := (HB.out.cell (World.block_lt_of_cell? w _ hx377_3)).trans hx377_3
           replace p377 := eq_true p377
           replace q377 := eq_true q377
           go_wp2_with (first | ((with_reducible refine gate_dst (N := 9) rfl ?_); (try (refine gate_guard (by rfl) ?_; dsimp only)); refine box_event ?hg (N := 9) ?hd (cs := #[.int .i64 0, .string (⟨#[]⟩ : ByteArray), .string (⟨#[]⟩ : ByteArray), .int .i64 0]) (t := 30) ?hr ?_; (case hd => rfl); (case hg => rfl); (case hr => first | (go_simp; done) | (go_simp; rfl)); intro gb378 hg w27 hbox hb; have n0_ := Aside0.mk (below_step (by repeat (first | (with_reducible first | exact HB.out | apply below_alloc | apply pw_below_drewN | apply below_drew1) | exact HB.out)) hb); have n1_ := Aside0.mk (hbox); have n2_ := Aside0.mk ((by rw [hg]; exact (below_size (by repeat (first | (with_reducible first | exact HB.out | apply below_alloc | apply pw_below_drewN | apply below_drew1) | exact HB.out))) : w.heap.size ≤ gb378)); have n3_ := Aside0.mk ((by rw [hg]; exact (below_size (by repeat (first | (with_reducible first | exact HB.out | apply below_alloc | apply pw_below_drewN | apply below_drew1) | exact HB.out))) : w.heap.size ≤ gb378)); clear HB; have HB := n0_; have BK378 := n1_; have GW378 := n2_; have GE378 := n3_; clear n0_ n1_ n2_ n3_; clear hb hbox hg; have hcz28_0 : w27.cell? ⟨gb378, 0, none⟩ = some (.int .i64 0) := (blk_cell BK378.out 0).trans rfl; have hcz28_1 : w27.cell? ⟨gb378, 1, none⟩ = some (.string (⟨#[]⟩ : ByteArray)) := (blk_cell BK378.out 1).trans rfl; have hcz28_2 : w27.cell? ⟨gb378, 2, none⟩ = some (.string (⟨#[]⟩ : ByteArray)) := (blk_cell BK378.out 2).trans rfl; have hcz28_3 : w27.cell? ⟨gb378, 3, none⟩ = some (.int .i64 0) := (blk_cell BK378.out 3).trans rfl; have hfz28_0 := blk_frozen BK378.out 0; have hfz28_1 := blk_frozen BK378.out 1; have hfz28_2 := blk_frozen BK378.out 2; have hfz28_3 := blk_frozen BK378.out 3))
           go_roundg k1
           case measure => have := HK1.out; omega
           case rel => exact ⟨(wrap64 ((wrap64 (x6_1 + (((rd_T30 l0 x12_1).f1).size : Int))) + (((rd_T30 l0 x12_1).f2).size : Int))), (x7_1), (wrap64 (x12_1 + 1)), (by first | rfl | (simp; done) | (simp [*]; done)), (by first | rfl | (simp; done) | (simp [*]; done)), (by first | rfl | (simp; done) | (simp [*]; done)), H', ⟨by have := HK1.out; omega⟩, ⟨by repeat (first | (with_reducible first | exact HB.out | apply below_alloc | apply pw_below_drewN | apply below_drew1 | refine below_set ?_ GE378.out) | exact HB.out)⟩⟩
          ·rw [if_neg c26] at H
           have c26b0 : (((rd_T30 l0 x12_1).f2).toList == ([] : List UInt8)) = false := beq_eq_false_iff_ne.mpr c26
           have c26b1 : (((rd_T30 l0 x12_1).f2).toList != ([] : List UInt8)) = true := bne_iff_ne.mpr c26
           simp only [Option.some.injEq, Prod.mk.injEq] at H
           obtain ⟨rfl, rfl⟩ := H
           have p377 : 0 ≤ (x12_1 : Int) := of_decide_eq_true (by first | (with_reducible assumption) | assumption)
           have q377 : x12_1 < (l0.length : Int) := of_decide_eq_true (by first | (with_reducible assumption) | assumption)
           obtain ⟨ad377, e377, hx377_0, hx377_1, hx377_2, hx377_3⟩ := at_T30 HR0.out x12_1 p377 q377
           cases e377
           replace hx377_0 := (HB.out.cell (World.block_lt_of_cell? w _ hx377_0)).trans hx377_0
           replace hx377_1 := (HB.out.cell (World.block_lt_of_cell? w _ hx377_1)).trans hx377_1
           replace hx377_2 := (HB.out.cell (World.block_lt_of_cell? w _ hx377_2)).trans hx377_2
           replace hx377_3 := (HB.out.cell (World.block_lt_of_cell? w _ hx377_3)).trans hx377_3
           replace p377 := eq_true p377
           replace q377 := eq_true q377
           go_wp2_with (first | ((with_reducible refine gate_dst (N := 9) rfl ?_); (try (refine gate_guard (by rfl) ?_; dsimp only)); refine box_event ?hg (N := 9) ?hd (cs := #[.int .i64 0, .string (⟨#[]⟩ : ByteArray), .string (⟨#[]⟩ : ByteArray), .int .i64 0]) (t := 30) ?hr ?_; (case hd => rfl); (case hg => rfl); (case hr => first | (go_simp; done) | (go_simp; rfl)); intro gb378 hg w29 hbox hb; have n0_ := Aside0.mk (below_step (by repeat (first | (with_reducible first | exact HB.out | apply below_alloc | apply pw_below_drewN | apply below_drew1) | exact HB.out)) hb); have n1_ := Aside0.mk (hbox); have n2_ := Aside0.mk ((by rw [hg]; exact (below_size (by repeat (first | (with_reducible first | exact HB.out | apply below_alloc | apply pw_below_drewN | apply below_drew1) | exact HB.out))) : w.heap.size ≤ gb378)); have n3_ := Aside0.mk ((by rw [hg]; exact (below_size (by repeat (first | (with_reducible first | exact HB.out | apply below_alloc | apply pw_below_drewN | apply below_drew1) | exact HB.out))) : w.heap.size ≤ gb378)); clear HB; have HB := n0_; have BK378 := n1_; have GW378 := n2_; have GE378 := n3_; clear n0_ n1_ n2_ n3_; clear hb hbox hg; have hcz30_0 : w29.cell? ⟨gb378, 0, none⟩ = some (.int .i64 0) := (blk_cell BK378.out 0).trans rfl; have hcz30_1 : w29.cell? ⟨gb378, 1, none⟩ = some (.string (⟨#[]⟩ : ByteArray)) := (blk_cell BK378.out 1).trans rfl; have hcz30_2 : w29.cell? ⟨gb378, 2, none⟩ = some (.string (⟨#[]⟩ : ByteArray)) := (blk_cell BK378.out 2).trans rfl; have hcz30_3 : w29.cell? ⟨gb378, 3, none⟩ = some (.int .i64 0) := (blk_cell BK378.out 3).trans rfl; have hfz30_0 := blk_frozen BK378.out 0; have hfz30_1 := blk_frozen BK378.out 1; have hfz30_2 := blk_frozen BK378.out 2; have hfz30_3 := blk_frozen BK378.out 3))
           go_ret2
           exact ⟨by first | rfl | (simp [errW_none, errW_some] <;> rfl) | (simp [*, errW_none, errW_some] <;> rfl), by repeat (first | (with_reducible first | exact HB.out | apply below_alloc | apply pw_below_drewN | apply below_drew1 | refine below_set ?_ GE378.out) | exact HB.out)⟩
         ·rw [if_neg c25] at H
          have c25b0 : (((rd_T30 l0 x12_1).f0) == 0) = false := beq_eq_false_iff_ne.mpr c25
          have c25b1 : (((rd_T30 l0 x12_1).f0) != 0) = true := bne_iff_ne.mpr c25
          have e25 : (x12_1 == wrap64 ((l0.length : Int) - 1)) = false := by simpa [c25b0] using c22b0
          have e25 : (x12_1 == wrap64 ((l0.length : Int) - 1)) = false := by simpa [c25b0] using c22b0
          have H' := Aside0.mk H
          clear H
          have p377 : 0 ≤ (x12_1 : Int) := of_decide_eq_true (by first | (with_reducible assumption) | assumption)
          have q377 : x12_1 < (l0.length : Int) := of_decide_eq_true (by first | (with_reducible assumption) | assumption)
          obtain ⟨ad377, e377, hx377_0, hx377_1, hx377_2, hx377_3⟩ := at_T30 HR0.out x12_1 p377 q377
          cases e377
          replace hx377_0 := (HB.out.cell (World.block_lt_of_cell? w _ hx377_0)).trans hx377_0
          replace hx377_1 := (HB.out.cell (World.block_lt_of_cell? w _ hx377_1)).trans hx377_1
          replace hx377_2 := (HB.out.cell (World.block_lt_of_cell? w _ hx377_2)).trans hx377_2
          replace hx377_3 := (HB.out.cell (World.block_lt_of_cell? w _ hx377_3)).trans hx377_3
          replace p377 := eq_true p377
          replace q377 := eq_true q377
          go_wp2_with (first | ((with_reducible refine gate_dst (N := 9) rfl ?_); (try (refine gate_guard (by rfl) ?_; dsimp only)); refine box_event ?hg (N := 9) ?hd (cs := #[.int .i64 0, .string (⟨#[]⟩ : ByteArray), .string (⟨#[]⟩ : ByteArray), .int .i64 0]) (t := 30) ?hr ?_; (case hd => rfl); (case hg => rfl); (case hr => first | (go_simp; done) | (go_simp; rfl)); intro gb378 hg w31 hbox hb; have n0_ := Aside0.mk (below_step (by repeat (first | (with_reducible first | exact HB.out | apply below_alloc | apply pw_below_drewN | apply below_drew1) | exact HB.out)) hb); have n1_ := Aside0.mk (hbox); have n2_ := Aside0.mk ((by rw [hg]; exact (below_size (by repeat (first | (with_reducible first | exact HB.out | apply below_alloc | apply pw_below_drewN | apply below_drew1) | exact HB.out))) : w.heap.size ≤ gb378)); have n3_ := Aside0.mk ((by rw [hg]; exact (below_size (by repeat (first | (with_reducible first | exact HB.out | apply below_alloc | apply pw_below_drewN | apply below_drew1) | exact HB.out))) : w.heap.size ≤ gb378)); clear HB; have HB := n0_; have BK378 := n1_; have GW378 := n2_; have GE378 := n3_; clear n0_ n1_ n2_ n3_; clear hb hbox hg; have hcz32_0 : w31.cell? ⟨gb378, 0, none⟩ = some (.int .i64 0) := (blk_cell BK378.out 0).trans rfl; have hcz32_1 : w31.cell? ⟨gb378, 1, none⟩ = some (.string (⟨#[]⟩ : ByteArray)) := (blk_cell BK378.out 1).trans rfl; have hcz32_2 : w31.cell? ⟨gb378, 2, none⟩ = some (.string (⟨#[]⟩ : ByteArray)) := (blk_cell BK378.out 2).trans rfl; have hcz32_3 : w31.cell? ⟨gb378, 3, none⟩ = some (.int .i64 0) := (blk_cell BK378.out 3).trans rfl; have hfz32_0 := blk_frozen BK378.out 0; have hfz32_1 := blk_frozen BK378.out 1; have hfz32_2 := blk_frozen BK378.out 2; have hfz32_3 := blk_frozen BK378.out 3))
          go_roundg k1
          case measure => have := HK1.out; omega
          case rel => exact ⟨(wrap64 ((wrap64 (x6_1 + (((rd_T30 l0 x12_1).f1).size : Int))) + (((rd_T30 l0 x12_1).f2).size : Int))), (x7_1), (wrap64 (x12_1 + 1)), (by first | rfl | (simp; done) | (simp [*]; done)), (by first | rfl | (simp; done) | (simp [*]; done)), (by first | rfl | (simp; done) | (simp [*]; done)), H', ⟨by have := HK1.out; omega⟩, ⟨by repeat (first | (with_reducible first | exact HB.out | apply below_alloc | apply pw_below_drewN | apply below_drew1 | refine below_set ?_ GE378.out) | exact HB.out)⟩⟩
       ·rw [if_neg c21] at H
        have c21b0 : (((rd_T30 l0 x12_1).f3) == (wrap64 (x6_1 + (((rd_T30 l0 x12_1).f1).size : Int)))) = false := beq_eq_false_iff_ne.mpr c21
        have c21b1 : (((rd_T30 l0 x12_1).f3) != (wrap64 (x6_1 + (((rd_T30 l0 x12_1).f1).size : Int)))) = true := bne_iff_ne.mpr c21
        simp only [Option.some.injEq, Prod.mk.injEq] at H
        obtain ⟨rfl, rfl⟩ := H
        have p377 : 0 ≤ (x12_1 : Int) := of_decide_eq_true (by first | (with_reducible assumption) | assumption)
        have q377 : x12_1 < (l0.length : Int) := of_decide_eq_true (by first | (with_reducible assumption) | assumption)
        obtain ⟨ad377, e377, hx377_0, hx377_1, hx377_2, hx377_3⟩ := at_T30 HR0.out x12_1 p377 q377
        cases e377
        replace hx377_0 := (HB.out.cell (World.block_lt_of_cell? w _ hx377_0)).trans hx377_0
        replace hx377_1 := (HB.out.cell (World.block_lt_of_cell? w _ hx377_1)).trans hx377_1
        replace hx377_2 := (HB.out.cell (World.block_lt_of_cell? w _ hx377_2)).trans hx377_2
        replace hx377_3 := (HB.out.cell (World.block_lt_of_cell? w _ hx377_3)).trans hx377_3
        replace p377 := eq_true p377
        replace q377 := eq_true q377
        go_wp2_with (first | ((with_reducible refine gate_dst (N := 9) rfl ?_); (try (refine gate_guard (by rfl) ?_; dsimp only)); refine box_event ?hg (N := 9) ?hd (cs := #[.int .i64 0, .string (⟨#[]⟩ : ByteArray), .string (⟨#[]⟩ : ByteArray), .int .i64 0]) (t := 30) ?hr ?_; (case hd => rfl); (case hg => rfl); (case hr => first | (go_simp; done) | (go_simp; rfl)); intro gb378 hg w33 hbox hb; have n0_ := Aside0.mk (below_step (by repeat (first | (with_reducible first | exact HB.out | apply below_alloc | apply pw_below_drewN | apply below_drew1) | exact HB.out)) hb); have n1_ := Aside0.mk (hbox); have n2_ := Aside0.mk ((by rw [hg]; exact (below_size (by repeat (first | (with_reducible first | exact HB.out | apply below_alloc | apply pw_below_drewN | apply below_drew1) | exact HB.out))) : w.heap.size ≤ gb378)); have n3_ := Aside0.mk ((by rw [hg]; exact (below_size (by repeat (first | (with_reducible first | exact HB.out | apply below_alloc | apply pw_below_drewN | apply below_drew1) | exact HB.out))) : w.heap.size ≤ gb378)); clear HB; have HB := n0_; have BK378 := n1_; have GW378 := n2_; have GE378 := n3_; clear n0_ n1_ n2_ n3_; clear hb hbox hg; have hcz34_0 : w33.cell? ⟨gb378, 0, none⟩ = some (.int .i64 0) := (blk_cell BK378.out 0).trans rfl; have hcz34_1 : w33.cell? ⟨gb378, 1, none⟩ = some (.string (⟨#[]⟩ : ByteArray)) := (blk_cell BK378.out 1).trans rfl; have hcz34_2 : w33.cell? ⟨gb378, 2, none⟩ = some (.string (⟨#[]⟩ : ByteArray)) := (blk_cell BK378.out 2).trans rfl; have hcz34_3 : w33.cell? ⟨gb378, 3, none⟩ = some (.int .i64 0) := (blk_cell BK378.out 3).trans rfl; have hfz34_0 := blk_frozen BK378.out 0; have hfz34_1 := blk_frozen BK378.out 1; have hfz34_2 := blk_frozen BK378.out 2; have hfz34_3 := blk_frozen BK378.out 3))
        go_ret2
        exact ⟨by first | rfl | (simp [errW_none, errW_some] <;> rfl) | (simp [*, errW_none, errW_some] <;> rfl), by repeat (first | (with_reducible first | exact HB.out | apply below_alloc | apply pw_below_drewN | apply below_drew1 | refine below_set ?_ GE378.out) | exact HB.out)⟩
     ·rw [if_neg c5] at H
      exact absurd H (by simp)
    ·rw [if_neg c4] at H
     exact absurd H (by simp)
   ·rw [if_neg c3] at H
    have c3b0 : decide (x12_1 < (l0.length : Int)) = false := decide_eq_false c3
    clear c3
    by_cases c35 : (l0.length : Int) = 0
    ·rw [if_pos c35] at H
     have c35b0 : ((l0.length : Int) == 0) = true := beq_iff_eq.mpr c35
     have c35b1 : ((l0.length : Int) != 0) = false := bne_eq_false_iff_eq.mpr c35
     clear c35
     simp only [Option.some.injEq, Prod.mk.injEq] at H
     obtain ⟨rfl, rfl⟩ := H
     go_wp2
     go_ret2
     exact ⟨by first | rfl | (simp [errW_none, errW_some] <;> rfl) | (simp [*, errW_none, errW_some] <;> rfl), by repeat (first | (with_reducible first | exact HB.out | apply below_alloc | apply pw_below_drewN | apply below_drew1) | exact HB.out)⟩
    ·rw [if_neg c35] at H
     have c35b0 : ((l0.length : Int) == 0) = false := beq_eq_false_iff_ne.mpr c35
     have c35b1 : ((l0.length : Int) != 0) = true := bne_iff_ne.mpr c35
     have c35b2 : ¬ (l0 = []) := fun h_ => c35 (by rw [h_]; rfl)
     have HC36 := Aside0.mk H
     clear H
     go_upto_region 14 with (fail)
     go_cut [61] (fun v61 wc => ∃ (kq : Nat) (x61_35 : Bool), v61 = .bool x61_35 ∧ Aside0 (lex_At.j1 kq l0 a1 x6_1 x7_1 x61_35 = some (r1, r2)) ∧ Aside0 (kq ≤ k1) ∧ Aside0 (Below w.heap.size w wc))
     case first =>
      have H := HC36.out
      clear HC36
      by_cases c37 : a1 < 0
      ·rw [if_pos c37] at H
       have c37b0 : decide (a1 < 0) = true := decide_eq_true c37
       clear c37
       (first | rw [c37b0] | (simp only [i64_w, i32_w]; rw [c37b0]) | skip)
       have H' := Aside0.mk H
       clear H
       go_wp2
       go_meet
       case rel => exact ⟨_, (true), (by first | rfl | (simp; done) | (simp [*]; done)), H', ⟨by have := HK1.out; first | omega | exact Nat.le_refl _⟩, ⟨by repeat (first | (with_reducible first | exact HB.out | apply below_alloc | apply pw_below_drewN | apply below_drew1) | exact HB.out)⟩⟩
      ·rw [if_neg c37] at H
       have c37b0 : decide (a1 < 0) = false := decide_eq_false c37
       clear c37
       (first | rw [c37b0] | (simp only [i64_w, i32_w]; rw [c37b0]) | skip)
       have H' := Aside0.mk H
       clear H
       go_wp2
       go_meet
       case rel => exact ⟨_, (decide (a1 > x6_1)), (by first | rfl | (simp; done) | (simp [*]; done)), H', ⟨by have := HK1.out; first | omega | exact Nat.le_refl _⟩, ⟨by repeat (first | (with_reducible first | exact HB.out | apply below_alloc | apply pw_below_drewN | apply below_drew1) | exact HB.out)⟩⟩
     case rest =>
      clear HC36
      try clear c1
      try clear c2
      try clear p2
      try clear c3
      try clear c3b0
      try clear p3
      try clear q3
      try clear hx3
      try clear c4
      try clear c4b0
      try clear c5
      try clear c5b0
      try clear c6
      try clear c6b0
      try clear p6
      try clear c7
      try clear c7b0
      try clear c7b1
      try clear c8
      try clear c8b0
      try clear c8b1
      try clear c8b2
      try clear c11
      try clear c11b0
      try clear c11b1
      try clear c12
      try clear c12b0
      try clear c12b1
      try clear c21
      try clear c21b0
      try clear c21b1
      try clear c22
      try clear c22b0
      try clear c22b1
      try clear c22b2
      try clear c25
      try clear c25b0
      try clear c25b1
      try clear c26
      try clear c26b0
      try clear c26b1
      try clear c35
      try clear c35b0
      try clear c35b1
      try clear c35b2
      try clear c37
      try clear c37b0
      try clear p37
      try clear q37
      try clear hx37
      try clear hcz10_0
      try clear hcz10_1
      try clear hcz10_2
      try clear hcz10_3
      try clear hcz14_0
      try clear hcz14_1
      try clear hcz14_2
      try clear hcz14_3
      try clear hcz16_0
      try clear hcz16_1
      try clear hcz16_2
      try clear hcz16_3
      try clear hcz18_0
      try clear hcz18_1
      try clear hcz18_2
      try clear hcz18_3
      try clear hcz20_0
      try clear hcz20_1
      try clear hcz20_2
      try clear hcz20_3
      try clear hcz24_0
      try clear hcz24_1
      try clear hcz24_2
      try clear hcz24_3
      try clear hcz28_0
      try clear hcz28_1
      try clear hcz28_2
      try clear hcz28_3
      try clear hcz30_0
      try clear hcz30_1
      try clear hcz30_2
      try clear hcz30_3
      try clear hcz32_0
      try clear hcz32_1
      try clear hcz32_2
      try clear hcz32_3
      try clear hcz34_0
      try clear hcz34_1
      try clear hcz34_2
      try clear hcz34_3
      try clear hfz10_0
      try clear hfz10_1
      try clear hfz10_2
      try clear hfz10_3
      try clear hfz14_0
      try clear hfz14_1
      try clear hfz14_2
      try clear hfz14_3
      try clear hfz16_0
      try clear hfz16_1
      try clear hfz16_2
      try clear hfz16_3
      try clear hfz18_0
      try clear hfz18_1
      try clear hfz18_2
      try clear hfz18_3
      try clear hfz20_0
      try clear hfz20_1
      try clear hfz20_2
      try clear hfz20_3
      try clear hfz24_0
      try clear hfz24_1
      try clear hfz24_2
      try clear hfz24_3
      try clear hfz28_0
      try clear hfz28_1
      try clear hfz28_2
      try clear hfz28_3
      try clear hfz30_0
      try clear hfz30_1
      try clear hfz30_2
      try clear hfz30_3
      try clear hfz32_0
      try clear hfz32_1
      try clear hfz32_2
      try clear hfz32_3
      try clear hfz34_0
      try clear hfz34_1
      try clear hfz34_2
      try clear hfz34_3
      try clear hx377_0
      try clear hx377_1
      try clear hx377_2
      try clear hx377_3
      try clear p2
      try clear p377
      try clear q377
      obtain ⟨kq, x61_35, rfl, HA, HJ35, HB⟩ := hcut
      cases kq with
      | zero => exact absurd HA.out (by simp [lex_At.j1])
      | succ kj35 =>
       have H := HA.out
       clear HA
       simp only [lex_At.j1] at H
       by_cases c38 : x61_35 = true
       ·subst c38
        have H1 : (some (0, 1)) = some (r1, r2) := by rw [if_pos rfl] at H; exact H
        clear H
        have H := H1
        clear H1
        simp only [Option.some.injEq, Prod.mk.injEq] at H
        obtain ⟨rfl, rfl⟩ := H
        go_wp2
        go_ret2
        exact ⟨by first | rfl | (simp [errW_none, errW_some] <;> rfl) | (simp [*, errW_none, errW_some] <;> rfl), by repeat (first | (with_reducible first | exact HB.out | apply below_alloc | apply pw_below_drewN | apply below_drew1) | exact HB.out)⟩
       ·replace c38 := Bool.eq_false_iff.mpr c38
        subst c38
        have H1 : (if a1 = x6_1 then (some (wrap64 ((l0.length : Int) - 1), 0)) else (some (x7_1, 0))) = some (r1, r2) := by rw [if_neg (show ¬ (false = true) by decide)] at H; exact H
        clear H
        have H := H1
        clear H1
        by_cases c39 : a1 = x6_1
        ·rw [if_pos c39] at H
         have c39b0 : (a1 == x6_1) = true := beq_iff_eq.mpr c39
         have c39b1 : (a1 != x6_1) = false := bne_eq_false_iff_eq.mpr c39
         clear c39
         simp only [Option.some.injEq, Prod.mk.injEq] at H
         obtain ⟨rfl, rfl⟩ := H
         go_wp2
         go_ret2
         exact ⟨by first | rfl | (simp [errW_none, errW_some] <;> rfl) | (simp [*, errW_none, errW_some] <;> rfl), by repeat (first | (with_reducible first | exact HB.out | apply below_alloc | apply pw_below_drewN | apply below_drew1) | exact HB.out)⟩
        ·rw [if_neg c39] at H
         have c39b0 : (a1 == x6_1) = false := beq_eq_false_iff_ne.mpr c39
         have c39b1 : (a1 != x6_1) = true := bne_iff_ne.mpr c39
         simp only [Option.some.injEq, Prod.mk.injEq] at H
         obtain ⟨rfl, rfl⟩ := H
         go_wp2
         go_ret2
         exact ⟨by first | rfl | (simp [errW_none, errW_some] <;> rfl) | (simp [*, errW_none, errW_some] <;> rfl), by repeat (first | (with_reducible first | exact HB.out | apply below_alloc | apply pw_below_drewN | apply below_drew1) | exact HB.out)⟩

end Go.Proofs.YtabnmkakgcifoaaDoor.PLex

namespace Go.Proofs.YtabnmkakgcifoaaDoor.PLex
open Go.RowKit Go.Proofs.YtabnmkakgcifoaaDoorW.PrintWords Go.Proofs.YtabnmkakgcifoaaDoorW.PrintLast Go.Proofs.YtabnmkakgcifoaaDoorW.PrintMore
attribute [local go_sem] max2_int min2_int max_two min_two max_three min_three max_four min_four   -- for this text's walks alone
set_option linter.unusedVariables false
set_option linter.unusedSimpArgs false

def lw2_long.l0 : Nat → List (S30) → Int → Int → Option (Bool)
 | 0, _, _, _ => none
 | k + 1, x0, x3, x4 => if x4 < (x0.length : Int) then (if 0 ≤ x4 then (lw2_long.l0 k x0 (wrap64 (x3 + (wrap64 ((((rd_T30 x0 x4).f1).size : Int) + (((rd_T30 x0 x4).f2).size : Int))))) (wrap64 (x4 + 1))) else (none)) else (if (x0.length : Int) > 40100 then (some true) else (some (decide (x3 > 200100))))
def lw2_long.f (k : Nat) (l0 : List (S30)) : Option (Bool) := lw2_long.l0 k l0 0 0
set_option maxHeartbeats 8000000 in
set_option maxRecDepth 100000 in
theorem lw2_long.calls (k : Nat) (A0 : Option Addr) (c0 : Nat) (l0 : List (S30)) (r : Bool) (w : World) (hr0 : Kd.C k30 w A0 l0.length l0) (hc0 : l0.length ≤ c0) (h : lw2_long.f k l0 = some r) :
  Calls Tryd.prog 27 #[.slice A0 l0.length c0] w fun e w' => e = .returned (.bool r) ∧ Drawn0 w w' := by
 have HR0 := Aside0.mk hr0
 have HC0 := Aside0.mk hc0
 clear hr0 hc0
 have H : (lw2_long.l0 k l0 0 0) = some r := h
 clear h
 have H' := Aside0.mk H
 clear H
 go_enter Tryd.func27, Tryd.ntmps27
 go_wp2
 repeat (go_quiet (fail); try go_wp2)
 try simp only [Act.put, List.setIfInBounds_toArray, List.set_cons_succ, List.set_cons_zero]
 go_loopg [3, 4] k (fun kq v3 v4 w' => ∃ (x3_1 : Int) (x4_1 : Int), v3 = .int .i64 x3_1 ∧ v4 = .int .i64 x4_1 ∧ Aside0 (lw2_long.l0 kq l0 x3_1 x4_1 = some r) ∧ Aside0 (kq ≤ k) ∧ Drawn0 w w')
 case atStart => exact ⟨(0), (0), (by first | rfl | (simp; done) | (simp [*]; done)), (by first | rfl | (simp; done) | (simp [*]; done)), H', ⟨Nat.le_refl _⟩, by repeat (first | exact Drawn0.refl _ | apply Drawn0.step)⟩
 case round =>
  clear H'
  obtain ⟨x3_1, x4_1, rfl, rfl, HA, HK1, ⟨m1, rfl⟩⟩ := hrel
  cases gk with
  | zero => exact absurd HA.out (by simp [lw2_long.l0])
  | succ k1 =>
   have H := HA.out
   clear HA
   simp only [lw2_long.l0] at H
   by_cases c2 : x4_1 < (l0.length : Int)
   ·rw [if_pos c2] at H
    have c2b0 : decide (x4_1 < (l0.length : Int)) = true := decide_eq_true c2
    clear c2
    by_cases c3 : 0 ≤ x4_1
    ·rw [if_pos c3] at H
     have c3b0 : decide (0 ≤ x4_1) = true := decide_eq_true c3
     clear c3
     have H' := Aside0.mk H
     clear H
     have p394 : 0 ≤ (x4_1 : Int) := of_decide_eq_true (by first | (with_reducible assumption) | assumption)
     have q394 : x4_1 < (l0.length : Int) := of_decide_eq_true (by first | (with_reducible assumption) | assumption)
     obtain ⟨ad394, e394, hx394_0, hx394_1, hx394_2, hx394_3⟩ := at_T30 HR0.out x4_1 p394 q394
     cases e394
     replace p394 := eq_true p394
     replace q394 := eq_true q394
     have p395 : 0 ≤ (x4_1 : Int) := of_decide_eq_true (by first | (with_reducible assumption) | assumption)
     have q395 : x4_1 < (l0.length : Int) := of_decide_eq_true (by first | (with_reducible assumption) | assumption)
     obtain ⟨ad395, e395, hx395_0, hx395_1, hx395_2, hx395_3⟩ := at_T30 HR0.out x4_1 p395 q395
     obtain rfl : ad394 = ad395 := (by injection e395)
     replace p395 := eq_true p395
     replace q395 := eq_true q395
     go_wp2
     repeat (go_quiet (fail); try go_wp2)
     go_roundg k1
     case measure => have := HK1.out; omega
     case rel => exact ⟨(wrap64 (x3_1 + (wrap64 ((((rd_T30 l0 x4_1).f1).size : Int) + (((rd_T30 l0 x4_1).f2).size : Int))))), (wrap64 (x4_1 + 1)), (by first | rfl | (simp; done) | (simp [*]; done)), (by first | rfl | (simp; done) | (simp [*]; done)), H', ⟨by have := HK1.out; omega⟩, by repeat (first | exact Drawn0.refl _ | apply Drawn0.step)⟩
    ·rw [if_neg c3] at H
     exact absurd H (by simp)
   ·rw [if_neg c2] at H
    have c2b0 : decide (x4_1 < (l0.length : Int)) = false := decide_eq_false c2
    clear c2
    by_cases c4 : (l0.length : Int) > 40100
    ·rw [if_pos c4] at H
     have c4b0 : decide (40100 < (l0.length : Int)) = true := decide_eq_true c4
     have c4b1 : decide (40100 < l0.length) = true := decide_eq_true (by omega)
     clear c4
     obtain rfl := Option.some.inj H
     go_wp2
     repeat (go_quiet (fail); try go_wp2)
     go_ret
     exact ⟨by first | rfl | (simp; done) | (simp [*]; done), by repeat (first | exact Drawn0.refl _ | apply Drawn0.step)⟩
    ·rw [if_neg c4] at H
     have c4b0 : decide (40100 < (l0.length : Int)) = false := decide_eq_false c4
     have c4b1 : decide (40100 < l0.length) = false := decide_eq_false (by omega)
     clear c4
     obtain rfl := Option.some.inj H
     go_wp2
     repeat (go_quiet (fail); try go_wp2)
     go_ret
     exact ⟨by first | rfl | (simp; done) | (simp [*]; done), by repeat (first | exact Drawn0.refl _ | apply Drawn0.step)⟩

end Go.Proofs.YtabnmkakgcifoaaDoor.PLex

namespace Go.Proofs.YtabnmkakgcifoaaDoor.PLex
open Go.RowKit Go.Proofs.YtabnmkakgcifoaaDoorW.PrintWords Go.Proofs.YtabnmkakgcifoaaDoorW.PrintLast Go.Proofs.YtabnmkakgcifoaaDoorW.PrintMore
attribute [local go_sem] max2_int min2_int max_two min_two max_three min_three max_four min_four   -- for this text's walks alone
set_option linter.unusedVariables false
set_option linter.unusedSimpArgs false

mutual
def rf2_At.l0 : Nat → List (S30) → Int → Int → Int → Option (Int × Int)
 | 0, _, _, _, _ => none
 | k + 1, x0, x1, x6, x7 => if x7 < (x0.length : Int) then (if 0 ≤ x7 then (if ((rd_T30 x0 x7).f3) = (wrap64 (x6 + (((rd_T30 x0 x7).f1).size : Int))) then (if ((((rd_T30 x0 x7).f0) == 0) != (x7 == (wrap64 ((x0.length : Int) - 1)))) = true then (some (0, 3)) else (if x7 = (wrap64 ((x0.length : Int) - 1)) then (if ((rd_T30 x0 x7).f2).toList = ([] : List UInt8) then (rf2_At.l0 k x0 x1 (wrap64 ((wrap64 (x6 + (((rd_T30 x0 x7).f1).size : Int))) + (((rd_T30 x0 x7).f2).size : Int))) (wrap64 (x7 + 1))) else (some (0, 3))) else (rf2_At.l0 k x0 x1 (wrap64 ((wrap64 (x6 + (((rd_T30 x0 x7).f1).size : Int))) + (((rd_T30 x0 x7).f2).size : Int))) (wrap64 (x7 + 1))))) else (some (0, 3))) else (none)) else (if x1 < 0 then (rf2_At.j1 k x0 x1 true) else (rf2_At.j1 k x0 x1 (decide (x1 > x6))))
def rf2_At.j1 : Nat → List (S30) → Int → Bool → Option (Int × Int)
 | 0, _, _, _ => none
 | k + 1, x0, x1, x75 => if x75 = true then (some (0, 1)) else (rf2_At.l1 k x0 x1 0 0)
def rf2_At.l1 : Nat → List (S30) → Int → Int → Int → Option (Int × Int)
 | 0, _, _, _, _ => none
 | k + 1, x0, x1, x9, x10 => if x10 < (x0.length : Int) then (if 0 ≤ x10 then (if x1 < (wrap64 (x9 + (wrap64 ((((rd_T30 x0 x10).f1).size : Int) + (((rd_T30 x0 x10).f2).size : Int))))) then (some (x10, 0)) else (rf2_At.l1 k x0 x1 (wrap64 (x9 + (wrap64 ((((rd_T30 x0 x10).f1).size : Int) + (((rd_T30 x0 x10).f2).size : Int))))) (wrap64 (x10 + 1)))) else (none)) else (some (wrap64 ((x0.length : Int) - 1), 0))
end
def rf2_At.f (k : Nat) (l0 : List (S30)) (a1 : Int) : Option (Int × Int) := if (l0.length : Int) = 0 then (some (0, 3)) else (rf2_At.l0 k l0 a1 0 0)
set_option maxHeartbeats 8000000 in
set_option maxRecDepth 100000 in
theorem rf2_At.calls (k : Nat) (A0 : Option Addr) (c0 : Nat) (l0 : List (S30)) (a1 : Int) (r1 : Int) (r2 : Int) (w : World) (hr0 : Kd.C k30 w A0 l0.length l0) (hc0 : l0.length ≤ c0) (h : rf2_At.f k l0 a1 = some (r1, r2)) :
  Calls Tryd.prog 28 #[.slice A0 l0.length c0, .int .i64 a1] w fun e w' => e = .returned (.tuple #[.int .i64 r1, .int .i64 r2]) ∧ Drawn0 w w' := by
 have HR0 := Aside0.mk hr0
 have HC0 := Aside0.mk hc0
 clear hr0 hc0
 have H : (if (l0.length : Int) = 0 then (some (0, 3)) else (rf2_At.l0 k l0 a1 0 0)) = some (r1, r2) := h
 clear h
 by_cases c3 : (l0.length : Int) = 0
 ·rw [if_pos c3] at H
  have c3b0 : ((l0.length : Int) == 0) = true := beq_iff_eq.mpr c3
  have c3b1 : ((l0.length : Int) != 0) = false := bne_eq_false_iff_eq.mpr c3
  clear c3
  simp only [Option.some.injEq, Prod.mk.injEq] at H
  obtain ⟨rfl, rfl⟩ := H
  go_enter Tryd.func28, Tryd.ntmps28
  go_wp2
  repeat (go_quiet (fail); try go_wp2)
  go_ret2
  exact ⟨by first | rfl | (simp; done) | (simp [*]; done), by repeat (first | exact Drawn0.refl _ | apply Drawn0.step)⟩
 ·rw [if_neg c3] at H
  have c3b0 : ((l0.length : Int) == 0) = false := beq_eq_false_iff_ne.mpr c3
  have c3b1 : ((l0.length : Int) != 0) = true := bne_iff_ne.mpr c3
  have c3b2 : ¬ (l0 = []) := fun h_ => c3 (by rw [h_]; rfl)
  have H' := Aside0.mk H
  clear H
  go_enter Tryd.func28, Tryd.ntmps28
  go_wp2
  repeat (go_quiet (fail); try go_wp2)
  try simp only [Act.put, List.setIfInBounds_toArray, List.set_cons_succ, List.set_cons_zero]
  go_loopg [6, 7] k (fun kq v6 v7 w' => ∃ (x6_1 : Int) (x7_1 : Int), v6 = .int .i64 x6_1 ∧ v7 = .int .i64 x7_1 ∧ Aside0 (rf2_At.l0 kq l0 a1 x6_1 x7_1 = some (r1, r2)) ∧ Aside0 (kq ≤ k) ∧ Drawn0 w w')
  case atStart => exact ⟨(0), (0), (by first | rfl | (simp; done) | (simp [*]; done)), (by first | rfl | (simp; done) | (simp [*]; done)), H', ⟨Nat.le_refl _⟩, by repeat (first | exact Drawn0.refl _ | apply Drawn0.step)⟩
  case round =>
   clear H'
   try clear c2
   try clear p2
   try clear c3
   try clear c3b0
   try clear c3b1
   try clear c3b2
   obtain ⟨x6_1, x7_1, rfl, rfl, HA, HK1, ⟨m1, rfl⟩⟩ := hrel
   cases gk with
   | zero => exact absurd HA.out (by simp [rf2_At.l0])
   | succ k1 =>
    have H := HA.out
    clear HA
    simp only [rf2_At.l0] at H
    by_cases c4 : x7_1 < (l0.length : Int)
    ·rw [if_pos c4] at H
     have c4b0 : decide (x7_1 < (l0.length : Int)) = true := decide_eq_true c4
     clear c4
     by_cases c5 : 0 ≤ x7_1
     ·rw [if_pos c5] at H
      have c5b0 : decide (0 ≤ x7_1) = true := decide_eq_true c5
      clear c5
      by_cases c6 : ((rd_T30 l0 x7_1).f3) = (wrap64 (x6_1 + (((rd_T30 l0 x7_1).f1).size : Int)))
      ·rw [if_pos c6] at H
       have c6b0 : (((rd_T30 l0 x7_1).f3) == (wrap64 (x6_1 + (((rd_T30 l0 x7_1).f1).size : Int)))) = true := beq_iff_eq.mpr c6
       have c6b1 : (((rd_T30 l0 x7_1).f3) != (wrap64 (x6_1 + (((rd_T30 l0 x7_1).f1).size : Int)))) = false := bne_eq_false_iff_eq.mpr c6
       clear c6
       by_cases c7 : ((((rd_T30 l0 x7_1).f0) == 0) != (x7_1 == (wrap64 ((l0.length : Int) - 1)))) = true
       ·rw [if_pos c7] at H
        have c7b0 : ((((rd_T30 l0 x7_1).f0) == 0) != (x7_1 == (wrap64 ((l0.length : Int) - 1)))) = true := c7
        (try (have c7b1 : decide ((((rd_T30 l0 x7_1).f0) == 0) = (x7_1 == (wrap64 ((l0.length : Int) - 1)))) = false := by simpa using c7))
        (try (have c7b2 : ((((rd_T30 l0 x7_1).f0) == 0) == (x7_1 == (wrap64 ((l0.length : Int) - 1)))) = false := by simpa using c7))
        (try (have c7b3 : ¬ ((((rd_T30 l0 x7_1).f0) == 0) = (x7_1 == (wrap64 ((l0.length : Int) - 1)))) := by simpa using c7))
        clear c7
        simp only [Option.some.injEq, Prod.mk.injEq] at H
        obtain ⟨rfl, rfl⟩ := H
        have p396 : 0 ≤ (x7_1 : Int) := of_decide_eq_true (by first | (with_reducible assumption) | assumption)
        have q396 : x7_1 < (l0.length : Int) := of_decide_eq_true (by first | (with_reducible assumption) | assumption)
        obtain ⟨ad396, e396, hx396_0, hx396_1, hx396_2, hx396_3⟩ := at_T30 HR0.out x7_1 p396 q396
        cases e396
        replace p396 := eq_true p396
        replace q396 := eq_true q396
        have p397 : 0 ≤ (x7_1 : Int) := of_decide_eq_true (by first | (with_reducible assumption) | assumption)
        have q397 : x7_1 < (l0.length : Int) := of_decide_eq_true (by first | (with_reducible assumption) | assumption)
        obtain ⟨ad397, e397, hx397_0, hx397_1, hx397_2, hx397_3⟩ := at_T30 HR0.out x7_1 p397 q397
        obtain rfl : ad396 = ad397 := (by injection e397)
        replace p397 := eq_true p397
        replace q397 := eq_true q397
        have p398 : 0 ≤ (x7_1 : Int) := of_decide_eq_true (by first | (with_reducible assumption) | assumption)
        have q398 : x7_1 < (l0.length : Int) := of_decide_eq_true (by first | (with_reducible assumption) | assumption)
        obtain ⟨ad398, e398, hx398_0, hx398_1, hx398_2, hx398_3⟩ := at_T30 HR0.out x7_1 p398 q398
        obtain rfl : ad396 = ad398 := (by injection e398)
        replace p398 := eq_true p398
        replace q398 := eq_true q398
        go_wp2
        repeat (go_quiet (fail); try go_wp2)
        go_ret2
        exact ⟨by first | rfl | (simp; done) | (simp [*]; done), by repeat (first | exact Drawn0.refl _ | apply Drawn0.step)⟩
       ·rw [if_neg c7] at H
        have c7b0 : ((((rd_T30 l0 x7_1).f0) == 0) != (x7_1 == (wrap64 ((l0.length : Int) - 1)))) = false := by simpa using c7
        (try (have c7b1 : decide ((((rd_T30 l0 x7_1).f0) == 0) = (x7_1 == (wrap64 ((l0.length : Int) - 1)))) = true := by simpa using c7))
        (try (have c7b2 : ((((rd_T30 l0 x7_1).f0) == 0) == (x7_1 == (wrap64 ((l0.length : Int) - 1)))) = true := by simpa using c7))
        clear c7
        by_cases c8 : x7_1 = (wrap64 ((l0.length : Int) - 1))
        ·rw [if_pos c8] at H
         have c8b0 : (x7_1 == (wrap64 ((l0.length : Int) - 1))) = true := beq_iff_eq.mpr c8
         have c8b1 : (x7_1 != (wrap64 ((l0.length : Int) - 1))) = false := bne_eq_false_iff_eq.mpr c8
         have f8 : (((rd_T30 l0 x7_1).f0) == 0) = true := by simpa [c8b0] using c7b0
         have f8 : (((rd_T30 l0 x7_1).f0) == 0) = true := by simpa [c8b0] using c7b0
         clear c8
         by_cases c9 : ((rd_T30 l0 x7_1).f2).toList = ([] : List UInt8)
         ·rw [if_pos c9] at H
          have c9b0 : (((rd_T30 l0 x7_1).f2).toList == ([] : List UInt8)) = true := beq_iff_eq.mpr c9
          have c9b1 : (((rd_T30 l0 x7_1).f2).toList != ([] : List UInt8)) = false := bne_eq_false_iff_eq.mpr c9
          clear c9
          have H' := Aside0.mk H
          clear H
          have p396 : 0 ≤ (x7_1 : Int) := of_decide_eq_true (by first | (with_reducible assumption) | assumption)
          have q396 : x7_1 < (l0.length : Int) := of_decide_eq_true (by first | (with_reducible assumption) | assumption)
          obtain ⟨ad396, e396, hx396_0, hx396_1, hx396_2, hx396_3⟩ := at_T30 HR0.out x7_1 p396 q396
          cases e396
          replace p396 := eq_true p396
          replace q396 := eq_true q396
          have p397 : 0 ≤ (x7_1 : Int) := of_decide_eq_true (by first | (with_reducible assumption) | assumption)
          have q397 : x7_1 < (l0.length : Int) := of_decide_eq_true (by first | (with_reducible assumption) | assumption)
          obtain ⟨ad397, e397, hx397_0, hx397_1, hx397_2, hx397_3⟩ := at_T30 HR0.out x7_1 p397 q397
          obtain rfl : ad396 = ad397 := (by injection e397)
          replace p397 := eq_true p397
          replace q397 := eq_true q397
          have p398 : 0 ≤ (x7_1 : Int) := of_decide_eq_true (by first | (with_reducible assumption) | assumption)
          have q398 : x7_1 < (l0.length : Int) := of_decide_eq_true (by first | (with_reducible assumption) | assumption)
          obtain ⟨ad398, e398, hx398_0, hx398_1, hx398_2, hx398_3⟩ := at_T30 HR0.out x7_1 p398 q398
          obtain rfl : ad396 = ad398 := (by injection e398)
          replace p398 := eq_true p398
          replace q398 := eq_true q398
          have p399 : 0 ≤ (x7_1 : Int) := of_decide_eq_true (by first | (with_reducible assumption) | assumption)
          have q399 : x7_1 < (l0.length : Int) := of_decide_eq_true (by first | (with_reducible assumption) | assumption)
          obtain ⟨ad399, e399, hx399_0, hx399_1, hx399_2, hx399_3⟩ := at_T30 HR0.out x7_1 p399 q399
          obtain rfl : ad396 = ad399 := (by injection e399)
          replace p399 := eq_true p399
          replace q399 := eq_true q399
          have p400 : 0 ≤ (x7_1 : Int) := of_decide_eq_true (by first | (with_reducible assumption) | assumption)
          have q400 : x7_1 < (l0.length : Int) := of_decide_eq_true (by first | (with_reducible assumption) | assumption)
          obtain ⟨ad400, e400, hx400_0, hx400_1, hx400_2, hx400_3⟩ := at_T30 HR0.out x7_1 p400 q400
          obtain rfl : ad396 = ad400 := (by injection e400)
          replace p400 := eq_true p400
          replace q400 := eq_true q400
          go_wp2
          repeat (go_quiet (fail); try go_wp2)
          go_roundg k1
          case measure => have := HK1.out; omega
          case rel => exact ⟨(wrap64 ((wrap64 (x6_1 + (((rd_T30 l0 x7_1).f1).size : Int))) + (((rd_T30 l0 x7_1).f2).size : Int))), (wrap64 (x7_1 + 1)), (by first | rfl | (simp; done) | (simp [*]; done)), (by first | rfl | (simp; done) | (simp [*]; done)), H', ⟨by have := HK1.out; omega⟩, by repeat (first | exact Drawn0.refl _ | apply Drawn0.step)⟩
         ·rw [if_neg c9] at H
          have c9b0 : (((rd_T30 l0 x7_1).f2).toList == ([] : List UInt8)) = false := beq_eq_false_iff_ne.mpr c9
          have c9b1 : (((rd_T30 l0 x7_1).f2).toList != ([] : List UInt8)) = true := bne_iff_ne.mpr c9
          simp only [Option.some.injEq, Prod.mk.injEq] at H
          obtain ⟨rfl, rfl⟩ := H
          have p396 : 0 ≤ (x7_1 : Int) := of_decide_eq_true (by first | (with_reducible assumption) | assumption)
          have q396 : x7_1 < (l0.length : Int) := of_decide_eq_true (by first | (with_reducible assumption) | assumption)
          obtain ⟨ad396, e396, hx396_0, hx396_1, hx396_2, hx396_3⟩ := at_T30 HR0.out x7_1 p396 q396
          cases e396
          replace p396 := eq_true p396
          replace q396 := eq_true q396
          have p397 : 0 ≤ (x7_1 : Int) := of_decide_eq_true (by first | (with_reducible assumption) | assumption)
          have q397 : x7_1 < (l0.length : Int) := of_decide_eq_true (by first | (with_reducible assumption) | assumption)
          obtain ⟨ad397, e397, hx397_0, hx397_1, hx397_2, hx397_3⟩ := at_T30 HR0.out x7_1 p397 q397
          obtain rfl : ad396 = ad397 := (by injection e397)
          replace p397 := eq_true p397
          replace q397 := eq_true q397
          have p398 : 0 ≤ (x7_1 : Int) := of_decide_eq_true (by first | (with_reducible assumption) | assumption)
          have q398 : x7_1 < (l0.length : Int) := of_decide_eq_true (by first | (with_reducible assumption) | assumption)
          obtain ⟨ad398, e398, hx398_0, hx398_1, hx398_2, hx398_3⟩ := at_T30 HR0.out x7_1 p398 q398
          obtain rfl : ad396 = ad398 := (by injection e398)
          replace p398 := eq_true p398
          replace q398 := eq_true q398
          have p399 : 0 ≤ (x7_1 : Int) := of_decide_eq_true (by first | (with_reducible assumption) | assumption)
          have q399 : x7_1 < (l0.length : Int) := of_decide_eq_true (by first | (with_reducible assumption) | assumption)
          obtain ⟨ad399, e399, hx399_0, hx399_1, hx399_2, hx399_3⟩ := at_T30 HR0.out x7_1 p399 q399
          obtain rfl : ad396 = ad399 := (by injection e399)
          replace p399 := eq_true p399
          replace q399 := eq_true q399
          go_wp2
          repeat (go_quiet (fail); try go_wp2)
          go_ret2
          exact ⟨by first | rfl | (simp; done) | (simp [*]; done), by repeat (first | exact Drawn0.refl _ | apply Drawn0.step)⟩
        ·rw [if_neg c8] at H
         have c8b0 : (x7_1 == (wrap64 ((l0.length : Int) - 1))) = false := beq_eq_false_iff_ne.mpr c8
         have c8b1 : (x7_1 != (wrap64 ((l0.length : Int) - 1))) = true := bne_iff_ne.mpr c8
         have f8 : (((rd_T30 l0 x7_1).f0) == 0) = false := by simpa [c8b0] using c7b0
         have f8 : (((rd_T30 l0 x7_1).f0) == 0) = false := by simpa [c8b0] using c7b0
         have H' := Aside0.mk H
         clear H
         have p396 : 0 ≤ (x7_1 : Int) := of_decide_eq_true (by first | (with_reducible assumption) | assumption)
         have q396 : x7_1 < (l0.length : Int) := of_decide_eq_true (by first | (with_reducible assumption) | assumption)
         obtain ⟨ad396, e396, hx396_0, hx396_1, hx396_2, hx396_3⟩ := at_T30 HR0.out x7_1 p396 q396
         cases e396
         replace p396 := eq_true p396
         replace q396 := eq_true q396
         have p397 : 0 ≤ (x7_1 : Int) := of_decide_eq_true (by first | (with_reducible assumption) | assumption)
         have q397 : x7_1 < (l0.length : Int) := of_decide_eq_true (by first | (with_reducible assumption) | assumption)
         obtain ⟨ad397, e397, hx397_0, hx397_1, hx397_2, hx397_3⟩ := at_T30 HR0.out x7_1 p397 q397
         obtain rfl : ad396 = ad397 := (by injection e397)
         replace p397 := eq_true p397
         replace q397 := eq_true q397
         have p398 : 0 ≤ (x7_1 : Int) := of_decide_eq_true (by first | (with_reducible assumption) | assumption)
         have q398 : x7_1 < (l0.length : Int) := of_decide_eq_true (by first | (with_reducible assumption) | assumption)
         obtain ⟨ad398, e398, hx398_0, hx398_1, hx398_2, hx398_3⟩ := at_T30 HR0.out x7_1 p398 q398
         obtain rfl : ad396 = ad398 := (by injection e398)
         replace p398 := eq_true p398
         replace q398 := eq_true q398
         have p401 : 0 ≤ (x7_1 : Int) := of_decide_eq_true (by first | (with_reducible assumption) | assumption)
         have q401 : x7_1 < (l0.length : Int) := of_decide_eq_true (by first | (with_reducible assumption) | assumption)
         obtain ⟨ad401, e401, hx401_0, hx401_1, hx401_2, hx401_3⟩ := at_T30 HR0.out x7_1 p401 q401
         obtain rfl : ad396 = ad401 := (by injection e401)
         replace p401 := eq_true p401
         replace q401 := eq_true q401
         go_wp2
         repeat (go_quiet (fail); try go_wp2)
         go_roundg k1
         case measure => have := HK1.out; omega
         case rel => exact ⟨(wrap64 ((wrap64 (x6_1 + (((rd_T30 l0 x7_1).f1).size : Int))) + (((rd_T30 l0 x7_1).f2).size : Int))), (wrap64 (x7_1 + 1)), (by first | rfl | (simp; done) | (simp [*]; done)), (by first | rfl | (simp; done) | (simp [*]; done)), H', ⟨by have := HK1.out; omega⟩, by repeat (first | exact Drawn0.refl _ | apply Drawn0.step)⟩
      ·rw [if_neg c6] at H
       have c6b0 : (((rd_T30 l0 x7_1).f3) == (wrap64 (x6_1 + (((rd_T30 l0 x7_1).f1).size : Int)))) = false := beq_eq_false_iff_ne.mpr c6
       have c6b1 : (((rd_T30 l0 x7_1).f3) != (wrap64 (x6_1 + (((rd_T30 l0 x7_1).f1).size : Int)))) = true := bne_iff_ne.mpr c6
       simp only [Option.some.injEq, Prod.mk.injEq] at H
       obtain ⟨rfl, rfl⟩ := H
       have p396 : 0 ≤ (x7_1 : Int) := of_decide_eq_true (by first | (with_reducible assumption) | assumption)
       have q396 : x7_1 < (l0.length : Int) := of_decide_eq_true (by first | (with_reducible assumption) | assumption)
       obtain ⟨ad396, e396, hx396_0, hx396_1, hx396_2, hx396_3⟩ := at_T30 HR0.out x7_1 p396 q396
       cases e396
       replace p396 := eq_true p396
       replace q396 := eq_true q396
       have p397 : 0 ≤ (x7_1 : Int) := of_decide_eq_true (by first | (with_reducible assumption) | assumption)
       have q397 : x7_1 < (l0.length : Int) := of_decide_eq_true (by first | (with_reducible assumption) | assumption)
       obtain ⟨ad397, e397, hx397_0, hx397_1, hx397_2, hx397_3⟩ := at_T30 HR0.out x7_1 p397 q397
       obtain rfl : ad396 = ad397 := (by injection e397)
       replace p397 := eq_true p397
       replace q397 := eq_true q397
       go_wp2
       repeat (go_quiet (fail); try go_wp2)
       go_ret2
       exact ⟨by first | rfl | (simp; done) | (simp [*]; done), by repeat (first | exact Drawn0.refl _ | apply Drawn0.step)⟩
     ·rw [if_neg c5] at H
      exact absurd H (by simp)
    ·rw [if_neg c4] at H
     have c4b0 : decide (x7_1 < (l0.length : Int)) = false := decide_eq_false c4
     clear c4
     have HC10 := Aside0.mk H
     clear H
     go_upto_region 12 with (fail)
     repeat (go_quiet (fail); go_upto_region 12 with (fail))
     go_cut [75] (fun v75 wc => ∃ (kq : Nat) (x75_9 : Bool), v75 = .bool x75_9 ∧ Aside0 (rf2_At.j1 kq l0 a1 x75_9 = some (r1, r2)) ∧ Aside0 (kq ≤ k1) ∧ Drawn0 w wc)
     case first =>
      have H := HC10.out
      clear HC10
      by_cases c11 : a1 < 0
      ·rw [if_pos c11] at H
       have c11b0 : decide (a1 < 0) = true := decide_eq_true c11
       clear c11
       (first | rw [c11b0] | (simp only [i64_w, i32_w]; rw [c11b0]) | skip)
       have H' := Aside0.mk H
       clear H
       go_wp2
       repeat (go_quiet (fail); try go_wp2)
       go_meet
       case rel => exact ⟨_, (true), (by first | rfl | (simp; done) | (simp [*]; done)), H', ⟨by have := HK1.out; first | omega | exact Nat.le_refl _⟩, by repeat (first | exact Drawn0.refl _ | apply Drawn0.step)⟩
      ·rw [if_neg c11] at H
       have c11b0 : decide (a1 < 0) = false := decide_eq_false c11
       clear c11
       (first | rw [c11b0] | (simp only [i64_w, i32_w]; rw [c11b0]) | skip)
       have H' := Aside0.mk H
       clear H
       go_wp2
       repeat (go_quiet (fail); try go_wp2)
       go_meet
       case rel => exact ⟨_, (decide (a1 > x6_1)), (by first | rfl | (simp; done) | (simp [*]; done)), H', ⟨by have := HK1.out; first | omega | exact Nat.le_refl _⟩, by repeat (first | exact Drawn0.refl _ | apply Drawn0.step)⟩
     case rest =>
      clear HC10
      try clear c1
      try clear c2
      try clear p2
      try clear c3
      try clear c3b0
      try clear c3b1
      try clear c3b2
      try clear p3
      try clear q3
      try clear hx3
      try clear c4
      try clear c4b0
      try clear p4
      try clear q4
      try clear hx4
      try clear c5
      try clear c5b0
      try clear c6
      try clear c6b0
      try clear c6b1
      try clear p6
      try clear c7
      try clear c7b0
      try clear c7b1
      try clear c7b2
      try clear c8
      try clear c8b0
      try clear c8b1
      try clear c9
      try clear c9b0
      try clear c9b1
      try clear c11
      try clear c11b0
      try clear hx396_0
      try clear hx396_1
      try clear hx396_2
      try clear hx396_3
      try clear hx397_0
      try clear hx397_1
      try clear hx397_2
      try clear hx397_3
      try clear hx398_0
      try clear hx398_1
      try clear hx398_2
      try clear hx398_3
      try clear hx399_0
      try clear hx399_1
      try clear hx399_2
      try clear hx399_3
      try clear hx400_0
      try clear hx400_1
      try clear hx400_2
      try clear hx400_3
      try clear hx401_0
      try clear hx401_1
      try clear hx401_2
      try clear hx401_3
      try clear p2
      try clear p396
      try clear p397
      try clear p398
      try clear p399
      try clear p400
      try clear p401
      try clear q396
      try clear q397
      try clear q398
      try clear q399
      try clear q400
      try clear q401
      obtain ⟨kq, x75_9, rfl, HA, HJ9, ⟨mc9, rfl⟩⟩ := hcut
      cases kq with
      | zero => exact absurd HA.out (by simp [rf2_At.j1])
      | succ kj9 =>
       have H := HA.out
       clear HA
       simp only [rf2_At.j1] at H
       by_cases c12 : x75_9 = true
       ·subst c12
        have H1 : (some (0, 1)) = some (r1, r2) := by rw [if_pos rfl] at H; exact H
        clear H
        have H := H1
        clear H1
        simp only [Option.some.injEq, Prod.mk.injEq] at H
        obtain ⟨rfl, rfl⟩ := H
        go_wp2
        repeat (go_quiet (fail); try go_wp2)
        go_ret2
        exact ⟨by first | rfl | (simp; done) | (simp [*]; done), by repeat (first | exact Drawn0.refl _ | apply Drawn0.step)⟩
       ·replace c12 := Bool.eq_false_iff.mpr c12
        subst c12
        have H1 : (rf2_At.l1 kj9 l0 a1 0 0) = some (r1, r2) := by rw [if_neg (show ¬ (false = true) by decide)] at H; exact H
        clear H
        have H := H1
        clear H1
        have H' := Aside0.mk H
        clear H
        go_wp2
        repeat (go_quiet (fail); try go_wp2)
        try simp only [Act.put, List.setIfInBounds_toArray, List.set_cons_succ, List.set_cons_zero]
        go_loopg [9, 10] kj9 (fun kq v9 v10 w' => ∃ (x9_3 : Int) (x10_3 : Int), v9 = .int .i64 x9_3 ∧ v10 = .int .i64 x10_3 ∧ Aside0 (rf2_At.l1 kq l0 a1 x9_3 x10_3 = some (r1, r2)) ∧ Aside0 (kq ≤ kj9) ∧ Drawn0 w w')
        case atStart => exact ⟨(0), (0), (by first | rfl | (simp; done) | (simp [*]; done)), (by first | rfl | (simp; done) | (simp [*]; done)), H', ⟨Nat.le_refl _⟩, by repeat (first | exact Drawn0.refl _ | apply Drawn0.step)⟩
        case round =>
         clear H'
         try clear c1
         try clear c2
         try clear p2
         try clear c3
         try clear c3b0
         try clear c3b1
         try clear c3b2
         try clear p3
         try clear q3
         try clear hx3
         try clear c4
         try clear c4b0
         try clear p4
         try clear q4
         try clear hx4
         try clear c5
         try clear c5b0
         try clear c6
         try clear c6b0
         try clear c6b1
         try clear p6
         try clear c7
         try clear c7b0
         try clear c7b1
         try clear c7b2
         try clear c8
         try clear c8b0
         try clear c8b1
         try clear c9
         try clear c9b0
         try clear c9b1
         try clear c11
         try clear c11b0
         try clear c12
         try clear hx396_0
         try clear hx396_1
         try clear hx396_2
         try clear hx396_3
         try clear hx397_0
         try clear hx397_1
         try clear hx397_2
         try clear hx397_3
         try clear hx398_0
         try clear hx398_1
         try clear hx398_2
         try clear hx398_3
         try clear hx399_0
         try clear hx399_1
         try clear hx399_2
         try clear hx399_3
         try clear hx400_0
         try clear hx400_1
         try clear hx400_2
         try clear hx400_3
         try clear hx401_0
         try clear hx401_1
         try clear hx401_2
         try clear hx401_3
         try clear p2
         try clear p3
         try clear p396
         try clear p397
         try clear p398
         try clear p399
         try clear p4
         try clear p400
         try clear p401
         try clear p6
         try clear q3
         try clear q396
         try clear q397
         try clear q398
         try clear q399
         try clear q4
         try clear q400
         try clear q401
         obtain ⟨x9_3, x10_3, rfl, rfl, HA, HK3, ⟨m3, rfl⟩⟩ := hrel
         cases gk with
         | zero => exact absurd HA.out (by simp [rf2_At.l1])
         | succ k3 =>
          have H := HA.out
          clear HA
          simp only [rf2_At.l1] at H
          by_cases c13 : x10_3 < (l0.length : Int)
          ·rw [if_pos c13] at H
           have c13b0 : decide (x10_3 < (l0.length : Int)) = true := decide_eq_true c13
           clear c13
           by_cases c14 : 0 ≤ x10_3
           ·rw [if_pos c14] at H
            have c14b0 : decide (0 ≤ x10_3) = true := decide_eq_true c14
            clear c14
            by_cases c15 : a1 < (wrap64 (x9_3 + (wrap64 ((((rd_T30 l0 x10_3).f1).size : Int) + (((rd_T30 l0 x10_3).f2).size : Int)))))
            ·rw [if_pos c15] at H
             have c15b0 : decide (a1 < (wrap64 (x9_3 + (wrap64 ((((rd_T30 l0 x10_3).f1).size : Int) + (((rd_T30 l0 x10_3).f2).size : Int)))))) = true := decide_eq_true c15
             clear c15
             simp only [Option.some.injEq, Prod.mk.injEq] at H
             obtain ⟨rfl, rfl⟩ := H
             have p402 : 0 ≤ (x10_3 : Int) := of_decide_eq_true (by first | (with_reducible assumption) | assumption)
             have q402 : x10_3 < (l0.length : Int) := of_decide_eq_true (by first | (with_reducible assumption) | assumption)
             obtain ⟨ad402, e402, hx402_0, hx402_1, hx402_2, hx402_3⟩ := at_T30 HR0.out x10_3 p402 q402
             cases e402
             replace p402 := eq_true p402
             replace q402 := eq_true q402
             have p403 : 0 ≤ (x10_3 : Int) := of_decide_eq_true (by first | (with_reducible assumption) | assumption)
             have q403 : x10_3 < (l0.length : Int) := of_decide_eq_true (by first | (with_reducible assumption) | assumption)
             obtain ⟨ad403, e403, hx403_0, hx403_1, hx403_2, hx403_3⟩ := at_T30 HR0.out x10_3 p403 q403
             obtain rfl : ad402 = ad403 := (by injection e403)
             replace p403 := eq_true p403
             replace q403 := eq_true q403
             go_wp2
             repeat (go_quiet (fail); try go_wp2)
             go_ret2
             exact ⟨by first | rfl | (simp; done) | (simp [*]; done), by repeat (first | exact Drawn0.refl _ | apply Drawn0.step)⟩
            ·rw [if_neg c15] at H
             have c15b0 : decide (a1 < (wrap64 (x9_3 + (wrap64 ((((rd_T30 l0 x10_3).f1).size : Int) + (((rd_T30 l0 x10_3).f2).size : Int)))))) = false := decide_eq_false c15
             clear c15
             have H' := Aside0.mk H
             clear H
             have p402 : 0 ≤ (x10_3 : Int) := of_decide_eq_true (by first | (with_reducible assumption) | assumption)
             have q402 : x10_3 < (l0.length : Int) := of_decide_eq_true (by first | (with_reducible assumption) | assumption)
             obtain ⟨ad402, e402, hx402_0, hx402_1, hx402_2, hx402_3⟩ := at_T30 HR0.out x10_3 p402 q402
             cases e402
             replace p402 := eq_true p402
             replace q402 := eq_true q402
             have p403 : 0 ≤ (x10_3 : Int) := of_decide_eq_true (by first | (with_reducible assumption) | assumption)
             have q403 : x10_3 < (l0.length : Int) := of_decide_eq_true (by first | (with_reducible assumption) | assumption)
             obtain ⟨ad403, e403, hx403_0, hx403_1, hx403_2, hx403_3⟩ := at_T30 HR0.out x10_3 p403 q403
             obtain rfl : ad402 = ad403 := (by injection e403)
             replace p403 := eq_true p403
             replace q403 := eq_true q403
             go_wp2
             repeat (go_quiet (fail); try go_wp2)
             go_roundg k3
             case measure => have := HK1.out; have := HJ9.out; have := HK3.out; omega
             case rel => exact ⟨(wrap64 (x9_3 + (wrap64 ((((rd_T30 l0 x10_3).f1).size : Int) + (((rd_T30 l0 x10_3).f2).size : Int))))), (wrap64 (x10_3 + 1)), (by first | rfl | (simp; done) | (simp [*]; done)), (by first | rfl | (simp; done) | (simp [*]; done)), H', ⟨by have := HK1.out; have := HJ9.out; have := HK3.out; omega⟩, by repeat (first | exact Drawn0.refl _ | apply Drawn0.step)⟩
           ·rw [if_neg c14] at H
            exact absurd H (by simp)
          ·rw [if_neg c13] at H
           have c13b0 : decide (x10_3 < (l0.length : Int)) = false := decide_eq_false c13
           clear c13
           simp only [Option.some.injEq, Prod.mk.injEq] at H
           obtain ⟨rfl, rfl⟩ := H
           go_wp2
           repeat (go_quiet (fail); try go_wp2)
           go_ret2
           exact ⟨by first | rfl | (simp; done) | (simp [*]; done), by repeat (first | exact Drawn0.refl _ | apply Drawn0.step)⟩

end Go.Proofs.YtabnmkakgcifoaaDoor.PLex

namespace Go.Proofs.YtabnmkakgcifoaaDoor.PLex
open Go.RowKit Go.Proofs.YtabnmkakgcifoaaDoorW.PrintWords Go.Proofs.YtabnmkakgcifoaaDoorW.PrintLast Go.Proofs.YtabnmkakgcifoaaDoorW.PrintMore
attribute [local go_sem] max2_int min2_int max_two min_two max_three min_three max_four min_four   -- for this text's walks alone
set_option linter.unusedVariables false
set_option linter.unusedSimpArgs false

def rf2_Strip.l0 : Nat → List (S30) → List ByteArray → Int → Option (List ByteArray)
 | 0, _, _, _ => none
 | k + 1, x0, x3, x4 => if x4 < (x0.length : Int) then (if 0 ≤ x4 then (if ((rd_T30 x0 x4).f0) = 7 then (rf2_Strip.l0 k x0 x3 (wrap64 (x4 + 1))) else (if ((rd_T30 x0 x4).f0) = 0 then (rf2_Strip.l0 k x0 x3 (wrap64 (x4 + 1))) else (if x3.length < 8796093022208 then (rf2_Strip.l0 k x0 (x3 ++ [(rd_T30 x0 x4).f2]) (wrap64 (x4 + 1))) else (none)))) else (none)) else (some x3)
def rf2_Strip.f (k : Nat) (l0 : List (S30)) : Option (List ByteArray) := rf2_Strip.l0 k l0 ([] : List ByteArray) 0
set_option maxHeartbeats 8000000 in
set_option maxRecDepth 100000 in
theorem rf2_Strip.calls (k : Nat) (A0 : Option Addr) (c0 : Nat) (l0 : List (S30)) (r : List ByteArray) (w : World) (hr0 : Kd.C k30 w A0 l0.length l0) (hc0 : l0.length ≤ c0) (h : rf2_Strip.f k l0 = some r) :
  Calls Tryd.prog 30 #[.slice A0 l0.length c0] w fun e w' => ∃ v0_ : Value, e = .returned (v0_) ∧ Kd.R Kd.string 9 w' w.heap.size (fun _ => True) v0_ r ∧ Below w.heap.size w w' := by
 have HR0 := Aside0.mk hr0
 have HC0 := Aside0.mk hc0
 clear hr0 hc0
 have HB := Aside0.mk (Below.refl w.heap.size w)
 have H : (rf2_Strip.l0 k l0 ([] : List ByteArray) 0) = some r := h
 clear h
 have H' := Aside0.mk H
 clear H
 go_enter Tryd.func30, Tryd.ntmps30
 go_wp2
 try simp only [Act.put, List.setIfInBounds_toArray, List.set_cons_succ, List.set_cons_zero]
 go_loopg [3, 4] k (fun kq v3 v4 w' => ∃ (x3_1 : List ByteArray) (x4_1 : Int), v4 = .int .i64 x4_1 ∧ Aside0 (rf2_Strip.l0 kq l0 x3_1 x4_1 = some r) ∧ Aside0 (kq ≤ k) ∧ Aside0 (Kd.R Kd.string 9 w' w.heap.size (fun _ => True) v3 x3_1) ∧ Aside0 (Below w.heap.size w w'))
 case atStart => exact ⟨(([] : List ByteArray)), (0), (by first | rfl | (simp; done) | (simp [*]; done)), H', ⟨Nat.le_refl _⟩, ⟨by first | exact Kd.R_nil _ _ _ _ _ | exact Kd.N_nil _ _ _ _ _ | exact Kd.V_nil _ _ _ _ _ | exact Kd.Q_nil _ _ _ _ _ | exact Kd.S_nil _ _ _ _ _⟩, ⟨by repeat (first | (with_reducible first | exact HB.out | apply below_alloc | apply pw_below_drewN | apply below_drew1) | exact HB.out)⟩⟩
 case round =>
  clear H'
  obtain ⟨x3_1, x4_1, rfl, HA, HK1, HO_3, HB⟩ := hrel
  cases gk with
  | zero => exact absurd HA.out (by simp [rf2_Strip.l0])
  | succ k1 =>
   have H := HA.out
   clear HA
   simp only [rf2_Strip.l0] at H
   by_cases c2 : x4_1 < (l0.length : Int)
   ·rw [if_pos c2] at H
    have c2b0 : decide (x4_1 < (l0.length : Int)) = true := decide_eq_true c2
    clear c2
    by_cases c3 : 0 ≤ x4_1
    ·rw [if_pos c3] at H
     have c3b0 : decide (0 ≤ x4_1) = true := decide_eq_true c3
     clear c3
     by_cases c4 : ((rd_T30 l0 x4_1).f0) = 7
     ·rw [if_pos c4] at H
      have c4b0 : (((rd_T30 l0 x4_1).f0) == 7) = true := beq_iff_eq.mpr c4
      have c4b1 : (((rd_T30 l0 x4_1).f0) != 7) = false := bne_eq_false_iff_eq.mpr c4
      clear c4
      have H' := Aside0.mk H
      clear H
      have p404 : 0 ≤ (x4_1 : Int) := of_decide_eq_true (by first | (with_reducible assumption) | assumption)
      have q404 : x4_1 < (l0.length : Int) := of_decide_eq_true (by first | (with_reducible assumption) | assumption)
      obtain ⟨ad404, e404, hx404_0, hx404_1, hx404_2, hx404_3⟩ := at_T30 HR0.out x4_1 p404 q404
      cases e404
      replace hx404_0 := (HB.out.cell (World.block_lt_of_cell? w _ hx404_0)).trans hx404_0
      replace hx404_1 := (HB.out.cell (World.block_lt_of_cell? w _ hx404_1)).trans hx404_1
      replace hx404_2 := (HB.out.cell (World.block_lt_of_cell? w _ hx404_2)).trans hx404_2
      replace hx404_3 := (HB.out.cell (World.block_lt_of_cell? w _ hx404_3)).trans hx404_3
      replace p404 := eq_true p404
      replace q404 := eq_true q404
      go_wp2
      go_roundg k1
      case measure => have := HK1.out; omega
      case rel => exact ⟨(x3_1), (wrap64 (x4_1 + 1)), (by first | rfl | (simp; done) | (simp [*]; done)), H', ⟨by have := HK1.out; omega⟩, ⟨by (with_reducible repeat (first | apply Kd.R_alloc | apply Kd.R_drewN | apply Kd.R_drew)); exact HO_3.out⟩, ⟨by repeat (first | (with_reducible first | exact HB.out | apply below_alloc | apply pw_below_drewN | apply below_drew1) | exact HB.out)⟩⟩
     ·rw [if_neg c4] at H
      have c4b0 : (((rd_T30 l0 x4_1).f0) == 7) = false := beq_eq_false_iff_ne.mpr c4
      have c4b1 : (((rd_T30 l0 x4_1).f0) != 7) = true := bne_iff_ne.mpr c4
      by_cases c5 : ((rd_T30 l0 x4_1).f0) = 0
      ·rw [if_pos c5] at H
       have c5b0 : (((rd_T30 l0 x4_1).f0) == 0) = true := beq_iff_eq.mpr c5
       have c5b1 : (((rd_T30 l0 x4_1).f0) != 0) = false := bne_eq_false_iff_eq.mpr c5
       clear c5
       have H' := Aside0.mk H
       clear H
       have p404 : 0 ≤ (x4_1 : Int) := of_decide_eq_true (by first | (with_reducible assumption) | assumption)
       have q404 : x4_1 < (l0.length : Int) := of_decide_eq_true (by first | (with_reducible assumption) | assumption)
       obtain ⟨ad404, e404, hx404_0, hx404_1, hx404_2, hx404_3⟩ := at_T30 HR0.out x4_1 p404 q404
       cases e404
       replace hx404_0 := (HB.out.cell (World.block_lt_of_cell? w _ hx404_0)).trans hx404_0
       replace hx404_1 := (HB.out.cell (World.block_lt_of_cell? w _ hx404_1)).trans hx404_1
       replace hx404_2 := (HB.out.cell (World.block_lt_of_cell? w _ hx404_2)).trans hx404_2
       replace hx404_3 := (HB.out.cell (World.block_lt_of_cell? w _ hx404_3)).trans hx404_3
       replace p404 := eq_true p404
       replace q404 := eq_true q404
       have p405 : 0 ≤ (x4_1 : Int) := of_decide_eq_true (by first | (with_reducible assumption) | assumption)
       have q405 : x4_1 < (l0.length : Int) := of_decide_eq_true (by first | (with_reducible assumption) | assumption)
       obtain ⟨ad405, e405, hx405_0, hx405_1, hx405_2, hx405_3⟩ := at_T30 HR0.out x4_1 p405 q405
       obtain rfl : ad404 = ad405 := (by injection e405)
       replace hx405_0 := (HB.out.cell (World.block_lt_of_cell? w _ hx405_0)).trans hx405_0
       replace hx405_1 := (HB.out.cell (World.block_lt_of_cell? w _ hx405_1)).trans hx405_1
       replace hx405_2 := (HB.out.cell (World.block_lt_of_cell? w _ hx405_2)).trans hx405_2
       replace hx405_3 := (HB.out.cell (World.block_lt_of_cell? w _ hx405_3)).trans hx405_3
       replace p405 := eq_true p405
       replace q405 := eq_true q405
       go_wp2
       go_roundg k1
       case measure => have := HK1.out; omega
       case rel => exact ⟨(x3_1), (wrap64 (x4_1 + 1)), (by first | rfl | (simp; done) | (simp [*]; done)), H', ⟨by have := HK1.out; omega⟩, ⟨by (with_reducible repeat (first | apply Kd.R_alloc | apply Kd.R_drewN | apply Kd.R_drew)); exact HO_3.out⟩, ⟨by repeat (first | (with_reducible first | exact HB.out | apply below_alloc | apply pw_below_drewN | apply below_drew1) | exact HB.out)⟩⟩
      ·rw [if_neg c5] at H
       have c5b0 : (((rd_T30 l0 x4_1).f0) == 0) = false := beq_eq_false_iff_ne.mpr c5
       have c5b1 : (((rd_T30 l0 x4_1).f0) != 0) = true := bne_iff_ne.mpr c5
       by_cases c6 : x3_1.length < 8796093022208
       ·rw [if_pos c6] at H
        have LMc6 := Aside0.mk c6
        clear c6
        obtain ⟨y407, hy407⟩ : ∃ y_ : List ByteArray, y_ = (x3_1 ++ [(rd_T30 l0 x4_1).f2]) := ⟨_, rfl⟩
        replace H : (rf2_Strip.l0 k1 l0 y407 (wrap64 (x4_1 + 1))) = some r := by first | (rw [hy407]; with_reducible exact H) | (have H2_ := (Option.bind_some _ _).symm.trans H; rw [hy407]; with_reducible exact H2_) | (have H2_ := (Option.bind_some _ _).symm.trans H; with_reducible exact H2_) | with_reducible exact H | (rw [hy407]; exact H) | exact H
        have Ny407 := Aside0.mk hy407
        clear hy407
        have H' := Aside0.mk H
        clear H
        have p404 : 0 ≤ (x4_1 : Int) := of_decide_eq_true (by first | (with_reducible assumption) | assumption)
        have q404 : x4_1 < (l0.length : Int) := of_decide_eq_true (by first | (with_reducible assumption) | assumption)
        obtain ⟨ad404, e404, hx404_0, hx404_1, hx404_2, hx404_3⟩ := at_T30 HR0.out x4_1 p404 q404
        cases e404
        replace hx404_0 := (HB.out.cell (World.block_lt_of_cell? w _ hx404_0)).trans hx404_0
        replace hx404_1 := (HB.out.cell (World.block_lt_of_cell? w _ hx404_1)).trans hx404_1
        replace hx404_2 := (HB.out.cell (World.block_lt_of_cell? w _ hx404_2)).trans hx404_2
        replace hx404_3 := (HB.out.cell (World.block_lt_of_cell? w _ hx404_3)).trans hx404_3
        replace p404 := eq_true p404
        replace q404 := eq_true q404
        have p405 : 0 ≤ (x4_1 : Int) := of_decide_eq_true (by first | (with_reducible assumption) | assumption)
        have q405 : x4_1 < (l0.length : Int) := of_decide_eq_true (by first | (with_reducible assumption) | assumption)
        obtain ⟨ad405, e405, hx405_0, hx405_1, hx405_2, hx405_3⟩ := at_T30 HR0.out x4_1 p405 q405
        obtain rfl : ad404 = ad405 := (by injection e405)
        replace hx405_0 := (HB.out.cell (World.block_lt_of_cell? w _ hx405_0)).trans hx405_0
        replace hx405_1 := (HB.out.cell (World.block_lt_of_cell? w _ hx405_1)).trans hx405_1
        replace hx405_2 := (HB.out.cell (World.block_lt_of_cell? w _ hx405_2)).trans hx405_2
        replace hx405_3 := (HB.out.cell (World.block_lt_of_cell? w _ hx405_3)).trans hx405_3
        replace p405 := eq_true p405
        replace q405 := eq_true q405
        have p406 : 0 ≤ (x4_1 : Int) := of_decide_eq_true (by first | (with_reducible assumption) | assumption)
        have q406 : x4_1 < (l0.length : Int) := of_decide_eq_true (by first | (with_reducible assumption) | assumption)
        obtain ⟨ad406, e406, hx406_0, hx406_1, hx406_2, hx406_3⟩ := at_T30 HR0.out x4_1 p406 q406
        obtain rfl : ad404 = ad406 := (by injection e406)
        replace hx406_0 := (HB.out.cell (World.block_lt_of_cell? w _ hx406_0)).trans hx406_0
        replace hx406_1 := (HB.out.cell (World.block_lt_of_cell? w _ hx406_1)).trans hx406_1
        replace hx406_2 := (HB.out.cell (World.block_lt_of_cell? w _ hx406_2)).trans hx406_2
        replace hx406_3 := (HB.out.cell (World.block_lt_of_cell? w _ hx406_3)).trans hx406_3
        replace p406 := eq_true p406
        replace q406 := eq_true q406
        go_wp2_with (first | ((with_reducible refine gate_builtin (b := .append) (xs := #[.tmp 25, .tmp 31]) rfl ?_); at_builtin; refine Kd.R_append Kd.string (w0 := w) w.heap.size rfl (.tmp 25) (.tmp 31) 35 9 (.string ⟨#[]⟩) 16 rfl Tryd.underlying35 info9 rfl (by decide) (by omega) u3 x3_1 ((rd_T30 l0 x4_1).f2) [.string ((rd_T30 l0 x4_1).f2)] (fun _ => True) (fun _ => False) rfl rfl ?aP (fun _ hk => hk.elim) ?aF ?aO ?aB ?aS ?aL ?_; (case aP => exact rfl); (case aB => exact (by repeat (first | (with_reducible first | exact HB.out | apply below_alloc | apply pw_below_drewN | apply below_drew1) | exact HB.out))); (case aF => exact (fun _ _ => trivial)); (case aO => exact (by (with_reducible repeat (first | apply Kd.R_alloc | apply Kd.R_drewN | apply Kd.R_drew)); exact HO_3.out)); (case aS => exact (below_size (by repeat (first | (with_reducible first | exact HB.out | apply below_alloc | apply pw_below_drewN | apply below_drew1) | exact HB.out)))); (case aL => have := LMc6.out; omega); intro v408 w7 ho hb hg hat; rw [← Ny407.out] at ho; have n0_ := Aside0.mk (hb); have n1_ := Aside0.mk (ho); clear HB; clear HO_3; have HB := n0_; have HO409 := n1_; clear n0_ n1_; clear ho hb hg hat))
        go_roundg k1
        case measure => have := HK1.out; omega
        case rel => exact ⟨(y407), (wrap64 (x4_1 + 1)), (by first | rfl | (simp; done) | (simp [*]; done)), H', ⟨by have := HK1.out; omega⟩, ⟨by (with_reducible repeat (first | apply Kd.R_alloc | apply Kd.R_drewN | apply Kd.R_drew)); exact HO409.out⟩, ⟨by repeat (first | (with_reducible first | exact HB.out | apply below_alloc | apply pw_below_drewN | apply below_drew1) | exact HB.out)⟩⟩
       ·rw [if_neg c6] at H
        exact absurd H (by simp)
    ·rw [if_neg c3] at H
     exact absurd H (by simp)
   ·rw [if_neg c2] at H
    have c2b0 : decide (x4_1 < (l0.length : Int)) = false := decide_eq_false c2
    clear c2
    obtain rfl := Option.some.inj H
    go_wp2
    go_ret
    exact ⟨_, by first | rfl | (simp [errW_none, errW_some] <;> rfl) | (simp [*, errW_none, errW_some] <;> rfl), by (with_reducible repeat (first | apply Kd.R_alloc | apply Kd.R_drewN | apply Kd.R_drew)); exact HO_3.out, by repeat (first | (with_reducible first | exact HB.out | apply below_alloc | apply pw_below_drewN | apply below_drew1) | exact HB.out)⟩

end Go.Proofs.YtabnmkakgcifoaaDoor.PLex

namespace Go.Proofs.YtabnmkakgcifoaaDoor.Lx
theorem upto10_len : ∀ l : B, upto10 l ≤ l.length
  | [] => Nat.le_refl _
  | c :: r => by
    unfold upto10
    have := upto10_len r
    split <;> simp only [List.length_cons] <;> omega
theorem block_len : ∀ l : B, block l ≤ l.length
  | [] => Nat.le_refl _
  | [c] => by unfold block; simp [block]
  | c :: d :: r => by
    unfold block
    have := block_len (d :: r)
    simp only [List.length_cons] at *
    split <;> omega
theorem piece_cons' (c : UInt8) (r : B) : piece (c :: r) = if isBl c then 1 else if c = 92 then (if r.head? = some 10 then 2 else if r.take 2 = [13, 10] then 3 else 0) else cmt (c :: r) := rfl
theorem cmt_cons' (c : UInt8) (r : B) : cmt (c :: r) = if c = 47 then (if r.head? = some 47 then upto10 r + 1 else if r.head? = some 42 then block (r.drop 1) + 2 else 0) else 0 := rfl
theorem cmt_len (l : B) : cmt l ≤ l.length := by
  cases l with
  | nil => exact Nat.le_refl _
  | cons c r =>
    rw [cmt_cons']
    split
    · split
      · have := upto10_len r
        simp only [List.length_cons]; omega
      · split
        · cases r with
          | nil => rename_i h; cases h
          | cons d r =>
            have := block_len r
            simp only [List.length_cons, List.drop_succ_cons, List.drop_zero]; omega
        · omega
    · omega
theorem piece_len (l : B) : piece l ≤ l.length := by
  cases l with
  | nil => exact Nat.le_refl _
  | cons c r =>
    rw [piece_cons']
    split
    · simp
    · split
      · split
        · cases r with
          | nil => rename_i h; cases h
          | cons d r => simp
        · split
          · rename_i h
            have := congrArg List.length h
            simp only [List.length_take, List.length_cons, List.length_nil] at this
            simp only [List.length_cons]; omega
          · omega
      · exact cmt_len _
/-- the signs as they are: none is too long, none begins with what begins something else -/
structure Fair (S : List B) : Prop where
  h39 : ∀ s ∈ S, s.head? ≠ some 39
  h34 : ∀ s ∈ S, s.head? ≠ some 34
  h92 : ∀ s ∈ S, s.head? ≠ some 92
  h10 : ∀ s ∈ S, (10 : UInt8) ∉ s
  h32 : ∀ s ∈ S, (32 : UInt8) ∉ s
  h35 : ∀ s ∈ S, s.head? = some 35 → s = [35]
  bl : ∀ s ∈ S, ∀ c, s.head? = some c → isBl c = false
  len : ∀ s ∈ S, s.length ≤ 3
variable (K S : List B)
/-- pieces and tokens, one after another -/
def flat : Nat → B → B → Nat → Bool → List Tok
  | 0, _, _, _, _ => []
  | k + 1, bf, l, at_, f =>
    if piece l ≠ 0 then flat k (bf ++ l.take (piece l)) (l.drop (piece l)) (at_ + piece l) (clearAfter l (piece l) f)
    else if l = [] then [⟨0, bf, [], at_⟩]
    else ⟨(tok K S f l).1, bf, l.take (tok K S f l).2, at_⟩ :: flat k [] (l.drop (tok K S f l).2) (at_ + (tok K S f l).2) false
theorem flat_piece (k : Nat) (bf l : B) (a : Nat) (f : Bool) (n : Nat) (h : piece l = n) (hn : n ≠ 0) : flat K S (k + 1) bf l a f = flat K S k (bf ++ l.take n) (l.drop n) (a + n) (clearAfter l n f) := by
  subst h
  rw [flat, if_pos hn]
theorem flat_end (k : Nat) (bf : B) (a : Nat) (f : Bool) : flat K S (k + 1) bf [] a f = [⟨0, bf, [], a⟩] := by
  rw [flat, if_neg (by simp [piece]), if_pos rfl]
theorem flat_tok (k : Nat) (bf l : B) (a : Nat) (f : Bool) (t : Nat × Nat) (h : piece l = 0) (hl : l ≠ []) (ht : tok K S f l = t) :
    flat K S (k + 1) bf l a f = ⟨t.1, bf, l.take t.2, a⟩ :: flat K S k [] (l.drop t.2) (a + t.2) false := by
  subst ht
  rw [flat, if_neg (by simp [h]), if_neg hl]
variable {K S}
theorem tok_len (hS : Fair S) (f : Bool) (l : B) (hl : l ≠ []) : 0 < (tok K S f l).2 ∧ (tok K S f l).2 ≤ l.length ∧ (tok K S f l).1 ≠ 0 := by
  cases l with
  | nil => exact absurd rfl hl
  | cons c r =>
    have h := tok_kinds K S f c r hS.h39 hS.h34
    refine ⟨h.2.2.1, h.2.2.2, ?_⟩
    rw [h.2.1]
    split
    · simp
    · unfold kinds
      repeat' split
      all_goals simp
theorem flat_fuel (hS : Fair S) : ∀ (n k : Nat) (bf l : B) (a : Nat) (f : Bool), l.length < n → n ≤ k → flat K S k bf l a f = flat K S n bf l a f := by
  intro n
  induction n with
  | zero => intro k bf l a f h; omega
  | succ n ih =>
    intro k bf l a f h hk
    obtain ⟨k, rfl⟩ : ∃ m, k = m + 1 := ⟨k - 1, by omega⟩
    by_cases hp : piece l = 0
    · by_cases hl : l = []
      · subst hl; rw [flat_end, flat_end]
      · rw [flat_tok K S k bf l a f _ hp hl rfl, flat_tok K S n bf l a f _ hp hl rfl]
        have := tok_len (K := K) hS f l hl
        rw [ih k _ _ _ _ (by rw [List.length_drop]; omega) (by omega)]
    · rw [flat_piece K S k bf l a f _ rfl hp, flat_piece K S n bf l a f _ rfl hp]
      have := piece_len l
      exact ih k _ _ _ _ (by rw [List.length_drop]; omega) (by omega)
theorem pre_len : ∀ (n : Nat) (l : B) (f : Bool), (pre n l f).1 ≤ l.length := by
  intro n
  induction n with
  | zero => intro l f; exact Nat.zero_le _
  | succ n ih =>
    intro l f
    unfold pre
    dsimp only
    split
    · exact Nat.zero_le _
    · have := ih (l.drop (piece l)) (clearAfter l (piece l) f)
      have := piece_len l
      simp only [List.length_drop] at *
      omega
/-- what stands before a token, piece by piece -/
theorem flat_pre : ∀ (m : Nat) (l bf : B) (a : Nat) (f : Bool) (k : Nat), l.length ≤ m → flat K S (k + l.length + 1) bf l a f =
    (if l.drop (pre m l f).1 = [] then [⟨0, bf ++ l, [], a + l.length⟩] else flat K S (k + (l.length - (pre m l f).1) + 1) (bf ++ l.take (pre m l f).1) (l.drop (pre m l f).1) (a + (pre m l f).1) (pre m l f).2) ∨ ∃ k', k ≤ k' ∧ flat K S (k + l.length + 1) bf l a f =
    (if l.drop (pre m l f).1 = [] then [⟨0, bf ++ l, [], a + l.length⟩] else flat K S (k' + (l.length - (pre m l f).1) + 1) (bf ++ l.take (pre m l f).1) (l.drop (pre m l f).1) (a + (pre m l f).1) (pre m l f).2) := by
  intro m
  induction m with
  | zero =>
    intro l bf a f k h
    obtain rfl := List.eq_nil_of_length_eq_zero (Nat.le_zero.mp h)
    left
    rw [flat_end, if_pos (by simp)]
    simp
  | succ m ih =>
    intro l bf a f k h
    by_cases hp : piece l = 0
    · have e : pre (m + 1) l f = (0, f) := by unfold pre; simp [hp]
      rw [e]
      by_cases hl : l = []
      · subst hl; left; rw [flat_end, if_pos (by simp)]; simp
      · left
        rw [if_neg (by simpa using hl)]
        simp
    · have e : pre (m + 1) l f = (piece l + (pre m (l.drop (piece l)) (clearAfter l (piece l) f)).1, (pre m (l.drop (piece l)) (clearAfter l (piece l) f)).2) := by
        rw [pre]; dsimp only; rw [if_neg hp]
      have hle := piece_len l
      have hle2 := pre_len m (l.drop (piece l)) (clearAfter l (piece l) f)
      rw [e, flat_piece K S _ bf l a f _ rfl hp]
      generalize hn : piece l = n at *
      have hi := ih (l.drop n) (bf ++ l.take n) (a + n) (clearAfter l n f) (k + n - 1) (by rw [List.length_drop]; omega)
      generalize pre m (l.drop n) (clearAfter l n f) = p at *
      simp only [List.length_drop] at hi hle2
      rw [show k + n - 1 + (l.length - n) + 1 = k + l.length by omega] at hi
      have hbf : bf ++ l.take n ++ l.drop n = bf ++ l := by rw [List.append_assoc, List.take_append_drop]
      have hbt : bf ++ l.take n ++ (l.drop n).take p.1 = bf ++ l.take (n + p.1) := by rw [List.append_assoc, List.take_add]
      rw [hbf, hbt, List.drop_drop] at hi
      right
      rcases hi with hi | ⟨k', hk, hi⟩
      · refine ⟨k + n - 1, by omega, ?_⟩
        rw [hi]
        dsimp only
        rw [show a + n + (l.length - n) = a + l.length by omega, show k + n - 1 + (l.length - n - p.1) + 1 = k + n - 1 + (l.length - (n + p.1)) + 1 by omega, Nat.add_assoc a n p.1]
      · refine ⟨k', by omega, ?_⟩
        rw [hi]
        dsimp only
        rw [show a + n + (l.length - n) = a + l.length by omega, show k' + (l.length - n - p.1) + 1 = k' + (l.length - (n + p.1)) + 1 by omega, Nat.add_assoc a n p.1]
theorem pre_stops : ∀ (m : Nat) (l : B) (f : Bool), l.length ≤ m → piece (l.drop (pre m l f).1) = 0 := by
  intro m
  induction m with
  | zero =>
    intro l f h
    obtain rfl := List.eq_nil_of_length_eq_zero (Nat.le_zero.mp h)
    simp [piece]
  | succ m ih =>
    intro l f h
    unfold pre
    dsimp only
    split
    · rename_i hp; simpa using hp
    · rename_i hp
      have hle := piece_len l
      rw [← List.drop_drop]
      exact ih _ _ (by rw [List.length_drop]; omega)
theorem go_flat (hS : Fair S) : ∀ (m : Nat) (l : B) (a : Nat) (f : Bool), l.length < m → go K S m l a f = flat K S (l.length + 1) [] l a f := by
  intro m
  induction m with
  | zero => intro l a f h; omega
  | succ m ih =>
    intro l a f h
    have hp := pre_len l.length l f
    have hs := pre_stops l.length l f (Nat.le_refl _)
    have e : ∃ k', flat K S (l.length + 1) [] l a f = (if l.drop (pre l.length l f).1 = [] then [⟨0, [] ++ l, [], a + l.length⟩] else flat K S (k' + (l.length - (pre l.length l f).1) + 1) ([] ++ l.take (pre l.length l f).1) (l.drop (pre l.length l f).1) (a + (pre l.length l f).1) (pre l.length l f).2) := by
      rcases flat_pre (K := K) (S := S) l.length l [] a f 0 (Nat.le_refl _) with e | ⟨k', -, e⟩
      · exact ⟨0, by rw [← e, Nat.zero_add]⟩
      · exact ⟨k', by rw [← e, Nat.zero_add]⟩
    obtain ⟨k', e⟩ := e
    rw [e]
    unfold go
    dsimp only
    generalize pre l.length l f = p at *
    by_cases hl : l.drop p.1 = []
    · rw [if_pos hl, if_pos hl]; rfl
    · rw [if_neg hl, if_neg hl]
      have ht := tok_len (K := K) hS p.2 (l.drop p.1) hl
      rw [flat_tok K S _ _ _ _ _ _ hs hl rfl, List.nil_append]
      congr 1
      generalize tok K S p.2 (l.drop p.1) = t at *
      simp only [List.length_drop] at ht
      rw [ih _ _ _ (by simp only [List.length_drop]; omega)]
      rw [flat_fuel hS (((l.drop p.1).drop t.2).length + 1) (k' + (l.length - p.1)) _ _ _ _ (by omega) (by simp only [List.length_drop]; omega)]
theorem tokens_flat (hS : Fair S) (l : B) : tokens K S l = flat K S (l.length + 1) [] l 0 true := go_flat hS _ _ _ _ (by omega)
/-- the text of tokens -/
def textOf (ts : List Tok) : B := (ts.map fun t => t.before ++ t.text).flatten
/-- tokens in a row from a place on: the last one is the end -/
def Row : Nat → List Tok → Prop
  | _, [] => False
  | a, [t] => t.kind = 0 ∧ t.text = [] ∧ t.at_ = a + t.before.length
  | a, t :: u :: r => t.kind ≠ 0 ∧ t.text ≠ [] ∧ t.at_ = a + t.before.length ∧ Row (a + t.before.length + t.text.length) (u :: r)
theorem flat_ne : ∀ (k : Nat) (bf l : B) (a : Nat) (f : Bool), l.length < k → flat K S k bf l a f ≠ [] := by
  intro k
  induction k with
  | zero => intro bf l a f h; omega
  | succ k ih =>
    intro bf l a f h
    by_cases hp : piece l = 0
    · by_cases hl : l = []
      · subst hl; rw [flat_end]; simp
      · rw [flat_tok K S k bf l a f _ hp hl rfl]; simp
    · rw [flat_piece K S k bf l a f _ rfl hp]
      have := piece_len l
      exact ih _ _ _ _ (by rw [List.length_drop]; omega)
theorem flat_text (hS : Fair S) : ∀ (k : Nat) (bf l : B) (a : Nat) (f : Bool), l.length < k → textOf (flat K S k bf l a f) = bf ++ l := by
  intro k
  induction k with
  | zero => intro bf l a f h; omega
  | succ k ih =>
    intro bf l a f h
    by_cases hp : piece l = 0
    · by_cases hl : l = []
      · subst hl; rw [flat_end]; simp [textOf]
      · rw [flat_tok K S k bf l a f _ hp hl rfl]
        have ht := tok_len (K := K) hS f l hl
        have e := ih [] (l.drop (tok K S f l).2) (a + (tok K S f l).2) false (by rw [List.length_drop]; omega)
        unfold textOf at e ⊢
        rw [List.map_cons, List.flatten_cons, e, List.nil_append, List.append_assoc, List.take_append_drop]
    · rw [flat_piece K S k bf l a f _ rfl hp]
      have := piece_len l
      rw [ih _ _ _ _ (by rw [List.length_drop]; omega), List.append_assoc, List.take_append_drop]
theorem flat_row (hS : Fair S) : ∀ (k : Nat) (bf l : B) (a b : Nat) (f : Bool), l.length < k → a = b + bf.length → Row b (flat K S k bf l a f) := by
  intro k
  induction k with
  | zero => intro bf l a b f h; omega
  | succ k ih =>
    intro bf l a b f h ha
    by_cases hp : piece l = 0
    · by_cases hl : l = []
      · subst hl; rw [flat_end]; exact ⟨rfl, rfl, ha⟩
      · rw [flat_tok K S k bf l a f _ hp hl rfl]
        have ht := tok_len (K := K) hS f l hl
        have e := ih [] (l.drop (tok K S f l).2) (a + (tok K S f l).2) (a + (tok K S f l).2) false (by rw [List.length_drop]; omega) (by simp)
        have hne := flat_ne (K := K) (S := S) k [] (l.drop (tok K S f l).2) (a + (tok K S f l).2) false (by rw [List.length_drop]; omega)
        generalize flat K S k [] (l.drop (tok K S f l).2) (a + (tok K S f l).2) false = q at *
        cases q with
        | nil => exact absurd rfl hne
        | cons u r =>
          refine ⟨ht.2.2, ?_, ha, ?_⟩
          · intro h0
            have := congrArg List.length h0
            simp only [List.length_take, List.length_nil] at this
            omega
          · rw [← ha, List.length_take, Nat.min_eq_left ht.2.1]; exact e
    · rw [flat_piece K S k bf l a f _ rfl hp]
      have := piece_len l
      exact ih _ _ _ _ _ (by rw [List.length_drop]; omega) (by rw [List.length_append, List.length_take, Nat.min_eq_left this]; omega)
theorem tokens_text (hS : Fair S) (l : B) : textOf (tokens K S l) = l := by rw [tokens_flat hS, flat_text hS _ _ _ _ _ (by omega), List.nil_append]
theorem tokens_row (hS : Fair S) (l : B) : Row 0 (tokens K S l) := by rw [tokens_flat hS]; exact flat_row hS _ _ _ _ _ _ (by omega) rfl
theorem flat_len (hS : Fair S) : ∀ (k : Nat) (bf l : B) (a : Nat) (f : Bool), l.length < k → (flat K S k bf l a f).length ≤ l.length + 1 := by
  intro k
  induction k with
  | zero => intro bf l a f h; omega
  | succ k ih =>
    intro bf l a f h
    by_cases hp : piece l = 0
    · by_cases hl : l = []
      · subst hl; rw [flat_end]; simp
      · rw [flat_tok K S k bf l a f _ hp hl rfl]
        have ht := tok_len (K := K) hS f l hl
        have e := ih [] (l.drop (tok K S f l).2) (a + (tok K S f l).2) false (by rw [List.length_drop]; omega)
        rw [List.length_drop] at e
        rw [List.length_cons]; omega
    · rw [flat_piece K S k bf l a f _ rfl hp]
      have := piece_len l
      have e := ih (bf ++ l.take (piece l)) (l.drop (piece l)) (a + piece l) (clearAfter l (piece l) f) (by rw [List.length_drop]; omega)
      rw [List.length_drop] at e
      omega
theorem tokens_len (hS : Fair S) (l : B) : (tokens K S l).length ≤ l.length + 1 := by rw [tokens_flat hS]; exact flat_len hS _ _ _ _ _ (by omega)
end Go.Proofs.YtabnmkakgcifoaaDoor.Lx

namespace Go.Proofs.YtabnmkakgcifoaaDoor.Lx
/-- a text does not end with a backslash or a byte 13 -/
def EndOk (l : B) : Prop := ∀ q c, l = q ++ [c] → c ≠ 92 ∧ c ≠ 13
theorem EndOk.drop {l : B} (h : EndOk l) (n : Nat) : EndOk (l.drop n) := fun q c e => h (l.take n ++ q) c (by rw [List.append_assoc, ← e, List.take_append_drop])
theorem EndOk.tail {c : UInt8} {l : B} (h : EndOk (c :: l)) : EndOk l := h.drop 1
theorem EndOk.one {c : UInt8} (h : EndOk [c]) : c ≠ 92 ∧ c ≠ 13 := h [] c rfl
theorem ln_app_10 (b : B) : ∀ (l : B) (pp p : UInt8), EndOk (p :: l) → ln pp p (l ++ 10 :: b) = ln pp p l
  | [], pp, p, h => by
    have := h.one
    have q : ¬ (p = 92 ∨ p = 13 ∧ pp = 92) := by
      rintro (h1 | h1)
      · exact this.1 h1
      · exact this.2 h1.1
    show (if (10 : UInt8) = 10 ∧ ¬ (p = 92 ∨ p = 13 ∧ pp = 92) then 0 else ln p 10 b + 1) = 0
    rw [if_pos ⟨rfl, q⟩]
  | c :: r, pp, p, h => by
    have e := ln_app_10 b r p c h.tail
    rw [List.cons_append, ln, ln, e]
theorem ln_app_lt (y : B) : ∀ (l : B) (pp p : UInt8), ln pp p l < l.length → ln pp p (l ++ y) = ln pp p l
  | [], pp, p, h => by simp at h
  | c :: r, pp, p, h => by
    rw [List.cons_append, ln]
    rw [ln] at h ⊢
    by_cases hc : c = 10 ∧ ¬ (p = 92 ∨ p = 13 ∧ pp = 92)
    · rw [if_pos hc, if_pos hc]
    · rw [if_neg hc] at h ⊢
      rw [if_neg hc, ln_app_lt y r p c (by simp only [List.length_cons] at h; omega)]
theorem take_app {l y : B} {n : Nat} (h : n ≤ l.length) : (l ++ y).take n = l.take n := List.take_append_of_le_length h
theorem lineLen_app_lt (r y : B) (h : ln 0 35 r < r.length) : lineLen (r ++ y) = lineLen r := by
  unfold lineLen
  dsimp only
  rw [ln_app_lt y r 0 35 h, ← List.cons_append, take_app (by simp only [List.length_cons]; omega)]
  have h1 : ln 0 35 r + 1 < (r ++ y).length + 1 := by rw [List.length_append]; omega
  have h2 : ln 0 35 r + 1 < r.length + 1 := by omega
  by_cases h3 : ((35 :: r).take (ln 0 35 r + 1)).getLastD 0 = 13
  · rw [if_pos ⟨h1, h3⟩, if_pos ⟨h2, h3⟩]
  · rw [if_neg (fun q => h3 q.2), if_neg (fun q => h3 q.2)]
theorem lineLen_app_10 (r b : B) (h : EndOk (35 :: r)) : lineLen (r ++ 10 :: b) = lineLen r := by
  rcases Nat.lt_or_ge (ln 0 35 r) r.length with hlt | hge
  · exact lineLen_app_lt r _ hlt
  · have hl := ln_le r 0 35
    have he : ln 0 35 r = r.length := by omega
    unfold lineLen
    dsimp only
    rw [ln_app_10 b r 0 35 h, he, ← List.cons_append, take_app (by simp), List.take_of_length_le (by simp), if_neg (fun q => Nat.lt_irrefl _ q.1 : ¬ (r.length + 1 < r.length + 1 ∧ _)), if_neg]
    intro q
    obtain ⟨p, c, e⟩ : ∃ p c, (35 :: r : B) = p ++ [c] := ⟨(35 :: r).dropLast, (35 :: r).getLast (by simp), (List.dropLast_concat_getLast _).symm⟩
    have := h p c e
    rw [e] at q
    exact this.2 (by simpa using q.2)
theorem tw_app (p : UInt8 → Bool) (d : UInt8) (b : B) (hd : p d = false) : ∀ l : B, (l ++ d :: b).takeWhile p = l.takeWhile p
  | [] => by rw [List.nil_append, List.takeWhile_cons_of_neg (by simp [hd])]; rfl
  | c :: r => by
    rw [List.cons_append, List.takeWhile_cons, List.takeWhile_cons, tw_app p d b hd r]
theorem tw_app_lt (p : UInt8 → Bool) (y : B) : ∀ l : B, (l.takeWhile p).length < l.length → (l ++ y).takeWhile p = l.takeWhile p
  | [], h => by simp at h
  | c :: r, h => by
    rw [List.cons_append, List.takeWhile_cons, List.takeWhile_cons]
    rw [List.takeWhile_cons] at h
    by_cases hc : p c = true
    · rw [if_pos hc] at h ⊢
      rw [if_pos hc, tw_app_lt p y r (by simpa using h)]
    · rw [if_neg hc, if_neg hc]
theorem numRest_cons (c d : UInt8) (r : B) : numRest c (d :: r) = if isLD d || d == 46 || ((d == 43 || d == 45) && (c == 101 || c == 69)) then numRest d r + 1 else 0 := rfl
theorem numRest_app (d : UInt8) (b : B) (h1 : isLD d = false) (h2 : (d == 46) = false) (h3 : (d == 43 || d == 45) = false) : ∀ (l : B) (c : UInt8), numRest c (l ++ d :: b) = numRest c l
  | [], c => by rw [List.nil_append, numRest_cons, h1, h2, h3]; rfl
  | e :: r, c => by rw [List.cons_append, numRest_cons, numRest_cons, numRest_app d b h1 h2 h3 r e]
theorem numRest_app_lt (y : B) : ∀ (l : B) (c : UInt8), numRest c l < l.length → numRest c (l ++ y) = numRest c l
  | [], c, h => by simp at h
  | e :: r, c, h => by
    rw [List.cons_append, numRest_cons, numRest_cons]
    rw [numRest_cons] at h
    split at h
    · rename_i q
      rw [if_pos q, if_pos q, numRest_app_lt y r e (by simp only [List.length_cons] at h; omega)]
    · rename_i q
      rw [if_neg q, if_neg q]
theorem quoted_two (m c d : UInt8) (r : B) : quoted m (c :: d :: r) = if c = m then some 1 else if c = 10 then none
    else if c = 92 then (if d = 10 then none else (quoted m r).map (· + 2)) else (quoted m (d :: r)).map (· + 1) := rfl
theorem quoted_one (m c : UInt8) : quoted m [c] = if c = m then some 1 else none := rfl
theorem quoted_10 (m : UInt8) (hm : m ≠ 10) (b : B) : quoted m (10 :: b) = none := by
  cases b with
  | nil => rw [quoted_one, if_neg (Ne.symm hm)]
  | cons d r => rw [quoted_two, if_neg (Ne.symm hm), if_pos rfl]
theorem quoted_app_10 (m : UInt8) (hm : m ≠ 10) (b : B) : ∀ (n : Nat) (l : B), l.length ≤ n → EndOk l → quoted m (l ++ 10 :: b) = quoted m l := by
  intro n
  induction n with
  | zero =>
    intro l h _
    obtain rfl := List.eq_nil_of_length_eq_zero (Nat.le_zero.mp h)
    rw [List.nil_append, quoted_10 m hm b]; rfl
  | succ n ih =>
    intro l h he
    match l, h, he with
    | [], _, _ => rw [List.nil_append, quoted_10 m hm b]; rfl
    | [c], _, he =>
      have h92 := he.one.1
      rw [List.singleton_append, quoted_two, quoted_one, quoted_10 m hm b]
      by_cases h1 : c = m
      · rw [if_pos h1, if_pos h1]
      · rw [if_neg h1, if_neg h1, if_neg h92]; split <;> rfl
    | c :: d :: r, h, he =>
      simp only [List.length_cons] at h
      rw [List.cons_append, List.cons_append, quoted_two, quoted_two, ih r (by omega) he.tail.tail, ← List.cons_append, ih (d :: r) (by simp only [List.length_cons]; omega) he.tail]
theorem quoted_app_some (m : UInt8) (y : B) : ∀ (n : Nat) (l : B), l.length ≤ n → ∀ q, quoted m l = some q → quoted m (l ++ y) = some q := by
  intro n
  induction n with
  | zero =>
    intro l h q hq
    obtain rfl := List.eq_nil_of_length_eq_zero (Nat.le_zero.mp h)
    cases hq
  | succ n ih =>
    intro l h q hq
    match l, h, hq with
    | [], _, hq => cases hq
    | [c], _, hq =>
      rw [quoted_one] at hq
      split at hq
      · rename_i hc
        cases hq
        cases y with
        | nil => rw [List.append_nil, quoted_one, if_pos hc]
        | cons d r => rw [List.singleton_append, quoted_two, if_pos hc]
      · cases hq
    | c :: d :: r, h, hq =>
      simp only [List.length_cons] at h
      rw [List.cons_append, List.cons_append, quoted_two]
      rw [quoted_two] at hq
      split at hq
      · rename_i hc; rw [if_pos hc]; exact hq
      · rename_i hc
        rw [if_neg hc]
        split at hq
        · cases hq
        · rename_i h10
          rw [if_neg h10]
          split at hq
          · rename_i h92
            rw [if_pos h92]
            split at hq
            · cases hq
            · rename_i hd
              obtain ⟨p, hp, rfl⟩ := Option.map_eq_some_iff.mp hq
              rw [if_neg hd, ih r (by omega) p hp]; rfl
          · rename_i h92
            obtain ⟨p, hp, rfl⟩ := Option.map_eq_some_iff.mp hq
            rw [if_neg h92, ← List.cons_append, ih (d :: r) (by simp only [List.length_cons]; omega) p hp]; rfl
theorem quoted_app_close (m : UInt8) (h1 : m ≠ 42) (h2 : m ≠ 47) : ∀ (n : Nat) (l : B), l.length ≤ n → quoted m l = none → quoted m (l ++ [42, 47]) = none := by
  have z : quoted m [42, 47] = none := by
    rw [quoted_two, if_neg (Ne.symm h1), if_neg (by decide), if_neg (by decide), quoted_one, if_neg (Ne.symm h2)]; rfl
  intro n
  induction n with
  | zero =>
    intro l h _
    obtain rfl := List.eq_nil_of_length_eq_zero (Nat.le_zero.mp h)
    exact z
  | succ n ih =>
    intro l h hq
    match l, h, hq with
    | [], _, _ => exact z
    | [c], _, hq =>
      rw [quoted_one] at hq
      split at hq
      · cases hq
      · rename_i hc
        rw [List.singleton_append, quoted_two, if_neg hc, z]
        split
        · rfl
        · split
          · rw [if_neg (by decide), quoted_one, if_neg (Ne.symm h2)]; rfl
          · rfl
    | c :: d :: r, h, hq =>
      simp only [List.length_cons] at h
      rw [List.cons_append, List.cons_append, quoted_two]
      rw [quoted_two] at hq
      split at hq
      · cases hq
      · rename_i hc
        rw [if_neg hc]
        split at hq
        · rename_i h10; rw [if_pos h10]
        · rename_i h10
          rw [if_neg h10]
          split at hq
          · rename_i h92
            rw [if_pos h92]
            split at hq
            · rename_i hd; rw [if_pos hd]
            · rename_i hd
              rw [if_neg hd, ih r (by omega) (by simpa using hq)]; rfl
          · rename_i h92
            rw [if_neg h92, ← List.cons_append, ih (d :: r) (by simp only [List.length_cons]; omega) (by simpa using hq)]; rfl
theorem signLen_congr (S : List B) (l m : B) (h : ∀ s ∈ S, s.isPrefixOf l = s.isPrefixOf m) : signLen S l = signLen S m := by
  unfold signLen
  suffices g : ∀ (q : List B) (n : Nat), (∀ s ∈ q, s.isPrefixOf l = s.isPrefixOf m) → q.foldl (fun n s => if n < s.length ∧ s.isPrefixOf l then s.length else n) n = q.foldl (fun n s => if n < s.length ∧ s.isPrefixOf m then s.length else n) n from g S 0 h
  intro q
  induction q with
  | nil => intro n _; rfl
  | cons s q ih =>
    intro n hq
    rw [List.foldl_cons, List.foldl_cons, hq s List.mem_cons_self]
    exact ih _ (fun t ht => hq t (List.mem_cons_of_mem _ ht))
theorem prefix_app_not (d : UInt8) (b : B) : ∀ (s l : B), d ∉ s → s.isPrefixOf (l ++ d :: b) = s.isPrefixOf l
  | [], l, _ => by simp
  | e :: s, [], h => by
    have : (e == d) = false := beq_eq_false_iff_ne.mpr (fun q => h (by rw [q]; exact List.mem_cons_self))
    show ((e == d) && s.isPrefixOf b) = false
    rw [this]; rfl
  | e :: s, c :: l, h => by
    show ((e == c) && s.isPrefixOf (l ++ d :: b)) = ((e == c) && s.isPrefixOf l)
    rw [prefix_app_not d b s l (fun q => h (List.mem_cons_of_mem _ q))]
theorem prefix_app_le (y : B) : ∀ (s l : B), s.length ≤ l.length → s.isPrefixOf (l ++ y) = s.isPrefixOf l
  | [], l, _ => by simp
  | e :: s, [], h => by simp at h
  | e :: s, c :: l, h => by
    show ((e == c) && s.isPrefixOf (l ++ y)) = ((e == c) && s.isPrefixOf l)
    rw [prefix_app_le y s l (by simpa using h)]
variable {K S : List B}
theorem headD_app (r y : B) (h : isD (y.headD 0) = false) : isD ((r ++ y).headD 0) = isD (r.headD 0) := by
  cases r with
  | nil => rw [List.nil_append, h]; rfl
  | cons c r => rfl
theorem tok_app_10 (hS : Fair S) (f : Bool) (c : UInt8) (r b : B) (h : EndOk (c :: r)) : tok K S f (c :: r ++ 10 :: b) = tok K S f (c :: r) := by
  rw [List.cons_append, tok_cons, tok_cons]
  rw [headD_app r (10 :: b) (show isD 10 = false by decide), numRest_app 10 b (by decide) (by decide) (by decide)]
  rw [show (c :: (r ++ 10 :: b)) = (c :: r) ++ 10 :: b from rfl]
  rw [signLen_congr S ((c :: r) ++ 10 :: b) (c :: r) (fun s hs => prefix_app_not 10 b s _ (hS.h10 s hs))]
  unfold nameLen
  rw [tw_app isLD 10 b (by decide) (c :: r)]
  by_cases h35 : c = 35 ∧ f = true
  · rw [if_pos h35, if_pos h35, lineLen_app_10 r b (h35.1 ▸ h)]
  · rw [if_neg h35, if_neg h35]
    by_cases hq : c = 39 ∨ c = 34
    · rw [if_pos hq, if_pos hq, quoted_app_10 c (by rcases hq with rfl | rfl <;> decide) b _ r (Nat.le_refl _) h.tail]
    · rw [if_neg hq, if_neg hq]
theorem tok_app_close (hS : Fair S) (f : Bool) (c : UInt8) (r : B) (h : (tok K S f (c :: r)).2 + 2 ≤ r.length + 1) : tok K S f (c :: r ++ [42, 47]) = tok K S f (c :: r) := by
  have hp := (tok_len (K := K) hS f (c :: r) (by simp)).1
  obtain ⟨d, e, r', rfl⟩ : ∃ d e r', r = d :: e :: r' := by
    match r, h with
    | [], h => simp at h
    | [d], h => simp at h; omega
    | d :: e :: r', _ => exact ⟨d, e, r', rfl⟩
  have hsl : signLen S ((c :: d :: e :: r') ++ [42, 47]) = signLen S (c :: d :: e :: r') :=
    signLen_congr S _ _ (fun s hs => prefix_app_le _ s _ (by have := hS.len s hs; simp only [List.length_cons]; omega))
  rw [tok_cons] at h
  rw [List.cons_append, tok_cons, tok_cons]
  rw [show (c :: ((d :: e :: r') ++ [42, 47])) = (c :: d :: e :: r') ++ [42, 47] from rfl, hsl]
  rw [show ((d :: e :: r') ++ [42, 47] : B).headD 0 = (d :: e :: r').headD 0 from rfl]
  generalize d :: e :: r' = r at *
  by_cases h35 : c = 35 ∧ f = true
  · rw [if_pos h35] at h
    rw [if_pos h35, if_pos h35, lineLen_app_lt]
    unfold lineLen at h
    have := ln_le r 0 35
    dsimp only at h
    split at h
    · rename_i q; omega
    · omega
  · rw [if_neg h35] at h
    rw [if_neg h35, if_neg h35]
    by_cases hL : isL c = true
    · rw [if_pos hL] at h
      rw [if_pos hL, if_pos hL]
      unfold nameLen at h ⊢
      rw [tw_app_lt isLD [42, 47] (c :: r) (by simp only [List.length_cons]; dsimp only at h; omega)]
    · rw [if_neg hL] at h
      rw [if_neg hL, if_neg hL]
      by_cases hD : (isD c || (c == 46 && isD (r.headD 0))) = true
      · rw [if_pos hD] at h
        rw [if_pos hD, if_pos hD, numRest_app_lt _ r c (by dsimp only at h; omega)]
      · rw [if_neg hD] at h
        rw [if_neg hD, if_neg hD]
        by_cases hq : c = 39 ∨ c = 34
        · rw [if_pos hq, if_pos hq]
          cases hqq : quoted c r with
          | some n => rw [quoted_app_some c _ _ r (Nat.le_refl _) n hqq]
          | none => rw [quoted_app_close c (by rcases hq with rfl | rfl <;> decide) (by rcases hq with rfl | rfl <;> decide) _ r (Nat.le_refl _) hqq]
        · rw [if_neg hq, if_neg hq]
/-- is there a '*/'? -/
def closed : B → Bool
  | [] => false
  | c :: r => (c == 42 && r.head? == some 47) || closed r
/-- a comment begins that does not end -/
def isOpen : B → Bool
  | 47 :: 42 :: r => !closed r
  | _ => false
theorem block_cons (c : UInt8) (r : B) : block (c :: r) = if c = 42 ∧ r.head? = some 47 then 2 else block r + 1 := rfl
theorem block_app (y : B) : ∀ l : B, closed l = true → block (l ++ y) = block l
  | [], h => by cases h
  | [c], h => by simp [closed] at h
  | c :: d :: r, h => by
    rw [List.cons_append, block_cons, block_cons]
    rw [show (((d :: r) ++ y : B).head?) = (d :: r).head? from rfl]
    by_cases hc : c = 42 ∧ (d :: r).head? = some 47
    · rw [if_pos hc, if_pos hc]
    · rw [if_neg hc, if_neg hc, block_app y (d :: r)]
      rw [closed, Bool.or_eq_true, Bool.and_eq_true, beq_iff_eq, beq_iff_eq] at h
      exact h.resolve_left hc
theorem block_open : ∀ l : B, closed l = false → block l = l.length
  | [], _ => rfl
  | c :: r, h => by
    rw [closed, Bool.or_eq_false_iff, Bool.and_eq_false_iff] at h
    rw [block_cons, if_neg, block_open r h.2]; rfl
    rintro ⟨h1, h2⟩
    rcases h.1 with q | q
    · rw [h1] at q; exact absurd q (by decide)
    · rw [h2] at q; exact absurd q (by decide)
theorem block_shut : ∀ l : B, closed l = false → block (l ++ [42, 47]) = l.length + 2
  | [], _ => rfl
  | [c], _ => by
    show block (c :: 42 :: [47]) = 3
    rw [block_cons, if_neg (by simp)]; rfl
  | c :: d :: r, h => by
    rw [closed, Bool.or_eq_false_iff, Bool.and_eq_false_iff] at h
    rw [List.cons_append, block_cons, if_neg, block_shut (d :: r) h.2]; rfl
    rintro ⟨h1, h2⟩
    rcases h.1 with q | q
    · rw [h1] at q; exact absurd q (by decide)
    · rw [show ((d :: r) ++ [42, 47] : B).head? = (d :: r).head? from rfl] at h2
      rw [h2] at q; exact absurd q (by decide)
theorem upto10_app_10 (b : B) : ∀ l : B, upto10 (l ++ 10 :: b) = upto10 l
  | [] => rfl
  | c :: r => by
    rw [List.cons_append, upto10, upto10, upto10_app_10 b r]
theorem upto10_app_lt (y : B) : ∀ l : B, upto10 l < l.length → upto10 (l ++ y) = upto10 l
  | [], h => by simp at h
  | c :: r, h => by
    rw [List.cons_append, upto10, upto10]
    rw [upto10] at h
    by_cases hc : c = 10
    · rw [if_pos hc, if_pos hc]
    · rw [if_neg hc] at h ⊢
      rw [if_neg hc, upto10_app_lt y r (by simpa using h)]
theorem isOpen_block {r : B} (h : isOpen (47 :: r) = false) (hr : r.head? = some 42) : closed (r.drop 1) = true := by
  cases r with
  | nil => cases hr
  | cons d r =>
    obtain rfl : d = 42 := by simpa using hr
    simpa [isOpen] using h
theorem cmt_app_10 (c : UInt8) (r b : B) (ho : isOpen (c :: r) = false) : cmt (c :: r ++ 10 :: b) = cmt (c :: r) := by
  rw [List.cons_append, cmt_cons', cmt_cons']
  by_cases h47 : c = 47
  · subst h47
    rw [if_pos rfl, if_pos rfl, upto10_app_10]
    cases r with
    | nil => rfl
    | cons d r =>
      rw [show ((d :: r) ++ 10 :: b : B).head? = (d :: r).head? from rfl]
      by_cases h42 : (d :: r).head? = some 42
      · rw [show ((d :: r) ++ 10 :: b : B).drop 1 = (d :: r).drop 1 ++ 10 :: b from rfl, block_app _ _ (isOpen_block ho h42)]
      · rw [if_neg h42, if_neg h42]
  · rw [if_neg h47, if_neg h47]
theorem piece_app_10 (c : UInt8) (r b : B) (h : EndOk (c :: r)) (ho : isOpen (c :: r) = false) : piece (c :: r ++ 10 :: b) = piece (c :: r) := by
  have hc := cmt_app_10 c r b ho
  rw [List.cons_append] at hc ⊢
  rw [piece_cons', piece_cons', hc]
  by_cases h92 : c = 92
  · subst h92
    rw [if_neg (by decide : ¬ isBl 92 = true), if_neg (by decide : ¬ isBl 92 = true), if_pos rfl, if_pos rfl]
    match r, h with
    | [], h => exact absurd rfl h.one.1
    | [d], h =>
      have hd : d ≠ 13 := h.tail.one.2
      rw [show ([d] ++ 10 :: b : B).head? = [d].head? from rfl]
      by_cases h10 : [d].head? = some 10
      · rw [if_pos h10, if_pos h10]
      · have e1 : ([d] ++ 10 :: b : B).take 2 ≠ [13, 10] := by
          intro q
          exact hd (by simpa using congrArg (fun x => x.headD 0) q)
        rw [if_neg h10, if_neg h10, if_neg e1, if_neg (by simp)]
    | d :: e :: r, h => rfl
  · rw [if_neg h92, if_neg h92]
theorem cmt_app_lt (c : UInt8) (r y : B) (ho : isOpen (c :: r) = false) (h : cmt (c :: r) < r.length + 1) (hr : r ≠ []) : cmt (c :: r ++ y) = cmt (c :: r) := by
  rw [List.cons_append, cmt_cons', cmt_cons']
  rw [cmt_cons'] at h
  by_cases h47 : c = 47
  · subst h47
    rw [if_pos rfl] at h
    rw [if_pos rfl, if_pos rfl]
    cases r with
    | nil => exact absurd rfl hr
    | cons d r =>
      rw [show ((d :: r) ++ y : B).head? = (d :: r).head? from rfl]
      by_cases h1 : (d :: r).head? = some 47
      · rw [if_pos h1] at h ⊢
        rw [if_pos h1, upto10_app_lt y _ (by omega)]
      · rw [if_neg h1, if_neg h1]
        by_cases h42 : (d :: r).head? = some 42
        · rw [show ((d :: r) ++ y : B).drop 1 = (d :: r).drop 1 ++ y from rfl, block_app _ _ (isOpen_block ho h42)]
        · rw [if_neg h42, if_neg h42]
  · rw [if_neg h47, if_neg h47]
theorem piece_app_lt (c d e : UInt8) (r y : B) (ho : isOpen (c :: d :: e :: r) = false) (h : piece (c :: d :: e :: r) < r.length + 3) : piece (c :: d :: e :: r ++ y) = piece (c :: d :: e :: r) := by
  rw [piece_cons'] at h
  rw [show (c :: d :: e :: r ++ y : B) = c :: ((d :: e :: r) ++ y) from rfl, piece_cons', piece_cons']
  by_cases hb : isBl c = true
  · rw [if_pos hb, if_pos hb]
  · rw [if_neg hb] at h ⊢
    rw [if_neg hb]
    by_cases h92 : c = 92
    · rw [if_pos h92, if_pos h92]; rfl
    · rw [if_neg h92] at h ⊢
      rw [if_neg h92]
      exact cmt_app_lt c (d :: e :: r) y ho (by simp only [List.length_cons]; omega) (by simp)
theorem clearAfter_app (l y : B) (n : Nat) (f : Bool) (h : n ≤ l.length) (hl : l ≠ []) : clearAfter (l ++ y) n f = clearAfter l n f := by
  cases l with
  | nil => exact absurd rfl hl
  | cons c r =>
    unfold clearAfter
    rw [take_app h]; rfl
variable (K S) in
/-- a text ends in a comment that goes on -/
def opens : Nat → B → Bool → Bool
  | 0, _, _ => false
  | k + 1, l, f => if piece l ≠ 0 then (isOpen l || opens k (l.drop (piece l)) (clearAfter l (piece l) f)) else if l = [] then false else opens k (l.drop (tok K S f l).2) false
theorem isOpen_piece : ∀ l : B, isOpen l = true → piece l = l.length ∧ 2 ≤ l.length := by
  intro l h
  unfold isOpen at h
  split at h
  · rename_i r
    have hc : closed r = false := by simpa using h
    have e := block_open r hc
    constructor
    · rw [piece_cons', if_neg (by decide), if_neg (by decide), cmt_cons', if_pos rfl, if_neg (by simp), if_pos (by rfl : (42 :: r : B).head? = some 42), List.drop_succ_cons, List.drop_zero, e]; rfl
    · simp
  · cases h
theorem opens_len : ∀ (k : Nat) (l : B) (f : Bool), opens K S k l f = true → 2 ≤ l.length := by
  intro k
  induction k with
  | zero => intro l f h; cases h
  | succ k ih =>
    intro l f h
    unfold opens at h
    split at h
    · rcases (Bool.or_eq_true _ _).mp h with h | h
      · exact (isOpen_piece l h).2
      · have := ih _ _ h; rw [List.length_drop] at this; omega
    · split at h
      · cases h
      · have := ih _ _ h; rw [List.length_drop] at this; omega
/-- two texts with a line feed between -/
theorem flat_two (hS : Fair S) (b : B) : ∀ (m : Nat) (l bf : B) (a : Nat) (f : Bool), l.length < m → EndOk l → opens K S m l f = false →
    ∃ init be, flat K S (l.length + 1) bf l a f = init ++ [⟨0, be, [], a + l.length⟩] ∧ flat K S (l.length + b.length + 2) bf (l ++ 10 :: b) a f = init ++ flat K S (b.length + 1) (be ++ [10]) b (a + l.length + 1) true := by
  intro m
  induction m with
  | zero => intro l bf a f h; omega
  | succ m ih =>
    intro l bf a f hm he ho
    unfold opens at ho
    by_cases hp : piece l = 0
    · rw [if_neg (by simpa using hp)] at ho
      by_cases hl : l = []
      · subst hl
        refine ⟨[], bf, by rw [flat_end]; rfl, ?_⟩
        have hc : clearAfter (10 :: b) 1 f = true := by
          unfold clearAfter
          rw [if_neg (fun q => absurd (show isFF 10 = true from q.2) (by decide))]
          simp
        rw [List.nil_append, List.length_nil, flat_piece K S _ bf (10 :: b) a f 1 rfl (by decide), Nat.zero_add, hc]
        rfl
      · rw [if_neg hl] at ho
        obtain ⟨c, r, rfl⟩ : ∃ c r, l = c :: r := by
          cases l with
          | nil => exact absurd rfl hl
          | cons c r => exact ⟨c, r, rfl⟩
        have ht := tok_len (K := K) hS f (c :: r) hl
        have ta := tok_app_10 (K := K) hS f c r b he
        have hop : isOpen (c :: r) = false := by
          cases h : isOpen (c :: r) with
          | false => rfl
          | true => have := isOpen_piece _ h; omega
        have pa := piece_app_10 c r b he hop
        rw [hp] at pa
        rw [flat_tok K S _ bf (c :: r) a f _ hp hl rfl, flat_tok K S _ bf (c :: r ++ 10 :: b) a f _ pa (by simp) ta]
        generalize tok K S f (c :: r) = t at *
        obtain ⟨init, be, e1, e2⟩ := ih ((c :: r).drop t.2) [] (a + t.2) false (by rw [List.length_drop]; omega) (he.drop _) ho
        refine ⟨⟨t.1, bf, (c :: r).take t.2, a⟩ :: init, be, ?_, ?_⟩
        · rw [flat_fuel hS (((c :: r).drop t.2).length + 1) _ _ _ _ _ (by omega) (by rw [List.length_drop]; omega), e1, List.length_drop, show a + t.2 + ((c :: r).length - t.2) = a + (c :: r).length by omega]
          rfl
        · rw [List.length_drop, show a + t.2 + ((c :: r).length - t.2) + 1 = a + (c :: r).length + 1 by omega] at e2
          rw [take_app ht.2.1, List.drop_append_of_le_length ht.2.1, flat_fuel hS ((c :: r).length - t.2 + b.length + 2) _ _ _ _ _ (by simp only [List.length_append, List.length_drop, List.length_cons]; omega) (by omega), e2]
          rfl
    · rw [if_pos hp, Bool.or_eq_false_iff] at ho
      obtain ⟨c, r, rfl⟩ : ∃ c r, l = c :: r := by
        cases l with
        | nil => exact absurd rfl hp
        | cons c r => exact ⟨c, r, rfl⟩
      have pa := piece_app_10 c r b he ho.1
      have hle := piece_len (c :: r)
      have ca := clearAfter_app (c :: r) (10 :: b) (piece (c :: r)) f hle (by simp)
      rw [flat_piece K S _ bf (c :: r) a f _ rfl hp, flat_piece K S _ bf (c :: r ++ 10 :: b) a f _ pa hp, ca, take_app hle, List.drop_append_of_le_length hle]
      generalize hn : piece (c :: r) = n at *
      obtain ⟨init, be, e1, e2⟩ := ih ((c :: r).drop n) (bf ++ (c :: r).take n) (a + n) (clearAfter (c :: r) n f) (by rw [List.length_drop]; omega) (he.drop _) ho.2
      refine ⟨init, be, ?_, ?_⟩
      · rw [flat_fuel hS (((c :: r).drop n).length + 1) _ _ _ _ _ (by omega) (by rw [List.length_drop]; omega), e1, List.length_drop, show a + n + ((c :: r).length - n) = a + (c :: r).length by omega]
      · rw [List.length_drop, show a + n + ((c :: r).length - n) + 1 = a + (c :: r).length + 1 by omega] at e2
        rw [flat_fuel hS ((c :: r).length - n + b.length + 2) _ _ _ _ _ (by simp only [List.length_append, List.length_drop, List.length_cons]; omega) (by omega), e2]
/-- a comment that goes on is shut by its sign -/
def lc : Nat → B → Bool
  | 0, _ => false
  | _ + 1, [] => false
  | k + 1, c :: r => if c = 47 ∧ r.head? = some 42 then lc k ((r.drop 1).drop (block (r.drop 1)))
    else if c = 47 ∧ r.head? = some 47 then (if upto10 (c :: r) = (c :: r).length then true else lc k ((c :: r).drop (upto10 (c :: r) + 1)))
    else lc k r
theorem lc_cons (k : Nat) (c : UInt8) (r : B) : lc (k + 1) (c :: r) = if c = 47 ∧ r.head? = some 42 then lc k ((r.drop 1).drop (block (r.drop 1)))
    else if c = 47 ∧ r.head? = some 47 then (if upto10 (c :: r) = (c :: r).length then true else lc k ((c :: r).drop (upto10 (c :: r) + 1)))
    else lc k r := rfl
theorem lc_fuel : ∀ (n k : Nat) (l : B), l.length ≤ n → n ≤ k → lc k l = lc n l := by
  intro n
  induction n with
  | zero =>
    intro k l h _
    obtain rfl := List.eq_nil_of_length_eq_zero (Nat.le_zero.mp h)
    cases k <;> rfl
  | succ n ih =>
    intro k l h hk
    obtain ⟨k, rfl⟩ : ∃ m, k = m + 1 := ⟨k - 1, by omega⟩
    cases l with
    | nil => rfl
    | cons c r =>
      simp only [List.length_cons] at h
      rw [lc_cons, lc_cons, ih k _ (by simp only [List.length_drop]; omega) (by omega), ih k ((c :: r).drop (upto10 (c :: r) + 1)) (by simp only [List.length_drop, List.length_cons]; omega) (by omega), ih k r (by omega) (by omega)]
def LC (l : B) : Bool := lc l.length l
theorem LC_fuel (k : Nat) (l : B) (h : l.length ≤ k) : lc k l = LC l := lc_fuel _ _ _ (Nat.le_refl _) h
theorem LC_cons (c : UInt8) (r : B) : LC (c :: r) = if c = 47 ∧ r.head? = some 42 then LC ((r.drop 1).drop (block (r.drop 1)))
    else if c = 47 ∧ r.head? = some 47 then (if upto10 (c :: r) = (c :: r).length then true else LC ((c :: r).drop (upto10 (c :: r) + 1)))
    else LC r := by
  rw [← LC_fuel (r.length + 1) (c :: r) (by simp), lc_cons, LC_fuel _ _ (by simp only [List.length_drop]; omega), LC_fuel _ _ (by simp only [List.length_drop, List.length_cons]; omega), LC_fuel _ r (Nat.le_refl _)]
theorem upto10_at : ∀ l : B, upto10 l < l.length → l.drop (upto10 l) = 10 :: l.drop (upto10 l + 1)
  | [], h => by simp at h
  | c :: r, h => by
    rw [upto10] at h ⊢
    by_cases hc : c = 10
    · rw [if_pos hc, List.drop_zero, List.drop_succ_cons, List.drop_zero, hc]
    · rw [if_neg hc] at h ⊢
      rw [List.drop_succ_cons, List.drop_succ_cons, upto10_at r (by simpa using h)]
theorem LC_piece (l y : B) (ho : isOpen l = false) (hp : piece l ≠ 0) (h : piece l + 2 ≤ l.length) : LC (l ++ y) = LC (l.drop (piece l) ++ y) := by
  match l, ho, hp, h with
  | [], _, _, h => simp at h
  | [c], _, hp, h => simp at h
  | [c, d], _, hp, h => simp at h; omega
  | c :: d :: e :: r, ho, hp, h =>
    rw [show (c :: d :: e :: r ++ y : B) = c :: ((d :: e :: r) ++ y) from rfl, LC_cons]
    rw [show ((d :: e :: r) ++ y : B).head? = some d from rfl]
    rw [piece_cons'] at hp h ⊢
    by_cases hb : isBl c = true
    · have h47 : c ≠ 47 := by rintro rfl; exact absurd hb (by decide)
      rw [if_neg (fun q => h47 q.1), if_neg (fun q => h47 q.1), if_pos hb]; rfl
    · rw [if_neg hb] at hp h ⊢
      by_cases h92 : c = 92
      · have h47 : c ≠ 47 := by rw [h92]; decide
        rw [if_neg (fun q => h47 q.1), if_neg (fun q => h47 q.1), if_pos h92]
        rw [if_pos h92] at hp h
        by_cases h10 : (d :: e :: r).head? = some 10
        · obtain rfl : d = 10 := by simpa using h10
          rw [if_pos h10, List.cons_append, LC_cons, if_neg (fun q => absurd q.1 (by decide)), if_neg (fun q => absurd q.1 (by decide))]; rfl
        · rw [if_neg h10] at hp h ⊢
          by_cases h13 : (d :: e :: r).take 2 = [13, 10]
          · rw [if_pos h13]
            obtain ⟨rfl, rfl⟩ : d = 13 ∧ e = 10 := by simpa using h13
            rw [List.cons_append, LC_cons, if_neg (fun q => absurd q.1 (by decide)), if_neg (fun q => absurd q.1 (by decide)), List.cons_append, LC_cons, if_neg (fun q => absurd q.1 (by decide)), if_neg (fun q => absurd q.1 (by decide))]; rfl
          · rw [if_neg h13] at hp; exact absurd rfl hp
      · rw [if_neg h92] at hp h ⊢
        rw [cmt_cons'] at hp h ⊢
        by_cases h47 : c = 47
        · rw [if_pos h47] at hp h ⊢
          rw [show (d :: e :: r : B).head? = some d from rfl] at hp h ⊢
          by_cases hd : some d = some 47
          · rw [if_pos hd] at hp h ⊢
            obtain rfl : d = 47 := by simpa using hd
            subst h47
            have hlt : upto10 (47 :: 47 :: e :: r) < (47 :: 47 :: e :: r : B).length := by
              rw [upto10, if_neg (by decide)]; simp only [List.length_cons] at h ⊢; omega
            have hup := upto10_app_lt y (47 :: 47 :: e :: r) hlt
            rw [if_neg (by simp), if_pos ⟨rfl, rfl⟩]
            rw [show (47 :: ((47 :: e :: r) ++ y) : B) = (47 :: 47 :: e :: r) ++ y from rfl, hup, if_neg (by rw [List.length_append]; omega)]
            have hat := upto10_at (47 :: 47 :: e :: r) hlt
            have hu : upto10 (47 :: e :: r) + 1 = upto10 (47 :: 47 :: e :: r) := by
              conv => rhs; rw [upto10, if_neg (by decide)]
            rw [hu, hat, List.cons_append (a := 10), LC_cons 10, if_neg (fun q => absurd q.1 (by decide)), if_neg (fun q => absurd q.1 (by decide))]
            rw [List.drop_append_of_le_length (by omega)]
          · rw [if_neg hd] at hp h ⊢
            by_cases h42 : some d = some 42
            · rw [if_pos h42] at hp h ⊢
              obtain rfl : d = 42 := by simpa using h42
              subst h47
              have hc : closed (e :: r) = true := isOpen_block ho rfl
              rw [if_pos ⟨rfl, rfl⟩]
              rw [show ((42 :: e :: r) ++ y : B).drop 1 = (e :: r) ++ y from rfl, block_app y _ hc, List.drop_append_of_le_length (block_len _)]
              rfl
            · rw [if_neg h42] at hp; exact absurd rfl hp
        · rw [if_neg h47] at hp; exact absurd rfl hp
theorem LC_open (l : B) (h : isOpen l = true) : piece (l ++ [42, 47]) = l.length + 2 ∧ LC (l ++ [42, 47]) = false := by
  unfold isOpen at h
  split at h
  · rename_i r
    have hc : closed r = false := by simpa using h
    have e := block_shut r hc
    constructor
    · rw [show (47 :: 42 :: r ++ [42, 47] : B) = 47 :: 42 :: (r ++ [42, 47]) from rfl, piece_cons', if_neg (by decide), if_neg (by decide), cmt_cons', if_pos rfl, if_neg (by simp), if_pos (by rfl : (42 :: (r ++ [42, 47]) : B).head? = some 42), List.drop_succ_cons, List.drop_zero, e]
      rfl
    · rw [show (47 :: 42 :: r ++ [42, 47] : B) = 47 :: 42 :: (r ++ [42, 47]) from rfl, LC_cons, if_pos ⟨rfl, rfl⟩, List.drop_succ_cons, List.drop_zero, e, List.drop_of_length_le (by simp)]
      rfl
  · cases h
theorem flat_open (hS : Fair S) : ∀ (m : Nat) (l bf : B) (a : Nat) (f : Bool), l.length < m → opens K S m l f = true → LC (bf ++ l ++ [42, 47]) = LC (l ++ [42, 47]) →
    ∃ init be, flat K S (l.length + 1) bf l a f = init ++ [⟨0, be, [], a + l.length⟩] ∧ flat K S (l.length + 3) bf (l ++ [42, 47]) a f = init ++ [⟨0, be ++ [42, 47], [], a + l.length + 2⟩] ∧ 2 ≤ be.length ∧ LC (be ++ [42, 47]) = false := by
  intro m
  induction m with
  | zero => intro l bf a f h; omega
  | succ m ih =>
    intro l bf a f hm ho hlc
    have h2 := opens_len _ _ _ ho
    unfold opens at ho
    by_cases hp : piece l = 0
    · rw [if_neg (by simpa using hp)] at ho
      have hl : l ≠ [] := by rintro rfl; simp at h2
      rw [if_neg hl] at ho
      obtain ⟨c, r, rfl⟩ : ∃ c r, l = c :: r := by
        cases l with
        | nil => exact absurd rfl hl
        | cons c r => exact ⟨c, r, rfl⟩
      have ht := tok_len (K := K) hS f (c :: r) hl
      have h2' := opens_len _ _ _ ho
      rw [List.length_drop, List.length_cons] at h2'
      have ta := tok_app_close (K := K) hS f c r (by omega)
      have hop : isOpen (c :: r) = false := by
        cases h : isOpen (c :: r) with
        | false => rfl
        | true => have := isOpen_piece _ h; omega
      obtain ⟨d, e, r', rfl⟩ : ∃ d e r', r = d :: e :: r' := by
        match r, h2' with
        | [], h => simp at h; omega
        | [d], h => simp at h; omega
        | d :: e :: r', _ => exact ⟨d, e, r', rfl⟩
      have pa := piece_app_lt c d e r' [42, 47] hop (by omega)
      rw [hp] at pa
      rw [flat_tok K S _ bf (c :: d :: e :: r') a f _ hp hl rfl, flat_tok K S _ bf (c :: d :: e :: r' ++ [42, 47]) a f _ pa (by simp) ta]
      generalize tok K S f (c :: d :: e :: r') = t at *
      obtain ⟨init, be, e1, e2, e3, e4⟩ := ih ((c :: d :: e :: r').drop t.2) [] (a + t.2) false (by rw [List.length_drop]; omega) ho rfl
      refine ⟨⟨t.1, bf, (c :: d :: e :: r').take t.2, a⟩ :: init, be, ?_, ?_, e3, e4⟩
      · rw [flat_fuel hS (((c :: d :: e :: r').drop t.2).length + 1) _ _ _ _ _ (by omega) (by rw [List.length_drop]; omega), e1, List.length_drop, show a + t.2 + ((c :: d :: e :: r').length - t.2) = a + (c :: d :: e :: r').length by omega]
        rfl
      · rw [List.length_drop, show a + t.2 + ((c :: d :: e :: r').length - t.2) + 2 = a + (c :: d :: e :: r').length + 2 by omega] at e2
        rw [take_app ht.2.1, List.drop_append_of_le_length ht.2.1, flat_fuel hS ((c :: d :: e :: r').length - t.2 + 3) _ _ _ _ _ (by simp only [List.length_append, List.length_drop, List.length_cons, List.length_nil]; omega) (by simp only [List.length_cons]; omega), e2]
        rfl
    · rw [if_pos hp, Bool.or_eq_true] at ho
      by_cases hop : isOpen l = true
      · obtain ⟨p1, p2⟩ := isOpen_piece l hop
        obtain ⟨q1, q2⟩ := LC_open l hop
        refine ⟨[], bf ++ l, ?_, ?_, by rw [List.length_append]; omega, ?_⟩
        · obtain ⟨k, hk⟩ : ∃ k, l.length = k + 1 := ⟨l.length - 1, by omega⟩
          rw [flat_piece K S _ bf l a f _ p1 (by omega), List.take_of_length_le (Nat.le_refl _), List.drop_of_length_le (Nat.le_refl _)]
          generalize clearAfter l l.length f = g
          rw [hk, flat_end]
          rw [← hk]; rfl
        · rw [flat_piece K S _ bf (l ++ [42, 47]) a f _ q1 (by omega), List.take_of_length_le (by simp), List.drop_of_length_le (by simp), flat_end, List.append_assoc]
          rfl
        · rw [hlc, q2]
      · have hop' : isOpen l = false := by simpa using hop
        have ho2 := ho.resolve_left hop
        have h2' := opens_len _ _ _ ho2
        rw [List.length_drop] at h2'
        have hle := piece_len l
        have hl : l ≠ [] := by rintro rfl; simp at h2
        obtain ⟨c, d, e, r', rfl⟩ : ∃ c d e r', l = c :: d :: e :: r' := by
          match l, h2', hp with
          | [], h, _ => simp at h
          | [c], h, hp => simp at h; omega
          | [c, d], h, hp => simp at h; omega
          | c :: d :: e :: r', _, _ => exact ⟨c, d, e, r', rfl⟩
        have pa := piece_app_lt c d e r' [42, 47] hop' (by simp only [List.length_cons] at h2' ⊢; omega)
        have lp := LC_piece (c :: d :: e :: r') [42, 47] hop' hp (by omega)
        have ca := clearAfter_app (c :: d :: e :: r') [42, 47] (piece (c :: d :: e :: r')) f hle hl
        rw [flat_piece K S _ bf (c :: d :: e :: r') a f _ rfl hp, flat_piece K S _ bf (c :: d :: e :: r' ++ [42, 47]) a f _ pa hp, ca, take_app hle, List.drop_append_of_le_length hle]
        generalize hn : piece (c :: d :: e :: r') = n at *
        obtain ⟨init, be, e1, e2, e3, e4⟩ := ih ((c :: d :: e :: r').drop n) (bf ++ (c :: d :: e :: r').take n) (a + n) (clearAfter (c :: d :: e :: r') n f) (by rw [List.length_drop]; omega) ho2
          (by rw [List.append_assoc bf, List.take_append_drop, hlc, lp])
        refine ⟨init, be, ?_, ?_, e3, e4⟩
        · rw [flat_fuel hS (((c :: d :: e :: r').drop n).length + 1) _ _ _ _ _ (by omega) (by rw [List.length_drop]; omega), e1, List.length_drop, show a + n + ((c :: d :: e :: r').length - n) = a + (c :: d :: e :: r').length by omega]
        · rw [List.length_drop, show a + n + ((c :: d :: e :: r').length - n) + 2 = a + (c :: d :: e :: r').length + 2 by omega] at e2
          rw [flat_fuel hS ((c :: d :: e :: r').length - n + 3) _ _ _ _ _ (by simp only [List.length_append, List.length_drop, List.length_cons, List.length_nil]; omega) (by simp only [List.length_cons]; omega), e2]
/-- places moved on -/
def mv (d : Nat) (t : Tok) : Tok := ⟨t.kind, t.before, t.text, t.at_ + d⟩
theorem flat_mv (d : Nat) : ∀ (k : Nat) (bf l : B) (a : Nat) (f : Bool), flat K S k bf l (a + d) f = (flat K S k bf l a f).map (mv d) := by
  intro k
  induction k with
  | zero => intro bf l a f; rfl
  | succ k ih =>
    intro bf l a f
    rw [flat, flat]
    by_cases hp : piece l ≠ 0
    · rw [if_pos hp, if_pos hp, show a + d + piece l = a + piece l + d by omega, ih]
    · rw [if_neg hp, if_neg hp]
      by_cases hl : l = []
      · rw [if_pos hl, if_pos hl]; rfl
      · rw [if_neg hl, if_neg hl, List.map_cons, show a + d + (tok K S f l).2 = a + (tok K S f l).2 + d by omega, ih]; rfl
/-- more ahead of the first token -/
def ahead (p : B) : List Tok → List Tok
  | [] => []
  | t :: r => ⟨t.kind, p ++ t.before, t.text, t.at_⟩ :: r
theorem flat_ahead (p : B) : ∀ (k : Nat) (bf l : B) (a : Nat) (f : Bool), flat K S k (p ++ bf) l a f = ahead p (flat K S k bf l a f) := by
  intro k
  induction k with
  | zero => intro bf l a f; rfl
  | succ k ih =>
    intro bf l a f
    rw [flat, flat]
    by_cases hp : piece l ≠ 0
    · rw [if_pos hp, if_pos hp, List.append_assoc, ih]
    · rw [if_neg hp, if_neg hp]
      by_cases hl : l = []
      · rw [if_pos hl, if_pos hl]; rfl
      · rw [if_neg hl, if_neg hl]; rfl
/-- the tokens of two texts with a line feed between -/
theorem tokens_two (hS : Fair S) (a b : B) (he : EndOk a) (ho : opens K S (a.length + 1) a true = false) :
    ∃ init be, tokens K S a = init ++ [⟨0, be, [], a.length⟩] ∧ tokens K S (a ++ 10 :: b) = init ++ (ahead (be ++ [10]) (tokens K S b)).map (mv (a.length + 1)) := by
  obtain ⟨init, be, e1, e2⟩ := flat_two hS b _ a [] 0 true (Nat.lt_succ_self _) he ho
  rw [Nat.zero_add] at e1 e2
  refine ⟨init, be, by rw [tokens_flat hS, e1], ?_⟩
  rw [tokens_flat hS, tokens_flat hS, List.length_append, List.length_cons, show a.length + (b.length + 1) + 1 = a.length + b.length + 2 by omega, e2, ← flat_ahead, List.append_nil]
  congr 1
  have := flat_mv (K := K) (S := S) (a.length + 1) (b.length + 1) (be ++ [10]) b 0 true
  rw [Nat.zero_add] at this
  exact this
theorem tokens_open (hS : Fair S) (a : B) (ho : opens K S (a.length + 1) a true = true) :
    ∃ init be, tokens K S a = init ++ [⟨0, be, [], a.length⟩] ∧ tokens K S (a ++ [42, 47]) = init ++ [⟨0, be ++ [42, 47], [], a.length + 2⟩] ∧ 2 ≤ be.length ∧ LC (be ++ [42, 47]) = false := by
  obtain ⟨init, be, e1, e2, e3, e4⟩ := flat_open hS _ a [] 0 true (Nat.lt_succ_self _) ho rfl
  rw [Nat.zero_add] at e1 e2
  exact ⟨init, be, by rw [tokens_flat hS, e1], by rw [tokens_flat hS, List.length_append]; exact e2, e3, e4⟩
end Go.Proofs.YtabnmkakgcifoaaDoor.Lx

namespace Go.Proofs.YtabnmkakgcifoaaDoor.PLex
open Go.RowKit Go.Proofs.YtabnmkakgcifoaaDoorW.PrintWords Go.Proofs.YtabnmkakgcifoaaDoorW.PrintLast Go.Proofs.YtabnmkakgcifoaaDoorW.PrintMore
theorem signs_fair : Lx.Fair signsL := by
  have h : ∀ s ∈ signsL, s.head? ≠ some 39 ∧ s.head? ≠ some 34 ∧ s.head? ≠ some 92 ∧ (10 : UInt8) ∉ s ∧ (32 : UInt8) ∉ s ∧ (s.head? = some 35 → s = [35]) ∧ s.head?.any Lx.isBl = false ∧ s.length ≤ 3 := by decide +kernel
  refine ⟨fun s hs => (h s hs).1, fun s hs => (h s hs).2.1, fun s hs => (h s hs).2.2.1, fun s hs => (h s hs).2.2.2.1, fun s hs => (h s hs).2.2.2.2.1, fun s hs => (h s hs).2.2.2.2.2.1, fun s hs c hc => ?_, fun s hs => (h s hs).2.2.2.2.2.2.2⟩
  have := (h s hs).2.2.2.2.2.2.1
  rw [hc] at this
  exact this
/-- the tokens of a text -/
@[irreducible] def toks (s : ByteArray) : List Lx.Tok := Lx.tokens keysL signsL (bl s)
theorem scanR_ok (s : ByteArray) (h : (scanR s).2 = 0) : (scanR s).1 = (toks s).map toS ∧ s.size ≤ 200000 ∧ (toks s).length ≤ 40000 := by
  unfold scanR at h ⊢
  by_cases h1 : 200000 < s.size
  · rw [if_pos h1] at h; exact absurd h (by decide)
  · rw [if_neg h1] at h ⊢
    by_cases h2 : 40000 < (Lx.tokens keysL signsL (bl s)).length
    · rw [if_pos h2] at h; exact absurd h (by decide)
    · rw [if_neg h2]; unfold toks; exact ⟨rfl, by omega, by omega⟩
theorem scanR_bad (s : ByteArray) (h : (scanR s).2 ≠ 0) : 40000 ≤ s.size := by
  unfold scanR at h
  by_cases h1 : 200000 < s.size
  · omega
  · rw [if_neg h1] at h
    by_cases h2 : 40000 < (Lx.tokens keysL signsL (bl s)).length
    · have := Lx.tokens_len (K := keysL) signs_fair (bl s)
      rw [bl_length] at this
      omega
    · rw [if_neg h2] at h; exact absurd rfl h
theorem rd_at (l : List S30) (i : Nat) (h : i < l.length) : rd_T30 l (i : Int) = l[i] := by
  unfold rd_T30
  rw [Int.toNat_natCast, List.getD_eq_getElem?_getD, List.getElem?_eq_getElem h]; rfl
theorem rd_map (l : List Lx.Tok) (i : Nat) (h : i < l.length) : rd_T30 (l.map toS) (i : Int) = toS l[i] := by
  rw [rd_at _ i (by rw [List.length_map]; exact h), List.getElem_map]
theorem rd_last (l : List Lx.Tok) (t : Lx.Tok) : rd_T30 ((l ++ [t]).map toS) (wrap64 ((((l ++ [t]).map toS).length : Int) - 1)) = toS t ∨ 1000000000000 < l.length := by
  rcases Nat.lt_or_ge 1000000000000 l.length with h | h
  · exact Or.inr h
  · left
    rw [List.length_map, List.length_append, List.length_singleton, w64 (by omega) (by omega), show ((l.length + 1 : Nat) : Int) - 1 = (l.length : Int) by omega, rd_map _ l.length (by simp)]
    simp
theorem mk_bl' (l : List UInt8) : bl (⟨l.toArray⟩ : ByteArray) = l := by simp [bl]
theorem mk_size (l : List UInt8) : (⟨l.toArray⟩ : ByteArray).size = l.length := by rw [← bl_length, mk_bl']
theorem bl_app (x y : ByteArray) : bl (x ++ y) = bl x ++ bl y := by
  unfold bl
  rw [ByteArray.data_append, Array.toList_append]
theorem toks_ne (s : ByteArray) : ∃ init e, toks s = init ++ [e] := by
  have h := Lx.tokens_row (K := keysL) signs_fair (bl s)
  unfold toks
  generalize Lx.tokens keysL signsL (bl s) = l at *
  cases l with
  | nil => exact absurd h (by simp [Lx.Row])
  | cons t r => exact ⟨(t :: r).dropLast, (t :: r).getLast (by simp), (List.dropLast_concat_getLast _).symm⟩
theorem toks_len (s : ByteArray) : (toks s).length ≤ s.size + 1 := by
  have := Lx.tokens_len (K := keysL) signs_fair (bl s)
  rw [bl_length] at this
  unfold toks
  exact this
end Go.Proofs.YtabnmkakgcifoaaDoor.PLex

namespace Go.Proofs.YtabnmkakgcifoaaDoor.PLex
open Go.RowKit Go.Proofs.YtabnmkakgcifoaaDoorW.PrintWords Go.Proofs.YtabnmkakgcifoaaDoorW.PrintLast Go.Proofs.YtabnmkakgcifoaaDoorW.PrintMore
theorem wsucc (i : Nat) (h : i ≤ 1000000000000) : wrap64 ((i : Int) + 1) = ((i + 1 : Nat) : Int) := by rw [w64 (by omega) (by omega)]; omega
theorem wwrap (x : Int) (n : Nat) (h : x = (n : Int)) (hn : n ≤ 1000000000000) : wrap64 x = (n : Int) := by rw [h, w64 (by omega) (by omega)]
theorem eqStrings_refl (l : List ByteArray) (hl : l.length ≤ 1000000000) : Ev (fun k => rf0_EqStrings.f k l l) true := by
  have h : ∀ (m i : Nat), l.length < i + m → i ≤ l.length → Ev (fun k => rf0_EqStrings.l0 k l l i) true := by
    intro m
    induction m with
    | zero => intro i h1 h2; omega
    | succ m ih =>
      intro i h1 h2
      rcases Nat.lt_or_ge i l.length with hi | hi
      · refine Ev.step (fun k => ?_) (ih (i + 1) (by omega) (by omega))
        rw [rf0_EqStrings.l0, if_pos (by omega), if_pos (by omega), if_pos (by omega), w64 (by omega) (by omega), if_pos rfl]
        rfl
      · refine Ev.step (fun k => ?_) (Ev.now _)
        rw [rf0_EqStrings.l0, if_neg (by omega)]
  exact Ev.congr (fun k => by unfold rf0_EqStrings.f; rw [if_pos rfl]; rfl) (h (l.length + 1) 0 (by omega) (by omega))
/-- a token's text stays when tokens are stripped -/
def keepS (t : S30) : Bool := t.f0 != 7 && t.f0 != 0
theorem strip_ev (l : List S30) (hl : l.length ≤ 1000000000) : Ev (fun k => lex_Strip.f k l) ((l.filter keepS).map (·.f2)) := by
  have h : ∀ (m i : Nat) (outs : List ByteArray), l.length < i + m → i ≤ l.length → outs.length ≤ i → Ev (fun k => lex_Strip.l0 k outs l (l.length : Int) i) (outs ++ ((l.drop i).filter keepS).map (·.f2)) := by
    intro m
    induction m with
    | zero => intro i outs h1 h2; omega
    | succ m ih =>
      intro i outs h1 h2 h3
      rcases Nat.lt_or_ge i l.length with hi | hi
      · have hw := Aside0.mk (wsucc i (by omega))
        have hr := rd_at l i hi
        rw [List.drop_eq_getElem_cons hi, List.filter_cons]
        by_cases h7 : l[i].f0 = 7
        · rw [if_neg (by simp [keepS, h7])]
          refine Ev.step (f := fun k => lex_Strip.l0 k outs l (l.length : Int) ((i + 1 : Nat) : Int)) (fun k => ?_) (ih (i + 1) outs (by omega) (by omega) (by omega))
          rw [lex_Strip.l0, if_pos (by omega), if_pos (by omega), if_pos (by omega), hr, if_pos h7, hw.out]
        · by_cases h0 : l[i].f0 = 0
          · rw [if_neg (by simp [keepS, h0])]
            refine Ev.step (f := fun k => lex_Strip.l0 k outs l (l.length : Int) ((i + 1 : Nat) : Int)) (fun k => ?_) (ih (i + 1) outs (by omega) (by omega) (by omega))
            rw [lex_Strip.l0, if_pos (by omega), if_pos (by omega), if_pos (by omega), hr, if_neg h7, if_pos h0, hw.out]
          · rw [if_pos (by simp [keepS, h7, h0]), List.map_cons]
            have e := ih (i + 1) (outs ++ [l[i].f2]) (by omega) (by omega) (by rw [List.length_append, List.length_singleton]; omega)
            rw [List.append_assoc, List.singleton_append] at e
            refine Ev.step (f := fun k => lex_Strip.l0 k (outs ++ [l[i].f2]) l (l.length : Int) ((i + 1 : Nat) : Int)) (fun k => ?_) e
            rw [lex_Strip.l0, if_pos (by omega), if_pos (by omega), if_pos (by omega), hr, if_neg h7, if_neg h0, if_pos (by omega), hw.out]
      · rw [List.drop_of_length_le hi, List.filter_nil, List.map_nil, List.append_nil]
        refine Ev.step (fun k => ?_) (Ev.now _)
        rw [lex_Strip.l0, if_neg (by omega)]
  exact Ev.congr (fun k => by unfold lex_Strip.f; rfl) (h (l.length + 1) 0 [] (by omega) (by omega) (by simp))
end Go.Proofs.YtabnmkakgcifoaaDoor.PLex

namespace Go.Proofs
open Go.Shelf
def Tryd.lays240_ren : Go.Shelf.Ren := ⟨fun | 166 => 42 | 240 => 62 | 276 => 77 | n => n, fun | 0 => 0 | 3 => 3 | 4 => 4 | 5 => 5 | 9 => 9 | 20 => 20 | 37 => 32 | 70 => 58 | 72 => 60 | 75 => 62 | 80 => 65 | 164 => 90 | n => n, fun | n => n⟩
theorem Tryd.lays240 : Go.Proofs.Lays.n240 Tryd.prog Tryd.lays240_ren := {
  mixed := by kernel_rfl
  f240 := Tryd.func62.trans (congrArg some (by kernel_rfl))
  f276 := Tryd.func77.trans (congrArg some (by kernel_rfl))
  t0 := Tryd.underlying0
  a0 := Tryd.isAgg0
  z0 := Tryd.sizeOf0
  v0 := Tryd.zeroValue0
  t4 := Tryd.underlying4
  a4 := Tryd.isAgg4
  z4 := Tryd.sizeOf4
  v4 := Tryd.zeroValue4
  t9 := Tryd.underlying9
  a9 := Tryd.isAgg9
  z9 := Tryd.sizeOf9
  v9 := Tryd.zeroValue9
  t20 := Tryd.underlying20
  a20 := Tryd.isAgg20
  z20 := Tryd.sizeOf20
  v20 := Tryd.zeroValue20
  t70 := Tryd.underlying58
  a70 := Tryd.isAgg58
  z70 := Tryd.sizeOf58
  v70 := Tryd.zeroValue58
  t72 := Tryd.underlying60
  a72 := Tryd.isAgg60
  z72 := Tryd.sizeOf60
  v72 := Tryd.zeroValue60
  t164 := Tryd.underlying90
  a164 := Tryd.isAgg90
  z164 := Tryd.sizeOf90
  v164 := Tryd.zeroValue90 }
def Tryd.lays166_ren : Go.Shelf.Ren := ⟨fun | 166 => 42 | 240 => 62 | 276 => 77 | n => n, fun | 0 => 0 | 3 => 3 | 4 => 4 | 5 => 5 | 9 => 9 | 20 => 20 | 37 => 32 | 70 => 58 | 72 => 60 | 75 => 62 | 80 => 65 | 164 => 90 | n => n, fun | n => n⟩
theorem Tryd.lays166 : Go.Proofs.Lays.n166 Tryd.prog Tryd.lays166_ren := {
  mixed := by kernel_rfl
  f166 := Tryd.func42.trans (congrArg some (by kernel_rfl))
  f240 := Tryd.func62.trans (congrArg some (by kernel_rfl))
  f276 := Tryd.func77.trans (congrArg some (by kernel_rfl))
  t0 := Tryd.underlying0
  a0 := Tryd.isAgg0
  z0 := Tryd.sizeOf0
  v0 := Tryd.zeroValue0
  t3 := Tryd.underlying3
  a3 := Tryd.isAgg3
  z3 := Tryd.sizeOf3
  v3 := Tryd.zeroValue3
  t4 := Tryd.underlying4
  a4 := Tryd.isAgg4
  z4 := Tryd.sizeOf4
  v4 := Tryd.zeroValue4
  t9 := Tryd.underlying9
  a9 := Tryd.isAgg9
  z9 := Tryd.sizeOf9
  v9 := Tryd.zeroValue9
  t20 := Tryd.underlying20
  a20 := Tryd.isAgg20
  z20 := Tryd.sizeOf20
  v20 := Tryd.zeroValue20
  t37 := Tryd.underlying32
  a37 := Tryd.isAgg32
  z37 := Tryd.sizeOf32
  v37 := Tryd.zeroValue32
  t70 := Tryd.underlying58
  a70 := Tryd.isAgg58
  z70 := Tryd.sizeOf58
  v70 := Tryd.zeroValue58
  t72 := Tryd.underlying60
  a72 := Tryd.isAgg60
  z72 := Tryd.sizeOf60
  v72 := Tryd.zeroValue60
  t75 := Tryd.underlying62
  a75 := Tryd.isAgg62
  z75 := Tryd.sizeOf62
  v75 := Tryd.zeroValue62
  t164 := Tryd.underlying90
  a164 := Tryd.isAgg90
  z164 := Tryd.sizeOf90
  v164 := Tryd.zeroValue90 }
theorem Tryd.Builder_Extra_166 : Builder.Extra Tryd.prog Tryd.lays166_ren := {
  sizeBuilder := by kernel_rfl
  liesBuilder := by kernel_rfl
  t5 := Tryd.underlying5
  a5 := Tryd.isAgg5
  z5 := Tryd.sizeOf5
  v5 := Tryd.zeroValue5
  infoByte := by kernel_rfl
  cellsByte := by kernel_rfl
  sizeByte := by kernel_rfl
  neB5 := by decide }
open Go.RowKit in
theorem Tryd.Builder_WriteString_k (B b : Nat) (bs : List Value) (s : ByteArray) (w : World) (h : Lib.IsBuilderF 60 5 B b bs w) (hlen : bs.length + s.size ≤ 140737488355328) (hBw : B ≤ w.heap.size) :
    Calls Tryd.prog 42 #[.pointer (some ⟨b, 0, none⟩), .string s] w fun e w' => e = .returned (.tuple #[.int .i64 s.size, .nilIface]) ∧ (Lib.BuilderAtF 60 5 B b (.pointer (some ⟨b, 0, none⟩)) (bs ++ Lib.strCells s) w' ∧ Below B w w' ∧ Lib.OthersKept 5 (some b) w w') := Any.Builder_WriteString_k Tryd.lays166 Tryd.Builder_Extra_166 B b bs s w h hlen hBw
open Go.RowKit in
theorem Tryd.Builder_WriteString (B b : Nat) (bs : List Value) (s : ByteArray) (w : World) (h : Lib.IsBuilder 60 5 B b bs w) (hlen : bs.length + s.size ≤ 140737488355328) (hBw : B ≤ w.heap.size) :
    Calls Tryd.prog 42 #[.pointer (some ⟨b, 0, none⟩), .string s] w fun e w' => e = .returned (.tuple #[.int .i64 s.size, .nilIface]) ∧ (Lib.BuilderAt 60 5 B b (.pointer (some ⟨b, 0, none⟩)) (bs ++ Lib.strCells s) w' ∧ Below B w w') := Any.Builder_WriteString Tryd.lays166 Tryd.Builder_Extra_166 B b bs s w h hlen hBw
end Go.Proofs

