/- LexKeeps holds: for every text the statement answers true, where the two listed package variables hold what the program's text lays. Part 2 of 2. -/
import Derived.Test.YtabnmkakgcifoaaDoorBKeepsA
import Derived.BigCall
import Derived.Lib.OthersKept
import Derived.Lib.Hide
namespace Go.Proofs.YtabnmkakgcifoaaDoor.PLex
open Go.RowKit Go.Proofs.YtabnmkakgcifoaaDoorW.PrintWords Go.Proofs.YtabnmkakgcifoaaDoorW.PrintLast Go.Proofs.YtabnmkakgcifoaaDoorW.PrintMore
def textL (l : List S30) : List UInt8 := (l.map fun t => t.f1.data.toList ++ t.f2.data.toList).flatten
theorem textL_snoc (l : List S30) (t : S30) : textL (l ++ [t]) = textL l ++ (t.f1 ++ t.f2).data.toList := by
  simp [textL, ByteArray.data_append]
theorem textL_take (l : List S30) (i : Nat) : (textL (l.take i)).length ≤ (textL l).length := by
  have h : textL l = textL (l.take i) ++ textL (l.drop i) := by
    unfold textL
    rw [← List.flatten_append, ← List.map_append, List.take_append_drop]
  rw [h, List.length_append]
  omega
def lex_Text.f (l : List S30) : Option ByteArray := if (textL l).length ≤ 140737488351232 ∧ l.length ≤ 1000000000 then some ⟨(textL l).toArray⟩ else none
theorem alloc_set (w : World) (cs : Array Value) (t : TypeId) (f : Nat × Nat) (i : Nat) (v : Value) : (w.alloc (.cells cs t f)).setCell ⟨w.heap.size, i, none⟩ v = w.alloc (.cells (cs.setIfInBounds i v) t f) := by
  unfold World.setCell World.alloc
  simp only [World.mk.injEq, and_true]
  apply Array.ext_getElem?
  intro j
  rw [Array.getElem?_modify, Array.getElem?_push]
  by_cases h : w.heap.size = j
  · rw [if_pos h, if_pos h.symm, Array.getElem?_push, if_pos h.symm]; rfl
  · rw [if_neg h, Array.getElem?_push, if_neg (fun e => h e.symm), if_neg (fun e => h e.symm)]
theorem rd_nat (l : List S30) (i : Nat) (h : i < l.length) : l.take (i + 1) = l.take i ++ [rd_T30 l (i : Int)] := by
  rw [List.take_succ_eq_append_getElem h]
  unfold rd_T30
  rw [Int.toNat_natCast, List.getD_eq_getElem?_getD, List.getElem?_eq_getElem h]; rfl
set_option maxHeartbeats 4000000 in
set_option maxRecDepth 100000 in
theorem lex_Text.calls (A0 : Option Addr) (c0 : Nat) (l0 : List S30) (r : ByteArray) (w : World) (hr0 : Kd.C k30 w A0 l0.length l0) (_hc0 : l0.length ≤ c0) (h : lex_Text.f l0 = some r) :
    Calls Tryd.prog 26 #[.slice A0 l0.length c0] w fun e w' => e = .returned (.string r) ∧ Below w.heap.size w w' := by
  have h0 : Lib.IsBuilderF 60 5 w.heap.size w.heap.size [] (w.alloc (.cells #[.pointer none, .slice none 0 0] 60)) := Lib.IsBuilderF.of (Lib.fresh_isBuilder 60 5 w)
  have b0 : Below w.heap.size w (w.alloc (.cells #[.pointer none, .slice none 0 0] 60)) := (Below.refl _ w).alloc (Nat.le_refl _) _
  unfold lex_Text.f at h
  split at h
  · rename_i hh
    obtain ⟨hlen, hll⟩ := hh
    have HR := Lib.hid (Option.some.inj h)
    have HR0 := Aside0.mk hr0
    have HLEN := Lib.hid hlen
    have H0 := Aside0.mk h0
    have B0 := Aside0.mk b0
    clear h hr0 hlen h0 b0
    have hu30 := Tryd.underlying30
    go_enter Tryd.func26, Tryd.ntmps26
    go_wp2_with fail
    go_loopg [8] (l0.length + 1) (fun kq v8 w' => ∃ i : Nat, v8 = .int .i64 (i : Int) ∧ Aside0 (l0.length - i < kq ∧ i ≤ l0.length) ∧ Aside0 (Lib.IsBuilderF 60 5 w.heap.size w.heap.size (Lib.byteCells (textL (l0.take i))) w') ∧ Aside0 (Below w.heap.size w w'))
    case atStart => exact ⟨0, rfl, ⟨by omega, by omega⟩, H0, B0⟩
    case round =>
      obtain ⟨i, rfl, HA, HI, HB⟩ := hrel
      obtain ⟨k1, rfl⟩ : ∃ k1, gk = k1 + 1 := ⟨gk - 1, by have := HA.out.1; omega⟩
      by_cases hlt : i < l0.length
      · have hb : decide ((i : Int) < (l0.length : Int)) = true := by simp; omega
        have hb2 : decide ((0 : Int) ≤ (i : Int)) = true := by simp
        have p0 : (0 : Int) ≤ (i : Int) := by omega
        have q0 : (i : Int) < (l0.length : Int) := by omega
        obtain ⟨ad, e0, hx0, hx1, hx2, hx3⟩ := at_T30 HR0.out (i : Int) p0 q0
        cases e0
        replace hx0 := (HB.out.cell (World.block_lt_of_cell? w _ hx0)).trans hx0
        replace hx1 := (HB.out.cell (World.block_lt_of_cell? w _ hx1)).trans hx1
        replace hx2 := (HB.out.cell (World.block_lt_of_cell? w _ hx2)).trans hx2
        replace hx3 := (HB.out.cell (World.block_lt_of_cell? w _ hx3)).trans hx3
        rw [Int.toNat_natCast] at hx0 hx1 hx2 hx3
        have HRD := Lib.hid (rd_nat l0 i hlt)
        generalize rd_T30 l0 (i : Int) = x at *
        have hsz : (textL (l0.take i)).length + (x.f1.size + x.f2.size) ≤ 140737488351232 := by
          have h1 := textL_take l0 (i + 1)
          rw [HRD.out, textL_snoc, List.length_append, ByteArray.data_append, Array.toList_append, List.length_append, Array.length_toList (xs := x.f1.data), Array.length_toList (xs := x.f2.data)] at h1
          have := HLEN.out
          show _ + (x.f1.data.size + x.f2.data.size) ≤ _
          omega
        have HSZ := Lib.hid hsz
        have hcat : (x.f1.size + x.f2.size ≤ 9223372036854775807) = True := eq_true (by omega)
        have hcat2 : decide (x.f1.size + x.f2.size ≤ 9223372036854775807) = true := decide_eq_true (by omega)
        have hcat3 : (9223372036854775807 < x.f1.size + x.f2.size) = False := eq_false (by omega)
        clear hsz
        go_wp2_with fail
        refine (Tryd.Builder_WriteString_k w.heap.size w.heap.size _ (x.f1 ++ x.f2) _ (HI.out.alloc _) ?_ ?_).mono ?_
        · rw [Lib.byteCells_length, ByteArray.size_append]
          have := HSZ.out
          omega
        · have := HB.out.size
          simp
          omega
        rintro e w2 ⟨rfl, hb2, hbel, -⟩
        have HI2 : Aside0 (Lib.IsBuilderF 60 5 w.heap.size w.heap.size (Lib.byteCells (textL (l0.take (i + 1)))) w2) := ⟨by
          rw [HRD.out, textL_snoc, Lib.byteCells_append, ← Lib.strCells_eq]
          exact Or.inr hb2⟩
        have HB2 := Aside0.mk ((HB.out.alloc HB.out.size _).trans hbel)
        clear hb2 hbel
        go_wp2_with fail
        go_roundg k1
        case measure => omega
        case rel => exact ⟨i + 1, by simp, ⟨by have := HA.out.1; omega, by omega⟩, HI2, HB2⟩
      · have hb : decide ((i : Int) < (l0.length : Int)) = false := by simp; omega
        have HI2 : Aside0 (Lib.IsBuilderF 60 5 w.heap.size w.heap.size (Lib.byteCells (textL l0)) wr) := ⟨by
          have := HI.out
          rw [List.take_of_length_le (by omega)] at this
          exact this⟩
        clear HI
        go_wp2_with fail
        refine (Tryd.Builder_String_any_k w.heap.size w.heap.size (textL l0) _ HI2.out HB.out.size).mono ?_
        rintro e w2 ⟨rfl, -, hbel, -⟩
        have HB2 := Aside0.mk (HB.out.trans hbel)
        clear hbel
        go_wp2_with fail
        go_ret
        exact ⟨by rw [HR.out]; rfl, HB2.out⟩
  · cases h
end Go.Proofs.YtabnmkakgcifoaaDoor.PLex

namespace Go.Proofs.YtabnmkakgcifoaaDoor.PLex
open Go.RowKit Go.Proofs.YtabnmkakgcifoaaDoorW.PrintWords Go.Proofs.YtabnmkakgcifoaaDoorW.PrintLast Go.Proofs.YtabnmkakgcifoaaDoorW.PrintMore
attribute [local go_sem] max2_int min2_int max_two min_two max_three min_three max_four min_four   -- for this text's walks alone
set_option linter.unusedVariables false
set_option linter.unusedSimpArgs false

mutual
def lw2_LexKeeps.l0 : Nat → ByteArray → List (S30) → Int → Option (Bool)
 | 0, _, _, _ => none
 | k + 1, x0, x3, x5 => if x5 < (x3.length : Int) then (if 0 ≤ x5 then (if ((rd_T30 x3 x5).f3) < 0 then (lw2_LexKeeps.j1 k x0 x3 x5 ((rd_T30 x3 x5).f3) true) else (if (wrap64 (((rd_T30 x3 x5).f3) + (((rd_T30 x3 x5).f2).size : Int))) > (x0.size : Int) then (lw2_LexKeeps.j1 k x0 x3 x5 ((rd_T30 x3 x5).f3) true) else (if 0 ≤ ((rd_T30 x3 x5).f3) then (if ((rd_T30 x3 x5).f3) ≤ (wrap64 (((rd_T30 x3 x5).f3) + (((rd_T30 x3 x5).f2).size : Int))) then (if (wrap64 (((rd_T30 x3 x5).f3) + (((rd_T30 x3 x5).f2).size : Int))) ≤ (x0.size : Int) then (if (x0.extract (((rd_T30 x3 x5).f3) : Int).toNat ((wrap64 (((rd_T30 x3 x5).f3) + (((rd_T30 x3 x5).f2).size : Int))) : Int).toNat).toList = ((rd_T30 x3 x5).f2).toList then (lw2_LexKeeps.j1 k x0 x3 x5 ((rd_T30 x3 x5).f3) ((((rd_T30 x3 x5).f2).toList == ([] : List UInt8)) != (((rd_T30 x3 x5).f0) == 0))) else (lw2_LexKeeps.j1 k x0 x3 x5 ((rd_T30 x3 x5).f3) true)) else (none)) else (none)) else (none)))) else (none)) else (if (x3.length : Int) > 0 then ((lex_Text.f x3).bind fun t384 => (if t384.toList = x0.toList then ((lw2_awake.f).bind fun t385 => (some t385)) else (some false))) else (some false))
def lw2_LexKeeps.j1 : Nat → ByteArray → List (S30) → Int → Int → Bool → Option (Bool)
 | 0, _, _, _, _, _ => none
 | k + 1, x0, x3, x5, x6, x81 => if x81 = true then (some false) else ((lex_At.f k x3 x6).bind fun bt392 => (if bt392.1 = x5 then (if bt392.2 = 0 then (lw2_LexKeeps.l0 k x0 x3 (wrap64 (x5 + 1))) else (some false)) else (some false)))
end
def lw2_LexKeeps.f (k : Nat) (a0 : ByteArray) : Option (Bool) := (lex_Scan.f a0).bind fun bt379 => (if bt379.2 = 0 then (lw2_LexKeeps.l0 k a0 bt379.1 0) else (if (a0.size : Int) > 1000 then ((lw2_awake.f).bind fun t383 => (some t383)) else (some false)))
set_option maxHeartbeats 8000000 in
set_option maxRecDepth 100000 in
theorem lw2_LexKeeps.calls (k : Nat) (a0 : ByteArray) (_r : Bool) (w : World) (hGl : Glob w) (h : lw2_LexKeeps.f k a0 = some true) :
  Calls Tryd.prog 8 #[.string a0] w fun e w' => e = .returned (.bool true) ∧ Below w.heap.size w w' := by
 have HB := Aside0.mk (Below.refl w.heap.size w)
 have HGl := Aside0.mk hGl
 clear hGl
 have H : ((lex_Scan.f a0).bind fun bt379 => (if bt379.2 = 0 then (lw2_LexKeeps.l0 k a0 bt379.1 0) else (if (a0.size : Int) > 1000 then ((lw2_awake.f).bind fun t383 => (some t383)) else (some false)))) = some true := h
 clear h
 replace H := Option.bind_eq_some_iff.mp H
 obtain ⟨⟨t379, t380⟩, A20, H⟩ := H
 replace H : (if t380 = 0 then (lw2_LexKeeps.l0 k a0 t379 0) else (if (a0.size : Int) > 1000 then ((lw2_awake.f).bind fun t383 => (some t383)) else (some false))) = some true := H
 have A2 := Aside0.mk A20
 clear A20
 by_cases c3 : t380 = 0
 ·rw [if_pos c3] at H
  have c3b0 : (t380 == 0) = true := beq_iff_eq.mpr c3
  have c3b1 : (t380 != 0) = false := bne_eq_false_iff_eq.mpr c3
  clear c3
  have H' := Aside0.mk H
  clear H
  go_enter Tryd.func8, Tryd.ntmps8
  go_wp2_with (first | (go_at_call 10; (with_reducible refine (lex_Scan.calls a0 t379 t380 _ ?side1 A2.out).mono ?_); (case side1 => exact Glob.below HGl.out (by repeat (first | (with_reducible first | exact HB.out | apply below_alloc | apply pw_below_drewN | apply below_drew1) | exact HB.out))); rintro e w4 ⟨v381, rfl, ho0, hb⟩; have n0_ := Aside0.mk (Kd.R_lower ho0 (below_size (by repeat (first | (with_reducible first | exact HB.out | apply below_alloc | apply pw_below_drewN | apply below_drew1) | exact HB.out)))); have n1_ := Aside0.mk (below_step (by repeat (first | (with_reducible first | exact HB.out | apply below_alloc | apply pw_below_drewN | apply below_drew1) | exact HB.out)) hb); clear HB; have HO382 := n0_; have HB := n1_; clear n0_ n1_; (try clear hb); (try clear hb2); (try clear hk); (try clear hi); (try clear ho0)))
  repeat (go_quiet (first | (go_at_call 10; (with_reducible refine (lex_Scan.calls a0 t379 t380 _ ?side1 A2.out).mono ?_); (case side1 => exact Glob.below HGl.out (by repeat (first | (with_reducible first | exact HB.out | apply below_alloc | apply pw_below_drewN | apply below_drew1) | exact HB.out))); rintro e w4 ⟨v381, rfl, ho0, hb⟩; have n0_ := Aside0.mk (Kd.R_lower ho0 (below_size (by repeat (first | (with_reducible first | exact HB.out | apply below_alloc | apply pw_below_drewN | apply below_drew1) | exact HB.out)))); have n1_ := Aside0.mk (below_step (by repeat (first | (with_reducible first | exact HB.out | apply below_alloc | apply pw_below_drewN | apply below_drew1) | exact HB.out)) hb); clear HB; have HO382 := n0_; have HB := n1_; clear n0_ n1_; (try clear hb); (try clear hb2); (try clear hk); (try clear hi); (try clear ho0))); try go_wp2_with (first | (go_at_call 10; (with_reducible refine (lex_Scan.calls a0 t379 t380 _ ?side1 A2.out).mono ?_); (case side1 => exact Glob.below HGl.out (by repeat (first | (with_reducible first | exact HB.out | apply below_alloc | apply pw_below_drewN | apply below_drew1) | exact HB.out))); rintro e w4 ⟨v381, rfl, ho0, hb⟩; have n0_ := Aside0.mk (Kd.R_lower ho0 (below_size (by repeat (first | (with_reducible first | exact HB.out | apply below_alloc | apply pw_below_drewN | apply below_drew1) | exact HB.out)))); have n1_ := Aside0.mk (below_step (by repeat (first | (with_reducible first | exact HB.out | apply below_alloc | apply pw_below_drewN | apply below_drew1) | exact HB.out)) hb); clear HB; have HO382 := n0_; have HB := n1_; clear n0_ n1_; (try clear hb); (try clear hb2); (try clear hk); (try clear hi); (try clear ho0))))
  try simp only [Act.put, List.setIfInBounds_toArray, List.set_cons_succ, List.set_cons_zero]
  go_loopg [5] k (fun kq v5 w' => ∃ (x5_1 : Int), v5 = .int .i64 x5_1 ∧ Aside0 (lw2_LexKeeps.l0 kq a0 t379 x5_1 = some true) ∧ Aside0 (kq ≤ k) ∧ Aside0 (Kd.R k30 30 w' w.heap.size (fun _ => True) v381 t379) ∧ Aside0 (Below w.heap.size w w'))
  case atStart => exact ⟨(0), (by first | rfl | (simp; done) | (simp [*]; done)), H', ⟨Nat.le_refl _⟩, ⟨by (with_reducible repeat (first | apply Kd.R_alloc | apply Kd.R_drewN | apply Kd.R_drew)); exact HO382.out⟩, ⟨by repeat (first | (with_reducible first | exact HB.out | apply below_alloc | apply pw_below_drewN | apply below_drew1) | exact HB.out)⟩⟩
  case round =>
   clear H'
   try clear p2
   try clear c3
   try clear c3b0
   try clear c3b1
   obtain ⟨x5_1, rfl, HA, HK1, HO_3, HB⟩ := hrel
   cases gk with
   | zero => exact absurd HA.out (by simp [lw2_LexKeeps.l0])
   | succ k1 =>
    have H := HA.out
    clear HA
    simp only [lw2_LexKeeps.l0] at H
    by_cases c5 : x5_1 < (t379.length : Int)
    ·rw [if_pos c5] at H
     have c5b0 : decide (x5_1 < (t379.length : Int)) = true := decide_eq_true c5
     clear c5
     by_cases c6 : 0 ≤ x5_1
     ·rw [if_pos c6] at H
      have c6b0 : decide (0 ≤ x5_1) = true := decide_eq_true c6
      clear c6
      have HC7 := Aside0.mk H
      clear H
      obtain ⟨Ao8, co8, eo8⟩ := Kd.R_slice HO_3.out
      subst eo8
      have p386 : 0 ≤ (x5_1 : Int) := of_decide_eq_true (by first | (with_reducible assumption) | assumption)
      have q386 : x5_1 < (t379.length : Int) := of_decide_eq_true (by first | (with_reducible assumption) | assumption)
      obtain ⟨ad386, e386, hx386_0, hx386_1, hx386_2, hx386_3⟩ := at_T30 (Kd.R_reads' HO_3.out).2.2 x5_1 p386 q386
      cases e386
      replace p386 := eq_true p386
      replace q386 := eq_true q386
      go_upto_region 8 with (fail)
      repeat (go_quiet (fail); go_upto_region 8 with (fail))
      go_cut [81] (fun v81 wc => ∃ (kq : Nat) (x81_6 : Bool), v81 = .bool x81_6 ∧ Aside0 (lw2_LexKeeps.j1 kq a0 t379 x5_1 ((rd_T30 t379 x5_1).f3) x81_6 = some true) ∧ Aside0 (kq ≤ k1) ∧ Aside0 (Kd.R k30 30 wc w.heap.size (fun _ => True) (.slice (some ad386) t379.length co8) t379) ∧ Aside0 (Below w.heap.size w wc))
      case first =>
       have H := HC7.out
       clear HC7
       by_cases c9 : ((rd_T30 t379 x5_1).f3) < 0
       ·rw [if_pos c9] at H
        have c9b0 : decide (((rd_T30 t379 x5_1).f3) < 0) = true := decide_eq_true c9
        clear c9
        (first | rw [c9b0] | (simp only [i64_w, i32_w]; rw [c9b0]) | skip)
        have H' := Aside0.mk H
        clear H
        go_wp2
        repeat (go_quiet (fail); try go_wp2)
        go_meet
        case rel => exact ⟨_, (true), (by first | rfl | (simp; done) | (simp [*]; done)), H', ⟨by have := HK1.out; first | omega | exact Nat.le_refl _⟩, ⟨by (with_reducible repeat (first | apply Kd.R_alloc | apply Kd.R_drewN | apply Kd.R_drew)); exact HO_3.out⟩, ⟨by repeat (first | (with_reducible first | exact HB.out | apply below_alloc | apply pw_below_drewN | apply below_drew1) | exact HB.out)⟩⟩
       ·rw [if_neg c9] at H
        have c9b0 : decide (((rd_T30 t379 x5_1).f3) < 0) = false := decide_eq_false c9
        clear c9
        (first | rw [c9b0] | (simp only [i64_w, i32_w]; rw [c9b0]) | skip)
        by_cases c10 : (wrap64 (((rd_T30 t379 x5_1).f3) + (((rd_T30 t379 x5_1).f2).size : Int))) > (a0.size : Int)
        ·rw [if_pos c10] at H
         have c10b0 : decide ((a0.size : Int) < (wrap64 (((rd_T30 t379 x5_1).f3) + (((rd_T30 t379 x5_1).f2).size : Int)))) = true := decide_eq_true c10
         clear c10
         have H' := Aside0.mk H
         clear H
         have p387 : 0 ≤ (x5_1 : Int) := of_decide_eq_true (by first | (with_reducible assumption) | assumption)
         have q387 : x5_1 < (t379.length : Int) := of_decide_eq_true (by first | (with_reducible assumption) | assumption)
         obtain ⟨ad387, e387, hx387_0, hx387_1, hx387_2, hx387_3⟩ := at_T30 (Kd.R_reads' HO_3.out).2.2 x5_1 p387 q387
         obtain rfl : ad386 = ad387 := (by injection e387)
         replace p387 := eq_true p387
         replace q387 := eq_true q387
         go_wp2
         repeat (go_quiet (fail); try go_wp2)
         go_meet
         case rel => exact ⟨_, (true), (by first | rfl | (simp; done) | (simp [*]; done)), H', ⟨by have := HK1.out; first | omega | exact Nat.le_refl _⟩, ⟨by (with_reducible repeat (first | apply Kd.R_alloc | apply Kd.R_drewN | apply Kd.R_drew)); exact HO_3.out⟩, ⟨by repeat (first | (with_reducible first | exact HB.out | apply below_alloc | apply pw_below_drewN | apply below_drew1) | exact HB.out)⟩⟩
        ·rw [if_neg c10] at H
         have c10b0 : decide ((a0.size : Int) < (wrap64 (((rd_T30 t379 x5_1).f3) + (((rd_T30 t379 x5_1).f2).size : Int)))) = false := decide_eq_false c10
         clear c10
         by_cases c11 : 0 ≤ ((rd_T30 t379 x5_1).f3)
         ·rw [if_pos c11] at H
          have c11b0 := eq_true c11
          have c11b1 : decide (0 ≤ ((rd_T30 t379 x5_1).f3)) = true := decide_eq_true c11
          clear c11
          by_cases c12 : ((rd_T30 t379 x5_1).f3) ≤ (wrap64 (((rd_T30 t379 x5_1).f3) + (((rd_T30 t379 x5_1).f2).size : Int)))
          ·rw [if_pos c12] at H
           have c12b0 := eq_true c12
           have c12b1 : decide (((rd_T30 t379 x5_1).f3) ≤ (wrap64 (((rd_T30 t379 x5_1).f3) + (((rd_T30 t379 x5_1).f2).size : Int)))) = true := decide_eq_true c12
           by_cases c13 : (wrap64 (((rd_T30 t379 x5_1).f3) + (((rd_T30 t379 x5_1).f2).size : Int))) ≤ (a0.size : Int)
           ·rw [if_pos c13] at H
            have c13b0 := eq_true c13
            have c13b1 : decide ((wrap64 (((rd_T30 t379 x5_1).f3) + (((rd_T30 t379 x5_1).f2).size : Int))) ≤ (a0.size : Int)) = true := decide_eq_true c13
            by_cases c14 : (a0.extract (((rd_T30 t379 x5_1).f3) : Int).toNat ((wrap64 (((rd_T30 t379 x5_1).f3) + (((rd_T30 t379 x5_1).f2).size : Int))) : Int).toNat).toList = ((rd_T30 t379 x5_1).f2).toList
            ·rw [if_pos c14] at H
             have c14b0 : ((a0.extract (((rd_T30 t379 x5_1).f3) : Int).toNat ((wrap64 (((rd_T30 t379 x5_1).f3) + (((rd_T30 t379 x5_1).f2).size : Int))) : Int).toNat).toList == ((rd_T30 t379 x5_1).f2).toList) = true := beq_iff_eq.mpr c14
             have c14b1 : ((a0.extract (((rd_T30 t379 x5_1).f3) : Int).toNat ((wrap64 (((rd_T30 t379 x5_1).f3) + (((rd_T30 t379 x5_1).f2).size : Int))) : Int).toNat).toList != ((rd_T30 t379 x5_1).f2).toList) = false := bne_eq_false_iff_eq.mpr c14
             clear c14
             have H' := Aside0.mk H
             clear H
             have p387 : 0 ≤ (x5_1 : Int) := of_decide_eq_true (by first | (with_reducible assumption) | assumption)
             have q387 : x5_1 < (t379.length : Int) := of_decide_eq_true (by first | (with_reducible assumption) | assumption)
             obtain ⟨ad387, e387, hx387_0, hx387_1, hx387_2, hx387_3⟩ := at_T30 (Kd.R_reads' HO_3.out).2.2 x5_1 p387 q387
             obtain rfl : ad386 = ad387 := (by injection e387)
             replace p387 := eq_true p387
             replace q387 := eq_true q387
             have p388 : 0 ≤ (x5_1 : Int) := of_decide_eq_true (by first | (with_reducible assumption) | assumption)
             have q388 : x5_1 < (t379.length : Int) := of_decide_eq_true (by first | (with_reducible assumption) | assumption)
             obtain ⟨ad388, e388, hx388_0, hx388_1, hx388_2, hx388_3⟩ := at_T30 (Kd.R_reads' HO_3.out).2.2 x5_1 p388 q388
             obtain rfl : ad386 = ad388 := (by injection e388)
             replace p388 := eq_true p388
             replace q388 := eq_true q388
             have p389 : 0 ≤ (x5_1 : Int) := of_decide_eq_true (by first | (with_reducible assumption) | assumption)
             have q389 : x5_1 < (t379.length : Int) := of_decide_eq_true (by first | (with_reducible assumption) | assumption)
             obtain ⟨ad389, e389, hx389_0, hx389_1, hx389_2, hx389_3⟩ := at_T30 (Kd.R_reads' HO_3.out).2.2 x5_1 p389 q389
             obtain rfl : ad386 = ad389 := (by injection e389)
             replace p389 := eq_true p389
             replace q389 := eq_true q389
             have p390 : 0 ≤ (x5_1 : Int) := of_decide_eq_true (by first | (with_reducible assumption) | assumption)
             have q390 : x5_1 < (t379.length : Int) := of_decide_eq_true (by first | (with_reducible assumption) | assumption)
             obtain ⟨ad390, e390, hx390_0, hx390_1, hx390_2, hx390_3⟩ := at_T30 (Kd.R_reads' HO_3.out).2.2 x5_1 p390 q390
             obtain rfl : ad386 = ad390 := (by injection e390)
             replace p390 := eq_true p390
             replace q390 := eq_true q390
             have p391 : 0 ≤ (x5_1 : Int) := of_decide_eq_true (by first | (with_reducible assumption) | assumption)
             have q391 : x5_1 < (t379.length : Int) := of_decide_eq_true (by first | (with_reducible assumption) | assumption)
             obtain ⟨ad391, e391, hx391_0, hx391_1, hx391_2, hx391_3⟩ := at_T30 (Kd.R_reads' HO_3.out).2.2 x5_1 p391 q391
             obtain rfl : ad386 = ad391 := (by injection e391)
             replace p391 := eq_true p391
             replace q391 := eq_true q391
             go_wp2
             repeat (go_quiet (fail); try go_wp2)
             go_meet
             case rel => exact ⟨_, (((((rd_T30 t379 x5_1).f2).toList == ([] : List UInt8)) != (((rd_T30 t379 x5_1).f0) == 0))), (by first | rfl | (simp; done) | (simp; exact (fun a b => by cases a <;> cases b <;> rfl : ∀ a b : Bool, (a == b) = !(a != b)) _ _)), H', ⟨by have := HK1.out; first | omega | exact Nat.le_refl _⟩, ⟨by (with_reducible repeat (first | apply Kd.R_alloc | apply Kd.R_drewN | apply Kd.R_drew)); exact HO_3.out⟩, ⟨by repeat (first | (with_reducible first | exact HB.out | apply below_alloc | apply pw_below_drewN | apply below_drew1) | exact HB.out)⟩⟩
            ·rw [if_neg c14] at H
             have c14b0 : ((a0.extract (((rd_T30 t379 x5_1).f3) : Int).toNat ((wrap64 (((rd_T30 t379 x5_1).f3) + (((rd_T30 t379 x5_1).f2).size : Int))) : Int).toNat).toList == ((rd_T30 t379 x5_1).f2).toList) = false := beq_eq_false_iff_ne.mpr c14
             have c14b1 : ((a0.extract (((rd_T30 t379 x5_1).f3) : Int).toNat ((wrap64 (((rd_T30 t379 x5_1).f3) + (((rd_T30 t379 x5_1).f2).size : Int))) : Int).toNat).toList != ((rd_T30 t379 x5_1).f2).toList) = true := bne_iff_ne.mpr c14
             have H' := Aside0.mk H
             clear H
             have p387 : 0 ≤ (x5_1 : Int) := of_decide_eq_true (by first | (with_reducible assumption) | assumption)
             have q387 : x5_1 < (t379.length : Int) := of_decide_eq_true (by first | (with_reducible assumption) | assumption)
             obtain ⟨ad387, e387, hx387_0, hx387_1, hx387_2, hx387_3⟩ := at_T30 (Kd.R_reads' HO_3.out).2.2 x5_1 p387 q387
             obtain rfl : ad386 = ad387 := (by injection e387)
             replace p387 := eq_true p387
             replace q387 := eq_true q387
             have p388 : 0 ≤ (x5_1 : Int) := of_decide_eq_true (by first | (with_reducible assumption) | assumption)
             have q388 : x5_1 < (t379.length : Int) := of_decide_eq_true (by first | (with_reducible assumption) | assumption)
             obtain ⟨ad388, e388, hx388_0, hx388_1, hx388_2, hx388_3⟩ := at_T30 (Kd.R_reads' HO_3.out).2.2 x5_1 p388 q388
             obtain rfl : ad386 = ad388 := (by injection e388)
             replace p388 := eq_true p388
             replace q388 := eq_true q388
             have p389 : 0 ≤ (x5_1 : Int) := of_decide_eq_true (by first | (with_reducible assumption) | assumption)
             have q389 : x5_1 < (t379.length : Int) := of_decide_eq_true (by first | (with_reducible assumption) | assumption)
             obtain ⟨ad389, e389, hx389_0, hx389_1, hx389_2, hx389_3⟩ := at_T30 (Kd.R_reads' HO_3.out).2.2 x5_1 p389 q389
             obtain rfl : ad386 = ad389 := (by injection e389)
             replace p389 := eq_true p389
             replace q389 := eq_true q389
             go_wp2
             repeat (go_quiet (fail); try go_wp2)
             go_meet
             case rel => exact ⟨_, (true), (by first | rfl | (simp; done) | (simp [*]; done)), H', ⟨by have := HK1.out; first | omega | exact Nat.le_refl _⟩, ⟨by (with_reducible repeat (first | apply Kd.R_alloc | apply Kd.R_drewN | apply Kd.R_drew)); exact HO_3.out⟩, ⟨by repeat (first | (with_reducible first | exact HB.out | apply below_alloc | apply pw_below_drewN | apply below_drew1) | exact HB.out)⟩⟩
           ·rw [if_neg c13] at H
            exact absurd H (by simp)
          ·rw [if_neg c12] at H
           exact absurd H (by simp)
         ·rw [if_neg c11] at H
          exact absurd H (by simp)
      case rest =>
       clear HC7
       try clear c1
       try clear p2
       try clear c3
       try clear c3b0
       try clear c3b1
       try clear p3
       try clear q3
       try clear hx3
       try clear c5
       try clear c5b0
       try clear c6
       try clear c6b0
       try clear p6
       try clear c8
       try clear c9
       try clear c9b0
       try clear c10
       try clear c10b0
       try clear c11
       try clear c11b0
       try clear c11b1
       try clear c12
       try clear c12b0
       try clear c12b1
       try clear c13
       try clear c13b0
       try clear c13b1
       try clear c14
       try clear c14b0
       try clear c14b1
       try clear hx386_0
       try clear hx386_1
       try clear hx386_2
       try clear hx386_3
       try clear hx387_0
       try clear hx387_1
       try clear hx387_2
       try clear hx387_3
       try clear hx388_0
       try clear hx388_1
       try clear hx388_2
       try clear hx388_3
       try clear hx389_0
       try clear hx389_1
       try clear hx389_2
       try clear hx389_3
       try clear hx390_0
       try clear hx390_1
       try clear hx390_2
       try clear hx390_3
       try clear hx391_0
       try clear hx391_1
       try clear hx391_2
       try clear hx391_3
       try clear p2
       try clear p386
       try clear p387
       try clear p388
       try clear p389
       try clear p390
       try clear p391
       try clear q386
       try clear q387
       try clear q388
       try clear q389
       try clear q390
       try clear q391
       obtain ⟨kq, x81_6, rfl, HA, HJ6, HO_3, HB⟩ := hcut
       cases kq with
       | zero => exact absurd HA.out (by simp [lw2_LexKeeps.j1])
       | succ kj6 =>
        have H := HA.out
        clear HA
        simp only [lw2_LexKeeps.j1] at H
        by_cases c15 : x81_6 = true
        ·subst c15
         have H1 : (some false) = some true := by rw [if_pos rfl] at H; exact H
         clear H
         have H := H1
         clear H1
         exact absurd H (by simp)
        ·replace c15 := Bool.eq_false_iff.mpr c15
         subst c15
         have H1 : ((lex_At.f kj6 t379 ((rd_T30 t379 x5_1).f3)).bind fun bt392 => (if bt392.1 = x5_1 then (if bt392.2 = 0 then (lw2_LexKeeps.l0 kj6 a0 t379 (wrap64 (x5_1 + 1))) else (some false)) else (some false))) = some true := by rw [if_neg (show ¬ (false = true) by decide)] at H; exact H
         clear H
         have H := H1
         clear H1
         replace H := Option.bind_eq_some_iff.mp H
         obtain ⟨⟨t392, t393⟩, A160, H⟩ := H
         replace H : (if t392 = x5_1 then (if t393 = 0 then (lw2_LexKeeps.l0 kj6 a0 t379 (wrap64 (x5_1 + 1))) else (some false)) else (some false)) = some true := H
         have A16 := Aside0.mk A160
         clear A160
         by_cases c17 : t392 = x5_1
         ·rw [if_pos c17] at H
          have c17b0 : (t392 == x5_1) = true := beq_iff_eq.mpr c17
          have c17b1 : (t392 != x5_1) = false := bne_eq_false_iff_eq.mpr c17
          clear c17
          by_cases c18 : t393 = 0
          ·rw [if_pos c18] at H
           have c18b0 : (t393 == 0) = true := beq_iff_eq.mpr c18
           have c18b1 : (t393 != 0) = false := bne_eq_false_iff_eq.mpr c18
           clear c18
           have H' := Aside0.mk H
           clear H
           go_wp2_with (first | (go_at_call 25; (with_reducible refine (lex_At.calls kj6 _ _ t379 ((rd_T30 t379 x5_1).f3) t392 t393 _ ?side1 ?side2 A16.out).mono ?_); (case side1 => repeat (first | exact (Kd.R_reads' HO_3.out).2.2 | (with_reducible refine Kd.C_alloc ?_ _) | (with_reducible refine Kd.C_drewN ?_ _) | (with_reducible refine Kd.C_drew ?_))); (case side2 => exact (Kd.R_reads' HO_3.out).2.1); rintro e w19 ⟨rfl, hb⟩; have n0_ := Aside0.mk (Kd.R_below (by (with_reducible repeat (first | apply Kd.R_alloc | apply Kd.R_drewN | apply Kd.R_drew)); exact HO_3.out) hb); have n1_ := Aside0.mk (below_step (by repeat (first | (with_reducible first | exact HB.out | apply below_alloc | apply pw_below_drewN | apply below_drew1) | exact HB.out)) hb); clear HO_3; clear HB; have HO_3 := n0_; have HB := n1_; clear n0_ n1_; (try clear hb); (try clear hb2); (try clear hk); (try clear hi)))
           repeat (go_quiet (first | (go_at_call 25; (with_reducible refine (lex_At.calls kj6 _ _ t379 ((rd_T30 t379 x5_1).f3) t392 t393 _ ?side1 ?side2 A16.out).mono ?_); (case side1 => repeat (first | exact (Kd.R_reads' HO_3.out).2.2 | (with_reducible refine Kd.C_alloc ?_ _) | (with_reducible refine Kd.C_drewN ?_ _) | (with_reducible refine Kd.C_drew ?_))); (case side2 => exact (Kd.R_reads' HO_3.out).2.1); rintro e w19 ⟨rfl, hb⟩; have n0_ := Aside0.mk (Kd.R_below (by (with_reducible repeat (first | apply Kd.R_alloc | apply Kd.R_drewN | apply Kd.R_drew)); exact HO_3.out) hb); have n1_ := Aside0.mk (below_step (by repeat (first | (with_reducible first | exact HB.out | apply below_alloc | apply pw_below_drewN | apply below_drew1) | exact HB.out)) hb); clear HO_3; clear HB; have HO_3 := n0_; have HB := n1_; clear n0_ n1_; (try clear hb); (try clear hb2); (try clear hk); (try clear hi))); try go_wp2_with (first | (go_at_call 25; (with_reducible refine (lex_At.calls kj6 _ _ t379 ((rd_T30 t379 x5_1).f3) t392 t393 _ ?side1 ?side2 A16.out).mono ?_); (case side1 => repeat (first | exact (Kd.R_reads' HO_3.out).2.2 | (with_reducible refine Kd.C_alloc ?_ _) | (with_reducible refine Kd.C_drewN ?_ _) | (with_reducible refine Kd.C_drew ?_))); (case side2 => exact (Kd.R_reads' HO_3.out).2.1); rintro e w19 ⟨rfl, hb⟩; have n0_ := Aside0.mk (Kd.R_below (by (with_reducible repeat (first | apply Kd.R_alloc | apply Kd.R_drewN | apply Kd.R_drew)); exact HO_3.out) hb); have n1_ := Aside0.mk (below_step (by repeat (first | (with_reducible first | exact HB.out | apply below_alloc | apply pw_below_drewN | apply below_drew1) | exact HB.out)) hb); clear HO_3; clear HB; have HO_3 := n0_; have HB := n1_; clear n0_ n1_; (try clear hb); (try clear hb2); (try clear hk); (try clear hi))))
           go_roundg kj6
           case measure => have := HK1.out; have := HJ6.out; omega
           case rel => exact ⟨(wrap64 (x5_1 + 1)), (by first | rfl | (simp; done) | (simp [*]; done)), H', ⟨by have := HK1.out; have := HJ6.out; omega⟩, ⟨by (with_reducible repeat (first | apply Kd.R_alloc | apply Kd.R_drewN | apply Kd.R_drew)); exact HO_3.out⟩, ⟨by repeat (first | (with_reducible first | exact HB.out | apply below_alloc | apply pw_below_drewN | apply below_drew1) | exact HB.out)⟩⟩
          ·rw [if_neg c18] at H
           have c18b0 : (t393 == 0) = false := beq_eq_false_iff_ne.mpr c18
           have c18b1 : (t393 != 0) = true := bne_iff_ne.mpr c18
           exact absurd H (by simp)
         ·rw [if_neg c17] at H
          have c17b0 : (t392 == x5_1) = false := beq_eq_false_iff_ne.mpr c17
          have c17b1 : (t392 != x5_1) = true := bne_iff_ne.mpr c17
          exact absurd H (by simp)
     ·rw [if_neg c6] at H
      exact absurd H (by simp)
    ·rw [if_neg c5] at H
     have c5b0 : decide (x5_1 < (t379.length : Int)) = false := decide_eq_false c5
     clear c5
     by_cases c22 : (t379.length : Int) > 0
     ·rw [if_pos c22] at H
      have c22b0 : decide (0 < (t379.length : Int)) = true := decide_eq_true c22
      have c22b1 : decide (0 < t379.length) = true := decide_eq_true (by omega)
      clear c22
      replace H := Option.bind_eq_some_iff.mp H
      obtain ⟨t384, A230, H⟩ := H
      replace H : (if t384.toList = a0.toList then ((lw2_awake.f).bind fun t385 => (some t385)) else (some false)) = some true := H
      have A23 := Aside0.mk A230
      clear A230
      by_cases c24 : t384.toList = a0.toList
      ·rw [if_pos c24] at H
       have c24b0 : (t384.toList == a0.toList) = true := beq_iff_eq.mpr c24
       have c24b1 : (t384.toList != a0.toList) = false := bne_eq_false_iff_eq.mpr c24
       clear c24
       replace H := Option.bind_eq_some_iff.mp H
       obtain ⟨t385, A250, H⟩ := H
       replace H : (some t385) = some true := H
       have A25 := Aside0.mk A250
       clear A250
       obtain rfl := Option.some.inj H
       obtain ⟨Ao26, co26, eo26⟩ := Kd.R_slice HO_3.out
       subst eo26
       go_wp2_with (first | (go_at_call 26; (with_reducible refine (lex_Text.calls _ _ t379 t384 _ ?side1 ?side2 A23.out).mono ?_); (case side1 => repeat (first | exact (Kd.R_reads' HO_3.out).2.2 | (with_reducible refine Kd.C_alloc ?_ _) | (with_reducible refine Kd.C_drewN ?_ _) | (with_reducible refine Kd.C_drew ?_))); (case side2 => exact (Kd.R_reads' HO_3.out).2.1); rintro e w27 ⟨rfl, hb⟩; have n0_ := Aside0.mk (Kd.R_below (by (with_reducible repeat (first | apply Kd.R_alloc | apply Kd.R_drewN | apply Kd.R_drew)); exact HO_3.out) hb); have n1_ := Aside0.mk (below_step (by repeat (first | (with_reducible first | exact HB.out | apply below_alloc | apply pw_below_drewN | apply below_drew1) | exact HB.out)) hb); clear HO_3; clear HB; have HO_3 := n0_; have HB := n1_; clear n0_ n1_; (try clear hb); (try clear hb2); (try clear hk); (try clear hi)) | (go_at_call 13; (with_reducible refine (lw2_awake.calls  true _ ?side1 A25.out).mono ?_); (case side1 => exact Glob.below HGl.out (by repeat (first | (with_reducible first | exact HB.out | apply below_alloc | apply pw_below_drewN | apply below_drew1) | exact HB.out))); rintro e w28 ⟨rfl, hb⟩; have n0_ := Aside0.mk (Kd.R_below (by (with_reducible repeat (first | apply Kd.R_alloc | apply Kd.R_drewN | apply Kd.R_drew)); exact HO_3.out) hb); have n1_ := Aside0.mk (below_step (by repeat (first | (with_reducible first | exact HB.out | apply below_alloc | apply pw_below_drewN | apply below_drew1) | exact HB.out)) hb); clear HO_3; clear HB; have HO_3 := n0_; have HB := n1_; clear n0_ n1_; (try clear hb); (try clear hb2); (try clear hk); (try clear hi)))
       repeat (go_quiet (first | (go_at_call 26; (with_reducible refine (lex_Text.calls _ _ t379 t384 _ ?side1 ?side2 A23.out).mono ?_); (case side1 => repeat (first | exact (Kd.R_reads' HO_3.out).2.2 | (with_reducible refine Kd.C_alloc ?_ _) | (with_reducible refine Kd.C_drewN ?_ _) | (with_reducible refine Kd.C_drew ?_))); (case side2 => exact (Kd.R_reads' HO_3.out).2.1); rintro e w27 ⟨rfl, hb⟩; have n0_ := Aside0.mk (Kd.R_below (by (with_reducible repeat (first | apply Kd.R_alloc | apply Kd.R_drewN | apply Kd.R_drew)); exact HO_3.out) hb); have n1_ := Aside0.mk (below_step (by repeat (first | (with_reducible first | exact HB.out | apply below_alloc | apply pw_below_drewN | apply below_drew1) | exact HB.out)) hb); clear HO_3; clear HB; have HO_3 := n0_; have HB := n1_; clear n0_ n1_; (try clear hb); (try clear hb2); (try clear hk); (try clear hi)) | (go_at_call 13; (with_reducible refine (lw2_awake.calls  true _ ?side1 A25.out).mono ?_); (case side1 => exact Glob.below HGl.out (by repeat (first | (with_reducible first | exact HB.out | apply below_alloc | apply pw_below_drewN | apply below_drew1) | exact HB.out))); rintro e w28 ⟨rfl, hb⟩; have n0_ := Aside0.mk (Kd.R_below (by (with_reducible repeat (first | apply Kd.R_alloc | apply Kd.R_drewN | apply Kd.R_drew)); exact HO_3.out) hb); have n1_ := Aside0.mk (below_step (by repeat (first | (with_reducible first | exact HB.out | apply below_alloc | apply pw_below_drewN | apply below_drew1) | exact HB.out)) hb); clear HO_3; clear HB; have HO_3 := n0_; have HB := n1_; clear n0_ n1_; (try clear hb); (try clear hb2); (try clear hk); (try clear hi))); try go_wp2_with (first | (go_at_call 26; (with_reducible refine (lex_Text.calls _ _ t379 t384 _ ?side1 ?side2 A23.out).mono ?_); (case side1 => repeat (first | exact (Kd.R_reads' HO_3.out).2.2 | (with_reducible refine Kd.C_alloc ?_ _) | (with_reducible refine Kd.C_drewN ?_ _) | (with_reducible refine Kd.C_drew ?_))); (case side2 => exact (Kd.R_reads' HO_3.out).2.1); rintro e w27 ⟨rfl, hb⟩; have n0_ := Aside0.mk (Kd.R_below (by (with_reducible repeat (first | apply Kd.R_alloc | apply Kd.R_drewN | apply Kd.R_drew)); exact HO_3.out) hb); have n1_ := Aside0.mk (below_step (by repeat (first | (with_reducible first | exact HB.out | apply below_alloc | apply pw_below_drewN | apply below_drew1) | exact HB.out)) hb); clear HO_3; clear HB; have HO_3 := n0_; have HB := n1_; clear n0_ n1_; (try clear hb); (try clear hb2); (try clear hk); (try clear hi)) | (go_at_call 13; (with_reducible refine (lw2_awake.calls  true _ ?side1 A25.out).mono ?_); (case side1 => exact Glob.below HGl.out (by repeat (first | (with_reducible first | exact HB.out | apply below_alloc | apply pw_below_drewN | apply below_drew1) | exact HB.out))); rintro e w28 ⟨rfl, hb⟩; have n0_ := Aside0.mk (Kd.R_below (by (with_reducible repeat (first | apply Kd.R_alloc | apply Kd.R_drewN | apply Kd.R_drew)); exact HO_3.out) hb); have n1_ := Aside0.mk (below_step (by repeat (first | (with_reducible first | exact HB.out | apply below_alloc | apply pw_below_drewN | apply below_drew1) | exact HB.out)) hb); clear HO_3; clear HB; have HO_3 := n0_; have HB := n1_; clear n0_ n1_; (try clear hb); (try clear hb2); (try clear hk); (try clear hi))))
       go_ret
       exact ⟨by first | rfl | (simp [errW_none, errW_some] <;> rfl) | (simp [*, errW_none, errW_some] <;> rfl), by repeat (first | (with_reducible first | exact HB.out | apply below_alloc | apply pw_below_drewN | apply below_drew1) | exact HB.out)⟩
      ·rw [if_neg c24] at H
       have c24b0 : (t384.toList == a0.toList) = false := beq_eq_false_iff_ne.mpr c24
       have c24b1 : (t384.toList != a0.toList) = true := bne_iff_ne.mpr c24
       exact absurd H (by simp)
     ·rw [if_neg c22] at H
      have c22b0 : decide (0 < (t379.length : Int)) = false := decide_eq_false c22
      have c22b1 : decide (0 < t379.length) = false := decide_eq_false (by omega)
      clear c22
      exact absurd H (by simp)
 ·rw [if_neg c3] at H
  have c3b0 : (t380 == 0) = false := beq_eq_false_iff_ne.mpr c3
  have c3b1 : (t380 != 0) = true := bne_iff_ne.mpr c3
  by_cases c32 : (a0.size : Int) > 1000
  ·rw [if_pos c32] at H
   have c32b0 : decide (1000 < (a0.size : Int)) = true := decide_eq_true c32
   have c32b1 : decide (1000 < a0.size) = true := decide_eq_true (by omega)
   clear c32
   replace H := Option.bind_eq_some_iff.mp H
   obtain ⟨t383, A330, H⟩ := H
   replace H : (some t383) = some true := H
   have A33 := Aside0.mk A330
   clear A330
   obtain rfl := Option.some.inj H
   go_enter Tryd.func8, Tryd.ntmps8
   go_wp2_with (first | (go_at_call 10; (with_reducible refine (lex_Scan.calls a0 t379 t380 _ ?side1 A2.out).mono ?_); (case side1 => exact Glob.below HGl.out (by repeat (first | (with_reducible first | exact HB.out | apply below_alloc | apply pw_below_drewN | apply below_drew1) | exact HB.out))); rintro e w34 ⟨v381, rfl, ho0, hb⟩; have n0_ := Aside0.mk (Kd.R_lower ho0 (below_size (by repeat (first | (with_reducible first | exact HB.out | apply below_alloc | apply pw_below_drewN | apply below_drew1) | exact HB.out)))); have n1_ := Aside0.mk (below_step (by repeat (first | (with_reducible first | exact HB.out | apply below_alloc | apply pw_below_drewN | apply below_drew1) | exact HB.out)) hb); clear HB; have HO382 := n0_; have HB := n1_; clear n0_ n1_; (try clear hb); (try clear hb2); (try clear hk); (try clear hi); (try clear ho0)) | (go_at_call 13; (with_reducible refine (lw2_awake.calls  true _ ?side1 A33.out).mono ?_); (case side1 => exact Glob.below HGl.out (by repeat (first | (with_reducible first | exact HB.out | apply below_alloc | apply pw_below_drewN | apply below_drew1) | exact HB.out))); rintro e w35 ⟨rfl, hb⟩; have n0_ := Aside0.mk (Kd.R_below (by (with_reducible repeat (first | apply Kd.R_alloc | apply Kd.R_drewN | apply Kd.R_drew)); exact HO382.out) hb); have n1_ := Aside0.mk (below_step (by repeat (first | (with_reducible first | exact HB.out | apply below_alloc | apply pw_below_drewN | apply below_drew1) | exact HB.out)) hb); clear HO382; clear HB; have HO382 := n0_; have HB := n1_; clear n0_ n1_; (try clear hb); (try clear hb2); (try clear hk); (try clear hi)))
   repeat (go_quiet (first | (go_at_call 10; (with_reducible refine (lex_Scan.calls a0 t379 t380 _ ?side1 A2.out).mono ?_); (case side1 => exact Glob.below HGl.out (by repeat (first | (with_reducible first | exact HB.out | apply below_alloc | apply pw_below_drewN | apply below_drew1) | exact HB.out))); rintro e w34 ⟨v381, rfl, ho0, hb⟩; have n0_ := Aside0.mk (Kd.R_lower ho0 (below_size (by repeat (first | (with_reducible first | exact HB.out | apply below_alloc | apply pw_below_drewN | apply below_drew1) | exact HB.out)))); have n1_ := Aside0.mk (below_step (by repeat (first | (with_reducible first | exact HB.out | apply below_alloc | apply pw_below_drewN | apply below_drew1) | exact HB.out)) hb); clear HB; have HO382 := n0_; have HB := n1_; clear n0_ n1_; (try clear hb); (try clear hb2); (try clear hk); (try clear hi); (try clear ho0)) | (go_at_call 13; (with_reducible refine (lw2_awake.calls  true _ ?side1 A33.out).mono ?_); (case side1 => exact Glob.below HGl.out (by repeat (first | (with_reducible first | exact HB.out | apply below_alloc | apply pw_below_drewN | apply below_drew1) | exact HB.out))); rintro e w35 ⟨rfl, hb⟩; have n0_ := Aside0.mk (Kd.R_below (by (with_reducible repeat (first | apply Kd.R_alloc | apply Kd.R_drewN | apply Kd.R_drew)); exact HO382.out) hb); have n1_ := Aside0.mk (below_step (by repeat (first | (with_reducible first | exact HB.out | apply below_alloc | apply pw_below_drewN | apply below_drew1) | exact HB.out)) hb); clear HO382; clear HB; have HO382 := n0_; have HB := n1_; clear n0_ n1_; (try clear hb); (try clear hb2); (try clear hk); (try clear hi))); try go_wp2_with (first | (go_at_call 10; (with_reducible refine (lex_Scan.calls a0 t379 t380 _ ?side1 A2.out).mono ?_); (case side1 => exact Glob.below HGl.out (by repeat (first | (with_reducible first | exact HB.out | apply below_alloc | apply pw_below_drewN | apply below_drew1) | exact HB.out))); rintro e w34 ⟨v381, rfl, ho0, hb⟩; have n0_ := Aside0.mk (Kd.R_lower ho0 (below_size (by repeat (first | (with_reducible first | exact HB.out | apply below_alloc | apply pw_below_drewN | apply below_drew1) | exact HB.out)))); have n1_ := Aside0.mk (below_step (by repeat (first | (with_reducible first | exact HB.out | apply below_alloc | apply pw_below_drewN | apply below_drew1) | exact HB.out)) hb); clear HB; have HO382 := n0_; have HB := n1_; clear n0_ n1_; (try clear hb); (try clear hb2); (try clear hk); (try clear hi); (try clear ho0)) | (go_at_call 13; (with_reducible refine (lw2_awake.calls  true _ ?side1 A33.out).mono ?_); (case side1 => exact Glob.below HGl.out (by repeat (first | (with_reducible first | exact HB.out | apply below_alloc | apply pw_below_drewN | apply below_drew1) | exact HB.out))); rintro e w35 ⟨rfl, hb⟩; have n0_ := Aside0.mk (Kd.R_below (by (with_reducible repeat (first | apply Kd.R_alloc | apply Kd.R_drewN | apply Kd.R_drew)); exact HO382.out) hb); have n1_ := Aside0.mk (below_step (by repeat (first | (with_reducible first | exact HB.out | apply below_alloc | apply pw_below_drewN | apply below_drew1) | exact HB.out)) hb); clear HO382; clear HB; have HO382 := n0_; have HB := n1_; clear n0_ n1_; (try clear hb); (try clear hb2); (try clear hk); (try clear hi))))
   go_ret
   exact ⟨by first | rfl | (simp [errW_none, errW_some] <;> rfl) | (simp [*, errW_none, errW_some] <;> rfl), by repeat (first | (with_reducible first | exact HB.out | apply below_alloc | apply pw_below_drewN | apply below_drew1) | exact HB.out)⟩
  ·rw [if_neg c32] at H
   have c32b0 : decide (1000 < (a0.size : Int)) = false := decide_eq_false c32
   have c32b1 : decide (1000 < a0.size) = false := decide_eq_false (by omega)
   clear c32
   exact absurd H (by simp)
end Go.Proofs.YtabnmkakgcifoaaDoor.PLex

namespace Go.Proofs.YtabnmkakgcifoaaDoor.PLex
open Go.RowKit Go.Proofs.YtabnmkakgcifoaaDoorW.PrintWords Go.Proofs.YtabnmkakgcifoaaDoorW.PrintLast Go.Proofs.YtabnmkakgcifoaaDoorW.PrintMore
theorem row_at : ∀ (q : List Lx.Tok) (p : Nat), Lx.Row p q → ∀ j (h : j < q.length), q[j].at_ = p + (Lx.textOf (q.take j)).length + q[j].before.length ∧ (q[j].kind = 0 ↔ j + 1 = q.length) ∧ (q[j].text = [] ↔ j + 1 = q.length) := by
  intro q
  induction q with
  | nil => intro p h; exact absurd h (by simp [Lx.Row])
  | cons t q ih =>
    intro p h j hj
    cases q with
    | nil =>
      obtain rfl : j = 0 := by simpa using hj
      obtain ⟨h1, h2, h3⟩ := h
      refine ⟨?_, ?_, ?_⟩
      · rw [List.take_zero]; exact h3
      · exact ⟨fun _ => rfl, fun _ => h1⟩
      · exact ⟨fun _ => rfl, fun _ => h2⟩
    | cons u r =>
      obtain ⟨h1, h2, h3, h4⟩ := h
      cases j with
      | zero =>
        refine ⟨?_, ?_, ?_⟩
        · rw [List.take_zero]; exact h3
        · exact ⟨fun z => absurd z h1, fun z => by simp at z⟩
        · exact ⟨fun z => absurd z h2, fun z => by simp at z⟩
      | succ j =>
        have e := ih _ h4 j (by simpa using hj)
        have hto : (Lx.textOf ((t :: u :: r).take (j + 1))).length = t.before.length + t.text.length + (Lx.textOf ((u :: r).take j)).length := by
          simp only [Lx.textOf, List.take_succ_cons, List.map_cons, List.flatten_cons, List.length_append]
        rw [List.getElem_cons_succ, hto]
        refine ⟨by omega, ?_, ?_⟩
        · rw [e.2.1]; simp
        · rw [e.2.2]; simp
theorem textOf_le (q : List Lx.Tok) (j : Nat) : (Lx.textOf (q.take j)).length ≤ (Lx.textOf q).length := by
  have h : Lx.textOf q = Lx.textOf (q.take j) ++ Lx.textOf (q.drop j) := by
    unfold Lx.textOf
    rw [← List.flatten_append, ← List.map_append, List.take_append_drop]
  rw [h, List.length_append]
  omega
theorem textOf_split (q : List Lx.Tok) (i : Nat) (h : i < q.length) : Lx.textOf q = Lx.textOf (q.take i) ++ (q[i].before ++ q[i].text) ++ Lx.textOf (q.drop (i + 1)) := by
  have e : q.take i ++ q[i] :: q.drop (i + 1) = q := by rw [← List.drop_eq_getElem_cons h, List.take_append_drop]
  unfold Lx.textOf
  generalize q[i] = x at *
  conv => lhs; rw [← e]
  simp only [List.map_append, List.map_cons, List.flatten_append, List.flatten_cons, List.append_assoc]
theorem textOf_succ (q : List Lx.Tok) (j : Nat) (h : j < q.length) : (Lx.textOf (q.take (j + 1))).length = (Lx.textOf (q.take j)).length + q[j].before.length + q[j].text.length := by
  rw [List.take_succ_eq_append_getElem h]
  simp only [Lx.textOf, List.map_append, List.flatten_append, List.length_append, List.map_cons, List.map_nil, List.flatten_cons, List.flatten_nil, List.append_nil]
  omega
theorem textOf_mono (q : List Lx.Tok) (i j : Nat) (h : i ≤ j) : (Lx.textOf (q.take i)).length ≤ (Lx.textOf (q.take j)).length := by
  have := textOf_le (q.take j) i
  rw [List.take_take, Nat.min_eq_left h] at this
  exact this
theorem textL_map (q : List Lx.Tok) : textL (q.map toS) = Lx.textOf q := by
  unfold textL Lx.textOf
  rw [List.map_map]
  congr 1
theorem wwrap (x : Int) (n : Nat) (h : x = (n : Int)) (hn : n ≤ 1000000000000) : wrap64 x = (n : Int) := by rw [h, w64 (by omega) (by omega)]
section
variable (s : ByteArray) (hsz : s.size ≤ 200000) (hln : (toks s).length ≤ 40000)
include hsz hln
theorem at_ev (i : Nat) (hi : i < (toks s).length) : Ev (fun k => lex_At.f k ((toks s).map toS) ((toks s)[i].at_ : Int)) ((i : Int), (0 : Int)) := by
  have hx := Lx.tokens_text (K := keysL) signs_fair (bl s)
  have hr0 := Lx.tokens_row (K := keysL) signs_fair (bl s)
  have hr : ∀ j (h : j < (toks s).length), (toks s)[j].at_ = (Lx.textOf ((toks s).take j)).length + (toks s)[j].before.length ∧ ((toks s)[j].kind = 0 ↔ j + 1 = (toks s).length) ∧ ((toks s)[j].text = [] ↔ j + 1 = (toks s).length) := by
    intro j h
    unfold toks at h ⊢
    have := row_at _ 0 hr0 j h
    rw [Nat.zero_add] at this
    exact this
  have hlen : (Lx.textOf (toks s)).length = s.size := by unfold toks; rw [hx, bl_length]
  have hXl : ((toks s).map toS).length = (toks s).length := List.length_map _
  clear hx hr0
  have hsucc := fun j (h : j < (toks s).length) => textOf_succ (toks s) j h
  have hle := fun j => textOf_le (toks s) j
  have hmono := fun j j' (h : j ≤ j') => textOf_mono (toks s) j j' h
  generalize hQ : toks s = q at *
  obtain ⟨ai, bi, ci⟩ := hr i hi
  have key : ∀ (m j : Nat) (x7 : Int), q.length < j + m → j ≤ q.length → x7 = (if j ≤ i then ((j : Int) - 1) else (i : Int)) →
      Ev (fun k => lex_At.l0 k (q.map toS) (q[i].at_ : Int) (((Lx.textOf (q.take j)).length : Nat) : Int) x7 (q.map toS) (q.length : Int) j) ((i : Int), (0 : Int)) := by
    intro m
    induction m with
    | zero => intro j x7 h1 h2; omega
    | succ m ih =>
      intro j x7 h1 h2 h3
      rcases Nat.lt_or_ge j q.length with hj | hj
      · obtain ⟨aj, bj, cj⟩ := hr j hj
        have hs := hsucc j hj
        have hl1 := hle (j + 1)
        have hw1 := Aside0.mk (wwrap (((Lx.textOf (q.take j)).length : Int) + (q[j].before.length : Int)) ((Lx.textOf (q.take j)).length + q[j].before.length) (by omega) (by omega))
        have hw2 := Aside0.mk (wwrap ((((Lx.textOf (q.take j)).length + q[j].before.length : Nat) : Int) + (q[j].text.length : Int)) (Lx.textOf (q.take (j + 1))).length (by omega) (by omega))
        have hw3 := Aside0.mk (wwrap ((j : Int) + 1) (j + 1) (by omega) (by omega))
        have hw4 := Aside0.mk (wwrap ((q.length : Int) - 1) (q.length - 1) (by omega) (by omega))
        have hrd := rd_map q j hj
        have f0 : (toS q[j]).f0 = (q[j].kind : Int) := rfl
        have f1 : (toS q[j]).f1.size = q[j].before.length := mk_size _
        have f2s : (toS q[j]).f2.size = q[j].text.length := mk_size _
        have f2 : (toS q[j]).f2.toList = q[j].text := by rw [toList_bl]; exact mk_bl' _
        have f3 : (toS q[j]).f3 = (q[j].at_ : Int) := rfl
        have htest : (((q[j].kind : Int) == 0) != ((j : Int) == ((q.length - 1 : Nat) : Int))) = false := by
          rw [bne_eq_false_iff_eq, Bool.eq_iff_iff, beq_iff_eq, beq_iff_eq]
          constructor
          · intro h; have := bj.mp (by omega); omega
          · intro h; have := bj.mpr (by omega); omega
        -- what the rest of a round does, whatever was found
        have rest : ∀ (y : Int), y = (if j + 1 ≤ i then (((j + 1 : Nat) : Int) - 1) else (i : Int)) → ∀ k (R : Option (Int × Int)), lex_At.l0 k (q.map toS) (q[i].at_ : Int) (((Lx.textOf (q.take (j + 1))).length : Nat) : Int) y (q.map toS) (q.length : Int) ((j + 1 : Nat) : Int) = R →
            (if ((rd_T30 (q.map toS) (j : Int)).f3) = (wrap64 ((((Lx.textOf (q.take j)).length : Nat) : Int) + (((rd_T30 (q.map toS) (j : Int)).f1).size : Int))) then (if ((((rd_T30 (q.map toS) (j : Int)).f0) == 0) != ((j : Int) == (wrap64 (((q.map toS).length : Int) - 1)))) = true then (some (0, 3)) else (if ((rd_T30 (q.map toS) (j : Int)).f0) = 0 then (if ((rd_T30 (q.map toS) (j : Int)).f2).toList = ([] : List UInt8) then (lex_At.l0 k (q.map toS) (q[i].at_ : Int) (wrap64 ((wrap64 ((((Lx.textOf (q.take j)).length : Nat) : Int) + (((rd_T30 (q.map toS) (j : Int)).f1).size : Int))) + (((rd_T30 (q.map toS) (j : Int)).f2).size : Int))) y (q.map toS) (q.length : Int) (wrap64 ((j : Int) + 1))) else (some (0, 3))) else (lex_At.l0 k (q.map toS) (q[i].at_ : Int) (wrap64 ((wrap64 ((((Lx.textOf (q.take j)).length : Nat) : Int) + (((rd_T30 (q.map toS) (j : Int)).f1).size : Int))) + (((rd_T30 (q.map toS) (j : Int)).f2).size : Int))) y (q.map toS) (q.length : Int) (wrap64 ((j : Int) + 1))))) else (some (0, 3))) = R := by
          intro y _ k R hR
          rw [hrd, f0, f1, f2, f2s, f3, hXl, hw1.out, hw2.out, hw3.out, hw4.out, if_pos (by omega), if_neg (by rw [htest]; decide)]
          by_cases h0 : q[j].kind = 0
          · rw [if_pos (by omega), if_pos (cj.mpr (bj.mp h0))]; exact hR
          · rw [if_neg (by omega)]; exact hR
        rcases Nat.lt_or_ge i j with hij | hij
        · -- behind the token
          have hi1 := hsucc i hi
          have hm := hmono (i + 1) j (by omega)
          have hne : 0 < q[i].text.length := List.length_pos_iff.mpr (fun z => by have := ci.mp z; omega)
          have hx7 : x7 = (i : Int) := by rw [h3, if_neg (by omega)]
          refine Ev.step (f := fun k => lex_At.l0 k (q.map toS) (q[i].at_ : Int) (((Lx.textOf (q.take (j + 1))).length : Nat) : Int) x7 (q.map toS) (q.length : Int) ((j + 1 : Nat) : Int)) (fun k => ?_) (ih (j + 1) x7 (by omega) (by omega) (by rw [if_neg (by omega)]; exact hx7))
          rw [lex_At.l0, if_pos (by omega), if_pos (by omega), if_pos (by omega), if_neg (by omega)]
          exact rest x7 (by rw [if_neg (by omega)]; exact hx7) k _ rfl
        · have hm := hmono j i hij
          refine Ev.step (f := fun k => lex_At.l0 k (q.map toS) (q[i].at_ : Int) (((Lx.textOf (q.take (j + 1))).length : Nat) : Int) (j : Int) (q.map toS) (q.length : Int) ((j + 1 : Nat) : Int)) (fun k => ?_) (ih (j + 1) (j : Int) (by omega) (by omega) (by split <;> omega))
          rw [lex_At.l0, if_pos (by omega), if_pos (by omega), if_pos (by omega), if_pos (by omega)]
          exact rest (j : Int) (by split <;> omega) k _ rfl
      · obtain rfl : j = q.length := by omega
        rw [List.take_of_length_le (Nat.le_refl _), hlen]
        have hx7 : x7 = (i : Int) := by rw [h3, if_neg (by omega)]
        have hi1 := hsucc i hi
        have hle1 := hle (i + 1)
        have hw4 := Aside0.mk (wwrap ((q.length : Int) - 1) (q.length - 1) (by omega) (by omega))
        have hcon : ∀ k, lex_At.l0 (k + 1) (q.map toS) (q[i].at_ : Int) (s.size : Int) x7 (q.map toS) (q.length : Int) (q.length : Int) = lex_At.j1 k (q.map toS) (q[i].at_ : Int) (s.size : Int) x7 false := by
          intro k
          rw [lex_At.l0, if_neg (by omega), hXl, if_neg (by omega), if_neg (by omega)]
          congr 1
          rw [decide_eq_false_iff_not]
          omega
        refine Ev.step hcon (Ev.step (f := fun _ => some ((i : Int), (0 : Int))) (fun k => ?_) (Ev.now _))
        rw [lex_At.j1, if_neg (by decide), hXl, hw4.out, hx7]
        by_cases hlast : i + 1 = q.length
        · have htx := ci.mpr hlast
          have htl : q[i].text.length = 0 := by rw [htx]; rfl
          have : Lx.textOf (q.take (i + 1)) = Lx.textOf q := by rw [List.take_of_length_le (by omega)]
          rw [this] at hi1
          rw [if_pos (by omega), show q.length - 1 = i by omega]
        · have hne : 0 < q[i].text.length := List.length_pos_iff.mpr (fun z => hlast (ci.mp z))
          rw [if_neg (by omega)]
  have e := key (q.length + 1) 0 (-1) (by omega) (by omega) (by rw [if_pos (by omega)]; rfl)
  refine Ev.congr (fun k => ?_) e
  unfold lex_At.f
  rw [hXl]
  rfl
theorem keeps_l0 : ∀ (m i : Nat), (toks s).length < i + m → i ≤ (toks s).length → Ev (fun k => lw2_LexKeeps.l0 k s ((toks s).map toS) i) true := by
  have hx := Lx.tokens_text (K := keysL) signs_fair (bl s)
  have hr0 := Lx.tokens_row (K := keysL) signs_fair (bl s)
  have hr : ∀ j (h : j < (toks s).length), (toks s)[j].at_ = (Lx.textOf ((toks s).take j)).length + (toks s)[j].before.length ∧ ((toks s)[j].kind = 0 ↔ j + 1 = (toks s).length) ∧ ((toks s)[j].text = [] ↔ j + 1 = (toks s).length) := by
    intro j h
    unfold toks at h ⊢
    have := row_at _ 0 hr0 j h
    rw [Nat.zero_add] at this
    exact this
  have htx : Lx.textOf (toks s) = bl s := by unfold toks; exact hx
  have hlen : (Lx.textOf (toks s)).length = s.size := by rw [htx, bl_length]
  have hXl : ((toks s).map toS).length = (toks s).length := List.length_map _
  have hat := fun i (h : i < (toks s).length) => at_ev s hsz hln i h
  obtain ⟨i0, e0, hne⟩ := toks_ne s
  have hpos : 0 < (toks s).length := by rw [hne]; simp
  clear hx hr0 hne
  intro m
  induction m with
  | zero => intro i h1 h2; omega
  | succ m ih =>
    intro i h1 h2
    rcases Nat.lt_or_ge i (toks s).length with hi | hi
    · have hAt := hat i hi
      obtain ⟨ai, bi, ci⟩ := hr i hi
      have hi1 := textOf_succ (toks s) i hi
      have hle1 := textOf_le (toks s) (i + 1)
      have hsplit : bl s = Lx.textOf ((toks s).take i) ++ ((toks s)[i].before ++ (toks s)[i].text) ++ Lx.textOf ((toks s).drop (i + 1)) := by
        rw [← htx]
        exact textOf_split (toks s) i hi
      have hrd := rd_map (toks s) i hi
      generalize ht : (toks s)[i] = t at *
      have f0 : (toS t).f0 = (t.kind : Int) := rfl
      have f2s : (toS t).f2.size = t.text.length := mk_size _
      have f2 : (toS t).f2.toList = t.text := by rw [toList_bl]; exact mk_bl' _
      have f3 : (toS t).f3 = (t.at_ : Int) := rfl
      have hw1 := Aside0.mk (wwrap ((t.at_ : Int) + (t.text.length : Int)) (t.at_ + t.text.length) (by omega) (by omega))
      have hw2 := Aside0.mk (wwrap ((i : Int) + 1) (i + 1) (by omega) (by omega))
      have hex : (s.extract t.at_ (t.at_ + t.text.length)).toList = t.text := by
        rw [toList_bl, extract_bl, Nat.add_sub_cancel_left, hsplit, ai, List.append_assoc, List.append_assoc, ← List.append_assoc (Lx.textOf _) t.before, List.drop_append_of_le_length (by rw [List.length_append]; omega), List.drop_of_length_le (by rw [List.length_append]; omega), List.nil_append, List.take_left]
      have hb : ((t.text == ([] : List UInt8)) != ((t.kind : Int) == 0)) = false := by
        rw [bne_eq_false_iff_eq, Bool.eq_iff_iff, beq_iff_eq, beq_iff_eq, ci]
        constructor
        · intro h; have := bi.mpr h; omega
        · intro h; exact bi.mp (by omega)
      refine Ev.step (f := fun k => lw2_LexKeeps.j1 k s ((toks s).map toS) i (t.at_ : Int) false) (fun k => ?_) (Ev.step (f := fun k => (lex_At.f k ((toks s).map toS) (t.at_ : Int)).bind fun bt392 => (if bt392.1 = (i : Int) then (if bt392.2 = 0 then (lw2_LexKeeps.l0 k s ((toks s).map toS) ((i + 1 : Nat) : Int)) else (some false)) else (some false))) (fun k => ?_) (Ev.bind hAt (Ev.congr (fun k => if_pos rfl) (Ev.congr (fun k => if_pos rfl) (ih (i + 1) (by omega) (by omega))))))
      · rw [lw2_LexKeeps.l0, hXl, if_pos (by omega), if_pos (by omega), hrd, f0, f2, f2s, f3, hw1.out, if_neg (by omega), if_neg (by omega), if_pos (by omega), if_pos (by omega), if_pos (by omega), Int.toNat_natCast, Int.toNat_natCast, if_pos hex, hb]
      · rw [lw2_LexKeeps.j1, if_neg (by decide), hw2.out]
    · refine Ev.step (fun k => ?_) (Ev.now _)
      rw [lw2_LexKeeps.l0, hXl, if_neg (by omega), if_pos (by omega)]
      have hT : lex_Text.f ((toks s).map toS) = some ⟨(textL ((toks s).map toS)).toArray⟩ := by
        unfold lex_Text.f
        rw [if_pos]
        rw [textL_map, hXl]
        omega
      rw [hT, Option.bind_some, textL_map, htx, if_pos (by simp only [toList_bl, mk_bl']), awake_eq]
      rfl
end
theorem lexKeeps_eq (s : ByteArray) : Ev (fun k => lw2_LexKeeps.f k s) true := by
  by_cases h : (scanR s).2 = 0
  · obtain ⟨x1, x2, x3⟩ := scanR_ok s h
    have e := keeps_l0 s x2 x3 ((toks s).length + 1) 0 (by omega) (by omega)
    refine Ev.congr (fun k => ?_) e
    unfold lw2_LexKeeps.f
    rw [scan_eq, Option.bind_some, if_pos h, x1]
    rfl
  · have hb := scanR_bad s h
    refine Ev.congr (fun k => ?_) (Ev.now true)
    unfold lw2_LexKeeps.f
    rw [scan_eq, Option.bind_some, if_neg h, if_pos (by omega), awake_eq]
    rfl
end Go.Proofs.YtabnmkakgcifoaaDoor.PLex

namespace Go.Proofs.YtabnmkakgcifoaaDoor.lexKeeps
open Go.ChangeShapes Go.WideShapes Go.ChangeAt Go.RowKit
open Go.ChangeMaps (open_string shut_string)
set_option maxRecDepth 100000 in
theorem contract (H : Type) (enc : TypeId × Value → H) (W : World) (base : Nat) (args : Array Value) (ds gs : List (DataW H)) (before : List MemPlace)
    (hval : ∀ (j : Nat) t v, Tryd.f8.params[j]? = some t → args[j]? = some v → Value.okWide Tryd.prog W .any base t v)
    (hW : DataW.Whole enc Tryd.prog Tryd.f8.params.toList Rows.lexKeepsSpec.vars false W args.toList ds gs before) (hL : laidMetH Tryd.prog Rows.lexKeepsRow.laid W) (hsh : W.ShapedOpen Tryd.prog)
    (hsz : (DataW.weightsEach Tryd.prog (Tryd.f8.params.toList ++ Rows.lexKeepsSpec.plain.varTypes Tryd.prog) (ds ++ gs)).all (· ≤ reachBytes) = true) :
    Calls Tryd.prog 8 args W fun e W' => ∃ v, e = .returned v ∧ Rows.lexKeepsSpec.post enc Tryd.prog Tryd.f8 false true false false W args v W' := by
  have hGl := Row0.glob hL hsh
  have hW' := hW
  obtain ⟨p, q, hA0, hV, rfl, hfz, hnd⟩ := hW
  have hA : DataW.TrodAll enc Tryd.prog W 0 (fun _ => true) true Tryd.f8.params.toList args.toList ds p := hA0
  rw [Tryd.params8] at hA hval hsz
  obtain ⟨v0, vs0, d0, ds0, p0, q0, hargs, rfl, rfl, h0, r0⟩ := trodAll_cons hA
  obtain ⟨rfl, rfl, rfl⟩ := trodAll_nil r0
  obtain rfl : args = #[v0] := by cases args; simp_all
  obtain ⟨rfl, rfl⟩ := trodVars_none hV
  obtain ⟨a0, rfl, rfl, rfl, y0⟩ := open_string Tryd.underlying9 (hval 0 9 v0 rfl rfl) h0
  clear hA0 hsz
  obtain ⟨k, hk⟩ := (PLex.lexKeeps_eq a0).rounds
  refine (PLex.lw2_LexKeeps.calls k a0 true W hGl hk).mono fun e W' ⟨he, bel⟩ => ?_
  subst he
  exact ⟨_, rfl, _, _, _, [], _, [], hW', trodAll_mk1 (shut_bool Tryd.underlying4 _), (trodAll_cons_mk (shut_string Tryd.underlying9 y0) trodAll_mk0), rfl, bel.frame _, fun h => by cases h⟩
theorem reads (os : Os) {H : Type} (enc : TypeId × Value → H) : ∃ places, DataW.whole enc Tryd.prog ((Row0.laidWorld os).forCall (fun _ _ => 0) ⟨#[], #[.string ⟨#[]⟩], []⟩).memory Tryd.f8.params.toList Rows.lexKeepsSpec.vars false #[Value.string ⟨#[]⟩].toList 8 = some ([.lit (.string [])], [], places) :=
  ⟨[], by kernel_rfl⟩
set_option maxRecDepth 100000 in
theorem lifted (os : Os) (started : os.Started) (H : Type) (enc : TypeId × Value → H) (F : Stop.Interp) :
    ReturnsInHanded {} Tryd.checked os 8 .any ((OpenSpec.ofChange Rows.lexKeepsSpec).preRow enc Tryd.prog Tryd.f8 Rows.lexKeepsRow.domain false Rows.lexKeepsRow.laid) (((OpenSpec.ofChange Rows.lexKeepsSpec).at F).post enc Tryd.prog Tryd.f8 false true false false) := by
  obtain ⟨places, hx⟩ := reads os enc
  refine returnsInHanded_of_row (C := Tryd.checked) (s := OpenSpec.ofChange Rows.lexKeepsSpec) Row0.own started (by kernel_rfl) Tryd.func8
    (witness_row_atRef (enc := enc) (C := Tryd.checked) false (Row0.laidWorld os) #[.string ⟨#[]⟩] rfl (by kernel_rfl) (by kernel_rfl) (by kernel_rfl)
      (OpenSpec.preRow_of_cond 8 hx (by kernel_rfl) (fun k hk => by cases hk) (by kernel_rfl) (Row0.laid_met os _))) ?_
  intro W base args ds gs before hval hW _ _ hsz hL hsh _
  exact contract H enc W base args ds gs before hval hW hL hsh hsz
theorem said : Rows.LexKeepsSaid :=
  OpenClaim.holds_of_cond 8 Tryd.f8 rfl rfl rfl rfl rfl rfl rfl ⟨rfl, rfl, rfl, rfl, rfl⟩ rfl rfl rfl rfl rfl (by kernel_rfl) Tryd.func8 (by kernel_rfl)
    (of_decide_eq_true (by kernel_rfl)) (by unfold Func.isWrapper; first | (rw [if_pos (by decide +kernel)]; kernel_rfl) | (rw [if_neg (by decide +kernel)]; exact ⟨rfl, rfl⟩))
    (fun os started H enc _ F => by rw [OpenClaim.pre_eq_preRow]; exact lifted os started H enc F)
theorem plain (f : FuncId) (fn : Func) (hf : Tryd.pinned.checked.prog.funcNamed "smocking/smockinglaw02.LexKeeps" = some f) (hfn : Tryd.pinned.checked.prog.funcs[f]? = some fn) :
    false = Tryd.pinned.checked.prog.looks [] ∧ ∀ (j : Nat) t, fn.params[j]? = some t → Tryd.pinned.checked.prog.wantsStandIn t = false := by
  obtain rfl : f = 8 := Option.some.inj ((show Tryd.prog.funcNamed "smocking/smockinglaw02.LexKeeps" = some 8 by kernel_rfl).symm.trans hf) |>.symm
  obtain rfl : fn = Tryd.f8 := (Option.some.inj (Tryd.func8.symm.trans hfn)).symm
  refine ⟨by kernel_rfl, fun j t ht => ?_⟩
  rw [Tryd.params8] at ht
  obtain rfl : t = 9 := by simpa using Array.mem_of_getElem? ht
  exact (show Tryd.prog.wantsStandIn 9 = false by kernel_rfl)
theorem card : Rows.LexKeepsCardSaid :=
  Claim7.holds_tied_plain_at .later [] _ _ _ _ said (fun _ h => by cases h) (by kernel_rfl) (fun _ h => by cases h) lexKeeps_row_tie rfl ⟨rfl, rfl⟩ (by kernel_rfl) rfl plain (by kernel_rfl)
end Go.Proofs.YtabnmkakgcifoaaDoor.lexKeeps
namespace Go.Proofs.YtabnmkakgcifoaaDoor
theorem lexKeeps_card : Rows.LexKeepsCardSaid := lexKeeps.card
end Go.Proofs.YtabnmkakgcifoaaDoor

namespace Go.Proofs.YtabnmkakgcifoaaDoor
#print axioms lexKeeps_card
end Go.Proofs.YtabnmkakgcifoaaDoor
