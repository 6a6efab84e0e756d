/- TextEdits holds: for every text and all edits the statement answers true, where the three listed package variables hold what the program's text lays. Part 2 of 3. -/
import Derived.Test.YthimblhfjfngiaaDoorBEditsA
namespace Go.Proofs.YthimblhfjfngiaaDoor.PText
open Go.RowKit Go.Proofs.YthimblhfjfngiaaDoorW.PrintWords Go.Proofs.YthimblhfjfngiaaDoorW.PrintLast Go.Proofs.YthimblhfjfngiaaDoorW.PrintMore
attribute [local go_sem] max2_int min2_int max_two min_two max_three min_three max_four min_four   -- for this text's walks alone
set_option linter.unusedVariables false
set_option linter.unusedSimpArgs false

def smockingref01_Apply.f (k : Nat) (a0 : ByteArray) (l1 : List (S34)) : Option (ByteArray × Int) := (smockingref01_Fine.f k a0 l1).bind fun t179 => (if t179 = 0 then ((smockingref01_made.f k a0 l1).bind fun bt180 => (if (bt180.1.size : Int) > 200000 then (some ((⟨#[]⟩ : ByteArray), 2)) else (some (bt180.1, 0)))) else (some ((⟨#[]⟩ : ByteArray), t179)))
set_option maxHeartbeats 8000000 in
set_option maxRecDepth 100000 in
theorem smockingref01_Apply.calls (k : Nat) (a0 : ByteArray) (A1 : Option Addr) (c1 : Nat) (l1 : List (S34)) (r1 : ByteArray) (r2 : Int) (w : World) (hr1 : Kd.C k34 w A1 l1.length l1) (hc1 : l1.length ≤ c1) (h : smockingref01_Apply.f k a0 l1 = some (r1, r2)) :
  Calls Tryd.prog 11 #[.string a0, .slice A1 l1.length c1] w fun e w' => e = .returned (.tuple #[.string r1, .int .i64 r2]) ∧ Below w.heap.size w w' := by
 have HR1 := Aside0.mk hr1
 have HC1 := Aside0.mk hc1
 clear hr1 hc1
 have HB := Aside0.mk (Below.refl w.heap.size w)
 have H : ((smockingref01_Fine.f k a0 l1).bind fun t179 => (if t179 = 0 then ((smockingref01_made.f k a0 l1).bind fun bt180 => (if (bt180.1.size : Int) > 200000 then (some ((⟨#[]⟩ : ByteArray), 2)) else (some (bt180.1, 0)))) else (some ((⟨#[]⟩ : ByteArray), t179)))) = some (r1, r2) := h
 clear h
 replace H := Option.bind_eq_some_iff.mp H
 obtain ⟨t179, A30, H⟩ := H
 replace H : (if t179 = 0 then ((smockingref01_made.f k a0 l1).bind fun bt180 => (if (bt180.1.size : Int) > 200000 then (some ((⟨#[]⟩ : ByteArray), 2)) else (some (bt180.1, 0)))) else (some ((⟨#[]⟩ : ByteArray), t179))) = some (r1, r2) := H
 have A3 := Aside0.mk A30
 clear A30
 by_cases c4 : t179 = 0
 ·rw [if_pos c4] at H
  have c4b0 : (t179 == 0) = true := beq_iff_eq.mpr c4
  have c4b1 : (t179 != 0) = false := bne_eq_false_iff_eq.mpr c4
  clear c4
  replace H := Option.bind_eq_some_iff.mp H
  obtain ⟨⟨t180, t181⟩, A50, H⟩ := H
  replace H : (if (t180.size : Int) > 200000 then (some ((⟨#[]⟩ : ByteArray), 2)) else (some (t180, 0))) = some (r1, r2) := H
  have A5 := Aside0.mk A50
  clear A50
  by_cases c6 : (t180.size : Int) > 200000
  ·rw [if_pos c6] at H
   have c6b0 : decide (200000 < (t180.size : Int)) = true := decide_eq_true c6
   have c6b1 : decide (200000 < t180.size) = true := decide_eq_true (by omega)
   clear c6
   simp only [Option.some.injEq, Prod.mk.injEq] at H
   obtain ⟨rfl, rfl⟩ := H
   go_enter Tryd.func11, Tryd.ntmps11
   go_wp2_with (first | ((with_reducible refine gate_callee (f := 13) rfl ?_); refine goesL_ (some 11) rfl rfl Tryd.func13 (by kernel_rfl) rfl #[.string a0, .slice A1 l1.length c1] rfl (by (try simp only [List.map_toArray, List.map_cons, List.map_nil]); first | done | rfl | (simp only [List.length_drop, List.length_take]; rfl)) ?_; (with_reducible refine (smockingref01_Fine.calls k a0 _ _ l1 t179 _ ?side1 ?side2 A3.out).mono ?_); (case side1 => repeat (first | exact HR1.out | (with_reducible refine Kd.C_alloc ?_ _) | (with_reducible refine Kd.C_drewN ?_ _) | (with_reducible refine Kd.C_drew ?_))); (case side2 => exact HC1.out); rintro e w7 ⟨rfl, hb⟩; refine ⟨_, rfl, ?_⟩; have n0_ := Aside0.mk (below_step (by repeat (first | (with_reducible first | exact HB.out | apply below_alloc | apply pw_below_drewN | apply below_drew1) | exact HB.out)) hb); clear HB; have HB := n0_; clear n0_; (try clear hb); (try clear hb2); (try clear hk); (try clear hi)) | ((with_reducible refine gate_callee (f := 36) rfl ?_); refine goesL_ (some 18) rfl rfl Tryd.func36 (by kernel_rfl) rfl #[.string a0, .slice A1 l1.length c1] rfl (by (try simp only [List.map_toArray, List.map_cons, List.map_nil]); first | done | rfl | (simp only [List.length_drop, List.length_take]; rfl)) ?_; (with_reducible refine (smockingref01_made.calls k a0 _ _ l1 t180 t181 _ ?side1 ?side2 A5.out).mono ?_); (case side1 => repeat (first | exact (Kd.C_below HR1.out HB.out) | (with_reducible refine Kd.C_alloc ?_ _) | (with_reducible refine Kd.C_drewN ?_ _) | (with_reducible refine Kd.C_drew ?_))); (case side2 => exact HC1.out); rintro e w8 ⟨v182, rfl, ho0, hb⟩; refine ⟨_, rfl, ?_⟩; have n0_ := Aside0.mk (Kd.R_lower ho0 (below_size (by repeat (first | (with_reducible first | exact HB.out | apply below_alloc | apply pw_below_drewN | apply below_drew1) | exact HB.out)))); have n1_ := Aside0.mk (below_step (by repeat (first | (with_reducible first | exact HB.out | apply below_alloc | apply pw_below_drewN | apply below_drew1) | exact HB.out)) hb); clear HB; have HO183 := n0_; have HB := n1_; clear n0_ n1_; (try clear hb); (try clear hb2); (try clear hk); (try clear hi); (try clear ho0)))
   go_ret2
   exact ⟨by first | rfl | (simp [errW_none, errW_some] <;> rfl) | (simp [*, errW_none, errW_some] <;> rfl), by repeat (first | (with_reducible first | exact HB.out | apply below_alloc | apply pw_below_drewN | apply below_drew1) | exact HB.out)⟩
  ·rw [if_neg c6] at H
   have c6b0 : decide (200000 < (t180.size : Int)) = false := decide_eq_false c6
   have c6b1 : decide (200000 < t180.size) = false := decide_eq_false (by omega)
   clear c6
   simp only [Option.some.injEq, Prod.mk.injEq] at H
   obtain ⟨rfl, rfl⟩ := H
   go_enter Tryd.func11, Tryd.ntmps11
   go_wp2_with (first | ((with_reducible refine gate_callee (f := 13) rfl ?_); refine goesL_ (some 11) rfl rfl Tryd.func13 (by kernel_rfl) rfl #[.string a0, .slice A1 l1.length c1] rfl (by (try simp only [List.map_toArray, List.map_cons, List.map_nil]); first | done | rfl | (simp only [List.length_drop, List.length_take]; rfl)) ?_; (with_reducible refine (smockingref01_Fine.calls k a0 _ _ l1 t179 _ ?side1 ?side2 A3.out).mono ?_); (case side1 => repeat (first | exact HR1.out | (with_reducible refine Kd.C_alloc ?_ _) | (with_reducible refine Kd.C_drewN ?_ _) | (with_reducible refine Kd.C_drew ?_))); (case side2 => exact HC1.out); rintro e w9 ⟨rfl, hb⟩; refine ⟨_, rfl, ?_⟩; have n0_ := Aside0.mk (below_step (by repeat (first | (with_reducible first | exact HB.out | apply below_alloc | apply pw_below_drewN | apply below_drew1) | exact HB.out)) hb); clear HB; have HB := n0_; clear n0_; (try clear hb); (try clear hb2); (try clear hk); (try clear hi)) | ((with_reducible refine gate_callee (f := 36) rfl ?_); refine goesL_ (some 18) rfl rfl Tryd.func36 (by kernel_rfl) rfl #[.string a0, .slice A1 l1.length c1] rfl (by (try simp only [List.map_toArray, List.map_cons, List.map_nil]); first | done | rfl | (simp only [List.length_drop, List.length_take]; rfl)) ?_; (with_reducible refine (smockingref01_made.calls k a0 _ _ l1 t180 t181 _ ?side1 ?side2 A5.out).mono ?_); (case side1 => repeat (first | exact (Kd.C_below HR1.out HB.out) | (with_reducible refine Kd.C_alloc ?_ _) | (with_reducible refine Kd.C_drewN ?_ _) | (with_reducible refine Kd.C_drew ?_))); (case side2 => exact HC1.out); rintro e w10 ⟨v182, rfl, ho0, hb⟩; refine ⟨_, rfl, ?_⟩; have n0_ := Aside0.mk (Kd.R_lower ho0 (below_size (by repeat (first | (with_reducible first | exact HB.out | apply below_alloc | apply pw_below_drewN | apply below_drew1) | exact HB.out)))); have n1_ := Aside0.mk (below_step (by repeat (first | (with_reducible first | exact HB.out | apply below_alloc | apply pw_below_drewN | apply below_drew1) | exact HB.out)) hb); clear HB; have HO183 := n0_; have HB := n1_; clear n0_ n1_; (try clear hb); (try clear hb2); (try clear hk); (try clear hi); (try clear ho0)))
   go_ret2
   exact ⟨by first | rfl | (simp [errW_none, errW_some] <;> rfl) | (simp [*, errW_none, errW_some] <;> rfl), by repeat (first | (with_reducible first | exact HB.out | apply below_alloc | apply pw_below_drewN | apply below_drew1) | exact HB.out)⟩
 ·rw [if_neg c4] at H
  have c4b0 : (t179 == 0) = false := beq_eq_false_iff_ne.mpr c4
  have c4b1 : (t179 != 0) = true := bne_iff_ne.mpr c4
  simp only [Option.some.injEq, Prod.mk.injEq] at H
  obtain ⟨rfl, rfl⟩ := H
  go_enter Tryd.func11, Tryd.ntmps11
  go_wp2_with (first | ((with_reducible refine gate_callee (f := 13) rfl ?_); refine goesL_ (some 11) rfl rfl Tryd.func13 (by kernel_rfl) rfl #[.string a0, .slice A1 l1.length c1] rfl (by (try simp only [List.map_toArray, List.map_cons, List.map_nil]); first | done | rfl | (simp only [List.length_drop, List.length_take]; rfl)) ?_; (with_reducible refine (smockingref01_Fine.calls k a0 _ _ l1 t179 _ ?side1 ?side2 A3.out).mono ?_); (case side1 => repeat (first | exact HR1.out | (with_reducible refine Kd.C_alloc ?_ _) | (with_reducible refine Kd.C_drewN ?_ _) | (with_reducible refine Kd.C_drew ?_))); (case side2 => exact HC1.out); rintro e w11 ⟨rfl, hb⟩; refine ⟨_, rfl, ?_⟩; have n0_ := Aside0.mk (below_step (by repeat (first | (with_reducible first | exact HB.out | apply below_alloc | apply pw_below_drewN | apply below_drew1) | exact HB.out)) hb); clear HB; have HB := n0_; clear n0_; (try clear hb); (try clear hb2); (try clear hk); (try clear hi)))
  go_ret2
  exact ⟨by first | rfl | (simp [errW_none, errW_some] <;> rfl) | (simp [*, errW_none, errW_some] <;> rfl), by repeat (first | (with_reducible first | exact HB.out | apply below_alloc | apply pw_below_drewN | apply below_drew1) | exact HB.out)⟩

end Go.Proofs.YthimblhfjfngiaaDoor.PText

namespace Go.Proofs.YthimblhfjfngiaaDoor.PText
open Go.RowKit Go.Proofs.YthimblhfjfngiaaDoorW.PrintWords Go.Proofs.YthimblhfjfngiaaDoorW.PrintLast Go.Proofs.YthimblhfjfngiaaDoorW.PrintMore
attribute [local go_sem] max2_int min2_int max_two min_two max_three min_three max_four min_four   -- for this text's walks alone
set_option linter.unusedVariables false
set_option linter.unusedSimpArgs false

def smockingref01_joined.l0 : Nat → List (S34) → List (S34) → Int → Option ((List (S34)))
 | 0, _, _, _ => none
 | k + 1, x0, x3, x4 => if x4 < (x0.length : Int) then (if (wrap64 ((x3.length : Int) - 1)) ≥ 0 then (if 0 ≤ x4 then (if ((rd_T34 x0 x4).f0) = ((rd_T34 x0 x4).f1) then (if 0 ≤ (wrap64 ((x3.length : Int) - 1)) then (if (wrap64 ((x3.length : Int) - 1)) < (x3.length : Int) then (if ((rd_T34 x3 (wrap64 ((x3.length : Int) - 1))).f0) = ((rd_T34 x0 x4).f0) then (if ((rd_T34 x3 (wrap64 ((x3.length : Int) - 1))).f1) = ((rd_T34 x0 x4).f0) then (if ((rd_T34 x3 (wrap64 ((x3.length : Int) - 1))).f2).size + ((rd_T34 x0 x4).f2).size ≤ 9223372036854775807 then (smockingref01_joined.l0 k x0 (x3.set ((wrap64 ((x3.length : Int) - 1)) : Int).toNat (⟨(rd_T34 x3 (wrap64 ((x3.length : Int) - 1))).f0, (rd_T34 x3 (wrap64 ((x3.length : Int) - 1))).f1, ((rd_T34 x3 (wrap64 ((x3.length : Int) - 1))).f2) ++ ((rd_T34 x0 x4).f2)⟩ : S34)) (wrap64 (x4 + 1))) else (none)) else (if x3.length < 4398046511104 then (smockingref01_joined.l0 k x0 (x3 ++ [(⟨(rd_T34 x0 x4).f0, (rd_T34 x0 x4).f1, (rd_T34 x0 x4).f2⟩ : S34)]) (wrap64 (x4 + 1))) else (none))) else (if x3.length < 4398046511104 then (smockingref01_joined.l0 k x0 (x3 ++ [(⟨(rd_T34 x0 x4).f0, (rd_T34 x0 x4).f1, (rd_T34 x0 x4).f2⟩ : S34)]) (wrap64 (x4 + 1))) else (none))) else (none)) else (none)) else (if x3.length < 4398046511104 then (smockingref01_joined.l0 k x0 (x3 ++ [(⟨(rd_T34 x0 x4).f0, (rd_T34 x0 x4).f1, (rd_T34 x0 x4).f2⟩ : S34)]) (wrap64 (x4 + 1))) else (none))) else (none)) else (if 0 ≤ x4 then (if x3.length < 4398046511104 then (smockingref01_joined.l0 k x0 (x3 ++ [(⟨(rd_T34 x0 x4).f0, (rd_T34 x0 x4).f1, (rd_T34 x0 x4).f2⟩ : S34)]) (wrap64 (x4 + 1))) else (none)) else (none))) else (some x3)
def smockingref01_joined.f (k : Nat) (l0 : List (S34)) : Option ((List (S34))) := smockingref01_joined.l0 k l0 ([] : List (S34)) 0
def smockingref01_joined.T6 : Bool × List (List Nat × List Nat) := (true, [([], []), ([0], [0]), ([1], [1]), ([2], [2]), ([2], [2]), ([3, 4, 2], [2, 3, 4]), ([5, 2], [2, 5]), ([6, 2], [2, 6]), ([2], [2]), ([2], [2]), ([8, 9, 2], [2, 8, 9]), ([10, 2], [2, 10]), ([11, 2], [2, 11]), ([7, 12, 2], [2, 7, 12]), ([2, 13], [2, 13]), ([14, 2], [14]), ([15], [15]), ([15], [15]), ([16, 17, 15], [15, 16, 17]), ([18, 15], [15, 18]), ([19, 15], [15, 19]), ([15], [15]), ([15], [15]), ([21, 22, 15], [15, 21, 22]), ([23, 15], [15, 23]), ([24, 15], [15, 24]), ([20, 25, 15], [15, 20, 25]), ([15, 26], [15, 26]), ([27, 15], [27]), ([28], [28]), ([28], [28]), ([29, 30, 28], [28, 29, 30]), ([31, 28], [28, 31]), ([32, 28], [28, 32]), ([28], [28]), ([28], [28]), ([34, 35, 28], [28, 34, 35]), ([36, 28], [28, 36]), ([37, 28], [28, 37]), ([33, 38, 28], [28, 33, 38]), ([28, 39], [28, 39])])
def smockingref01_joined.B6 : List Nat := [0, 1, 3, 7, 7, 31, 63, 127, 7, 7, 775, 1799, 3847, 8191, 16383, 32767, 65535, 65535, 262143, 524287, 1048575, 65535, 65535, 6356991, 14745599, 31522815, 67108863, 134217727, 268435455, 536870911, 536870911, 2147483647, 4294967295, 8589934591, 536870911, 536870911, 52076478463, 120795955199, 258234908671, 549755813887, 1099511627775]
theorem smockingref01_joined.tab6 : rtab .any (opsOf Tryd.f42 6) = smockingref01_joined.T6 := by kernel_rfl
theorem smockingref01_joined.bits6 : waitsOk smockingref01_joined.T6.2 smockingref01_joined.B6 = true := by kernel_rfl
def smockingref01_joined.T7 : Bool × List (List Nat × List Nat) := (true, [([], []), ([], []), ([], []), ([], []), ([2, 3], [2, 3]), ([4], [4]), ([5], [5]), ([], []), ([], []), ([7, 8], [7, 8]), ([9], [9]), ([10], [10]), ([6, 11], [6, 11]), ([0, 1, 0, 1, 2, 3, 4, 5, 6, 7, 8, 9, 10, 11, 12], [0, 1]), ([13, 0, 1, 2, 3, 4, 5, 6, 7, 8, 9, 10, 11, 12], [13]), ([14, 12, 0, 1, 2, 3, 4, 5, 6, 7, 8, 9, 10, 11, 12], [12, 14])])
def smockingref01_joined.B7 : List Nat := [0, 0, 0, 0, 12, 28, 60, 0, 0, 384, 896, 1920, 4092, 8191, 16383, 32767]
theorem smockingref01_joined.tab7 : rtab .any (opsOf Tryd.f42 7) = smockingref01_joined.T7 := by kernel_rfl
theorem smockingref01_joined.bits7 : waitsOk smockingref01_joined.T7.2 smockingref01_joined.B7 = true := by kernel_rfl
set_option maxHeartbeats 8000000 in
set_option maxRecDepth 100000 in
theorem smockingref01_joined.calls (k : Nat) (A0 : Option Addr) (c0 : Nat) (l0 : List (S34)) (r : List (S34)) (w : World) (hr0 : Kd.C k34 w A0 l0.length l0) (hc0 : l0.length ≤ c0) (h : smockingref01_joined.f k l0 = some r) :
  Calls Tryd.prog 42 #[.slice A0 l0.length c0] w fun e w' => ∃ v0_ : Value, e = .returned (v0_) ∧ Kd.R k34 34 w' w.heap.size (fun _ => True) v0_ r ∧ Below w.heap.size w w' := by
 have hu34 := Tryd.underlying34
 have HR0 := Aside0.mk hr0
 have HC0 := Aside0.mk hc0
 clear hr0 hc0
 have HB := Aside0.mk (Below.refl w.heap.size w)
 have H : (smockingref01_joined.l0 k l0 ([] : List (S34)) 0) = some r := h
 clear h
 have H' := Aside0.mk H
 clear H
 go_enter Tryd.func42, Tryd.ntmps42
 go_wp2
 try simp only [Act.put, List.setIfInBounds_toArray, List.set_cons_succ, List.set_cons_zero]
 go_loopg [3, 4] k (fun kq v3 v4 w' => ∃ (x3_1 : List (S34)) (x4_1 : Int), v4 = .int .i64 x4_1 ∧ Aside0 (smockingref01_joined.l0 kq l0 x3_1 x4_1 = some r) ∧ Aside0 (kq ≤ k) ∧ Aside0 (Kd.R k34 34 w' w.heap.size (fun _ => True) v3 x3_1) ∧ Aside0 (Below w.heap.size w w'))
 case atStart => exact ⟨(([] : List (S34))), (0), (by first | rfl | (simp; done) | (simp [*]; done)), H', ⟨Nat.le_refl _⟩, ⟨by first | exact Kd.R_nil _ _ _ _ _ | exact Kd.N_nil _ _ _ _ _ | exact Kd.V_nil _ _ _ _ _ | exact Kd.Q_nil _ _ _ _ _ | exact Kd.S_nil _ _ _ _ _⟩, ⟨by repeat (first | (with_reducible first | exact HB.out | apply below_alloc | apply pw_below_drewN | apply below_drew1) | exact HB.out)⟩⟩
 case round =>
  clear H'
  obtain ⟨x3_1, x4_1, rfl, HA, HK1, HO_3, HB⟩ := hrel
  cases gk with
  | zero => exact absurd HA.out (by simp [smockingref01_joined.l0])
  | succ k1 =>
   have H := HA.out
   clear HA
   simp only [smockingref01_joined.l0] at H
   by_cases c2 : x4_1 < (l0.length : Int)
   ·rw [if_pos c2] at H
    have c2b0 : decide (x4_1 < (l0.length : Int)) = true := decide_eq_true c2
    clear c2
    by_cases c3 : (wrap64 ((x3_1.length : Int) - 1)) ≥ 0
    ·rw [if_pos c3] at H
     have c3b0 : decide (0 ≤ (wrap64 ((x3_1.length : Int) - 1))) = true := decide_eq_true c3
     clear c3
     by_cases c4 : 0 ≤ x4_1
     ·rw [if_pos c4] at H
      have c4b0 : decide (0 ≤ x4_1) = true := decide_eq_true c4
      clear c4
      by_cases c5 : ((rd_T34 l0 x4_1).f0) = ((rd_T34 l0 x4_1).f1)
      ·rw [if_pos c5] at H
       have c5b0 : (((rd_T34 l0 x4_1).f0) == ((rd_T34 l0 x4_1).f1)) = true := beq_iff_eq.mpr c5
       have c5b1 : (((rd_T34 l0 x4_1).f0) != ((rd_T34 l0 x4_1).f1)) = false := bne_eq_false_iff_eq.mpr c5
       clear c5
       obtain ⟨ji6, hji6⟩ : ∃ j_ : Int, (wrap64 ((x3_1.length : Int) - 1)) = j_ := ⟨_, rfl⟩
       replace H : (if 0 ≤ (ji6) then (if (ji6) < (x3_1.length : Int) then (if ((rd_T34 x3_1 (ji6)).f0) = ((rd_T34 l0 x4_1).f0) then (if ((rd_T34 x3_1 (ji6)).f1) = ((rd_T34 l0 x4_1).f0) then (if ((rd_T34 x3_1 (ji6)).f2).size + ((rd_T34 l0 x4_1).f2).size ≤ 9223372036854775807 then (smockingref01_joined.l0 k1 l0 (x3_1.set ((ji6) : Int).toNat (⟨(rd_T34 x3_1 (ji6)).f0, (rd_T34 x3_1 (ji6)).f1, ((rd_T34 x3_1 (ji6)).f2) ++ ((rd_T34 l0 x4_1).f2)⟩ : S34)) (wrap64 (x4_1 + 1))) else (none)) else (if x3_1.length < 4398046511104 then (smockingref01_joined.l0 k1 l0 (x3_1 ++ [(⟨(rd_T34 l0 x4_1).f0, (rd_T34 l0 x4_1).f1, (rd_T34 l0 x4_1).f2⟩ : S34)]) (wrap64 (x4_1 + 1))) else (none))) else (if x3_1.length < 4398046511104 then (smockingref01_joined.l0 k1 l0 (x3_1 ++ [(⟨(rd_T34 l0 x4_1).f0, (rd_T34 l0 x4_1).f1, (rd_T34 l0 x4_1).f2⟩ : S34)]) (wrap64 (x4_1 + 1))) else (none))) else (none)) else (none)) = some r := by first | (rw [hji6] at H; exact H) | (simp only [hji6] at H ⊢; exact H)
       (try rw [hji6] at c3b0)
       have hji6w : (IntKind.i64.wrap ((x3_1.length : Int) - 1)) = ji6 := (i64_w _).trans hji6
       by_cases c7 : 0 ≤ (ji6)
       ·rw [if_pos c7] at H
        have c7b0 : decide (0 ≤ (ji6)) = true := decide_eq_true c7
        clear c7
        by_cases c8 : (ji6) < (x3_1.length : Int)
        ·rw [if_pos c8] at H
         have c8b0 : decide ((ji6) < (x3_1.length : Int)) = true := decide_eq_true c8
         clear c8
         by_cases c9 : ((rd_T34 x3_1 (ji6)).f0) = ((rd_T34 l0 x4_1).f0)
         ·rw [if_pos c9] at H
          have c9b0 : (((rd_T34 x3_1 (ji6)).f0) == ((rd_T34 l0 x4_1).f0)) = true := beq_iff_eq.mpr c9
          have c9b1 : (((rd_T34 x3_1 (ji6)).f0) != ((rd_T34 l0 x4_1).f0)) = false := bne_eq_false_iff_eq.mpr c9
          clear c9
          by_cases c10 : ((rd_T34 x3_1 (ji6)).f1) = ((rd_T34 l0 x4_1).f0)
          ·rw [if_pos c10] at H
           have c10b0 : (((rd_T34 x3_1 (ji6)).f1) == ((rd_T34 l0 x4_1).f0)) = true := beq_iff_eq.mpr c10
           have c10b1 : (((rd_T34 x3_1 (ji6)).f1) != ((rd_T34 l0 x4_1).f0)) = false := bne_eq_false_iff_eq.mpr c10
           clear c10
           by_cases c11 : ((rd_T34 x3_1 (ji6)).f2).size + ((rd_T34 l0 x4_1).f2).size ≤ 9223372036854775807
           ·rw [if_pos c11] at H
            have c11b0 := eq_true c11
            have c11b1 : decide (((rd_T34 x3_1 (ji6)).f2).size + ((rd_T34 l0 x4_1).f2).size ≤ 9223372036854775807) = true := decide_eq_true c11
            try have c11b2 : (9223372036854775807 < ((rd_T34 x3_1 (ji6)).f2).size + ((rd_T34 l0 x4_1).f2).size) = False := eq_false (Nat.not_lt.2 c11)
            obtain ⟨y223, hy223⟩ : ∃ y_ : List (S34), y_ = (x3_1.set ((ji6) : Int).toNat (⟨(rd_T34 x3_1 (ji6)).f0, (rd_T34 x3_1 (ji6)).f1, ((rd_T34 x3_1 (ji6)).f2) ++ ((rd_T34 l0 x4_1).f2)⟩ : S34)) := ⟨_, rfl⟩
            replace H : (smockingref01_joined.l0 k1 l0 y223 (wrap64 (x4_1 + 1))) = some r := by first | (rw [hy223]; with_reducible exact H) | (have H2_ := (Option.bind_some _ _).symm.trans H; rw [hy223]; with_reducible exact H2_) | (have H2_ := (Option.bind_some _ _).symm.trans H; with_reducible exact H2_) | with_reducible exact H | (rw [hy223]; exact H) | exact H
            have Ny223 := Aside0.mk hy223
            clear hy223
            have H' := Aside0.mk H
            clear H
            obtain ⟨Ao13, co13, eo13⟩ := Kd.R_slice HO_3.out
            subst eo13
            try go_wp2
            have n0_ := Aside0.mk (Kd.R_drew HO_3.out)
            have n1_ := Aside0.mk (below_drew1 HB.out)
            clear HO_3
            clear HB
            have HO_3 := n0_
            have HB := n1_
            clear n0_ n1_
            have p215 : 0 ≤ (x4_1 : Int) := of_decide_eq_true (by first | (with_reducible assumption) | assumption)
            have q215 : x4_1 < (l0.length : Int) := of_decide_eq_true (by first | (with_reducible assumption) | assumption)
            obtain ⟨ad215, e215, hx215_0, hx215_1, hx215_2⟩ := at_T34 HR0.out x4_1 p215 q215
            have hw215_2 := hx215_2
            have hw215_1 := hx215_1
            have hw215_0 := hx215_0
            cases e215
            replace hx215_0 := (HB.out.cell (World.block_lt_of_cell? w _ hx215_0)).trans hx215_0
            replace hx215_1 := (HB.out.cell (World.block_lt_of_cell? w _ hx215_1)).trans hx215_1
            replace hx215_2 := (HB.out.cell (World.block_lt_of_cell? w _ hx215_2)).trans hx215_2
            replace p215 := eq_true p215
            replace q215 := eq_true q215
            have p216 : 0 ≤ (x4_1 : Int) := of_decide_eq_true (by first | (with_reducible assumption) | assumption)
            have q216 : x4_1 < (l0.length : Int) := of_decide_eq_true (by first | (with_reducible assumption) | assumption)
            obtain ⟨ad216, e216, hx216_0, hx216_1, hx216_2⟩ := at_T34 HR0.out x4_1 p216 q216
            have hw216_2 := hx216_2
            have hw216_1 := hx216_1
            have hw216_0 := hx216_0
            obtain rfl : ad215 = ad216 := (by injection e216)
            replace hx216_0 := (HB.out.cell (World.block_lt_of_cell? w _ hx216_0)).trans hx216_0
            replace hx216_1 := (HB.out.cell (World.block_lt_of_cell? w _ hx216_1)).trans hx216_1
            replace hx216_2 := (HB.out.cell (World.block_lt_of_cell? w _ hx216_2)).trans hx216_2
            replace p216 := eq_true p216
            replace q216 := eq_true q216
            have p217 : 0 ≤ ((ji6) : Int) := of_decide_eq_true (by first | (with_reducible assumption) | assumption)
            have q217 : (ji6) < (x3_1.length : Int) := of_decide_eq_true (by first | (with_reducible assumption) | assumption)
            obtain ⟨ad217, e217, hx217_0, hx217_1, hx217_2⟩ := at_T34 (Kd.R_reads' HO_3.out).2.2 (ji6) p217 q217
            cases e217
            replace p217 := eq_true p217
            replace q217 := eq_true q217
            have p218 : 0 ≤ (x4_1 : Int) := of_decide_eq_true (by first | (with_reducible assumption) | assumption)
            have q218 : x4_1 < (l0.length : Int) := of_decide_eq_true (by first | (with_reducible assumption) | assumption)
            obtain ⟨ad218, e218, hx218_0, hx218_1, hx218_2⟩ := at_T34 HR0.out x4_1 p218 q218
            have hw218_2 := hx218_2
            have hw218_1 := hx218_1
            have hw218_0 := hx218_0
            obtain rfl : ad215 = ad218 := (by injection e218)
            replace hx218_0 := (HB.out.cell (World.block_lt_of_cell? w _ hx218_0)).trans hx218_0
            replace hx218_1 := (HB.out.cell (World.block_lt_of_cell? w _ hx218_1)).trans hx218_1
            replace hx218_2 := (HB.out.cell (World.block_lt_of_cell? w _ hx218_2)).trans hx218_2
            replace p218 := eq_true p218
            replace q218 := eq_true q218
            have p219 : 0 ≤ ((ji6) : Int) := of_decide_eq_true (by first | (with_reducible assumption) | assumption)
            have q219 : (ji6) < (x3_1.length : Int) := of_decide_eq_true (by first | (with_reducible assumption) | assumption)
            obtain ⟨ad219, e219, hx219_0, hx219_1, hx219_2⟩ := at_T34 (Kd.R_reads' HO_3.out).2.2 (ji6) p219 q219
            obtain rfl : ad217 = ad219 := (by injection e219)
            replace p219 := eq_true p219
            replace q219 := eq_true q219
            have p220 : 0 ≤ (x4_1 : Int) := of_decide_eq_true (by first | (with_reducible assumption) | assumption)
            have q220 : x4_1 < (l0.length : Int) := of_decide_eq_true (by first | (with_reducible assumption) | assumption)
            obtain ⟨ad220, e220, hx220_0, hx220_1, hx220_2⟩ := at_T34 HR0.out x4_1 p220 q220
            have hw220_2 := hx220_2
            have hw220_1 := hx220_1
            have hw220_0 := hx220_0
            obtain rfl : ad215 = ad220 := (by injection e220)
            replace hx220_0 := (HB.out.cell (World.block_lt_of_cell? w _ hx220_0)).trans hx220_0
            replace hx220_1 := (HB.out.cell (World.block_lt_of_cell? w _ hx220_1)).trans hx220_1
            replace hx220_2 := (HB.out.cell (World.block_lt_of_cell? w _ hx220_2)).trans hx220_2
            replace p220 := eq_true p220
            replace q220 := eq_true q220
            refine start_ (n := 41) (S := fun w' => w'.cell? (ad215.add ((x4_1).toNat * 3)) = some (.int .i64 ((rd_T34 l0 x4_1).f0)) ∧ w'.cell? ⟨(ad215.add ((x4_1).toNat * 3)).block, (ad215.add ((x4_1).toNat * 3)).off + 1, none⟩ = some (.int .i64 ((rd_T34 l0 x4_1).f1)) ∧ w'.cell? ⟨(ad215.add ((x4_1).toNat * 3)).block, (ad215.add ((x4_1).toNat * 3)).off + 2, none⟩ = some (.string ((rd_T34 l0 x4_1).f2)) ∧ w'.cell? (ad215.add ((x4_1).toNat * 3)) = some (.int .i64 ((rd_T34 l0 x4_1).f0)) ∧ w'.cell? ⟨(ad215.add ((x4_1).toNat * 3)).block, (ad215.add ((x4_1).toNat * 3)).off + 1, none⟩ = some (.int .i64 ((rd_T34 l0 x4_1).f1)) ∧ w'.cell? ⟨(ad215.add ((x4_1).toNat * 3)).block, (ad215.add ((x4_1).toNat * 3)).off + 2, none⟩ = some (.string ((rd_T34 l0 x4_1).f2)) ∧ w'.cell? (ad217.add (((ji6)).toNat * 3)) = some (.int .i64 ((rd_T34 x3_1 (ji6)).f0)) ∧ w'.cell? ⟨(ad217.add (((ji6)).toNat * 3)).block, (ad217.add (((ji6)).toNat * 3)).off + 1, none⟩ = some (.int .i64 ((rd_T34 x3_1 (ji6)).f1)) ∧ w'.cell? ⟨(ad217.add (((ji6)).toNat * 3)).block, (ad217.add (((ji6)).toNat * 3)).off + 2, none⟩ = some (.string ((rd_T34 x3_1 (ji6)).f2)) ∧ w'.cell? (ad215.add ((x4_1).toNat * 3)) = some (.int .i64 ((rd_T34 l0 x4_1).f0)) ∧ w'.cell? ⟨(ad215.add ((x4_1).toNat * 3)).block, (ad215.add ((x4_1).toNat * 3)).off + 1, none⟩ = some (.int .i64 ((rd_T34 l0 x4_1).f1)) ∧ w'.cell? ⟨(ad215.add ((x4_1).toNat * 3)).block, (ad215.add ((x4_1).toNat * 3)).off + 2, none⟩ = some (.string ((rd_T34 l0 x4_1).f2)) ∧ w'.cell? (ad217.add (((ji6)).toNat * 3)) = some (.int .i64 ((rd_T34 x3_1 (ji6)).f0)) ∧ w'.cell? ⟨(ad217.add (((ji6)).toNat * 3)).block, (ad217.add (((ji6)).toNat * 3)).off + 1, none⟩ = some (.int .i64 ((rd_T34 x3_1 (ji6)).f1)) ∧ w'.cell? ⟨(ad217.add (((ji6)).toNat * 3)).block, (ad217.add (((ji6)).toNat * 3)).off + 2, none⟩ = some (.string ((rd_T34 x3_1 (ji6)).f2)) ∧ w'.cell? (ad215.add ((x4_1).toNat * 3)) = some (.int .i64 ((rd_T34 l0 x4_1).f0)) ∧ w'.cell? ⟨(ad215.add ((x4_1).toNat * 3)).block, (ad215.add ((x4_1).toNat * 3)).off + 1, none⟩ = some (.int .i64 ((rd_T34 l0 x4_1).f1)) ∧ w'.cell? ⟨(ad215.add ((x4_1).toNat * 3)).block, (ad215.add ((x4_1).toNat * 3)).off + 2, none⟩ = some (.string ((rd_T34 l0 x4_1).f2))) (ds := []) (bA 41 0) (by kernel_rfl) rfl rfl ⟨((HB.out.cell (World.block_lt_of_cell? w _ hw215_0)).trans hw215_0), ((HB.out.cell (World.block_lt_of_cell? w _ hw215_1)).trans hw215_1), ((HB.out.cell (World.block_lt_of_cell? w _ hw215_2)).trans hw215_2), ((HB.out.cell (World.block_lt_of_cell? w _ hw216_0)).trans hw216_0), ((HB.out.cell (World.block_lt_of_cell? w _ hw216_1)).trans hw216_1), ((HB.out.cell (World.block_lt_of_cell? w _ hw216_2)).trans hw216_2), hx217_0, hx217_1, hx217_2, ((HB.out.cell (World.block_lt_of_cell? w _ hw218_0)).trans hw218_0), ((HB.out.cell (World.block_lt_of_cell? w _ hw218_1)).trans hw218_1), ((HB.out.cell (World.block_lt_of_cell? w _ hw218_2)).trans hw218_2), hx219_0, hx219_1, hx219_2, ((HB.out.cell (World.block_lt_of_cell? w _ hw220_0)).trans hw220_0), ((HB.out.cell (World.block_lt_of_cell? w _ hw220_1)).trans hw220_1), ((HB.out.cell (World.block_lt_of_cell? w _ hw220_2)).trans hw220_2)⟩ (fun hHeld => ?_); refine with_tabW smockingref01_joined.tab6 smockingref01_joined.bits6 (fun HT_ HW_ => ?_)
            generalize wr.drew = w14 at HO_3 HB hx215_0 hx215_1 hx215_2 hx216_0 hx216_1 hx216_2 hx217_0 hx217_1 hx217_2 hx218_0 hx218_1 hx218_2 hx219_0 hx219_1 hx219_2 hx220_0 hx220_1 hx220_2 hHeld ⊢
            refine pure_ (i := 0) (N := some 15) (v := ?_) (a' := ?_) (bA 41 1) rfl rfl (any_of HT_.out (by kernel_rfl)) (fun _ _ _ h => h) (Or.inl ⟨by rfl, ?_⟩) ?_ ?_
            rotate_left; (· intro w'; go_simp; with_reducible rfl); rotate_left; (· simp only [Act.put, q1_, q2_, q3_, i64_w, i32_w]; rfl)
            refine pure_ (i := 1) (N := some 16) (v := ?_) (a' := ?_) (bA 41 3) rfl rfl (any_of HT_.out (by kernel_rfl)) (fun _ _ _ h => h) (Or.inl ⟨by rfl, ?_⟩) ?_ ?_
            rotate_left; (· intro w'; go_simp; with_reducible rfl); rotate_left; (· simp only [Act.put, q1_, q2_, q3_, i64_w, i32_w]; rfl)
            refine pure_ (i := 2) (N := some 17) (v := ?_) (a' := ?_) (bA 41 7) rfl rfl (any_of HT_.out (by kernel_rfl)) (fun _ _ _ h => h) (Or.inl ⟨by rfl, ?_⟩) ?_ ?_
            rotate_left; (· intro w'; go_simp; with_reducible rfl); rotate_left; (· simp only [Act.put, q1_, q2_, q3_, i64_w, i32_w]; rfl)
            refine pure_ (i := 3) (N := some 18) (v := ?_) (a' := ?_) (bA 41 15) rfl rfl (any_of HT_.out (by kernel_rfl)) (fun _ _ _ h => h) (Or.inl ⟨by rfl, ?_⟩) ?_ ?_
            rotate_left; (· intro w'; go_simp; with_reducible rfl); rotate_left; (· simp only [Act.put, q1_, q2_, q3_, i64_w, i32_w]; rfl)
            refine pure_ (i := 4) (N := some 19) (v := ?_) (a' := ?_) (bA 41 31) rfl rfl (any_of HT_.out (by kernel_rfl)) (fun _ _ _ h => h) (Or.inl ⟨by rfl, ?_⟩) ?_ ?_
            rotate_left; (· intro w'; go_simp; with_reducible rfl); rotate_left; (· simp only [Act.put, q1_, q2_, q3_, i64_w, i32_w]; rfl)
            refine pure_ (i := 5) (N := some 20) (v := ?_) (a' := ?_) (bA 41 63) rfl rfl (any_of HT_.out (by kernel_rfl)) (fun _ _ _ h => h) (Or.inl ⟨by rfl, ?_⟩) ?_ ?_
            rotate_left; (· intro w'; go_simp; with_reducible rfl); rotate_left; (· simp only [Act.put, q1_, q2_, q3_, i64_w, i32_w]; rfl)
            refine pure_ (i := 6) (N := some 21) (v := ?_) (a' := ?_) (bA 41 127) rfl rfl (any_of HT_.out (by kernel_rfl)) (fun _ _ _ h => h) (Or.inl ⟨by rfl, ?_⟩) ?_ ?_
            rotate_left; (· intro w'; go_simp; with_reducible rfl); rotate_left; (· simp only [Act.put, q1_, q2_, q3_, i64_w, i32_w]; rfl)
            refine pure_ (i := 8) (N := some 23) (v := ?_) (a' := ?_) (bA 41 383) rfl rfl (any_of HT_.out (by kernel_rfl)) (fun _ _ _ h => h) (Or.inl ⟨by rfl, ?_⟩) ?_ ?_
            rotate_left; (· intro w'; go_simp; with_reducible rfl); rotate_left; (· simp only [Act.put, q1_, q2_, q3_, i64_w, i32_w]; rfl)
            refine pure_ (i := 9) (N := some 24) (v := ?_) (a' := ?_) (bA 41 895) rfl rfl (any_of HT_.out (by kernel_rfl)) (fun _ _ _ h => h) (Or.inl ⟨by rfl, ?_⟩) ?_ ?_
            rotate_left; (· intro w'; go_simp; with_reducible rfl); rotate_left; (· simp only [Act.put, q1_, q2_, q3_, i64_w, i32_w]; rfl)
            refine pure_ (i := 10) (N := some 25) (v := ?_) (a' := ?_) (bA 41 1919) rfl rfl (any_of HT_.out (by kernel_rfl)) (fun _ _ _ h => h) (Or.inl ⟨by rfl, ?_⟩) ?_ ?_
            rotate_left; (· intro w'; go_simp; with_reducible rfl); rotate_left; (· simp only [Act.put, q1_, q2_, q3_, i64_w, i32_w]; rfl)
            refine pure_ (i := 11) (N := some 26) (v := ?_) (a' := ?_) (bA 41 3967) rfl rfl (any_of HT_.out (by kernel_rfl)) (fun _ _ _ h => h) (Or.inl ⟨by rfl, ?_⟩) ?_ ?_
            rotate_left; (· intro w'; go_simp; with_reducible rfl); rotate_left; (· simp only [Act.put, q1_, q2_, q3_, i64_w, i32_w]; rfl)
            refine take_ (i := 7) (N := some 22) (v := ?_) (a' := ?_) (bA 41 4095) rfl rfl (take_ofW HT_.out HW_.out (by kernel_rfl)) (fun _ _ _ h => h) (Or.inl ⟨by rfl, ?_⟩) hHeld ?_ ?_
            rotate_left; (· rintro w' ⟨s0, s1, s2, s3, s4, s5, s6, s7, s8, s9, s10, s11, s12, s13, s14, s15, s16, s17⟩; go_simp; with_reducible rfl); rotate_left; (· simp only [Act.put, q1_, q2_, q3_, i64_w, i32_w]; rfl)
            refine take_ (i := 12) (N := some 27) (v := ?_) (a' := ?_) (bA 41 8191) rfl rfl (take_ofW HT_.out HW_.out (by kernel_rfl)) (fun _ _ _ h => h) (Or.inl ⟨by rfl, ?_⟩) hHeld ?_ ?_
            rotate_left; (· rintro w' ⟨s0, s1, s2, s3, s4, s5, s6, s7, s8, s9, s10, s11, s12, s13, s14, s15, s16, s17⟩; go_simp; with_reducible rfl); rotate_left; (· simp only [Act.put, q1_, q2_, q3_, i64_w, i32_w]; rfl)
            refine pure_ (i := 13) (N := some 28) (v := ?_) (a' := ?_) (bA 41 16383) rfl rfl (any_of HT_.out (by kernel_rfl)) (fun _ _ _ h => h) (Or.inl ⟨by rfl, ?_⟩) ?_ ?_
            rotate_left; (· intro w'; go_simp; with_reducible rfl); rotate_left; (· simp only [Act.put, q1_, q2_, q3_, i64_w, i32_w]; rfl)
            refine pure_ (i := 14) (N := some 29) (v := ?_) (a' := ?_) (bA 41 32767) rfl rfl (any_of HT_.out (by kernel_rfl)) (fun _ _ _ h => h) (Or.inl ⟨by rfl, ?_⟩) ?_ ?_
            rotate_left; (· intro w'; go_simp; with_reducible rfl); rotate_left; (· simp only [Act.put, q1_, q2_, q3_, i64_w, i32_w]; rfl)
            refine pure_ (i := 15) (N := some 30) (v := ?_) (a' := ?_) (bA 41 65535) rfl rfl (any_of HT_.out (by kernel_rfl)) (fun _ _ _ h => h) (Or.inl ⟨by rfl, ?_⟩) ?_ ?_
            rotate_left; (· intro w'; go_simp; with_reducible rfl); rotate_left; (· simp only [Act.put, q1_, q2_, q3_, i64_w, i32_w]; rfl)
            refine pure_ (i := 16) (N := some 31) (v := ?_) (a' := ?_) (bA 41 131071) rfl rfl (any_of HT_.out (by kernel_rfl)) (fun _ _ _ h => h) (Or.inl ⟨by rfl, ?_⟩) ?_ ?_
            rotate_left; (· intro w'; go_simp; with_reducible rfl); rotate_left; (· simp only [Act.put, q1_, q2_, q3_, i64_w, i32_w]; rfl)
            refine pure_ (i := 17) (N := some 32) (v := ?_) (a' := ?_) (bA 41 262143) rfl rfl (any_of HT_.out (by kernel_rfl)) (fun _ _ _ h => h) (Or.inl ⟨by rfl, ?_⟩) ?_ ?_
            rotate_left; (· intro w'; go_simp; with_reducible rfl); rotate_left; (· simp only [Act.put, q1_, q2_, q3_, i64_w, i32_w]; rfl)
            refine pure_ (i := 18) (N := some 33) (v := ?_) (a' := ?_) (bA 41 524287) rfl rfl (any_of HT_.out (by kernel_rfl)) (fun _ _ _ h => h) (Or.inl ⟨by rfl, ?_⟩) ?_ ?_
            rotate_left; (· intro w'; go_simp; with_reducible rfl); rotate_left; (· simp only [Act.put, q1_, q2_, q3_, i64_w, i32_w]; rfl)
            refine pure_ (i := 19) (N := some 34) (v := ?_) (a' := ?_) (bA 41 1048575) rfl rfl (any_of HT_.out (by kernel_rfl)) (fun _ _ _ h => h) (Or.inl ⟨by rfl, ?_⟩) ?_ ?_
            rotate_left; (· intro w'; go_simp; with_reducible rfl); rotate_left; (· simp only [Act.put, q1_, q2_, q3_, i64_w, i32_w]; rfl)
            refine pure_ (i := 21) (N := some 36) (v := ?_) (a' := ?_) (bA 41 3145727) rfl rfl (any_of HT_.out (by kernel_rfl)) (fun _ _ _ h => h) (Or.inl ⟨by rfl, ?_⟩) ?_ ?_
            rotate_left; (· intro w'; go_simp; with_reducible rfl); rotate_left; (· simp only [Act.put, q1_, q2_, q3_, i64_w, i32_w]; rfl)
            refine pure_ (i := 22) (N := some 37) (v := ?_) (a' := ?_) (bA 41 7340031) rfl rfl (any_of HT_.out (by kernel_rfl)) (fun _ _ _ h => h) (Or.inl ⟨by rfl, ?_⟩) ?_ ?_
            rotate_left; (· intro w'; go_simp; with_reducible rfl); rotate_left; (· simp only [Act.put, q1_, q2_, q3_, i64_w, i32_w]; rfl)
            refine pure_ (i := 23) (N := some 38) (v := ?_) (a' := ?_) (bA 41 15728639) rfl rfl (any_of HT_.out (by kernel_rfl)) (fun _ _ _ h => h) (Or.inl ⟨by rfl, ?_⟩) ?_ ?_
            rotate_left; (· intro w'; go_simp; with_reducible rfl); rotate_left; (· simp only [Act.put, q1_, q2_, q3_, i64_w, i32_w]; rfl)
            refine pure_ (i := 24) (N := some 39) (v := ?_) (a' := ?_) (bA 41 32505855) rfl rfl (any_of HT_.out (by kernel_rfl)) (fun _ _ _ h => h) (Or.inl ⟨by rfl, ?_⟩) ?_ ?_
            rotate_left; (· intro w'; go_simp; with_reducible rfl); rotate_left; (· simp only [Act.put, q1_, q2_, q3_, i64_w, i32_w]; rfl)
            refine take_ (i := 20) (N := some 35) (v := ?_) (a' := ?_) (bA 41 33554431) rfl rfl (take_ofW HT_.out HW_.out (by kernel_rfl)) (fun _ _ _ h => h) (Or.inl ⟨by rfl, ?_⟩) hHeld ?_ ?_
            rotate_left; (· rintro w' ⟨s0, s1, s2, s3, s4, s5, s6, s7, s8, s9, s10, s11, s12, s13, s14, s15, s16, s17⟩; go_simp; with_reducible rfl); rotate_left; (· simp only [Act.put, q1_, q2_, q3_, i64_w, i32_w]; rfl)
            refine take_ (i := 25) (N := some 40) (v := ?_) (a' := ?_) (bA 41 67108863) rfl rfl (take_ofW HT_.out HW_.out (by kernel_rfl)) (fun _ _ _ h => h) (Or.inl ⟨by rfl, ?_⟩) hHeld ?_ ?_
            rotate_left; (· rintro w' ⟨s0, s1, s2, s3, s4, s5, s6, s7, s8, s9, s10, s11, s12, s13, s14, s15, s16, s17⟩; go_simp; with_reducible rfl); rotate_left; (· simp only [Act.put, q1_, q2_, q3_, i64_w, i32_w]; rfl)
            refine pure_ (i := 26) (N := some 41) (v := ?_) (a' := ?_) (bA 41 134217727) rfl rfl (any_of HT_.out (by kernel_rfl)) (fun _ _ _ h => h) (Or.inl ⟨by rfl, ?_⟩) ?_ ?_
            rotate_left; (· intro w'; go_simp; with_reducible rfl); rotate_left; (· simp only [Act.put, q1_, q2_, q3_, i64_w, i32_w]; rfl)
            refine pure_ (i := 27) (N := some 42) (v := ?_) (a' := ?_) (bA 41 268435455) rfl rfl (any_of HT_.out (by kernel_rfl)) (fun _ _ _ h => h) (Or.inl ⟨by rfl, ?_⟩) ?_ ?_
            rotate_left; (· intro w'; go_simp; with_reducible rfl); rotate_left; (· simp only [Act.put, q1_, q2_, q3_, i64_w, i32_w]; rfl)
            refine pure_ (i := 28) (N := some 43) (v := ?_) (a' := ?_) (bA 41 536870911) rfl rfl (any_of HT_.out (by kernel_rfl)) (fun _ _ _ h => h) (Or.inl ⟨by rfl, ?_⟩) ?_ ?_
            rotate_left; (· intro w'; go_simp; with_reducible rfl); rotate_left; (· simp only [Act.put, q1_, q2_, q3_, i64_w, i32_w]; rfl)
            refine pure_ (i := 29) (N := some 44) (v := ?_) (a' := ?_) (bA 41 1073741823) rfl rfl (any_of HT_.out (by kernel_rfl)) (fun _ _ _ h => h) (Or.inl ⟨by rfl, ?_⟩) ?_ ?_
            rotate_left; (· intro w'; go_simp; with_reducible rfl); rotate_left; (· simp only [Act.put, q1_, q2_, q3_, i64_w, i32_w]; rfl)
            refine pure_ (i := 30) (N := some 45) (v := ?_) (a' := ?_) (bA 41 2147483647) rfl rfl (any_of HT_.out (by kernel_rfl)) (fun _ _ _ h => h) (Or.inl ⟨by rfl, ?_⟩) ?_ ?_
            rotate_left; (· intro w'; go_simp; with_reducible rfl); rotate_left; (· simp only [Act.put, q1_, q2_, q3_, i64_w, i32_w]; rfl)
            refine pure_ (i := 31) (N := some 46) (v := ?_) (a' := ?_) (bA 41 4294967295) rfl rfl (any_of HT_.out (by kernel_rfl)) (fun _ _ _ h => h) (Or.inl ⟨by rfl, ?_⟩) ?_ ?_
            rotate_left; (· intro w'; go_simp; with_reducible rfl); rotate_left; (· simp only [Act.put, q1_, q2_, q3_, i64_w, i32_w]; rfl)
            refine pure_ (i := 32) (N := some 47) (v := ?_) (a' := ?_) (bA 41 8589934591) rfl rfl (any_of HT_.out (by kernel_rfl)) (fun _ _ _ h => h) (Or.inl ⟨by rfl, ?_⟩) ?_ ?_
            rotate_left; (· intro w'; go_simp; with_reducible rfl); rotate_left; (· simp only [Act.put, q1_, q2_, q3_, i64_w, i32_w]; rfl)
            refine pure_ (i := 34) (N := some 49) (v := ?_) (a' := ?_) (bA 41 25769803775) rfl rfl (any_of HT_.out (by kernel_rfl)) (fun _ _ _ h => h) (Or.inl ⟨by rfl, ?_⟩) ?_ ?_
            rotate_left; (· intro w'; go_simp; with_reducible rfl); rotate_left; (· simp only [Act.put, q1_, q2_, q3_, i64_w, i32_w]; rfl)
            refine pure_ (i := 35) (N := some 50) (v := ?_) (a' := ?_) (bA 41 60129542143) rfl rfl (any_of HT_.out (by kernel_rfl)) (fun _ _ _ h => h) (Or.inl ⟨by rfl, ?_⟩) ?_ ?_
            rotate_left; (· intro w'; go_simp; with_reducible rfl); rotate_left; (· simp only [Act.put, q1_, q2_, q3_, i64_w, i32_w]; rfl)
            refine pure_ (i := 36) (N := some 51) (v := ?_) (a' := ?_) (bA 41 128849018879) rfl rfl (any_of HT_.out (by kernel_rfl)) (fun _ _ _ h => h) (Or.inl ⟨by rfl, ?_⟩) ?_ ?_
            rotate_left; (· intro w'; go_simp; with_reducible rfl); rotate_left; (· simp only [Act.put, q1_, q2_, q3_, i64_w, i32_w]; rfl)
            refine pure_ (i := 37) (N := some 52) (v := ?_) (a' := ?_) (bA 41 266287972351) rfl rfl (any_of HT_.out (by kernel_rfl)) (fun _ _ _ h => h) (Or.inl ⟨by rfl, ?_⟩) ?_ ?_
            rotate_left; (· intro w'; go_simp; with_reducible rfl); rotate_left; (· simp only [Act.put, q1_, q2_, q3_, i64_w, i32_w]; rfl)
            refine take_ (i := 33) (N := some 48) (v := ?_) (a' := ?_) (bA 41 274877906943) rfl rfl (take_ofW HT_.out HW_.out (by kernel_rfl)) (fun _ _ _ h => h) (Or.inl ⟨by rfl, ?_⟩) hHeld ?_ ?_
            rotate_left; (· rintro w' ⟨s0, s1, s2, s3, s4, s5, s6, s7, s8, s9, s10, s11, s12, s13, s14, s15, s16, s17⟩; go_simp; with_reducible rfl); rotate_left; (· simp only [Act.put, q1_, q2_, q3_, i64_w, i32_w]; rfl)
            refine take_ (i := 38) (N := some 53) (v := ?_) (a' := ?_) (bA 41 549755813887) rfl rfl (take_ofW HT_.out HW_.out (by kernel_rfl)) (fun _ _ _ h => h) (Or.inl ⟨by rfl, ?_⟩) hHeld ?_ ?_
            rotate_left; (· rintro w' ⟨s0, s1, s2, s3, s4, s5, s6, s7, s8, s9, s10, s11, s12, s13, s14, s15, s16, s17⟩; go_simp; with_reducible rfl); rotate_left; (· simp only [Act.put, q1_, q2_, q3_, i64_w, i32_w]; rfl)
            refine pure_ (i := 39) (N := some 54) (v := ?_) (a' := ?_) (bA 41 1099511627775) rfl rfl (any_of HT_.out (by kernel_rfl)) (fun _ _ _ h => h) (Or.inl ⟨by rfl, ?_⟩) ?_ ?_
            rotate_left; (· intro w'; go_simp; with_reducible rfl); rotate_left; (· simp only [Act.put, q1_, q2_, q3_, i64_w, i32_w]; rfl)
            refine pure_ (i := 40) (N := some 55) (v := ?_) (a' := ?_) (bA 41 2199023255551) rfl rfl (any_of HT_.out (by kernel_rfl)) (fun _ _ _ h => h) (Or.inl ⟨by rfl, ?_⟩) ?_ ?_
            rotate_left; (· intro w'; go_simp; with_reducible rfl); rotate_left; (· simp only [Act.put, q1_, q2_, q3_, i64_w, i32_w]; rfl)
            refine done_ (done_of HT_.out (by kernel_rfl)) ?_
            try go_wp2
            have n0_ := Aside0.mk (Kd.R_drew HO_3.out)
            have n1_ := Aside0.mk (below_drew1 HB.out)
            clear HO_3
            clear HB
            have HO_3 := n0_
            have HB := n1_
            clear n0_ n1_
            have p221 : 0 ≤ ((ji6) : Int) := of_decide_eq_true (by first | (with_reducible assumption) | assumption)
            have q221 : (ji6) < (x3_1.length : Int) := of_decide_eq_true (by first | (with_reducible assumption) | assumption)
            obtain ⟨ad221, e221, hx221_0, hx221_1, hx221_2⟩ := at_T34 (Kd.R_reads' HO_3.out).2.2 (ji6) p221 q221
            obtain rfl : ad217 = ad221 := (by injection e221)
            replace p221 := eq_true p221
            replace q221 := eq_true q221
            have p222 : 0 ≤ (x4_1 : Int) := of_decide_eq_true (by first | (with_reducible assumption) | assumption)
            have q222 : x4_1 < (l0.length : Int) := of_decide_eq_true (by first | (with_reducible assumption) | assumption)
            obtain ⟨ad222, e222, hx222_0, hx222_1, hx222_2⟩ := at_T34 HR0.out x4_1 p222 q222
            have hw222_2 := hx222_2
            have hw222_1 := hx222_1
            have hw222_0 := hx222_0
            obtain rfl : ad215 = ad222 := (by injection e222)
            replace hx222_0 := (HB.out.cell (World.block_lt_of_cell? w _ hx222_0)).trans hx222_0
            replace hx222_1 := (HB.out.cell (World.block_lt_of_cell? w _ hx222_1)).trans hx222_1
            replace hx222_2 := (HB.out.cell (World.block_lt_of_cell? w _ hx222_2)).trans hx222_2
            replace p222 := eq_true p222
            replace q222 := eq_true q222
            have p12 : 0 ≤ ((ji6) : Int) := of_decide_eq_true (by first | (with_reducible assumption) | assumption)
            have q12 : ((ji6) : Int) < ((x3_1.length : Int) : Int) := of_decide_eq_true (by first | (with_reducible assumption) | assumption)
            obtain ⟨go12, co12, eo12, gb12, gl12, cl12, HG12⟩ := Kd.R_form HO_3.out (by omega)
            (first | cases eo12 | (injection eo12 with ea_ en_ ec_; (first | subst ea_ | (injection ea_ with ea_; subst ea_)); subst ec_; clear en_))
            have GB12 := Aside0.mk gb12
            have GG12 := Aside0.mk HG12
            clear gb12 gl12 HG12
            (first | simp only [add_plain] at hx217_0 | skip)
            (first | simp only [add_plain] at hx217_1 | skip)
            (first | simp only [add_plain] at hx217_2 | skip)
            (first | simp only [add_plain] at hx219_0 | skip)
            (first | simp only [add_plain] at hx219_1 | skip)
            (first | simp only [add_plain] at hx219_2 | skip)
            (first | simp only [add_plain] at hx221_0 | skip)
            (first | simp only [add_plain] at hx221_1 | skip)
            (first | simp only [add_plain] at hx221_2 | skip)
            obtain ⟨ce12, hcl12, hM12, hcc12, hfr12⟩ := Kd.R_elem HO_3.out z34 ((ji6) : Int) p12 q12
            obtain rfl := k34_openM hM12
            have hx12_0 : World.cell? _ ⟨go12, ((ji6) : Int).toNat * 3, none⟩ = some (.int .i64 ((rd_T34 x3_1 (ji6)).f0)) := hcc12 0 _ rfl
            have hx12_1 : World.cell? _ ⟨go12, ((ji6) : Int).toNat * 3 + 1, none⟩ = some (.int .i64 ((rd_T34 x3_1 (ji6)).f1)) := hcc12 1 _ rfl
            have hx12_2 : World.cell? _ ⟨go12, ((ji6) : Int).toNat * 3 + 2, none⟩ = some (.string ((rd_T34 x3_1 (ji6)).f2)) := hcc12 2 _ rfl
            have hf12_0 : World.frozen? _ ⟨go12, ((ji6) : Int).toNat * 3, none⟩ = false := hfr12 0
            have hf12_1 : World.frozen? _ ⟨go12, ((ji6) : Int).toNat * 3 + 1, none⟩ = false := hfr12 1
            have hf12_2 : World.frozen? _ ⟨go12, ((ji6) : Int).toNat * 3 + 2, none⟩ = false := hfr12 2
            clear hcl12 hcc12 hfr12 hM12
            replace p12 := eq_true p12
            replace q12 := eq_true q12
            obtain ⟨ce16, hcl16, hM16, hcc16, hfr16⟩ := Kd.R_elem HO_3.out z34 ((ji6) : Int) (of_decide_eq_true (by first | (with_reducible assumption) | assumption)) (by have h_ : ((ji6) : Int) < ((x3_1.length : Int) : Int) := of_decide_eq_true (by first | (with_reducible assumption) | assumption); first | exact h_ | (have e_ := (Kd.R_reads' HO_3.out).1; omega) | simpa using h_)
            obtain rfl := k34_openM hM16
            have HP16 := (Kd.R_seg HO_3.out ((ji6) : Int) (of_decide_eq_true (by first | (with_reducible assumption) | assumption)) (by have h_ : ((ji6) : Int) < ((x3_1.length : Int) : Int) := of_decide_eq_true (by first | (with_reducible assumption) | assumption); first | exact h_ | (have e_ := (Kd.R_reads' HO_3.out).1; omega) | simpa using h_) (seg := [.string (((rd_T34 x3_1 (ji6)).f2) ++ ((rd_T34 l0 x4_1).f2))]) (j := 2) hcl16 hcc16 (show 3 ≤ 3 from by decide) (x' := (⟨(rd_T34 x3_1 (ji6)).f0, (rd_T34 x3_1 (ji6)).f1, ((rd_T34 x3_1 (ji6)).f2) ++ ((rd_T34 l0 x4_1).f2)⟩ : S34)) (k34_mkM _ _ _ (⟨(rd_T34 x3_1 (ji6)).f0, (rd_T34 x3_1 (ji6)).f1, ((rd_T34 x3_1 (ji6)).f2) ++ ((rd_T34 l0 x4_1).f2)⟩ : S34) ) (fun _ hk => hk)).1
            rw [← Ny223.out] at HP16
            have HQ16 := Aside0.mk HP16
            clear hcl16 hcc16 hfr16 hM16 HP16
            refine start_ (n := 16) (S := fun w' => w'.cell? (⟨go12, (((ji6)).toNat * 3), none⟩ : Addr) = some (.int .i64 ((rd_T34 x3_1 (ji6)).f0)) ∧ w'.cell? ⟨(⟨go12, (((ji6)).toNat * 3), none⟩ : Addr).block, (⟨go12, (((ji6)).toNat * 3), none⟩ : Addr).off + 1, none⟩ = some (.int .i64 ((rd_T34 x3_1 (ji6)).f1)) ∧ w'.cell? ⟨(⟨go12, (((ji6)).toNat * 3), none⟩ : Addr).block, (⟨go12, (((ji6)).toNat * 3), none⟩ : Addr).off + 2, none⟩ = some (.string ((rd_T34 x3_1 (ji6)).f2)) ∧ w'.cell? (ad215.add ((x4_1).toNat * 3)) = some (.int .i64 ((rd_T34 l0 x4_1).f0)) ∧ w'.cell? ⟨(ad215.add ((x4_1).toNat * 3)).block, (ad215.add ((x4_1).toNat * 3)).off + 1, none⟩ = some (.int .i64 ((rd_T34 l0 x4_1).f1)) ∧ w'.cell? ⟨(ad215.add ((x4_1).toNat * 3)).block, (ad215.add ((x4_1).toNat * 3)).off + 2, none⟩ = some (.string ((rd_T34 l0 x4_1).f2))) (ds := [15]) (bA 16 0) (by kernel_rfl) rfl rfl ⟨hx221_0, hx221_1, hx221_2, ((HB.out.cell (World.block_lt_of_cell? w _ hw222_0)).trans hw222_0), ((HB.out.cell (World.block_lt_of_cell? w _ hw222_1)).trans hw222_1), ((HB.out.cell (World.block_lt_of_cell? w _ hw222_2)).trans hw222_2)⟩ (fun hHeld => ?_); refine with_tabW smockingref01_joined.tab7 smockingref01_joined.bits7 (fun HT_ HW_ => ?_)
            generalize w14.drew = w15 at HO_3 HB GG12 HQ16 hf12_0 hf12_1 hf12_2 hx12_0 hx12_1 hx12_2 hx217_0 hx217_1 hx217_2 hx219_0 hx219_1 hx219_2 hx221_0 hx221_1 hx221_2 hx222_0 hx222_1 hx222_2 hHeld ⊢
            refine pure_ (i := 0) (N := some 56) (v := ?_) (a' := ?_) (bA 16 1) rfl rfl (any_of HT_.out (by kernel_rfl)) (fun _ _ _ h => h) (Or.inl ⟨by rfl, ?_⟩) ?_ ?_
            rotate_left; (· intro w'; go_simp; with_reducible rfl); rotate_left; (· simp only [Act.put, q1_, q2_, q3_, i64_w, i32_w]; rfl)
            refine pure_ (i := 1) (N := some 57) (v := ?_) (a' := ?_) (bA 16 3) rfl rfl (any_of HT_.out (by kernel_rfl)) (fun _ _ _ h => h) (Or.inl ⟨by rfl, ?_⟩) ?_ ?_
            rotate_left; (· intro w'; go_simp; with_reducible rfl); rotate_left; (· simp only [Act.put, q1_, q2_, q3_, i64_w, i32_w]; rfl)
            refine pure_ (i := 2) (N := some 58) (v := ?_) (a' := ?_) (bA 16 7) rfl rfl (any_of HT_.out (by kernel_rfl)) (fun _ _ _ h => h) (Or.inl ⟨by rfl, ?_⟩) ?_ ?_
            rotate_left; (· intro w'; go_simp; with_reducible rfl); rotate_left; (· simp only [Act.put, q1_, q2_, q3_, i64_w, i32_w]; rfl)
            refine pure_ (i := 3) (N := some 59) (v := ?_) (a' := ?_) (bA 16 15) rfl rfl (any_of HT_.out (by kernel_rfl)) (fun _ _ _ h => h) (Or.inl ⟨by rfl, ?_⟩) ?_ ?_
            rotate_left; (· intro w'; go_simp; with_reducible rfl); rotate_left; (· simp only [Act.put, q1_, q2_, q3_, i64_w, i32_w]; rfl)
            refine pure_ (i := 4) (N := some 60) (v := ?_) (a' := ?_) (bA 16 31) rfl rfl (any_of HT_.out (by kernel_rfl)) (fun _ _ _ h => h) (Or.inl ⟨by rfl, ?_⟩) ?_ ?_
            rotate_left; (· intro w'; go_simp; with_reducible rfl); rotate_left; (· simp only [Act.put, q1_, q2_, q3_, i64_w, i32_w]; rfl)
            refine pure_ (i := 5) (N := some 61) (v := ?_) (a' := ?_) (bA 16 63) rfl rfl (any_of HT_.out (by kernel_rfl)) (fun _ _ _ h => h) (Or.inl ⟨by rfl, ?_⟩) ?_ ?_
            rotate_left; (· intro w'; go_simp; with_reducible rfl); rotate_left; (· simp only [Act.put, q1_, q2_, q3_, i64_w, i32_w]; rfl)
            refine pure_ (i := 7) (N := some 63) (v := ?_) (a' := ?_) (bA 16 191) rfl rfl (any_of HT_.out (by kernel_rfl)) (fun _ _ _ h => h) (Or.inl ⟨by rfl, ?_⟩) ?_ ?_
            rotate_left; (· intro w'; go_simp; with_reducible rfl); rotate_left; (· simp only [Act.put, q1_, q2_, q3_, i64_w, i32_w]; rfl)
            refine pure_ (i := 8) (N := some 64) (v := ?_) (a' := ?_) (bA 16 447) rfl rfl (any_of HT_.out (by kernel_rfl)) (fun _ _ _ h => h) (Or.inl ⟨by rfl, ?_⟩) ?_ ?_
            rotate_left; (· intro w'; go_simp; with_reducible rfl); rotate_left; (· simp only [Act.put, q1_, q2_, q3_, i64_w, i32_w]; rfl)
            refine pure_ (i := 9) (N := some 65) (v := ?_) (a' := ?_) (bA 16 959) rfl rfl (any_of HT_.out (by kernel_rfl)) (fun _ _ _ h => h) (Or.inl ⟨by rfl, ?_⟩) ?_ ?_
            rotate_left; (· intro w'; go_simp; with_reducible rfl); rotate_left; (· simp only [Act.put, q1_, q2_, q3_, i64_w, i32_w]; rfl)
            refine pure_ (i := 10) (N := some 66) (v := ?_) (a' := ?_) (bA 16 1983) rfl rfl (any_of HT_.out (by kernel_rfl)) (fun _ _ _ h => h) (Or.inl ⟨by rfl, ?_⟩) ?_ ?_
            rotate_left; (· intro w'; go_simp; with_reducible rfl); rotate_left; (· simp only [Act.put, q1_, q2_, q3_, i64_w, i32_w]; rfl)
            refine take_ (i := 6) (N := some 62) (v := ?_) (a' := ?_) (bA 16 2047) rfl rfl (take_ofW HT_.out HW_.out (by kernel_rfl)) (fun _ _ _ h => h) (Or.inl ⟨by rfl, ?_⟩) hHeld ?_ ?_
            rotate_left; (· rintro w' ⟨s0, s1, s2, s3, s4, s5⟩; go_simp; with_reducible rfl); rotate_left; (· simp only [Act.put, q1_, q2_, q3_, i64_w, i32_w]; rfl)
            refine take_ (i := 11) (N := some 67) (v := ?_) (a' := ?_) (bA 16 4095) rfl rfl (take_ofW HT_.out HW_.out (by kernel_rfl)) (fun _ _ _ h => h) (Or.inl ⟨by rfl, ?_⟩) hHeld ?_ ?_
            rotate_left; (· rintro w' ⟨s0, s1, s2, s3, s4, s5⟩; go_simp; with_reducible rfl); rotate_left; (· simp only [Act.put, q1_, q2_, q3_, i64_w, i32_w]; rfl)
            refine pure_ (i := 12) (N := some 68) (v := ?_) (a' := ?_) (bA 16 8191) rfl rfl (any_of HT_.out (by kernel_rfl)) (fun _ _ _ h => h) (Or.inl ⟨by rfl, ?_⟩) ?_ ?_
            rotate_left; (· intro w'; go_simp; with_reducible rfl); rotate_left; (· simp only [Act.put, q1_, q2_, q3_, i64_w, i32_w]; rfl)
            refine pure_ (i := 13) (N := some 69) (v := ?_) (a' := ?_) (bA 16 16383) rfl rfl (any_of HT_.out (by kernel_rfl)) (fun _ _ _ h => h) (Or.inl ⟨by rfl, ?_⟩) ?_ ?_
            rotate_left; (· intro w'; go_simp; with_reducible rfl); rotate_left; (· simp only [Act.put, q1_, q2_, q3_, i64_w, i32_w]; rfl)
            refine pure_ (i := 14) (N := some 70) (v := ?_) (a' := ?_) (bA 16 32767) rfl rfl (any_of HT_.out (by kernel_rfl)) (fun _ _ _ h => h) (Or.inl ⟨by rfl, ?_⟩) ?_ ?_
            rotate_left; (· intro w'; go_simp; with_reducible rfl); rotate_left; (· simp only [Act.put, q1_, q2_, q3_, i64_w, i32_w]; rfl)
            refine last_ (i := 15) (N := none) (bA 16 65535) rfl rfl (one_of HT_.out (by kernel_rfl)) (by decide) (fun K hK => ?_)
            refine skip_ (w1 := ?_) (by rfl) rfl ?_ ?_
            rotate_left
            ·go_simp
             rfl
            refine hK.out _ _ ?_
            clear hK K
            refine done_ (done_of HT_.out (by kernel_rfl)) ?_
            try go_wp2
            go_roundg k1
            case measure => have := HK1.out; omega
            case rel => exact ⟨(y223), (wrap64 (x4_1 + 1)), (by first | rfl | (simp; done) | (simp [*]; done)), H', ⟨by have := HK1.out; omega⟩, ⟨by (with_reducible repeat (first | apply Kd.R_alloc | apply Kd.R_drewN | apply Kd.R_drew)); exact HQ16.out⟩, ⟨by repeat (first | (with_reducible first | exact HB.out | apply below_alloc | apply pw_below_drewN | apply below_drew1 | refine below_set ?_ GB12.out) | exact HB.out)⟩⟩
           ·rw [if_neg c11] at H
            exact absurd H (by simp)
          ·rw [if_neg c10] at H
           have c10b0 : (((rd_T34 x3_1 (ji6)).f1) == ((rd_T34 l0 x4_1).f0)) = false := beq_eq_false_iff_ne.mpr c10
           have c10b1 : (((rd_T34 x3_1 (ji6)).f1) != ((rd_T34 l0 x4_1).f0)) = true := bne_iff_ne.mpr c10
           by_cases c17 : x3_1.length < 4398046511104
           ·rw [if_pos c17] at H
            have LMc17 := Aside0.mk c17
            clear c17
            obtain ⟨y225, hy225⟩ : ∃ y_ : List (S34), y_ = (x3_1 ++ [(⟨(rd_T34 l0 x4_1).f0, (rd_T34 l0 x4_1).f1, (rd_T34 l0 x4_1).f2⟩ : S34)]) := ⟨_, rfl⟩
            replace H : (smockingref01_joined.l0 k1 l0 y225 (wrap64 (x4_1 + 1))) = some r := by first | (rw [hy225]; with_reducible exact H) | (have H2_ := (Option.bind_some _ _).symm.trans H; rw [hy225]; with_reducible exact H2_) | (have H2_ := (Option.bind_some _ _).symm.trans H; with_reducible exact H2_) | with_reducible exact H | (rw [hy225]; exact H) | exact H
            have Ny225 := Aside0.mk hy225
            clear hy225
            have H' := Aside0.mk H
            clear H
            obtain ⟨Ao18, co18, eo18⟩ := Kd.R_slice HO_3.out
            subst eo18
            try go_wp2
            have n0_ := Aside0.mk (Kd.R_drew HO_3.out)
            have n1_ := Aside0.mk (below_drew1 HB.out)
            clear HO_3
            clear HB
            have HO_3 := n0_
            have HB := n1_
            clear n0_ n1_
            have p215 : 0 ≤ (x4_1 : Int) := of_decide_eq_true (by first | (with_reducible assumption) | assumption)
            have q215 : x4_1 < (l0.length : Int) := of_decide_eq_true (by first | (with_reducible assumption) | assumption)
            obtain ⟨ad215, e215, hx215_0, hx215_1, hx215_2⟩ := at_T34 HR0.out x4_1 p215 q215
            have hw215_2 := hx215_2
            have hw215_1 := hx215_1
            have hw215_0 := hx215_0
            cases e215
            replace hx215_0 := (HB.out.cell (World.block_lt_of_cell? w _ hx215_0)).trans hx215_0
            replace hx215_1 := (HB.out.cell (World.block_lt_of_cell? w _ hx215_1)).trans hx215_1
            replace hx215_2 := (HB.out.cell (World.block_lt_of_cell? w _ hx215_2)).trans hx215_2
            replace p215 := eq_true p215
            replace q215 := eq_true q215
            have p216 : 0 ≤ (x4_1 : Int) := of_decide_eq_true (by first | (with_reducible assumption) | assumption)
            have q216 : x4_1 < (l0.length : Int) := of_decide_eq_true (by first | (with_reducible assumption) | assumption)
            obtain ⟨ad216, e216, hx216_0, hx216_1, hx216_2⟩ := at_T34 HR0.out x4_1 p216 q216
            have hw216_2 := hx216_2
            have hw216_1 := hx216_1
            have hw216_0 := hx216_0
            obtain rfl : ad215 = ad216 := (by injection e216)
            replace hx216_0 := (HB.out.cell (World.block_lt_of_cell? w _ hx216_0)).trans hx216_0
            replace hx216_1 := (HB.out.cell (World.block_lt_of_cell? w _ hx216_1)).trans hx216_1
            replace hx216_2 := (HB.out.cell (World.block_lt_of_cell? w _ hx216_2)).trans hx216_2
            replace p216 := eq_true p216
            replace q216 := eq_true q216
            have p217 : 0 ≤ ((ji6) : Int) := of_decide_eq_true (by first | (with_reducible assumption) | assumption)
            have q217 : (ji6) < (x3_1.length : Int) := of_decide_eq_true (by first | (with_reducible assumption) | assumption)
            obtain ⟨ad217, e217, hx217_0, hx217_1, hx217_2⟩ := at_T34 (Kd.R_reads' HO_3.out).2.2 (ji6) p217 q217
            cases e217
            replace p217 := eq_true p217
            replace q217 := eq_true q217
            have p218 : 0 ≤ (x4_1 : Int) := of_decide_eq_true (by first | (with_reducible assumption) | assumption)
            have q218 : x4_1 < (l0.length : Int) := of_decide_eq_true (by first | (with_reducible assumption) | assumption)
            obtain ⟨ad218, e218, hx218_0, hx218_1, hx218_2⟩ := at_T34 HR0.out x4_1 p218 q218
            have hw218_2 := hx218_2
            have hw218_1 := hx218_1
            have hw218_0 := hx218_0
            obtain rfl : ad215 = ad218 := (by injection e218)
            replace hx218_0 := (HB.out.cell (World.block_lt_of_cell? w _ hx218_0)).trans hx218_0
            replace hx218_1 := (HB.out.cell (World.block_lt_of_cell? w _ hx218_1)).trans hx218_1
            replace hx218_2 := (HB.out.cell (World.block_lt_of_cell? w _ hx218_2)).trans hx218_2
            replace p218 := eq_true p218
            replace q218 := eq_true q218
            have p219 : 0 ≤ ((ji6) : Int) := of_decide_eq_true (by first | (with_reducible assumption) | assumption)
            have q219 : (ji6) < (x3_1.length : Int) := of_decide_eq_true (by first | (with_reducible assumption) | assumption)
            obtain ⟨ad219, e219, hx219_0, hx219_1, hx219_2⟩ := at_T34 (Kd.R_reads' HO_3.out).2.2 (ji6) p219 q219
            obtain rfl : ad217 = ad219 := (by injection e219)
            replace p219 := eq_true p219
            replace q219 := eq_true q219
            have p220 : 0 ≤ (x4_1 : Int) := of_decide_eq_true (by first | (with_reducible assumption) | assumption)
            have q220 : x4_1 < (l0.length : Int) := of_decide_eq_true (by first | (with_reducible assumption) | assumption)
            obtain ⟨ad220, e220, hx220_0, hx220_1, hx220_2⟩ := at_T34 HR0.out x4_1 p220 q220
            have hw220_2 := hx220_2
            have hw220_1 := hx220_1
            have hw220_0 := hx220_0
            obtain rfl : ad215 = ad220 := (by injection e220)
            replace hx220_0 := (HB.out.cell (World.block_lt_of_cell? w _ hx220_0)).trans hx220_0
            replace hx220_1 := (HB.out.cell (World.block_lt_of_cell? w _ hx220_1)).trans hx220_1
            replace hx220_2 := (HB.out.cell (World.block_lt_of_cell? w _ hx220_2)).trans hx220_2
            replace p220 := eq_true p220
            replace q220 := eq_true q220
            refine start_ (n := 41) (S := fun w' => w'.cell? (ad215.add ((x4_1).toNat * 3)) = some (.int .i64 ((rd_T34 l0 x4_1).f0)) ∧ w'.cell? ⟨(ad215.add ((x4_1).toNat * 3)).block, (ad215.add ((x4_1).toNat * 3)).off + 1, none⟩ = some (.int .i64 ((rd_T34 l0 x4_1).f1)) ∧ w'.cell? ⟨(ad215.add ((x4_1).toNat * 3)).block, (ad215.add ((x4_1).toNat * 3)).off + 2, none⟩ = some (.string ((rd_T34 l0 x4_1).f2)) ∧ w'.cell? (ad215.add ((x4_1).toNat * 3)) = some (.int .i64 ((rd_T34 l0 x4_1).f0)) ∧ w'.cell? ⟨(ad215.add ((x4_1).toNat * 3)).block, (ad215.add ((x4_1).toNat * 3)).off + 1, none⟩ = some (.int .i64 ((rd_T34 l0 x4_1).f1)) ∧ w'.cell? ⟨(ad215.add ((x4_1).toNat * 3)).block, (ad215.add ((x4_1).toNat * 3)).off + 2, none⟩ = some (.string ((rd_T34 l0 x4_1).f2)) ∧ w'.cell? (ad217.add (((ji6)).toNat * 3)) = some (.int .i64 ((rd_T34 x3_1 (ji6)).f0)) ∧ w'.cell? ⟨(ad217.add (((ji6)).toNat * 3)).block, (ad217.add (((ji6)).toNat * 3)).off + 1, none⟩ = some (.int .i64 ((rd_T34 x3_1 (ji6)).f1)) ∧ w'.cell? ⟨(ad217.add (((ji6)).toNat * 3)).block, (ad217.add (((ji6)).toNat * 3)).off + 2, none⟩ = some (.string ((rd_T34 x3_1 (ji6)).f2)) ∧ w'.cell? (ad215.add ((x4_1).toNat * 3)) = some (.int .i64 ((rd_T34 l0 x4_1).f0)) ∧ w'.cell? ⟨(ad215.add ((x4_1).toNat * 3)).block, (ad215.add ((x4_1).toNat * 3)).off + 1, none⟩ = some (.int .i64 ((rd_T34 l0 x4_1).f1)) ∧ w'.cell? ⟨(ad215.add ((x4_1).toNat * 3)).block, (ad215.add ((x4_1).toNat * 3)).off + 2, none⟩ = some (.string ((rd_T34 l0 x4_1).f2)) ∧ w'.cell? (ad217.add (((ji6)).toNat * 3)) = some (.int .i64 ((rd_T34 x3_1 (ji6)).f0)) ∧ w'.cell? ⟨(ad217.add (((ji6)).toNat * 3)).block, (ad217.add (((ji6)).toNat * 3)).off + 1, none⟩ = some (.int .i64 ((rd_T34 x3_1 (ji6)).f1)) ∧ w'.cell? ⟨(ad217.add (((ji6)).toNat * 3)).block, (ad217.add (((ji6)).toNat * 3)).off + 2, none⟩ = some (.string ((rd_T34 x3_1 (ji6)).f2)) ∧ w'.cell? (ad215.add ((x4_1).toNat * 3)) = some (.int .i64 ((rd_T34 l0 x4_1).f0)) ∧ w'.cell? ⟨(ad215.add ((x4_1).toNat * 3)).block, (ad215.add ((x4_1).toNat * 3)).off + 1, none⟩ = some (.int .i64 ((rd_T34 l0 x4_1).f1)) ∧ w'.cell? ⟨(ad215.add ((x4_1).toNat * 3)).block, (ad215.add ((x4_1).toNat * 3)).off + 2, none⟩ = some (.string ((rd_T34 l0 x4_1).f2))) (ds := []) (bA 41 0) (by kernel_rfl) rfl rfl ⟨((HB.out.cell (World.block_lt_of_cell? w _ hw215_0)).trans hw215_0), ((HB.out.cell (World.block_lt_of_cell? w _ hw215_1)).trans hw215_1), ((HB.out.cell (World.block_lt_of_cell? w _ hw215_2)).trans hw215_2), ((HB.out.cell (World.block_lt_of_cell? w _ hw216_0)).trans hw216_0), ((HB.out.cell (World.block_lt_of_cell? w _ hw216_1)).trans hw216_1), ((HB.out.cell (World.block_lt_of_cell? w _ hw216_2)).trans hw216_2), hx217_0, hx217_1, hx217_2, ((HB.out.cell (World.block_lt_of_cell? w _ hw218_0)).trans hw218_0), ((HB.out.cell (World.block_lt_of_cell? w _ hw218_1)).trans hw218_1), ((HB.out.cell (World.block_lt_of_cell? w _ hw218_2)).trans hw218_2), hx219_0, hx219_1, hx219_2, ((HB.out.cell (World.block_lt_of_cell? w _ hw220_0)).trans hw220_0), ((HB.out.cell (World.block_lt_of_cell? w _ hw220_1)).trans hw220_1), ((HB.out.cell (World.block_lt_of_cell? w _ hw220_2)).trans hw220_2)⟩ (fun hHeld => ?_); refine with_tabW smockingref01_joined.tab6 smockingref01_joined.bits6 (fun HT_ HW_ => ?_)
            generalize wr.drew = w19 at HO_3 HB hx215_0 hx215_1 hx215_2 hx216_0 hx216_1 hx216_2 hx217_0 hx217_1 hx217_2 hx218_0 hx218_1 hx218_2 hx219_0 hx219_1 hx219_2 hx220_0 hx220_1 hx220_2 hHeld ⊢
            refine pure_ (i := 0) (N := some 15) (v := ?_) (a' := ?_) (bA 41 1) rfl rfl (any_of HT_.out (by kernel_rfl)) (fun _ _ _ h => h) (Or.inl ⟨by rfl, ?_⟩) ?_ ?_
            rotate_left; (· intro w'; go_simp; with_reducible rfl); rotate_left; (· simp only [Act.put, q1_, q2_, q3_, i64_w, i32_w]; rfl)
            refine pure_ (i := 1) (N := some 16) (v := ?_) (a' := ?_) (bA 41 3) rfl rfl (any_of HT_.out (by kernel_rfl)) (fun _ _ _ h => h) (Or.inl ⟨by rfl, ?_⟩) ?_ ?_
            rotate_left; (· intro w'; go_simp; with_reducible rfl); rotate_left; (· simp only [Act.put, q1_, q2_, q3_, i64_w, i32_w]; rfl)
            refine pure_ (i := 2) (N := some 17) (v := ?_) (a' := ?_) (bA 41 7) rfl rfl (any_of HT_.out (by kernel_rfl)) (fun _ _ _ h => h) (Or.inl ⟨by rfl, ?_⟩) ?_ ?_
            rotate_left; (· intro w'; go_simp; with_reducible rfl); rotate_left; (· simp only [Act.put, q1_, q2_, q3_, i64_w, i32_w]; rfl)
            refine pure_ (i := 3) (N := some 18) (v := ?_) (a' := ?_) (bA 41 15) rfl rfl (any_of HT_.out (by kernel_rfl)) (fun _ _ _ h => h) (Or.inl ⟨by rfl, ?_⟩) ?_ ?_
            rotate_left; (· intro w'; go_simp; with_reducible rfl); rotate_left; (· simp only [Act.put, q1_, q2_, q3_, i64_w, i32_w]; rfl)
            refine pure_ (i := 4) (N := some 19) (v := ?_) (a' := ?_) (bA 41 31) rfl rfl (any_of HT_.out (by kernel_rfl)) (fun _ _ _ h => h) (Or.inl ⟨by rfl, ?_⟩) ?_ ?_
            rotate_left; (· intro w'; go_simp; with_reducible rfl); rotate_left; (· simp only [Act.put, q1_, q2_, q3_, i64_w, i32_w]; rfl)
            refine pure_ (i := 5) (N := some 20) (v := ?_) (a' := ?_) (bA 41 63) rfl rfl (any_of HT_.out (by kernel_rfl)) (fun _ _ _ h => h) (Or.inl ⟨by rfl, ?_⟩) ?_ ?_
            rotate_left; (· intro w'; go_simp; with_reducible rfl); rotate_left; (· simp only [Act.put, q1_, q2_, q3_, i64_w, i32_w]; rfl)
            refine pure_ (i := 6) (N := some 21) (v := ?_) (a' := ?_) (bA 41 127) rfl rfl (any_of HT_.out (by kernel_rfl)) (fun _ _ _ h => h) (Or.inl ⟨by rfl, ?_⟩) ?_ ?_
            rotate_left; (· intro w'; go_simp; with_reducible rfl); rotate_left; (· simp only [Act.put, q1_, q2_, q3_, i64_w, i32_w]; rfl)
            refine pure_ (i := 8) (N := some 23) (v := ?_) (a' := ?_) (bA 41 383) rfl rfl (any_of HT_.out (by kernel_rfl)) (fun _ _ _ h => h) (Or.inl ⟨by rfl, ?_⟩) ?_ ?_
            rotate_left; (· intro w'; go_simp; with_reducible rfl); rotate_left; (· simp only [Act.put, q1_, q2_, q3_, i64_w, i32_w]; rfl)
            refine pure_ (i := 9) (N := some 24) (v := ?_) (a' := ?_) (bA 41 895) rfl rfl (any_of HT_.out (by kernel_rfl)) (fun _ _ _ h => h) (Or.inl ⟨by rfl, ?_⟩) ?_ ?_
            rotate_left; (· intro w'; go_simp; with_reducible rfl); rotate_left; (· simp only [Act.put, q1_, q2_, q3_, i64_w, i32_w]; rfl)
            refine pure_ (i := 10) (N := some 25) (v := ?_) (a' := ?_) (bA 41 1919) rfl rfl (any_of HT_.out (by kernel_rfl)) (fun _ _ _ h => h) (Or.inl ⟨by rfl, ?_⟩) ?_ ?_
            rotate_left; (· intro w'; go_simp; with_reducible rfl); rotate_left; (· simp only [Act.put, q1_, q2_, q3_, i64_w, i32_w]; rfl)
            refine pure_ (i := 11) (N := some 26) (v := ?_) (a' := ?_) (bA 41 3967) rfl rfl (any_of HT_.out (by kernel_rfl)) (fun _ _ _ h => h) (Or.inl ⟨by rfl, ?_⟩) ?_ ?_
            rotate_left; (· intro w'; go_simp; with_reducible rfl); rotate_left; (· simp only [Act.put, q1_, q2_, q3_, i64_w, i32_w]; rfl)
            refine take_ (i := 7) (N := some 22) (v := ?_) (a' := ?_) (bA 41 4095) rfl rfl (take_ofW HT_.out HW_.out (by kernel_rfl)) (fun _ _ _ h => h) (Or.inl ⟨by rfl, ?_⟩) hHeld ?_ ?_
            rotate_left; (· rintro w' ⟨s0, s1, s2, s3, s4, s5, s6, s7, s8, s9, s10, s11, s12, s13, s14, s15, s16, s17⟩; go_simp; with_reducible rfl); rotate_left; (· simp only [Act.put, q1_, q2_, q3_, i64_w, i32_w]; rfl)
            refine take_ (i := 12) (N := some 27) (v := ?_) (a' := ?_) (bA 41 8191) rfl rfl (take_ofW HT_.out HW_.out (by kernel_rfl)) (fun _ _ _ h => h) (Or.inl ⟨by rfl, ?_⟩) hHeld ?_ ?_
            rotate_left; (· rintro w' ⟨s0, s1, s2, s3, s4, s5, s6, s7, s8, s9, s10, s11, s12, s13, s14, s15, s16, s17⟩; go_simp; with_reducible rfl); rotate_left; (· simp only [Act.put, q1_, q2_, q3_, i64_w, i32_w]; rfl)
            refine pure_ (i := 13) (N := some 28) (v := ?_) (a' := ?_) (bA 41 16383) rfl rfl (any_of HT_.out (by kernel_rfl)) (fun _ _ _ h => h) (Or.inl ⟨by rfl, ?_⟩) ?_ ?_
            rotate_left; (· intro w'; go_simp; with_reducible rfl); rotate_left; (· simp only [Act.put, q1_, q2_, q3_, i64_w, i32_w]; rfl)
            refine pure_ (i := 14) (N := some 29) (v := ?_) (a' := ?_) (bA 41 32767) rfl rfl (any_of HT_.out (by kernel_rfl)) (fun _ _ _ h => h) (Or.inl ⟨by rfl, ?_⟩) ?_ ?_
            rotate_left; (· intro w'; go_simp; with_reducible rfl); rotate_left; (· simp only [Act.put, q1_, q2_, q3_, i64_w, i32_w]; rfl)
            refine pure_ (i := 15) (N := some 30) (v := ?_) (a' := ?_) (bA 41 65535) rfl rfl (any_of HT_.out (by kernel_rfl)) (fun _ _ _ h => h) (Or.inl ⟨by rfl, ?_⟩) ?_ ?_
            rotate_left; (· intro w'; go_simp; with_reducible rfl); rotate_left; (· simp only [Act.put, q1_, q2_, q3_, i64_w, i32_w]; rfl)
            refine pure_ (i := 16) (N := some 31) (v := ?_) (a' := ?_) (bA 41 131071) rfl rfl (any_of HT_.out (by kernel_rfl)) (fun _ _ _ h => h) (Or.inl ⟨by rfl, ?_⟩) ?_ ?_
            rotate_left; (· intro w'; go_simp; with_reducible rfl); rotate_left; (· simp only [Act.put, q1_, q2_, q3_, i64_w, i32_w]; rfl)
            refine pure_ (i := 17) (N := some 32) (v := ?_) (a' := ?_) (bA 41 262143) rfl rfl (any_of HT_.out (by kernel_rfl)) (fun _ _ _ h => h) (Or.inl ⟨by rfl, ?_⟩) ?_ ?_
            rotate_left; (· intro w'; go_simp; with_reducible rfl); rotate_left; (· simp only [Act.put, q1_, q2_, q3_, i64_w, i32_w]; rfl)
            refine pure_ (i := 18) (N := some 33) (v := ?_) (a' := ?_) (bA 41 524287) rfl rfl (any_of HT_.out (by kernel_rfl)) (fun _ _ _ h => h) (Or.inl ⟨by rfl, ?_⟩) ?_ ?_
            rotate_left; (· intro w'; go_simp; with_reducible rfl); rotate_left; (· simp only [Act.put, q1_, q2_, q3_, i64_w, i32_w]; rfl)
            refine pure_ (i := 19) (N := some 34) (v := ?_) (a' := ?_) (bA 41 1048575) rfl rfl (any_of HT_.out (by kernel_rfl)) (fun _ _ _ h => h) (Or.inl ⟨by rfl, ?_⟩) ?_ ?_
            rotate_left; (· intro w'; go_simp; with_reducible rfl); rotate_left; (· simp only [Act.put, q1_, q2_, q3_, i64_w, i32_w]; rfl)
            refine pure_ (i := 21) (N := some 36) (v := ?_) (a' := ?_) (bA 41 3145727) rfl rfl (any_of HT_.out (by kernel_rfl)) (fun _ _ _ h => h) (Or.inl ⟨by rfl, ?_⟩) ?_ ?_
            rotate_left; (· intro w'; go_simp; with_reducible rfl); rotate_left; (· simp only [Act.put, q1_, q2_, q3_, i64_w, i32_w]; rfl)
            refine pure_ (i := 22) (N := some 37) (v := ?_) (a' := ?_) (bA 41 7340031) rfl rfl (any_of HT_.out (by kernel_rfl)) (fun _ _ _ h => h) (Or.inl ⟨by rfl, ?_⟩) ?_ ?_
            rotate_left; (· intro w'; go_simp; with_reducible rfl); rotate_left; (· simp only [Act.put, q1_, q2_, q3_, i64_w, i32_w]; rfl)
            refine pure_ (i := 23) (N := some 38) (v := ?_) (a' := ?_) (bA 41 15728639) rfl rfl (any_of HT_.out (by kernel_rfl)) (fun _ _ _ h => h) (Or.inl ⟨by rfl, ?_⟩) ?_ ?_
            rotate_left; (· intro w'; go_simp; with_reducible rfl); rotate_left; (· simp only [Act.put, q1_, q2_, q3_, i64_w, i32_w]; rfl)
            refine pure_ (i := 24) (N := some 39) (v := ?_) (a' := ?_) (bA 41 32505855) rfl rfl (any_of HT_.out (by kernel_rfl)) (fun _ _ _ h => h) (Or.inl ⟨by rfl, ?_⟩) ?_ ?_
            rotate_left; (· intro w'; go_simp; with_reducible rfl); rotate_left; (· simp only [Act.put, q1_, q2_, q3_, i64_w, i32_w]; rfl)
            refine take_ (i := 20) (N := some 35) (v := ?_) (a' := ?_) (bA 41 33554431) rfl rfl (take_ofW HT_.out HW_.out (by kernel_rfl)) (fun _ _ _ h => h) (Or.inl ⟨by rfl, ?_⟩) hHeld ?_ ?_
            rotate_left; (· rintro w' ⟨s0, s1, s2, s3, s4, s5, s6, s7, s8, s9, s10, s11, s12, s13, s14, s15, s16, s17⟩; go_simp; with_reducible rfl); rotate_left; (· simp only [Act.put, q1_, q2_, q3_, i64_w, i32_w]; rfl)
            refine take_ (i := 25) (N := some 40) (v := ?_) (a' := ?_) (bA 41 67108863) rfl rfl (take_ofW HT_.out HW_.out (by kernel_rfl)) (fun _ _ _ h => h) (Or.inl ⟨by rfl, ?_⟩) hHeld ?_ ?_
            rotate_left; (· rintro w' ⟨s0, s1, s2, s3, s4, s5, s6, s7, s8, s9, s10, s11, s12, s13, s14, s15, s16, s17⟩; go_simp; with_reducible rfl); rotate_left; (· simp only [Act.put, q1_, q2_, q3_, i64_w, i32_w]; rfl)
            refine pure_ (i := 26) (N := some 41) (v := ?_) (a' := ?_) (bA 41 134217727) rfl rfl (any_of HT_.out (by kernel_rfl)) (fun _ _ _ h => h) (Or.inl ⟨by rfl, ?_⟩) ?_ ?_
            rotate_left; (· intro w'; go_simp; with_reducible rfl); rotate_left; (· simp only [Act.put, q1_, q2_, q3_, i64_w, i32_w]; rfl)
            refine pure_ (i := 27) (N := some 42) (v := ?_) (a' := ?_) (bA 41 268435455) rfl rfl (any_of HT_.out (by kernel_rfl)) (fun _ _ _ h => h) (Or.inl ⟨by rfl, ?_⟩) ?_ ?_
            rotate_left; (· intro w'; go_simp; with_reducible rfl); rotate_left; (· simp only [Act.put, q1_, q2_, q3_, i64_w, i32_w]; rfl)
            refine pure_ (i := 28) (N := some 43) (v := ?_) (a' := ?_) (bA 41 536870911) rfl rfl (any_of HT_.out (by kernel_rfl)) (fun _ _ _ h => h) (Or.inl ⟨by rfl, ?_⟩) ?_ ?_
            rotate_left; (· intro w'; go_simp; with_reducible rfl); rotate_left; (· simp only [Act.put, q1_, q2_, q3_, i64_w, i32_w]; rfl)
            refine pure_ (i := 29) (N := some 44) (v := ?_) (a' := ?_) (bA 41 1073741823) rfl rfl (any_of HT_.out (by kernel_rfl)) (fun _ _ _ h => h) (Or.inl ⟨by rfl, ?_⟩) ?_ ?_
            rotate_left; (· intro w'; go_simp; with_reducible rfl); rotate_left; (· simp only [Act.put, q1_, q2_, q3_, i64_w, i32_w]; rfl)
            refine pure_ (i := 30) (N := some 45) (v := ?_) (a' := ?_) (bA 41 2147483647) rfl rfl (any_of HT_.out (by kernel_rfl)) (fun _ _ _ h => h) (Or.inl ⟨by rfl, ?_⟩) ?_ ?_
            rotate_left; (· intro w'; go_simp; with_reducible rfl); rotate_left; (· simp only [Act.put, q1_, q2_, q3_, i64_w, i32_w]; rfl)
            refine pure_ (i := 31) (N := some 46) (v := ?_) (a' := ?_) (bA 41 4294967295) rfl rfl (any_of HT_.out (by kernel_rfl)) (fun _ _ _ h => h) (Or.inl ⟨by rfl, ?_⟩) ?_ ?_
            rotate_left; (· intro w'; go_simp; with_reducible rfl); rotate_left; (· simp only [Act.put, q1_, q2_, q3_, i64_w, i32_w]; rfl)
            refine pure_ (i := 32) (N := some 47) (v := ?_) (a' := ?_) (bA 41 8589934591) rfl rfl (any_of HT_.out (by kernel_rfl)) (fun _ _ _ h => h) (Or.inl ⟨by rfl, ?_⟩) ?_ ?_
            rotate_left; (· intro w'; go_simp; with_reducible rfl); rotate_left; (· simp only [Act.put, q1_, q2_, q3_, i64_w, i32_w]; rfl)
            refine pure_ (i := 34) (N := some 49) (v := ?_) (a' := ?_) (bA 41 25769803775) rfl rfl (any_of HT_.out (by kernel_rfl)) (fun _ _ _ h => h) (Or.inl ⟨by rfl, ?_⟩) ?_ ?_
            rotate_left; (· intro w'; go_simp; with_reducible rfl); rotate_left; (· simp only [Act.put, q1_, q2_, q3_, i64_w, i32_w]; rfl)
            refine pure_ (i := 35) (N := some 50) (v := ?_) (a' := ?_) (bA 41 60129542143) rfl rfl (any_of HT_.out (by kernel_rfl)) (fun _ _ _ h => h) (Or.inl ⟨by rfl, ?_⟩) ?_ ?_
            rotate_left; (· intro w'; go_simp; with_reducible rfl); rotate_left; (· simp only [Act.put, q1_, q2_, q3_, i64_w, i32_w]; rfl)
            refine pure_ (i := 36) (N := some 51) (v := ?_) (a' := ?_) (bA 41 128849018879) rfl rfl (any_of HT_.out (by kernel_rfl)) (fun _ _ _ h => h) (Or.inl ⟨by rfl, ?_⟩) ?_ ?_
            rotate_left; (· intro w'; go_simp; with_reducible rfl); rotate_left; (· simp only [Act.put, q1_, q2_, q3_, i64_w, i32_w]; rfl)
            refine pure_ (i := 37) (N := some 52) (v := ?_) (a' := ?_) (bA 41 266287972351) rfl rfl (any_of HT_.out (by kernel_rfl)) (fun _ _ _ h => h) (Or.inl ⟨by rfl, ?_⟩) ?_ ?_
            rotate_left; (· intro w'; go_simp; with_reducible rfl); rotate_left; (· simp only [Act.put, q1_, q2_, q3_, i64_w, i32_w]; rfl)
            refine take_ (i := 33) (N := some 48) (v := ?_) (a' := ?_) (bA 41 274877906943) rfl rfl (take_ofW HT_.out HW_.out (by kernel_rfl)) (fun _ _ _ h => h) (Or.inl ⟨by rfl, ?_⟩) hHeld ?_ ?_
            rotate_left; (· rintro w' ⟨s0, s1, s2, s3, s4, s5, s6, s7, s8, s9, s10, s11, s12, s13, s14, s15, s16, s17⟩; go_simp; with_reducible rfl); rotate_left; (· simp only [Act.put, q1_, q2_, q3_, i64_w, i32_w]; rfl)
            refine take_ (i := 38) (N := some 53) (v := ?_) (a' := ?_) (bA 41 549755813887) rfl rfl (take_ofW HT_.out HW_.out (by kernel_rfl)) (fun _ _ _ h => h) (Or.inl ⟨by rfl, ?_⟩) hHeld ?_ ?_
            rotate_left; (· rintro w' ⟨s0, s1, s2, s3, s4, s5, s6, s7, s8, s9, s10, s11, s12, s13, s14, s15, s16, s17⟩; go_simp; with_reducible rfl); rotate_left; (· simp only [Act.put, q1_, q2_, q3_, i64_w, i32_w]; rfl)
            refine pure_ (i := 39) (N := some 54) (v := ?_) (a' := ?_) (bA 41 1099511627775) rfl rfl (any_of HT_.out (by kernel_rfl)) (fun _ _ _ h => h) (Or.inl ⟨by rfl, ?_⟩) ?_ ?_
            rotate_left; (· intro w'; go_simp; with_reducible rfl); rotate_left; (· simp only [Act.put, q1_, q2_, q3_, i64_w, i32_w]; rfl)
            refine pure_ (i := 40) (N := some 55) (v := ?_) (a' := ?_) (bA 41 2199023255551) rfl rfl (any_of HT_.out (by kernel_rfl)) (fun _ _ _ h => h) (Or.inl ⟨by rfl, ?_⟩) ?_ ?_
            rotate_left; (· intro w'; go_simp; with_reducible rfl); rotate_left; (· simp only [Act.put, q1_, q2_, q3_, i64_w, i32_w]; rfl)
            refine done_ (done_of HT_.out (by kernel_rfl)) ?_
            have p224 : 0 ≤ (x4_1 : Int) := of_decide_eq_true (by first | (with_reducible assumption) | assumption)
            have q224 : x4_1 < (l0.length : Int) := of_decide_eq_true (by first | (with_reducible assumption) | assumption)
            obtain ⟨ad224, e224, hx224_0, hx224_1, hx224_2⟩ := at_T34 HR0.out x4_1 p224 q224
            obtain rfl : ad215 = ad224 := (by injection e224)
            replace hx224_0 := (HB.out.cell (World.block_lt_of_cell? w _ hx224_0)).trans hx224_0
            replace hx224_1 := (HB.out.cell (World.block_lt_of_cell? w _ hx224_1)).trans hx224_1
            replace hx224_2 := (HB.out.cell (World.block_lt_of_cell? w _ hx224_2)).trans hx224_2
            replace p224 := eq_true p224
            replace q224 := eq_true q224
            try go_wp2_with (first | ((with_reducible refine gate_builtin (b := .append) (xs := #[.tmp 71, .tmp 76]) rfl ?_); at_builtin; refine Kd.R_append k34 (w0 := w) w.heap.size rfl (.tmp 71) (.tmp 76) 22 34 (.agg #[(.int .i64 0), (.int .i64 0), (.string ⟨#[]⟩)]) 32 rfl Tryd.underlying22 info34 rfl (by decide) (by omega) (.slice (some ad217) x3_1.length co18) x3_1 (⟨(rd_T34 l0 x4_1).f0, (rd_T34 l0 x4_1).f1, (rd_T34 l0 x4_1).f2⟩ : S34) [.int .i64 ((rd_T34 l0 x4_1).f0), .int .i64 ((rd_T34 l0 x4_1).f1), .string ((rd_T34 l0 x4_1).f2)] (fun _ => True) (fun _ => False) rfl rfl ?aP (fun _ hk => hk.elim) ?aF ?aO ?aB ?aS ?aL ?_; (case aP => exact k34_mkM _ _ _ (⟨(rd_T34 l0 x4_1).f0, (rd_T34 l0 x4_1).f1, (rd_T34 l0 x4_1).f2⟩ : S34)); (case aB => exact (by repeat (first | (with_reducible first | exact HB.out | apply below_alloc | apply pw_below_drewN | apply below_drew1) | exact HB.out))); (case aF => exact (fun _ _ => trivial)); (case aO => exact (by (with_reducible repeat (first | apply Kd.R_alloc | apply Kd.R_drewN | apply Kd.R_drew)); exact HO_3.out)); (case aS => exact (below_size (by repeat (first | (with_reducible first | exact HB.out | apply below_alloc | apply pw_below_drewN | apply below_drew1) | exact HB.out)))); (case aL => have := LMc17.out; omega); intro v226 w20 ho hb hg hat; rw [← Ny225.out] at ho; have n0_ := Aside0.mk (hb); have n1_ := Aside0.mk (ho); clear HB; clear HO_3; have HB := n0_; have HO227 := n1_; clear n0_ n1_; clear ho hb hg hat))
            go_roundg k1
            case measure => have := HK1.out; omega
            case rel => exact ⟨(y225), (wrap64 (x4_1 + 1)), (by first | rfl | (simp; done) | (simp [*]; done)), H', ⟨by have := HK1.out; omega⟩, ⟨by (with_reducible repeat (first | apply Kd.R_alloc | apply Kd.R_drewN | apply Kd.R_drew)); exact HO227.out⟩, ⟨by repeat (first | (with_reducible first | exact HB.out | apply below_alloc | apply pw_below_drewN | apply below_drew1) | exact HB.out)⟩⟩
           ·rw [if_neg c17] at H
            exact absurd H (by simp)
         ·rw [if_neg c9] at H
          have c9b0 : (((rd_T34 x3_1 (ji6)).f0) == ((rd_T34 l0 x4_1).f0)) = false := beq_eq_false_iff_ne.mpr c9
          have c9b1 : (((rd_T34 x3_1 (ji6)).f0) != ((rd_T34 l0 x4_1).f0)) = true := bne_iff_ne.mpr c9
          by_cases c21 : x3_1.length < 4398046511104
          ·rw [if_pos c21] at H
           have LMc21 := Aside0.mk c21
           clear c21
           obtain ⟨y229, hy229⟩ : ∃ y_ : List (S34), y_ = (x3_1 ++ [(⟨(rd_T34 l0 x4_1).f0, (rd_T34 l0 x4_1).f1, (rd_T34 l0 x4_1).f2⟩ : S34)]) := ⟨_, rfl⟩
           replace H : (smockingref01_joined.l0 k1 l0 y229 (wrap64 (x4_1 + 1))) = some r := by first | (rw [hy229]; with_reducible exact H) | (have H2_ := (Option.bind_some _ _).symm.trans H; rw [hy229]; with_reducible exact H2_) | (have H2_ := (Option.bind_some _ _).symm.trans H; with_reducible exact H2_) | with_reducible exact H | (rw [hy229]; exact H) | exact H
           have Ny229 := Aside0.mk hy229
           clear hy229
           have H' := Aside0.mk H
           clear H
           obtain ⟨Ao22, co22, eo22⟩ := Kd.R_slice HO_3.out
           subst eo22
           try go_wp2
           have n0_ := Aside0.mk (Kd.R_drew HO_3.out)
           have n1_ := Aside0.mk (below_drew1 HB.out)
           clear HO_3
           clear HB
           have HO_3 := n0_
           have HB := n1_
           clear n0_ n1_
           have p215 : 0 ≤ (x4_1 : Int) := of_decide_eq_true (by first | (with_reducible assumption) | assumption)
           have q215 : x4_1 < (l0.length : Int) := of_decide_eq_true (by first | (with_reducible assumption) | assumption)
           obtain ⟨ad215, e215, hx215_0, hx215_1, hx215_2⟩ := at_T34 HR0.out x4_1 p215 q215
           have hw215_2 := hx215_2
           have hw215_1 := hx215_1
           have hw215_0 := hx215_0
           cases e215
           replace hx215_0 := (HB.out.cell (World.block_lt_of_cell? w _ hx215_0)).trans hx215_0
           replace hx215_1 := (HB.out.cell (World.block_lt_of_cell? w _ hx215_1)).trans hx215_1
           replace hx215_2 := (HB.out.cell (World.block_lt_of_cell? w _ hx215_2)).trans hx215_2
           replace p215 := eq_true p215
           replace q215 := eq_true q215
           have p216 : 0 ≤ (x4_1 : Int) := of_decide_eq_true (by first | (with_reducible assumption) | assumption)
           have q216 : x4_1 < (l0.length : Int) := of_decide_eq_true (by first | (with_reducible assumption) | assumption)
           obtain ⟨ad216, e216, hx216_0, hx216_1, hx216_2⟩ := at_T34 HR0.out x4_1 p216 q216
           have hw216_2 := hx216_2
           have hw216_1 := hx216_1
           have hw216_0 := hx216_0
           obtain rfl : ad215 = ad216 := (by injection e216)
           replace hx216_0 := (HB.out.cell (World.block_lt_of_cell? w _ hx216_0)).trans hx216_0
           replace hx216_1 := (HB.out.cell (World.block_lt_of_cell? w _ hx216_1)).trans hx216_1
           replace hx216_2 := (HB.out.cell (World.block_lt_of_cell? w _ hx216_2)).trans hx216_2
           replace p216 := eq_true p216
           replace q216 := eq_true q216
           have p217 : 0 ≤ ((ji6) : Int) := of_decide_eq_true (by first | (with_reducible assumption) | assumption)
           have q217 : (ji6) < (x3_1.length : Int) := of_decide_eq_true (by first | (with_reducible assumption) | assumption)
           obtain ⟨ad217, e217, hx217_0, hx217_1, hx217_2⟩ := at_T34 (Kd.R_reads' HO_3.out).2.2 (ji6) p217 q217
           cases e217
           replace p217 := eq_true p217
           replace q217 := eq_true q217
           have p218 : 0 ≤ (x4_1 : Int) := of_decide_eq_true (by first | (with_reducible assumption) | assumption)
           have q218 : x4_1 < (l0.length : Int) := of_decide_eq_true (by first | (with_reducible assumption) | assumption)
           obtain ⟨ad218, e218, hx218_0, hx218_1, hx218_2⟩ := at_T34 HR0.out x4_1 p218 q218
           have hw218_2 := hx218_2
           have hw218_1 := hx218_1
           have hw218_0 := hx218_0
           obtain rfl : ad215 = ad218 := (by injection e218)
           replace hx218_0 := (HB.out.cell (World.block_lt_of_cell? w _ hx218_0)).trans hx218_0
           replace hx218_1 := (HB.out.cell (World.block_lt_of_cell? w _ hx218_1)).trans hx218_1
           replace hx218_2 := (HB.out.cell (World.block_lt_of_cell? w _ hx218_2)).trans hx218_2
           replace p218 := eq_true p218
           replace q218 := eq_true q218
           refine start_ (n := 41) (S := fun w' => w'.cell? (ad215.add ((x4_1).toNat * 3)) = some (.int .i64 ((rd_T34 l0 x4_1).f0)) ∧ w'.cell? ⟨(ad215.add ((x4_1).toNat * 3)).block, (ad215.add ((x4_1).toNat * 3)).off + 1, none⟩ = some (.int .i64 ((rd_T34 l0 x4_1).f1)) ∧ w'.cell? ⟨(ad215.add ((x4_1).toNat * 3)).block, (ad215.add ((x4_1).toNat * 3)).off + 2, none⟩ = some (.string ((rd_T34 l0 x4_1).f2)) ∧ w'.cell? (ad215.add ((x4_1).toNat * 3)) = some (.int .i64 ((rd_T34 l0 x4_1).f0)) ∧ w'.cell? ⟨(ad215.add ((x4_1).toNat * 3)).block, (ad215.add ((x4_1).toNat * 3)).off + 1, none⟩ = some (.int .i64 ((rd_T34 l0 x4_1).f1)) ∧ w'.cell? ⟨(ad215.add ((x4_1).toNat * 3)).block, (ad215.add ((x4_1).toNat * 3)).off + 2, none⟩ = some (.string ((rd_T34 l0 x4_1).f2)) ∧ w'.cell? (ad217.add (((ji6)).toNat * 3)) = some (.int .i64 ((rd_T34 x3_1 (ji6)).f0)) ∧ w'.cell? ⟨(ad217.add (((ji6)).toNat * 3)).block, (ad217.add (((ji6)).toNat * 3)).off + 1, none⟩ = some (.int .i64 ((rd_T34 x3_1 (ji6)).f1)) ∧ w'.cell? ⟨(ad217.add (((ji6)).toNat * 3)).block, (ad217.add (((ji6)).toNat * 3)).off + 2, none⟩ = some (.string ((rd_T34 x3_1 (ji6)).f2)) ∧ w'.cell? (ad215.add ((x4_1).toNat * 3)) = some (.int .i64 ((rd_T34 l0 x4_1).f0)) ∧ w'.cell? ⟨(ad215.add ((x4_1).toNat * 3)).block, (ad215.add ((x4_1).toNat * 3)).off + 1, none⟩ = some (.int .i64 ((rd_T34 l0 x4_1).f1)) ∧ w'.cell? ⟨(ad215.add ((x4_1).toNat * 3)).block, (ad215.add ((x4_1).toNat * 3)).off + 2, none⟩ = some (.string ((rd_T34 l0 x4_1).f2))) (ds := []) (bA 41 0) (by kernel_rfl) rfl rfl ⟨((HB.out.cell (World.block_lt_of_cell? w _ hw215_0)).trans hw215_0), ((HB.out.cell (World.block_lt_of_cell? w _ hw215_1)).trans hw215_1), ((HB.out.cell (World.block_lt_of_cell? w _ hw215_2)).trans hw215_2), ((HB.out.cell (World.block_lt_of_cell? w _ hw216_0)).trans hw216_0), ((HB.out.cell (World.block_lt_of_cell? w _ hw216_1)).trans hw216_1), ((HB.out.cell (World.block_lt_of_cell? w _ hw216_2)).trans hw216_2), hx217_0, hx217_1, hx217_2, ((HB.out.cell (World.block_lt_of_cell? w _ hw218_0)).trans hw218_0), ((HB.out.cell (World.block_lt_of_cell? w _ hw218_1)).trans hw218_1), ((HB.out.cell (World.block_lt_of_cell? w _ hw218_2)).trans hw218_2)⟩ (fun hHeld => ?_); refine with_tabW smockingref01_joined.tab6 smockingref01_joined.bits6 (fun HT_ HW_ => ?_)
           generalize wr.drew = w23 at HO_3 HB hx215_0 hx215_1 hx215_2 hx216_0 hx216_1 hx216_2 hx217_0 hx217_1 hx217_2 hx218_0 hx218_1 hx218_2 hHeld ⊢
           refine pure_ (i := 0) (N := some 15) (v := ?_) (a' := ?_) (bA 41 1) rfl rfl (any_of HT_.out (by kernel_rfl)) (fun _ _ _ h => h) (Or.inl ⟨by rfl, ?_⟩) ?_ ?_
           rotate_left; (· intro w'; go_simp; with_reducible rfl); rotate_left; (· simp only [Act.put, q1_, q2_, q3_, i64_w, i32_w]; rfl)
           refine pure_ (i := 1) (N := some 16) (v := ?_) (a' := ?_) (bA 41 3) rfl rfl (any_of HT_.out (by kernel_rfl)) (fun _ _ _ h => h) (Or.inl ⟨by rfl, ?_⟩) ?_ ?_
           rotate_left; (· intro w'; go_simp; with_reducible rfl); rotate_left; (· simp only [Act.put, q1_, q2_, q3_, i64_w, i32_w]; rfl)
           refine pure_ (i := 2) (N := some 17) (v := ?_) (a' := ?_) (bA 41 7) rfl rfl (any_of HT_.out (by kernel_rfl)) (fun _ _ _ h => h) (Or.inl ⟨by rfl, ?_⟩) ?_ ?_
           rotate_left; (· intro w'; go_simp; with_reducible rfl); rotate_left; (· simp only [Act.put, q1_, q2_, q3_, i64_w, i32_w]; rfl)
           refine pure_ (i := 3) (N := some 18) (v := ?_) (a' := ?_) (bA 41 15) rfl rfl (any_of HT_.out (by kernel_rfl)) (fun _ _ _ h => h) (Or.inl ⟨by rfl, ?_⟩) ?_ ?_
           rotate_left; (· intro w'; go_simp; with_reducible rfl); rotate_left; (· simp only [Act.put, q1_, q2_, q3_, i64_w, i32_w]; rfl)
           refine pure_ (i := 4) (N := some 19) (v := ?_) (a' := ?_) (bA 41 31) rfl rfl (any_of HT_.out (by kernel_rfl)) (fun _ _ _ h => h) (Or.inl ⟨by rfl, ?_⟩) ?_ ?_
           rotate_left; (· intro w'; go_simp; with_reducible rfl); rotate_left; (· simp only [Act.put, q1_, q2_, q3_, i64_w, i32_w]; rfl)
           refine pure_ (i := 5) (N := some 20) (v := ?_) (a' := ?_) (bA 41 63) rfl rfl (any_of HT_.out (by kernel_rfl)) (fun _ _ _ h => h) (Or.inl ⟨by rfl, ?_⟩) ?_ ?_
           rotate_left; (· intro w'; go_simp; with_reducible rfl); rotate_left; (· simp only [Act.put, q1_, q2_, q3_, i64_w, i32_w]; rfl)
           refine pure_ (i := 6) (N := some 21) (v := ?_) (a' := ?_) (bA 41 127) rfl rfl (any_of HT_.out (by kernel_rfl)) (fun _ _ _ h => h) (Or.inl ⟨by rfl, ?_⟩) ?_ ?_
           rotate_left; (· intro w'; go_simp; with_reducible rfl); rotate_left; (· simp only [Act.put, q1_, q2_, q3_, i64_w, i32_w]; rfl)
           refine pure_ (i := 8) (N := some 23) (v := ?_) (a' := ?_) (bA 41 383) rfl rfl (any_of HT_.out (by kernel_rfl)) (fun _ _ _ h => h) (Or.inl ⟨by rfl, ?_⟩) ?_ ?_
           rotate_left; (· intro w'; go_simp; with_reducible rfl); rotate_left; (· simp only [Act.put, q1_, q2_, q3_, i64_w, i32_w]; rfl)
           refine pure_ (i := 9) (N := some 24) (v := ?_) (a' := ?_) (bA 41 895) rfl rfl (any_of HT_.out (by kernel_rfl)) (fun _ _ _ h => h) (Or.inl ⟨by rfl, ?_⟩) ?_ ?_
           rotate_left; (· intro w'; go_simp; with_reducible rfl); rotate_left; (· simp only [Act.put, q1_, q2_, q3_, i64_w, i32_w]; rfl)
           refine pure_ (i := 10) (N := some 25) (v := ?_) (a' := ?_) (bA 41 1919) rfl rfl (any_of HT_.out (by kernel_rfl)) (fun _ _ _ h => h) (Or.inl ⟨by rfl, ?_⟩) ?_ ?_
           rotate_left; (· intro w'; go_simp; with_reducible rfl); rotate_left; (· simp only [Act.put, q1_, q2_, q3_, i64_w, i32_w]; rfl)
           refine pure_ (i := 11) (N := some 26) (v := ?_) (a' := ?_) (bA 41 3967) rfl rfl (any_of HT_.out (by kernel_rfl)) (fun _ _ _ h => h) (Or.inl ⟨by rfl, ?_⟩) ?_ ?_
           rotate_left; (· intro w'; go_simp; with_reducible rfl); rotate_left; (· simp only [Act.put, q1_, q2_, q3_, i64_w, i32_w]; rfl)
           refine take_ (i := 7) (N := some 22) (v := ?_) (a' := ?_) (bA 41 4095) rfl rfl (take_ofW HT_.out HW_.out (by kernel_rfl)) (fun _ _ _ h => h) (Or.inl ⟨by rfl, ?_⟩) hHeld ?_ ?_
           rotate_left; (· rintro w' ⟨s0, s1, s2, s3, s4, s5, s6, s7, s8, s9, s10, s11⟩; go_simp; with_reducible rfl); rotate_left; (· simp only [Act.put, q1_, q2_, q3_, i64_w, i32_w]; rfl)
           refine take_ (i := 12) (N := some 27) (v := ?_) (a' := ?_) (bA 41 8191) rfl rfl (take_ofW HT_.out HW_.out (by kernel_rfl)) (fun _ _ _ h => h) (Or.inl ⟨by rfl, ?_⟩) hHeld ?_ ?_
           rotate_left; (· rintro w' ⟨s0, s1, s2, s3, s4, s5, s6, s7, s8, s9, s10, s11⟩; go_simp; with_reducible rfl); rotate_left; (· simp only [Act.put, q1_, q2_, q3_, i64_w, i32_w]; rfl)
           refine pure_ (i := 13) (N := some 28) (v := ?_) (a' := ?_) (bA 41 16383) rfl rfl (any_of HT_.out (by kernel_rfl)) (fun _ _ _ h => h) (Or.inl ⟨by rfl, ?_⟩) ?_ ?_
           rotate_left; (· intro w'; go_simp; with_reducible rfl); rotate_left; (· simp only [Act.put, q1_, q2_, q3_, i64_w, i32_w]; rfl)
           refine pure_ (i := 14) (N := some 29) (v := ?_) (a' := ?_) (bA 41 32767) rfl rfl (any_of HT_.out (by kernel_rfl)) (fun _ _ _ h => h) (Or.inl ⟨by rfl, ?_⟩) ?_ ?_
           rotate_left; (· intro w'; go_simp; with_reducible rfl); rotate_left; (· simp only [Act.put, q1_, q2_, q3_, i64_w, i32_w]; rfl)
           refine pure_ (i := 15) (N := some 30) (v := ?_) (a' := ?_) (bA 41 65535) rfl rfl (any_of HT_.out (by kernel_rfl)) (fun _ _ _ h => h) (Or.inl ⟨by rfl, ?_⟩) ?_ ?_
           rotate_left; (· intro w'; go_simp; with_reducible rfl); rotate_left; (· simp only [Act.put, q1_, q2_, q3_, i64_w, i32_w]; rfl)
           refine pure_ (i := 16) (N := some 31) (v := ?_) (a' := ?_) (bA 41 131071) rfl rfl (any_of HT_.out (by kernel_rfl)) (fun _ _ _ h => h) (Or.inl ⟨by rfl, ?_⟩) ?_ ?_
           rotate_left; (· intro w'; go_simp; with_reducible rfl); rotate_left; (· simp only [Act.put, q1_, q2_, q3_, i64_w, i32_w]; rfl)
           refine pure_ (i := 17) (N := some 32) (v := ?_) (a' := ?_) (bA 41 262143) rfl rfl (any_of HT_.out (by kernel_rfl)) (fun _ _ _ h => h) (Or.inl ⟨by rfl, ?_⟩) ?_ ?_
           rotate_left; (· intro w'; go_simp; with_reducible rfl); rotate_left; (· simp only [Act.put, q1_, q2_, q3_, i64_w, i32_w]; rfl)
           refine pure_ (i := 18) (N := some 33) (v := ?_) (a' := ?_) (bA 41 524287) rfl rfl (any_of HT_.out (by kernel_rfl)) (fun _ _ _ h => h) (Or.inl ⟨by rfl, ?_⟩) ?_ ?_
           rotate_left; (· intro w'; go_simp; with_reducible rfl); rotate_left; (· simp only [Act.put, q1_, q2_, q3_, i64_w, i32_w]; rfl)
           refine pure_ (i := 19) (N := some 34) (v := ?_) (a' := ?_) (bA 41 1048575) rfl rfl (any_of HT_.out (by kernel_rfl)) (fun _ _ _ h => h) (Or.inl ⟨by rfl, ?_⟩) ?_ ?_
           rotate_left; (· intro w'; go_simp; with_reducible rfl); rotate_left; (· simp only [Act.put, q1_, q2_, q3_, i64_w, i32_w]; rfl)
           refine pure_ (i := 21) (N := some 36) (v := ?_) (a' := ?_) (bA 41 3145727) rfl rfl (any_of HT_.out (by kernel_rfl)) (fun _ _ _ h => h) (Or.inl ⟨by rfl, ?_⟩) ?_ ?_
           rotate_left; (· intro w'; go_simp; with_reducible rfl); rotate_left; (· simp only [Act.put, q1_, q2_, q3_, i64_w, i32_w]; rfl)
           refine pure_ (i := 22) (N := some 37) (v := ?_) (a' := ?_) (bA 41 7340031) rfl rfl (any_of HT_.out (by kernel_rfl)) (fun _ _ _ h => h) (Or.inl ⟨by rfl, ?_⟩) ?_ ?_
           rotate_left; (· intro w'; go_simp; with_reducible rfl); rotate_left; (· simp only [Act.put, q1_, q2_, q3_, i64_w, i32_w]; rfl)
           refine pure_ (i := 23) (N := some 38) (v := ?_) (a' := ?_) (bA 41 15728639) rfl rfl (any_of HT_.out (by kernel_rfl)) (fun _ _ _ h => h) (Or.inl ⟨by rfl, ?_⟩) ?_ ?_
           rotate_left; (· intro w'; go_simp; with_reducible rfl); rotate_left; (· simp only [Act.put, q1_, q2_, q3_, i64_w, i32_w]; rfl)
           refine pure_ (i := 24) (N := some 39) (v := ?_) (a' := ?_) (bA 41 32505855) rfl rfl (any_of HT_.out (by kernel_rfl)) (fun _ _ _ h => h) (Or.inl ⟨by rfl, ?_⟩) ?_ ?_
           rotate_left; (· intro w'; go_simp; with_reducible rfl); rotate_left; (· simp only [Act.put, q1_, q2_, q3_, i64_w, i32_w]; rfl)
           refine take_ (i := 20) (N := some 35) (v := ?_) (a' := ?_) (bA 41 33554431) rfl rfl (take_ofW HT_.out HW_.out (by kernel_rfl)) (fun _ _ _ h => h) (Or.inl ⟨by rfl, ?_⟩) hHeld ?_ ?_
           rotate_left; (· rintro w' ⟨s0, s1, s2, s3, s4, s5, s6, s7, s8, s9, s10, s11⟩; go_simp; with_reducible rfl); rotate_left; (· simp only [Act.put, q1_, q2_, q3_, i64_w, i32_w]; rfl)
           refine take_ (i := 25) (N := some 40) (v := ?_) (a' := ?_) (bA 41 67108863) rfl rfl (take_ofW HT_.out HW_.out (by kernel_rfl)) (fun _ _ _ h => h) (Or.inl ⟨by rfl, ?_⟩) hHeld ?_ ?_
           rotate_left; (· rintro w' ⟨s0, s1, s2, s3, s4, s5, s6, s7, s8, s9, s10, s11⟩; go_simp; with_reducible rfl); rotate_left; (· simp only [Act.put, q1_, q2_, q3_, i64_w, i32_w]; rfl)
           refine pure_ (i := 26) (N := some 41) (v := ?_) (a' := ?_) (bA 41 134217727) rfl rfl (any_of HT_.out (by kernel_rfl)) (fun _ _ _ h => h) (Or.inl ⟨by rfl, ?_⟩) ?_ ?_
           rotate_left; (· intro w'; go_simp; with_reducible rfl); rotate_left; (· simp only [Act.put, q1_, q2_, q3_, i64_w, i32_w]; rfl)
           refine pure_ (i := 27) (N := some 42) (v := ?_) (a' := ?_) (bA 41 268435455) rfl rfl (any_of HT_.out (by kernel_rfl)) (fun _ _ _ h => h) (Or.inl ⟨by rfl, ?_⟩) ?_ ?_
           rotate_left; (· intro w'; go_simp; with_reducible rfl); rotate_left; (· simp only [Act.put, q1_, q2_, q3_, i64_w, i32_w]; rfl)
           refine pure_ (i := 28) (N := some 43) (v := ?_) (a' := ?_) (bA 41 536870911) rfl rfl (any_of HT_.out (by kernel_rfl)) (fun _ _ _ h => h) (Or.inl ⟨by rfl, ?_⟩) ?_ ?_
           rotate_left; (· intro w'; go_simp; with_reducible rfl); rotate_left; (· simp only [Act.put, q1_, q2_, q3_, i64_w, i32_w]; rfl)
           refine pure_ (i := 29) (N := some 44) (v := undef) (a' := ?_) (bA 41 1073741823) rfl rfl (any_of HT_.out (by kernel_rfl)) (fun _ _ _ h => h) (Or.inr ⟨by rfl, rfl⟩) ?_ ?_
           rotate_left; (· simp only [Act.put, q1_, q2_, q3_, i64_w, i32_w]; rfl)
           refine pure_ (i := 30) (N := some 45) (v := undef) (a' := ?_) (bA 41 2147483647) rfl rfl (any_of HT_.out (by kernel_rfl)) (fun _ _ _ h => h) (Or.inr ⟨by rfl, rfl⟩) ?_ ?_
           rotate_left; (· simp only [Act.put, q1_, q2_, q3_, i64_w, i32_w]; rfl)
           refine pure_ (i := 31) (N := some 46) (v := undef) (a' := ?_) (bA 41 4294967295) rfl rfl (any_of HT_.out (by kernel_rfl)) (fun _ _ _ h => h) (Or.inr ⟨by rfl, rfl⟩) ?_ ?_
           rotate_left; (· simp only [Act.put, q1_, q2_, q3_, i64_w, i32_w]; rfl)
           refine pure_ (i := 32) (N := some 47) (v := undef) (a' := ?_) (bA 41 8589934591) rfl rfl (any_of HT_.out (by kernel_rfl)) (fun _ _ _ h => h) (Or.inr ⟨by rfl, rfl⟩) ?_ ?_
           rotate_left; (· simp only [Act.put, q1_, q2_, q3_, i64_w, i32_w]; rfl)
           refine pure_ (i := 33) (N := some 48) (v := undef) (a' := ?_) (bA 41 17179869183) rfl rfl (any_of HT_.out (by kernel_rfl)) (fun _ _ _ h => h) (Or.inr ⟨by rfl, rfl⟩) ?_ ?_
           rotate_left; (· simp only [Act.put, q1_, q2_, q3_, i64_w, i32_w]; rfl)
           refine pure_ (i := 34) (N := some 49) (v := undef) (a' := ?_) (bA 41 34359738367) rfl rfl (any_of HT_.out (by kernel_rfl)) (fun _ _ _ h => h) (Or.inr ⟨by rfl, rfl⟩) ?_ ?_
           rotate_left; (· simp only [Act.put, q1_, q2_, q3_, i64_w, i32_w]; rfl)
           refine pure_ (i := 35) (N := some 50) (v := undef) (a' := ?_) (bA 41 68719476735) rfl rfl (any_of HT_.out (by kernel_rfl)) (fun _ _ _ h => h) (Or.inr ⟨by rfl, rfl⟩) ?_ ?_
           rotate_left; (· simp only [Act.put, q1_, q2_, q3_, i64_w, i32_w]; rfl)
           refine pure_ (i := 36) (N := some 51) (v := undef) (a' := ?_) (bA 41 137438953471) rfl rfl (any_of HT_.out (by kernel_rfl)) (fun _ _ _ h => h) (Or.inr ⟨by rfl, rfl⟩) ?_ ?_
           rotate_left; (· simp only [Act.put, q1_, q2_, q3_, i64_w, i32_w]; rfl)
           refine pure_ (i := 37) (N := some 52) (v := undef) (a' := ?_) (bA 41 274877906943) rfl rfl (any_of HT_.out (by kernel_rfl)) (fun _ _ _ h => h) (Or.inr ⟨by rfl, rfl⟩) ?_ ?_
           rotate_left; (· simp only [Act.put, q1_, q2_, q3_, i64_w, i32_w]; rfl)
           refine pure_ (i := 38) (N := some 53) (v := undef) (a' := ?_) (bA 41 549755813887) rfl rfl (any_of HT_.out (by kernel_rfl)) (fun _ _ _ h => h) (Or.inr ⟨by rfl, rfl⟩) ?_ ?_
           rotate_left; (· simp only [Act.put, q1_, q2_, q3_, i64_w, i32_w]; rfl)
           refine pure_ (i := 39) (N := some 54) (v := undef) (a' := ?_) (bA 41 1099511627775) rfl rfl (any_of HT_.out (by kernel_rfl)) (fun _ _ _ h => h) (Or.inr ⟨by rfl, rfl⟩) ?_ ?_
           rotate_left; (· simp only [Act.put, q1_, q2_, q3_, i64_w, i32_w]; rfl)
           refine pure_ (i := 40) (N := some 55) (v := ?_) (a' := ?_) (bA 41 2199023255551) rfl rfl (any_of HT_.out (by kernel_rfl)) (fun _ _ _ h => h) (Or.inl ⟨by rfl, ?_⟩) ?_ ?_
           rotate_left; (· intro w'; go_simp; with_reducible rfl); rotate_left; (· simp only [Act.put, q1_, q2_, q3_, i64_w, i32_w]; rfl)
           refine done_ (done_of HT_.out (by kernel_rfl)) ?_
           have p228 : 0 ≤ (x4_1 : Int) := of_decide_eq_true (by first | (with_reducible assumption) | assumption)
           have q228 : x4_1 < (l0.length : Int) := of_decide_eq_true (by first | (with_reducible assumption) | assumption)
           obtain ⟨ad228, e228, hx228_0, hx228_1, hx228_2⟩ := at_T34 HR0.out x4_1 p228 q228
           obtain rfl : ad215 = ad228 := (by injection e228)
           replace hx228_0 := (HB.out.cell (World.block_lt_of_cell? w _ hx228_0)).trans hx228_0
           replace hx228_1 := (HB.out.cell (World.block_lt_of_cell? w _ hx228_1)).trans hx228_1
           replace hx228_2 := (HB.out.cell (World.block_lt_of_cell? w _ hx228_2)).trans hx228_2
           replace p228 := eq_true p228
           replace q228 := eq_true q228
           try go_wp2_with (first | ((with_reducible refine gate_builtin (b := .append) (xs := #[.tmp 71, .tmp 76]) rfl ?_); at_builtin; refine Kd.R_append k34 (w0 := w) w.heap.size rfl (.tmp 71) (.tmp 76) 22 34 (.agg #[(.int .i64 0), (.int .i64 0), (.string ⟨#[]⟩)]) 32 rfl Tryd.underlying22 info34 rfl (by decide) (by omega) (.slice (some ad217) x3_1.length co22) x3_1 (⟨(rd_T34 l0 x4_1).f0, (rd_T34 l0 x4_1).f1, (rd_T34 l0 x4_1).f2⟩ : S34) [.int .i64 ((rd_T34 l0 x4_1).f0), .int .i64 ((rd_T34 l0 x4_1).f1), .string ((rd_T34 l0 x4_1).f2)] (fun _ => True) (fun _ => False) rfl rfl ?aP (fun _ hk => hk.elim) ?aF ?aO ?aB ?aS ?aL ?_; (case aP => exact k34_mkM _ _ _ (⟨(rd_T34 l0 x4_1).f0, (rd_T34 l0 x4_1).f1, (rd_T34 l0 x4_1).f2⟩ : S34)); (case aB => exact (by repeat (first | (with_reducible first | exact HB.out | apply below_alloc | apply pw_below_drewN | apply below_drew1) | exact HB.out))); (case aF => exact (fun _ _ => trivial)); (case aO => exact (by (with_reducible repeat (first | apply Kd.R_alloc | apply Kd.R_drewN | apply Kd.R_drew)); exact HO_3.out)); (case aS => exact (below_size (by repeat (first | (with_reducible first | exact HB.out | apply below_alloc | apply pw_below_drewN | apply below_drew1) | exact HB.out)))); (case aL => have := LMc21.out; omega); intro v230 w24 ho hb hg hat; rw [← Ny229.out] at ho; have n0_ := Aside0.mk (hb); have n1_ := Aside0.mk (ho); clear HB; clear HO_3; have HB := n0_; have HO231 := n1_; clear n0_ n1_; clear ho hb hg hat))
           go_roundg k1
           case measure => have := HK1.out; omega
           case rel => exact ⟨(y229), (wrap64 (x4_1 + 1)), (by first | rfl | (simp; done) | (simp [*]; done)), H', ⟨by have := HK1.out; omega⟩, ⟨by (with_reducible repeat (first | apply Kd.R_alloc | apply Kd.R_drewN | apply Kd.R_drew)); exact HO231.out⟩, ⟨by repeat (first | (with_reducible first | exact HB.out | apply below_alloc | apply pw_below_drewN | apply below_drew1) | exact HB.out)⟩⟩
          ·rw [if_neg c21] at H
           exact absurd H (by simp)
        ·rw [if_neg c8] at H
         exact absurd H (by simp)
       ·rw [if_neg c7] at H
        exact absurd H (by simp)
      ·rw [if_neg c5] at H
       have c5b0 : (((rd_T34 l0 x4_1).f0) == ((rd_T34 l0 x4_1).f1)) = false := beq_eq_false_iff_ne.mpr c5
       have c5b1 : (((rd_T34 l0 x4_1).f0) != ((rd_T34 l0 x4_1).f1)) = true := bne_iff_ne.mpr c5
       by_cases c25 : x3_1.length < 4398046511104
       ·rw [if_pos c25] at H
        have LMc25 := Aside0.mk c25
        clear c25
        obtain ⟨y233, hy233⟩ : ∃ y_ : List (S34), y_ = (x3_1 ++ [(⟨(rd_T34 l0 x4_1).f0, (rd_T34 l0 x4_1).f1, (rd_T34 l0 x4_1).f2⟩ : S34)]) := ⟨_, rfl⟩
        replace H : (smockingref01_joined.l0 k1 l0 y233 (wrap64 (x4_1 + 1))) = some r := by first | (rw [hy233]; with_reducible exact H) | (have H2_ := (Option.bind_some _ _).symm.trans H; rw [hy233]; with_reducible exact H2_) | (have H2_ := (Option.bind_some _ _).symm.trans H; with_reducible exact H2_) | with_reducible exact H | (rw [hy233]; exact H) | exact H
        have Ny233 := Aside0.mk hy233
        clear hy233
        have H' := Aside0.mk H
        clear H
        obtain ⟨Ao26, co26, eo26⟩ := Kd.R_slice HO_3.out
        subst eo26
        try go_wp2
        have n0_ := Aside0.mk (Kd.R_drew HO_3.out)
        have n1_ := Aside0.mk (below_drew1 HB.out)
        clear HO_3
        clear HB
        have HO_3 := n0_
        have HB := n1_
        clear n0_ n1_
        have p215 : 0 ≤ (x4_1 : Int) := of_decide_eq_true (by first | (with_reducible assumption) | assumption)
        have q215 : x4_1 < (l0.length : Int) := of_decide_eq_true (by first | (with_reducible assumption) | assumption)
        obtain ⟨ad215, e215, hx215_0, hx215_1, hx215_2⟩ := at_T34 HR0.out x4_1 p215 q215
        have hw215_2 := hx215_2
        have hw215_1 := hx215_1
        have hw215_0 := hx215_0
        cases e215
        replace hx215_0 := (HB.out.cell (World.block_lt_of_cell? w _ hx215_0)).trans hx215_0
        replace hx215_1 := (HB.out.cell (World.block_lt_of_cell? w _ hx215_1)).trans hx215_1
        replace hx215_2 := (HB.out.cell (World.block_lt_of_cell? w _ hx215_2)).trans hx215_2
        replace p215 := eq_true p215
        replace q215 := eq_true q215
        have p216 : 0 ≤ (x4_1 : Int) := of_decide_eq_true (by first | (with_reducible assumption) | assumption)
        have q216 : x4_1 < (l0.length : Int) := of_decide_eq_true (by first | (with_reducible assumption) | assumption)
        obtain ⟨ad216, e216, hx216_0, hx216_1, hx216_2⟩ := at_T34 HR0.out x4_1 p216 q216
        have hw216_2 := hx216_2
        have hw216_1 := hx216_1
        have hw216_0 := hx216_0
        obtain rfl : ad215 = ad216 := (by injection e216)
        replace hx216_0 := (HB.out.cell (World.block_lt_of_cell? w _ hx216_0)).trans hx216_0
        replace hx216_1 := (HB.out.cell (World.block_lt_of_cell? w _ hx216_1)).trans hx216_1
        replace hx216_2 := (HB.out.cell (World.block_lt_of_cell? w _ hx216_2)).trans hx216_2
        replace p216 := eq_true p216
        replace q216 := eq_true q216
        refine start_ (n := 41) (S := fun w' => w'.cell? (ad215.add ((x4_1).toNat * 3)) = some (.int .i64 ((rd_T34 l0 x4_1).f0)) ∧ w'.cell? ⟨(ad215.add ((x4_1).toNat * 3)).block, (ad215.add ((x4_1).toNat * 3)).off + 1, none⟩ = some (.int .i64 ((rd_T34 l0 x4_1).f1)) ∧ w'.cell? ⟨(ad215.add ((x4_1).toNat * 3)).block, (ad215.add ((x4_1).toNat * 3)).off + 2, none⟩ = some (.string ((rd_T34 l0 x4_1).f2)) ∧ w'.cell? (ad215.add ((x4_1).toNat * 3)) = some (.int .i64 ((rd_T34 l0 x4_1).f0)) ∧ w'.cell? ⟨(ad215.add ((x4_1).toNat * 3)).block, (ad215.add ((x4_1).toNat * 3)).off + 1, none⟩ = some (.int .i64 ((rd_T34 l0 x4_1).f1)) ∧ w'.cell? ⟨(ad215.add ((x4_1).toNat * 3)).block, (ad215.add ((x4_1).toNat * 3)).off + 2, none⟩ = some (.string ((rd_T34 l0 x4_1).f2))) (ds := []) (bA 41 0) (by kernel_rfl) rfl rfl ⟨((HB.out.cell (World.block_lt_of_cell? w _ hw215_0)).trans hw215_0), ((HB.out.cell (World.block_lt_of_cell? w _ hw215_1)).trans hw215_1), ((HB.out.cell (World.block_lt_of_cell? w _ hw215_2)).trans hw215_2), ((HB.out.cell (World.block_lt_of_cell? w _ hw216_0)).trans hw216_0), ((HB.out.cell (World.block_lt_of_cell? w _ hw216_1)).trans hw216_1), ((HB.out.cell (World.block_lt_of_cell? w _ hw216_2)).trans hw216_2)⟩ (fun hHeld => ?_); refine with_tabW smockingref01_joined.tab6 smockingref01_joined.bits6 (fun HT_ HW_ => ?_)
        generalize wr.drew = w27 at HO_3 HB hx215_0 hx215_1 hx215_2 hx216_0 hx216_1 hx216_2 hHeld ⊢
        refine pure_ (i := 0) (N := some 15) (v := ?_) (a' := ?_) (bA 41 1) rfl rfl (any_of HT_.out (by kernel_rfl)) (fun _ _ _ h => h) (Or.inl ⟨by rfl, ?_⟩) ?_ ?_
        rotate_left; (· intro w'; go_simp; with_reducible rfl); rotate_left; (· simp only [Act.put, q1_, q2_, q3_, i64_w, i32_w]; rfl)
        refine pure_ (i := 1) (N := some 16) (v := ?_) (a' := ?_) (bA 41 3) rfl rfl (any_of HT_.out (by kernel_rfl)) (fun _ _ _ h => h) (Or.inl ⟨by rfl, ?_⟩) ?_ ?_
        rotate_left; (· intro w'; go_simp; with_reducible rfl); rotate_left; (· simp only [Act.put, q1_, q2_, q3_, i64_w, i32_w]; rfl)
        refine pure_ (i := 2) (N := some 17) (v := ?_) (a' := ?_) (bA 41 7) rfl rfl (any_of HT_.out (by kernel_rfl)) (fun _ _ _ h => h) (Or.inl ⟨by rfl, ?_⟩) ?_ ?_
        rotate_left; (· intro w'; go_simp; with_reducible rfl); rotate_left; (· simp only [Act.put, q1_, q2_, q3_, i64_w, i32_w]; rfl)
        refine pure_ (i := 3) (N := some 18) (v := ?_) (a' := ?_) (bA 41 15) rfl rfl (any_of HT_.out (by kernel_rfl)) (fun _ _ _ h => h) (Or.inl ⟨by rfl, ?_⟩) ?_ ?_
        rotate_left; (· intro w'; go_simp; with_reducible rfl); rotate_left; (· simp only [Act.put, q1_, q2_, q3_, i64_w, i32_w]; rfl)
        refine pure_ (i := 4) (N := some 19) (v := ?_) (a' := ?_) (bA 41 31) rfl rfl (any_of HT_.out (by kernel_rfl)) (fun _ _ _ h => h) (Or.inl ⟨by rfl, ?_⟩) ?_ ?_
        rotate_left; (· intro w'; go_simp; with_reducible rfl); rotate_left; (· simp only [Act.put, q1_, q2_, q3_, i64_w, i32_w]; rfl)
        refine pure_ (i := 5) (N := some 20) (v := ?_) (a' := ?_) (bA 41 63) rfl rfl (any_of HT_.out (by kernel_rfl)) (fun _ _ _ h => h) (Or.inl ⟨by rfl, ?_⟩) ?_ ?_
        rotate_left; (· intro w'; go_simp; with_reducible rfl); rotate_left; (· simp only [Act.put, q1_, q2_, q3_, i64_w, i32_w]; rfl)
        refine pure_ (i := 6) (N := some 21) (v := ?_) (a' := ?_) (bA 41 127) rfl rfl (any_of HT_.out (by kernel_rfl)) (fun _ _ _ h => h) (Or.inl ⟨by rfl, ?_⟩) ?_ ?_
        rotate_left; (· intro w'; go_simp; with_reducible rfl); rotate_left; (· simp only [Act.put, q1_, q2_, q3_, i64_w, i32_w]; rfl)
        refine pure_ (i := 8) (N := some 23) (v := ?_) (a' := ?_) (bA 41 383) rfl rfl (any_of HT_.out (by kernel_rfl)) (fun _ _ _ h => h) (Or.inl ⟨by rfl, ?_⟩) ?_ ?_
        rotate_left; (· intro w'; go_simp; with_reducible rfl); rotate_left; (· simp only [Act.put, q1_, q2_, q3_, i64_w, i32_w]; rfl)
        refine pure_ (i := 9) (N := some 24) (v := ?_) (a' := ?_) (bA 41 895) rfl rfl (any_of HT_.out (by kernel_rfl)) (fun _ _ _ h => h) (Or.inl ⟨by rfl, ?_⟩) ?_ ?_
        rotate_left; (· intro w'; go_simp; with_reducible rfl); rotate_left; (· simp only [Act.put, q1_, q2_, q3_, i64_w, i32_w]; rfl)
        refine pure_ (i := 10) (N := some 25) (v := ?_) (a' := ?_) (bA 41 1919) rfl rfl (any_of HT_.out (by kernel_rfl)) (fun _ _ _ h => h) (Or.inl ⟨by rfl, ?_⟩) ?_ ?_
        rotate_left; (· intro w'; go_simp; with_reducible rfl); rotate_left; (· simp only [Act.put, q1_, q2_, q3_, i64_w, i32_w]; rfl)
        refine pure_ (i := 11) (N := some 26) (v := ?_) (a' := ?_) (bA 41 3967) rfl rfl (any_of HT_.out (by kernel_rfl)) (fun _ _ _ h => h) (Or.inl ⟨by rfl, ?_⟩) ?_ ?_
        rotate_left; (· intro w'; go_simp; with_reducible rfl); rotate_left; (· simp only [Act.put, q1_, q2_, q3_, i64_w, i32_w]; rfl)
        refine take_ (i := 7) (N := some 22) (v := ?_) (a' := ?_) (bA 41 4095) rfl rfl (take_ofW HT_.out HW_.out (by kernel_rfl)) (fun _ _ _ h => h) (Or.inl ⟨by rfl, ?_⟩) hHeld ?_ ?_
        rotate_left; (· rintro w' ⟨s0, s1, s2, s3, s4, s5⟩; go_simp; with_reducible rfl); rotate_left; (· simp only [Act.put, q1_, q2_, q3_, i64_w, i32_w]; rfl)
        refine take_ (i := 12) (N := some 27) (v := ?_) (a' := ?_) (bA 41 8191) rfl rfl (take_ofW HT_.out HW_.out (by kernel_rfl)) (fun _ _ _ h => h) (Or.inl ⟨by rfl, ?_⟩) hHeld ?_ ?_
        rotate_left; (· rintro w' ⟨s0, s1, s2, s3, s4, s5⟩; go_simp; with_reducible rfl); rotate_left; (· simp only [Act.put, q1_, q2_, q3_, i64_w, i32_w]; rfl)
        refine pure_ (i := 13) (N := some 28) (v := ?_) (a' := ?_) (bA 41 16383) rfl rfl (any_of HT_.out (by kernel_rfl)) (fun _ _ _ h => h) (Or.inl ⟨by rfl, ?_⟩) ?_ ?_
        rotate_left; (· intro w'; go_simp; with_reducible rfl); rotate_left; (· simp only [Act.put, q1_, q2_, q3_, i64_w, i32_w]; rfl)
        refine pure_ (i := 14) (N := some 29) (v := ?_) (a' := ?_) (bA 41 32767) rfl rfl (any_of HT_.out (by kernel_rfl)) (fun _ _ _ h => h) (Or.inl ⟨by rfl, ?_⟩) ?_ ?_
        rotate_left; (· intro w'; go_simp; with_reducible rfl); rotate_left; (· simp only [Act.put, q1_, q2_, q3_, i64_w, i32_w]; rfl)
        refine pure_ (i := 15) (N := some 30) (v := ?_) (a' := ?_) (bA 41 65535) rfl rfl (any_of HT_.out (by kernel_rfl)) (fun _ _ _ h => h) (Or.inl ⟨by rfl, ?_⟩) ?_ ?_
        rotate_left; (· intro w'; go_simp; with_reducible rfl); rotate_left; (· simp only [Act.put, q1_, q2_, q3_, i64_w, i32_w]; rfl)
        refine pure_ (i := 16) (N := some 31) (v := undef) (a' := ?_) (bA 41 131071) rfl rfl (any_of HT_.out (by kernel_rfl)) (fun _ _ _ h => h) (Or.inr ⟨by rfl, rfl⟩) ?_ ?_
        rotate_left; (· simp only [Act.put, q1_, q2_, q3_, i64_w, i32_w]; rfl)
        refine pure_ (i := 17) (N := some 32) (v := undef) (a' := ?_) (bA 41 262143) rfl rfl (any_of HT_.out (by kernel_rfl)) (fun _ _ _ h => h) (Or.inr ⟨by rfl, rfl⟩) ?_ ?_
        rotate_left; (· simp only [Act.put, q1_, q2_, q3_, i64_w, i32_w]; rfl)
        refine pure_ (i := 18) (N := some 33) (v := undef) (a' := ?_) (bA 41 524287) rfl rfl (any_of HT_.out (by kernel_rfl)) (fun _ _ _ h => h) (Or.inr ⟨by rfl, rfl⟩) ?_ ?_
        rotate_left; (· simp only [Act.put, q1_, q2_, q3_, i64_w, i32_w]; rfl)
        refine pure_ (i := 19) (N := some 34) (v := undef) (a' := ?_) (bA 41 1048575) rfl rfl (any_of HT_.out (by kernel_rfl)) (fun _ _ _ h => h) (Or.inr ⟨by rfl, rfl⟩) ?_ ?_
        rotate_left; (· simp only [Act.put, q1_, q2_, q3_, i64_w, i32_w]; rfl)
        refine pure_ (i := 20) (N := some 35) (v := undef) (a' := ?_) (bA 41 2097151) rfl rfl (any_of HT_.out (by kernel_rfl)) (fun _ _ _ h => h) (Or.inr ⟨by rfl, rfl⟩) ?_ ?_
        rotate_left; (· simp only [Act.put, q1_, q2_, q3_, i64_w, i32_w]; rfl)
        refine pure_ (i := 21) (N := some 36) (v := undef) (a' := ?_) (bA 41 4194303) rfl rfl (any_of HT_.out (by kernel_rfl)) (fun _ _ _ h => h) (Or.inr ⟨by rfl, rfl⟩) ?_ ?_
        rotate_left; (· simp only [Act.put, q1_, q2_, q3_, i64_w, i32_w]; rfl)
        refine pure_ (i := 22) (N := some 37) (v := undef) (a' := ?_) (bA 41 8388607) rfl rfl (any_of HT_.out (by kernel_rfl)) (fun _ _ _ h => h) (Or.inr ⟨by rfl, rfl⟩) ?_ ?_
        rotate_left; (· simp only [Act.put, q1_, q2_, q3_, i64_w, i32_w]; rfl)
        refine pure_ (i := 23) (N := some 38) (v := undef) (a' := ?_) (bA 41 16777215) rfl rfl (any_of HT_.out (by kernel_rfl)) (fun _ _ _ h => h) (Or.inr ⟨by rfl, rfl⟩) ?_ ?_
        rotate_left; (· simp only [Act.put, q1_, q2_, q3_, i64_w, i32_w]; rfl)
        refine pure_ (i := 24) (N := some 39) (v := undef) (a' := ?_) (bA 41 33554431) rfl rfl (any_of HT_.out (by kernel_rfl)) (fun _ _ _ h => h) (Or.inr ⟨by rfl, rfl⟩) ?_ ?_
        rotate_left; (· simp only [Act.put, q1_, q2_, q3_, i64_w, i32_w]; rfl)
        refine pure_ (i := 25) (N := some 40) (v := undef) (a' := ?_) (bA 41 67108863) rfl rfl (any_of HT_.out (by kernel_rfl)) (fun _ _ _ h => h) (Or.inr ⟨by rfl, rfl⟩) ?_ ?_
        rotate_left; (· simp only [Act.put, q1_, q2_, q3_, i64_w, i32_w]; rfl)
        refine pure_ (i := 26) (N := some 41) (v := undef) (a' := ?_) (bA 41 134217727) rfl rfl (any_of HT_.out (by kernel_rfl)) (fun _ _ _ h => h) (Or.inr ⟨by rfl, rfl⟩) ?_ ?_
        rotate_left; (· simp only [Act.put, q1_, q2_, q3_, i64_w, i32_w]; rfl)
        refine pure_ (i := 27) (N := some 42) (v := ?_) (a' := ?_) (bA 41 268435455) rfl rfl (any_of HT_.out (by kernel_rfl)) (fun _ _ _ h => h) (Or.inl ⟨by rfl, ?_⟩) ?_ ?_
        rotate_left; (· intro w'; go_simp; with_reducible rfl); rotate_left; (· simp only [Act.put, q1_, q2_, q3_, i64_w, i32_w]; rfl)
        refine pure_ (i := 28) (N := some 43) (v := ?_) (a' := ?_) (bA 41 536870911) rfl rfl (any_of HT_.out (by kernel_rfl)) (fun _ _ _ h => h) (Or.inl ⟨by rfl, ?_⟩) ?_ ?_
        rotate_left; (· intro w'; go_simp; with_reducible rfl); rotate_left; (· simp only [Act.put, q1_, q2_, q3_, i64_w, i32_w]; rfl)
        refine pure_ (i := 29) (N := some 44) (v := undef) (a' := ?_) (bA 41 1073741823) rfl rfl (any_of HT_.out (by kernel_rfl)) (fun _ _ _ h => h) (Or.inr ⟨by rfl, rfl⟩) ?_ ?_
        rotate_left; (· simp only [Act.put, q1_, q2_, q3_, i64_w, i32_w]; rfl)
        refine pure_ (i := 30) (N := some 45) (v := undef) (a' := ?_) (bA 41 2147483647) rfl rfl (any_of HT_.out (by kernel_rfl)) (fun _ _ _ h => h) (Or.inr ⟨by rfl, rfl⟩) ?_ ?_
        rotate_left; (· simp only [Act.put, q1_, q2_, q3_, i64_w, i32_w]; rfl)
        refine pure_ (i := 31) (N := some 46) (v := undef) (a' := ?_) (bA 41 4294967295) rfl rfl (any_of HT_.out (by kernel_rfl)) (fun _ _ _ h => h) (Or.inr ⟨by rfl, rfl⟩) ?_ ?_
        rotate_left; (· simp only [Act.put, q1_, q2_, q3_, i64_w, i32_w]; rfl)
        refine pure_ (i := 32) (N := some 47) (v := undef) (a' := ?_) (bA 41 8589934591) rfl rfl (any_of HT_.out (by kernel_rfl)) (fun _ _ _ h => h) (Or.inr ⟨by rfl, rfl⟩) ?_ ?_
        rotate_left; (· simp only [Act.put, q1_, q2_, q3_, i64_w, i32_w]; rfl)
        refine pure_ (i := 33) (N := some 48) (v := undef) (a' := ?_) (bA 41 17179869183) rfl rfl (any_of HT_.out (by kernel_rfl)) (fun _ _ _ h => h) (Or.inr ⟨by rfl, rfl⟩) ?_ ?_
        rotate_left; (· simp only [Act.put, q1_, q2_, q3_, i64_w, i32_w]; rfl)
        refine pure_ (i := 34) (N := some 49) (v := undef) (a' := ?_) (bA 41 34359738367) rfl rfl (any_of HT_.out (by kernel_rfl)) (fun _ _ _ h => h) (Or.inr ⟨by rfl, rfl⟩) ?_ ?_
        rotate_left; (· simp only [Act.put, q1_, q2_, q3_, i64_w, i32_w]; rfl)
        refine pure_ (i := 35) (N := some 50) (v := undef) (a' := ?_) (bA 41 68719476735) rfl rfl (any_of HT_.out (by kernel_rfl)) (fun _ _ _ h => h) (Or.inr ⟨by rfl, rfl⟩) ?_ ?_
        rotate_left; (· simp only [Act.put, q1_, q2_, q3_, i64_w, i32_w]; rfl)
        refine pure_ (i := 36) (N := some 51) (v := undef) (a' := ?_) (bA 41 137438953471) rfl rfl (any_of HT_.out (by kernel_rfl)) (fun _ _ _ h => h) (Or.inr ⟨by rfl, rfl⟩) ?_ ?_
        rotate_left; (· simp only [Act.put, q1_, q2_, q3_, i64_w, i32_w]; rfl)
        refine pure_ (i := 37) (N := some 52) (v := undef) (a' := ?_) (bA 41 274877906943) rfl rfl (any_of HT_.out (by kernel_rfl)) (fun _ _ _ h => h) (Or.inr ⟨by rfl, rfl⟩) ?_ ?_
        rotate_left; (· simp only [Act.put, q1_, q2_, q3_, i64_w, i32_w]; rfl)
        refine pure_ (i := 38) (N := some 53) (v := undef) (a' := ?_) (bA 41 549755813887) rfl rfl (any_of HT_.out (by kernel_rfl)) (fun _ _ _ h => h) (Or.inr ⟨by rfl, rfl⟩) ?_ ?_
        rotate_left; (· simp only [Act.put, q1_, q2_, q3_, i64_w, i32_w]; rfl)
        refine pure_ (i := 39) (N := some 54) (v := undef) (a' := ?_) (bA 41 1099511627775) rfl rfl (any_of HT_.out (by kernel_rfl)) (fun _ _ _ h => h) (Or.inr ⟨by rfl, rfl⟩) ?_ ?_
        rotate_left; (· simp only [Act.put, q1_, q2_, q3_, i64_w, i32_w]; rfl)
        refine pure_ (i := 40) (N := some 55) (v := ?_) (a' := ?_) (bA 41 2199023255551) rfl rfl (any_of HT_.out (by kernel_rfl)) (fun _ _ _ h => h) (Or.inl ⟨by rfl, ?_⟩) ?_ ?_
        rotate_left; (· intro w'; go_simp; with_reducible rfl); rotate_left; (· simp only [Act.put, q1_, q2_, q3_, i64_w, i32_w]; rfl)
        refine done_ (done_of HT_.out (by kernel_rfl)) ?_
        have p232 : 0 ≤ (x4_1 : Int) := of_decide_eq_true (by first | (with_reducible assumption) | assumption)
        have q232 : x4_1 < (l0.length : Int) := of_decide_eq_true (by first | (with_reducible assumption) | assumption)
        obtain ⟨ad232, e232, hx232_0, hx232_1, hx232_2⟩ := at_T34 HR0.out x4_1 p232 q232
        obtain rfl : ad215 = ad232 := (by injection e232)
        replace hx232_0 := (HB.out.cell (World.block_lt_of_cell? w _ hx232_0)).trans hx232_0
        replace hx232_1 := (HB.out.cell (World.block_lt_of_cell? w _ hx232_1)).trans hx232_1
        replace hx232_2 := (HB.out.cell (World.block_lt_of_cell? w _ hx232_2)).trans hx232_2
        replace p232 := eq_true p232
        replace q232 := eq_true q232
        try go_wp2_with (first | ((with_reducible refine gate_builtin (b := .append) (xs := #[.tmp 71, .tmp 76]) rfl ?_); at_builtin; refine Kd.R_append k34 (w0 := w) w.heap.size rfl (.tmp 71) (.tmp 76) 22 34 (.agg #[(.int .i64 0), (.int .i64 0), (.string ⟨#[]⟩)]) 32 rfl Tryd.underlying22 info34 rfl (by decide) (by omega) (.slice Ao26 x3_1.length co26) x3_1 (⟨(rd_T34 l0 x4_1).f0, (rd_T34 l0 x4_1).f1, (rd_T34 l0 x4_1).f2⟩ : S34) [.int .i64 ((rd_T34 l0 x4_1).f0), .int .i64 ((rd_T34 l0 x4_1).f1), .string ((rd_T34 l0 x4_1).f2)] (fun _ => True) (fun _ => False) rfl rfl ?aP (fun _ hk => hk.elim) ?aF ?aO ?aB ?aS ?aL ?_; (case aP => exact k34_mkM _ _ _ (⟨(rd_T34 l0 x4_1).f0, (rd_T34 l0 x4_1).f1, (rd_T34 l0 x4_1).f2⟩ : S34)); (case aB => exact (by repeat (first | (with_reducible first | exact HB.out | apply below_alloc | apply pw_below_drewN | apply below_drew1) | exact HB.out))); (case aF => exact (fun _ _ => trivial)); (case aO => exact (by (with_reducible repeat (first | apply Kd.R_alloc | apply Kd.R_drewN | apply Kd.R_drew)); exact HO_3.out)); (case aS => exact (below_size (by repeat (first | (with_reducible first | exact HB.out | apply below_alloc | apply pw_below_drewN | apply below_drew1) | exact HB.out)))); (case aL => have := LMc25.out; omega); intro v234 w28 ho hb hg hat; rw [← Ny233.out] at ho; have n0_ := Aside0.mk (hb); have n1_ := Aside0.mk (ho); clear HB; clear HO_3; have HB := n0_; have HO235 := n1_; clear n0_ n1_; clear ho hb hg hat))
        go_roundg k1
        case measure => have := HK1.out; omega
        case rel => exact ⟨(y233), (wrap64 (x4_1 + 1)), (by first | rfl | (simp; done) | (simp [*]; done)), H', ⟨by have := HK1.out; omega⟩, ⟨by (with_reducible repeat (first | apply Kd.R_alloc | apply Kd.R_drewN | apply Kd.R_drew)); exact HO235.out⟩, ⟨by repeat (first | (with_reducible first | exact HB.out | apply below_alloc | apply pw_below_drewN | apply below_drew1) | exact HB.out)⟩⟩
       ·rw [if_neg c25] at H
        exact absurd H (by simp)
     ·rw [if_neg c4] at H
      exact absurd H (by simp)
    ·rw [if_neg c3] at H
     have c3b0 : decide (0 ≤ (wrap64 ((x3_1.length : Int) - 1))) = false := decide_eq_false c3
     clear c3
     by_cases c29 : 0 ≤ x4_1
     ·rw [if_pos c29] at H
      have c29b0 : decide (0 ≤ x4_1) = true := decide_eq_true c29
      clear c29
      by_cases c30 : x3_1.length < 4398046511104
      ·rw [if_pos c30] at H
       have LMc30 := Aside0.mk c30
       clear c30
       obtain ⟨y237, hy237⟩ : ∃ y_ : List (S34), y_ = (x3_1 ++ [(⟨(rd_T34 l0 x4_1).f0, (rd_T34 l0 x4_1).f1, (rd_T34 l0 x4_1).f2⟩ : S34)]) := ⟨_, rfl⟩
       replace H : (smockingref01_joined.l0 k1 l0 y237 (wrap64 (x4_1 + 1))) = some r := by first | (rw [hy237]; with_reducible exact H) | (have H2_ := (Option.bind_some _ _).symm.trans H; rw [hy237]; with_reducible exact H2_) | (have H2_ := (Option.bind_some _ _).symm.trans H; with_reducible exact H2_) | with_reducible exact H | (rw [hy237]; exact H) | exact H
       have Ny237 := Aside0.mk hy237
       clear hy237
       have H' := Aside0.mk H
       clear H
       obtain ⟨Ao31, co31, eo31⟩ := Kd.R_slice HO_3.out
       subst eo31
       try go_wp2
       have n0_ := Aside0.mk (Kd.R_drew HO_3.out)
       have n1_ := Aside0.mk (below_drew1 HB.out)
       clear HO_3
       clear HB
       have HO_3 := n0_
       have HB := n1_
       clear n0_ n1_
       refine start_ (n := 41) (S := fun w' => True) (ds := []) (bA 41 0) (by kernel_rfl) rfl rfl trivial (fun hHeld => ?_); refine with_tabW smockingref01_joined.tab6 smockingref01_joined.bits6 (fun HT_ HW_ => ?_)
       generalize wr.drew = w32 at HO_3 HB hHeld ⊢
       refine pure_ (i := 0) (N := some 15) (v := ?_) (a' := ?_) (bA 41 1) rfl rfl (any_of HT_.out (by kernel_rfl)) (fun _ _ _ h => h) (Or.inl ⟨by rfl, ?_⟩) ?_ ?_
       rotate_left; (· intro w'; go_simp; with_reducible rfl); rotate_left; (· simp only [Act.put, q1_, q2_, q3_, i64_w, i32_w]; rfl)
       refine pure_ (i := 1) (N := some 16) (v := ?_) (a' := ?_) (bA 41 3) rfl rfl (any_of HT_.out (by kernel_rfl)) (fun _ _ _ h => h) (Or.inl ⟨by rfl, ?_⟩) ?_ ?_
       rotate_left; (· intro w'; go_simp; with_reducible rfl); rotate_left; (· simp only [Act.put, q1_, q2_, q3_, i64_w, i32_w]; rfl)
       refine pure_ (i := 2) (N := some 17) (v := ?_) (a' := ?_) (bA 41 7) rfl rfl (any_of HT_.out (by kernel_rfl)) (fun _ _ _ h => h) (Or.inl ⟨by rfl, ?_⟩) ?_ ?_
       rotate_left; (· intro w'; go_simp; with_reducible rfl); rotate_left; (· simp only [Act.put, q1_, q2_, q3_, i64_w, i32_w]; rfl)
       refine pure_ (i := 3) (N := some 18) (v := undef) (a' := ?_) (bA 41 15) rfl rfl (any_of HT_.out (by kernel_rfl)) (fun _ _ _ h => h) (Or.inr ⟨by rfl, rfl⟩) ?_ ?_
       rotate_left; (· simp only [Act.put, q1_, q2_, q3_, i64_w, i32_w]; rfl)
       refine pure_ (i := 4) (N := some 19) (v := undef) (a' := ?_) (bA 41 31) rfl rfl (any_of HT_.out (by kernel_rfl)) (fun _ _ _ h => h) (Or.inr ⟨by rfl, rfl⟩) ?_ ?_
       rotate_left; (· simp only [Act.put, q1_, q2_, q3_, i64_w, i32_w]; rfl)
       refine pure_ (i := 5) (N := some 20) (v := undef) (a' := ?_) (bA 41 63) rfl rfl (any_of HT_.out (by kernel_rfl)) (fun _ _ _ h => h) (Or.inr ⟨by rfl, rfl⟩) ?_ ?_
       rotate_left; (· simp only [Act.put, q1_, q2_, q3_, i64_w, i32_w]; rfl)
       refine pure_ (i := 6) (N := some 21) (v := undef) (a' := ?_) (bA 41 127) rfl rfl (any_of HT_.out (by kernel_rfl)) (fun _ _ _ h => h) (Or.inr ⟨by rfl, rfl⟩) ?_ ?_
       rotate_left; (· simp only [Act.put, q1_, q2_, q3_, i64_w, i32_w]; rfl)
       refine pure_ (i := 7) (N := some 22) (v := undef) (a' := ?_) (bA 41 255) rfl rfl (any_of HT_.out (by kernel_rfl)) (fun _ _ _ h => h) (Or.inr ⟨by rfl, rfl⟩) ?_ ?_
       rotate_left; (· simp only [Act.put, q1_, q2_, q3_, i64_w, i32_w]; rfl)
       refine pure_ (i := 8) (N := some 23) (v := undef) (a' := ?_) (bA 41 511) rfl rfl (any_of HT_.out (by kernel_rfl)) (fun _ _ _ h => h) (Or.inr ⟨by rfl, rfl⟩) ?_ ?_
       rotate_left; (· simp only [Act.put, q1_, q2_, q3_, i64_w, i32_w]; rfl)
       refine pure_ (i := 9) (N := some 24) (v := undef) (a' := ?_) (bA 41 1023) rfl rfl (any_of HT_.out (by kernel_rfl)) (fun _ _ _ h => h) (Or.inr ⟨by rfl, rfl⟩) ?_ ?_
       rotate_left; (· simp only [Act.put, q1_, q2_, q3_, i64_w, i32_w]; rfl)
       refine pure_ (i := 10) (N := some 25) (v := undef) (a' := ?_) (bA 41 2047) rfl rfl (any_of HT_.out (by kernel_rfl)) (fun _ _ _ h => h) (Or.inr ⟨by rfl, rfl⟩) ?_ ?_
       rotate_left; (· simp only [Act.put, q1_, q2_, q3_, i64_w, i32_w]; rfl)
       refine pure_ (i := 11) (N := some 26) (v := undef) (a' := ?_) (bA 41 4095) rfl rfl (any_of HT_.out (by kernel_rfl)) (fun _ _ _ h => h) (Or.inr ⟨by rfl, rfl⟩) ?_ ?_
       rotate_left; (· simp only [Act.put, q1_, q2_, q3_, i64_w, i32_w]; rfl)
       refine pure_ (i := 12) (N := some 27) (v := undef) (a' := ?_) (bA 41 8191) rfl rfl (any_of HT_.out (by kernel_rfl)) (fun _ _ _ h => h) (Or.inr ⟨by rfl, rfl⟩) ?_ ?_
       rotate_left; (· simp only [Act.put, q1_, q2_, q3_, i64_w, i32_w]; rfl)
       refine pure_ (i := 13) (N := some 28) (v := undef) (a' := ?_) (bA 41 16383) rfl rfl (any_of HT_.out (by kernel_rfl)) (fun _ _ _ h => h) (Or.inr ⟨by rfl, rfl⟩) ?_ ?_
       rotate_left; (· simp only [Act.put, q1_, q2_, q3_, i64_w, i32_w]; rfl)
       refine pure_ (i := 14) (N := some 29) (v := ?_) (a' := ?_) (bA 41 32767) rfl rfl (any_of HT_.out (by kernel_rfl)) (fun _ _ _ h => h) (Or.inl ⟨by rfl, ?_⟩) ?_ ?_
       rotate_left; (· intro w'; go_simp; with_reducible rfl); rotate_left; (· simp only [Act.put, q1_, q2_, q3_, i64_w, i32_w]; rfl)
       refine pure_ (i := 15) (N := some 30) (v := ?_) (a' := ?_) (bA 41 65535) rfl rfl (any_of HT_.out (by kernel_rfl)) (fun _ _ _ h => h) (Or.inl ⟨by rfl, ?_⟩) ?_ ?_
       rotate_left; (· intro w'; go_simp; with_reducible rfl); rotate_left; (· simp only [Act.put, q1_, q2_, q3_, i64_w, i32_w]; rfl)
       refine pure_ (i := 16) (N := some 31) (v := undef) (a' := ?_) (bA 41 131071) rfl rfl (any_of HT_.out (by kernel_rfl)) (fun _ _ _ h => h) (Or.inr ⟨by rfl, rfl⟩) ?_ ?_
       rotate_left; (· simp only [Act.put, q1_, q2_, q3_, i64_w, i32_w]; rfl)
       refine pure_ (i := 17) (N := some 32) (v := undef) (a' := ?_) (bA 41 262143) rfl rfl (any_of HT_.out (by kernel_rfl)) (fun _ _ _ h => h) (Or.inr ⟨by rfl, rfl⟩) ?_ ?_
       rotate_left; (· simp only [Act.put, q1_, q2_, q3_, i64_w, i32_w]; rfl)
       refine pure_ (i := 18) (N := some 33) (v := undef) (a' := ?_) (bA 41 524287) rfl rfl (any_of HT_.out (by kernel_rfl)) (fun _ _ _ h => h) (Or.inr ⟨by rfl, rfl⟩) ?_ ?_
       rotate_left; (· simp only [Act.put, q1_, q2_, q3_, i64_w, i32_w]; rfl)
       refine pure_ (i := 19) (N := some 34) (v := undef) (a' := ?_) (bA 41 1048575) rfl rfl (any_of HT_.out (by kernel_rfl)) (fun _ _ _ h => h) (Or.inr ⟨by rfl, rfl⟩) ?_ ?_
       rotate_left; (· simp only [Act.put, q1_, q2_, q3_, i64_w, i32_w]; rfl)
       refine pure_ (i := 20) (N := some 35) (v := undef) (a' := ?_) (bA 41 2097151) rfl rfl (any_of HT_.out (by kernel_rfl)) (fun _ _ _ h => h) (Or.inr ⟨by rfl, rfl⟩) ?_ ?_
       rotate_left; (· simp only [Act.put, q1_, q2_, q3_, i64_w, i32_w]; rfl)
       refine pure_ (i := 21) (N := some 36) (v := undef) (a' := ?_) (bA 41 4194303) rfl rfl (any_of HT_.out (by kernel_rfl)) (fun _ _ _ h => h) (Or.inr ⟨by rfl, rfl⟩) ?_ ?_
       rotate_left; (· simp only [Act.put, q1_, q2_, q3_, i64_w, i32_w]; rfl)
       refine pure_ (i := 22) (N := some 37) (v := undef) (a' := ?_) (bA 41 8388607) rfl rfl (any_of HT_.out (by kernel_rfl)) (fun _ _ _ h => h) (Or.inr ⟨by rfl, rfl⟩) ?_ ?_
       rotate_left; (· simp only [Act.put, q1_, q2_, q3_, i64_w, i32_w]; rfl)
       refine pure_ (i := 23) (N := some 38) (v := undef) (a' := ?_) (bA 41 16777215) rfl rfl (any_of HT_.out (by kernel_rfl)) (fun _ _ _ h => h) (Or.inr ⟨by rfl, rfl⟩) ?_ ?_
       rotate_left; (· simp only [Act.put, q1_, q2_, q3_, i64_w, i32_w]; rfl)
       refine pure_ (i := 24) (N := some 39) (v := undef) (a' := ?_) (bA 41 33554431) rfl rfl (any_of HT_.out (by kernel_rfl)) (fun _ _ _ h => h) (Or.inr ⟨by rfl, rfl⟩) ?_ ?_
       rotate_left; (· simp only [Act.put, q1_, q2_, q3_, i64_w, i32_w]; rfl)
       refine pure_ (i := 25) (N := some 40) (v := undef) (a' := ?_) (bA 41 67108863) rfl rfl (any_of HT_.out (by kernel_rfl)) (fun _ _ _ h => h) (Or.inr ⟨by rfl, rfl⟩) ?_ ?_
       rotate_left; (· simp only [Act.put, q1_, q2_, q3_, i64_w, i32_w]; rfl)
       refine pure_ (i := 26) (N := some 41) (v := undef) (a' := ?_) (bA 41 134217727) rfl rfl (any_of HT_.out (by kernel_rfl)) (fun _ _ _ h => h) (Or.inr ⟨by rfl, rfl⟩) ?_ ?_
       rotate_left; (· simp only [Act.put, q1_, q2_, q3_, i64_w, i32_w]; rfl)
       refine pure_ (i := 27) (N := some 42) (v := ?_) (a' := ?_) (bA 41 268435455) rfl rfl (any_of HT_.out (by kernel_rfl)) (fun _ _ _ h => h) (Or.inl ⟨by rfl, ?_⟩) ?_ ?_
       rotate_left; (· intro w'; go_simp; with_reducible rfl); rotate_left; (· simp only [Act.put, q1_, q2_, q3_, i64_w, i32_w]; rfl)
       refine pure_ (i := 28) (N := some 43) (v := ?_) (a' := ?_) (bA 41 536870911) rfl rfl (any_of HT_.out (by kernel_rfl)) (fun _ _ _ h => h) (Or.inl ⟨by rfl, ?_⟩) ?_ ?_
       rotate_left; (· intro w'; go_simp; with_reducible rfl); rotate_left; (· simp only [Act.put, q1_, q2_, q3_, i64_w, i32_w]; rfl)
       refine pure_ (i := 29) (N := some 44) (v := undef) (a' := ?_) (bA 41 1073741823) rfl rfl (any_of HT_.out (by kernel_rfl)) (fun _ _ _ h => h) (Or.inr ⟨by rfl, rfl⟩) ?_ ?_
       rotate_left; (· simp only [Act.put, q1_, q2_, q3_, i64_w, i32_w]; rfl)
       refine pure_ (i := 30) (N := some 45) (v := undef) (a' := ?_) (bA 41 2147483647) rfl rfl (any_of HT_.out (by kernel_rfl)) (fun _ _ _ h => h) (Or.inr ⟨by rfl, rfl⟩) ?_ ?_
       rotate_left; (· simp only [Act.put, q1_, q2_, q3_, i64_w, i32_w]; rfl)
       refine pure_ (i := 31) (N := some 46) (v := undef) (a' := ?_) (bA 41 4294967295) rfl rfl (any_of HT_.out (by kernel_rfl)) (fun _ _ _ h => h) (Or.inr ⟨by rfl, rfl⟩) ?_ ?_
       rotate_left; (· simp only [Act.put, q1_, q2_, q3_, i64_w, i32_w]; rfl)
       refine pure_ (i := 32) (N := some 47) (v := undef) (a' := ?_) (bA 41 8589934591) rfl rfl (any_of HT_.out (by kernel_rfl)) (fun _ _ _ h => h) (Or.inr ⟨by rfl, rfl⟩) ?_ ?_
       rotate_left; (· simp only [Act.put, q1_, q2_, q3_, i64_w, i32_w]; rfl)
       refine pure_ (i := 33) (N := some 48) (v := undef) (a' := ?_) (bA 41 17179869183) rfl rfl (any_of HT_.out (by kernel_rfl)) (fun _ _ _ h => h) (Or.inr ⟨by rfl, rfl⟩) ?_ ?_
       rotate_left; (· simp only [Act.put, q1_, q2_, q3_, i64_w, i32_w]; rfl)
       refine pure_ (i := 34) (N := some 49) (v := undef) (a' := ?_) (bA 41 34359738367) rfl rfl (any_of HT_.out (by kernel_rfl)) (fun _ _ _ h => h) (Or.inr ⟨by rfl, rfl⟩) ?_ ?_
       rotate_left; (· simp only [Act.put, q1_, q2_, q3_, i64_w, i32_w]; rfl)
       refine pure_ (i := 35) (N := some 50) (v := undef) (a' := ?_) (bA 41 68719476735) rfl rfl (any_of HT_.out (by kernel_rfl)) (fun _ _ _ h => h) (Or.inr ⟨by rfl, rfl⟩) ?_ ?_
       rotate_left; (· simp only [Act.put, q1_, q2_, q3_, i64_w, i32_w]; rfl)
       refine pure_ (i := 36) (N := some 51) (v := undef) (a' := ?_) (bA 41 137438953471) rfl rfl (any_of HT_.out (by kernel_rfl)) (fun _ _ _ h => h) (Or.inr ⟨by rfl, rfl⟩) ?_ ?_
       rotate_left; (· simp only [Act.put, q1_, q2_, q3_, i64_w, i32_w]; rfl)
       refine pure_ (i := 37) (N := some 52) (v := undef) (a' := ?_) (bA 41 274877906943) rfl rfl (any_of HT_.out (by kernel_rfl)) (fun _ _ _ h => h) (Or.inr ⟨by rfl, rfl⟩) ?_ ?_
       rotate_left; (· simp only [Act.put, q1_, q2_, q3_, i64_w, i32_w]; rfl)
       refine pure_ (i := 38) (N := some 53) (v := undef) (a' := ?_) (bA 41 549755813887) rfl rfl (any_of HT_.out (by kernel_rfl)) (fun _ _ _ h => h) (Or.inr ⟨by rfl, rfl⟩) ?_ ?_
       rotate_left; (· simp only [Act.put, q1_, q2_, q3_, i64_w, i32_w]; rfl)
       refine pure_ (i := 39) (N := some 54) (v := undef) (a' := ?_) (bA 41 1099511627775) rfl rfl (any_of HT_.out (by kernel_rfl)) (fun _ _ _ h => h) (Or.inr ⟨by rfl, rfl⟩) ?_ ?_
       rotate_left; (· simp only [Act.put, q1_, q2_, q3_, i64_w, i32_w]; rfl)
       refine pure_ (i := 40) (N := some 55) (v := ?_) (a' := ?_) (bA 41 2199023255551) rfl rfl (any_of HT_.out (by kernel_rfl)) (fun _ _ _ h => h) (Or.inl ⟨by rfl, ?_⟩) ?_ ?_
       rotate_left; (· intro w'; go_simp; with_reducible rfl); rotate_left; (· simp only [Act.put, q1_, q2_, q3_, i64_w, i32_w]; rfl)
       refine done_ (done_of HT_.out (by kernel_rfl)) ?_
       have p236 : 0 ≤ (x4_1 : Int) := of_decide_eq_true (by first | (with_reducible assumption) | assumption)
       have q236 : x4_1 < (l0.length : Int) := of_decide_eq_true (by first | (with_reducible assumption) | assumption)
       obtain ⟨ad236, e236, hx236_0, hx236_1, hx236_2⟩ := at_T34 HR0.out x4_1 p236 q236
       cases e236
       replace hx236_0 := (HB.out.cell (World.block_lt_of_cell? w _ hx236_0)).trans hx236_0
       replace hx236_1 := (HB.out.cell (World.block_lt_of_cell? w _ hx236_1)).trans hx236_1
       replace hx236_2 := (HB.out.cell (World.block_lt_of_cell? w _ hx236_2)).trans hx236_2
       replace p236 := eq_true p236
       replace q236 := eq_true q236
       try go_wp2_with (first | ((with_reducible refine gate_builtin (b := .append) (xs := #[.tmp 71, .tmp 76]) rfl ?_); at_builtin; refine Kd.R_append k34 (w0 := w) w.heap.size rfl (.tmp 71) (.tmp 76) 22 34 (.agg #[(.int .i64 0), (.int .i64 0), (.string ⟨#[]⟩)]) 32 rfl Tryd.underlying22 info34 rfl (by decide) (by omega) (.slice Ao31 x3_1.length co31) x3_1 (⟨(rd_T34 l0 x4_1).f0, (rd_T34 l0 x4_1).f1, (rd_T34 l0 x4_1).f2⟩ : S34) [.int .i64 ((rd_T34 l0 x4_1).f0), .int .i64 ((rd_T34 l0 x4_1).f1), .string ((rd_T34 l0 x4_1).f2)] (fun _ => True) (fun _ => False) rfl rfl ?aP (fun _ hk => hk.elim) ?aF ?aO ?aB ?aS ?aL ?_; (case aP => exact k34_mkM _ _ _ (⟨(rd_T34 l0 x4_1).f0, (rd_T34 l0 x4_1).f1, (rd_T34 l0 x4_1).f2⟩ : S34)); (case aB => exact (by repeat (first | (with_reducible first | exact HB.out | apply below_alloc | apply pw_below_drewN | apply below_drew1) | exact HB.out))); (case aF => exact (fun _ _ => trivial)); (case aO => exact (by (with_reducible repeat (first | apply Kd.R_alloc | apply Kd.R_drewN | apply Kd.R_drew)); exact HO_3.out)); (case aS => exact (below_size (by repeat (first | (with_reducible first | exact HB.out | apply below_alloc | apply pw_below_drewN | apply below_drew1) | exact HB.out)))); (case aL => have := LMc30.out; omega); intro v238 w33 ho hb hg hat; rw [← Ny237.out] at ho; have n0_ := Aside0.mk (hb); have n1_ := Aside0.mk (ho); clear HB; clear HO_3; have HB := n0_; have HO239 := n1_; clear n0_ n1_; clear ho hb hg hat))
       go_roundg k1
       case measure => have := HK1.out; omega
       case rel => exact ⟨(y237), (wrap64 (x4_1 + 1)), (by first | rfl | (simp; done) | (simp [*]; done)), H', ⟨by have := HK1.out; omega⟩, ⟨by (with_reducible repeat (first | apply Kd.R_alloc | apply Kd.R_drewN | apply Kd.R_drew)); exact HO239.out⟩, ⟨by repeat (first | (with_reducible first | exact HB.out | apply below_alloc | apply pw_below_drewN | apply below_drew1) | exact HB.out)⟩⟩
      ·rw [if_neg c30] at H
       exact absurd H (by simp)
     ·rw [if_neg c29] at H
      exact absurd H (by simp)
   ·rw [if_neg c2] at H
    have c2b0 : decide (x4_1 < (l0.length : Int)) = false := decide_eq_false c2
    clear c2
    obtain rfl := Option.some.inj H
    go_wp2
    go_ret
    exact ⟨_, by first | rfl | (simp [errW_none, errW_some] <;> rfl) | (simp [*, errW_none, errW_some] <;> rfl), by (with_reducible repeat (first | apply Kd.R_alloc | apply Kd.R_drewN | apply Kd.R_drew)); exact HO_3.out, by repeat (first | (with_reducible first | exact HB.out | apply below_alloc | apply pw_below_drewN | apply below_drew1) | exact HB.out)⟩

end Go.Proofs.YthimblhfjfngiaaDoor.PText

-- mended25

namespace Go.Proofs.YthimblhfjfngiaaDoor.PText
open Go.RowKit Go.Proofs.YthimblhfjfngiaaDoorW.PrintWords Go.Proofs.YthimblhfjfngiaaDoorW.PrintLast Go.Proofs.YthimblhfjfngiaaDoorW.PrintMore
attribute [local go_sem] max2_int min2_int max_two min_two max_three min_three max_four min_four   -- for this text's walks alone
set_option linter.unusedVariables false
set_option linter.unusedSimpArgs false

def smockingref01_Inverse.f (k : Nat) (a0 : ByteArray) (l1 : List (S34)) : Option ((List (S34)) × Int) := (smockingref01_Apply.f k a0 l1).bind fun bt240 => (if bt240.2 = 0 then ((smockingref01_made.f k a0 l1).bind fun bt242 => ((smockingref01_joined.f k bt242.2).bind fun t246 => (some (t246, 0)))) else (some (([] : List (S34)), bt240.2)))
set_option maxHeartbeats 8000000 in
set_option maxRecDepth 100000 in
theorem smockingref01_Inverse.calls (k : Nat) (a0 : ByteArray) (A1 : Option Addr) (c1 : Nat) (l1 : List (S34)) (r1 : List (S34)) (r2 : Int) (w : World) (hr1 : Kd.C k34 w A1 l1.length l1) (hc1 : l1.length ≤ c1) (h : smockingref01_Inverse.f k a0 l1 = some (r1, r2)) :
  Calls Tryd.prog 15 #[.string a0, .slice A1 l1.length c1] w fun e w' => ∃ v0_ : Value, e = .returned (.tuple #[v0_, .int .i64 r2]) ∧ Kd.R k34 34 w' w.heap.size (fun _ => True) v0_ r1 ∧ Below w.heap.size w w' := by
 have HR1 := Aside0.mk hr1
 have HC1 := Aside0.mk hc1
 clear hr1 hc1
 have HB := Aside0.mk (Below.refl w.heap.size w)
 have H : ((smockingref01_Apply.f k a0 l1).bind fun bt240 => (if bt240.2 = 0 then ((smockingref01_made.f k a0 l1).bind fun bt242 => ((smockingref01_joined.f k bt242.2).bind fun t246 => (some (t246, 0)))) else (some (([] : List (S34)), bt240.2)))) = some (r1, r2) := h
 clear h
 replace H := Option.bind_eq_some_iff.mp H
 obtain ⟨⟨t240, t241⟩, A30, H⟩ := H
 replace H : (if t241 = 0 then ((smockingref01_made.f k a0 l1).bind fun bt242 => ((smockingref01_joined.f k bt242.2).bind fun t246 => (some (t246, 0)))) else (some (([] : List (S34)), t241))) = some (r1, r2) := H
 have A3 := Aside0.mk A30
 clear A30
 by_cases c4 : t241 = 0
 ·rw [if_pos c4] at H
  have c4b0 : (t241 == 0) = true := beq_iff_eq.mpr c4
  have c4b1 : (t241 != 0) = false := bne_eq_false_iff_eq.mpr c4
  clear c4
  replace H := Option.bind_eq_some_iff.mp H
  obtain ⟨⟨t242, t243⟩, A50, H⟩ := H
  replace H : ((smockingref01_joined.f k t243).bind fun t246 => (some (t246, 0))) = some (r1, r2) := H
  have A5 := Aside0.mk A50
  clear A50
  replace H := Option.bind_eq_some_iff.mp H
  obtain ⟨t246, A60, H⟩ := H
  replace H : (some (t246, 0)) = some (r1, r2) := H
  have A6 := Aside0.mk A60
  clear A60
  simp only [Option.some.injEq, Prod.mk.injEq] at H
  obtain ⟨rfl, rfl⟩ := H
  go_enter Tryd.func15, Tryd.ntmps15
  go_wp2_with (first | ((with_reducible refine gate_callee (f := 11) rfl ?_); refine goesL_ (some 13) rfl rfl Tryd.func11 (by kernel_rfl) rfl #[.string a0, .slice A1 l1.length c1] rfl (by (try simp only [List.map_toArray, List.map_cons, List.map_nil]); first | done | rfl | (simp only [List.length_drop, List.length_take]; rfl)) ?_; (with_reducible refine (smockingref01_Apply.calls k a0 _ _ l1 t240 t241 _ ?side1 ?side2 A3.out).mono ?_); (case side1 => repeat (first | exact HR1.out | (with_reducible refine Kd.C_alloc ?_ _) | (with_reducible refine Kd.C_drewN ?_ _) | (with_reducible refine Kd.C_drew ?_))); (case side2 => exact HC1.out); rintro e w7 ⟨rfl, hb⟩; refine ⟨_, rfl, ?_⟩; have n0_ := Aside0.mk (below_step (by repeat (first | (with_reducible first | exact HB.out | apply below_alloc | apply pw_below_drewN | apply below_drew1) | exact HB.out)) hb); clear HB; have HB := n0_; clear n0_; (try clear hb); (try clear hb2); (try clear hk); (try clear hi)) | ((with_reducible refine gate_callee (f := 36) rfl ?_); refine goesL_ (some 22) rfl rfl Tryd.func36 (by kernel_rfl) rfl #[.string a0, .slice A1 l1.length c1] rfl (by (try simp only [List.map_toArray, List.map_cons, List.map_nil]); first | done | rfl | (simp only [List.length_drop, List.length_take]; rfl)) ?_; (with_reducible refine (smockingref01_made.calls k a0 _ _ l1 t242 t243 _ ?side1 ?side2 A5.out).mono ?_); (case side1 => repeat (first | exact (Kd.C_below HR1.out HB.out) | (with_reducible refine Kd.C_alloc ?_ _) | (with_reducible refine Kd.C_drewN ?_ _) | (with_reducible refine Kd.C_drew ?_))); (case side2 => exact HC1.out); rintro e w8 ⟨v244, rfl, ho0, hb⟩; refine ⟨_, rfl, ?_⟩; have n0_ := Aside0.mk (Kd.R_lower ho0 (below_size (by repeat (first | (with_reducible first | exact HB.out | apply below_alloc | apply pw_below_drewN | apply below_drew1) | exact HB.out)))); have n1_ := Aside0.mk (below_step (by repeat (first | (with_reducible first | exact HB.out | apply below_alloc | apply pw_below_drewN | apply below_drew1) | exact HB.out)) hb); clear HB; have HO245 := n0_; have HB := n1_; clear n0_ n1_; (try clear hb); (try clear hb2); (try clear hk); (try clear hi); (try clear ho0); obtain ⟨Ao9, co9, eo9⟩ := Kd.R_slice HO245.out; subst eo9) | ((with_reducible refine gate_callee (f := 42) rfl ?_); refine goesL_ (some 26) rfl rfl Tryd.func42 (by kernel_rfl) rfl #[.slice Ao9 t243.length co9] rfl (by (try simp only [List.map_toArray, List.map_cons, List.map_nil]); first | done | rfl | (simp only [List.length_drop, List.length_take]; rfl)) ?_; (with_reducible refine (smockingref01_joined.calls k _ _ t243 t246 _ ?side1 ?side2 A6.out).mono ?_); (case side1 => repeat (first | exact (Kd.R_reads' HO245.out).2.2 | (with_reducible refine Kd.C_alloc ?_ _) | (with_reducible refine Kd.C_drewN ?_ _) | (with_reducible refine Kd.C_drew ?_))); (case side2 => exact (Kd.R_reads' HO245.out).2.1); rintro e w10 ⟨v247, rfl, ho0, hb⟩; refine ⟨_, rfl, ?_⟩; have n0_ := Aside0.mk (Kd.R_elder' (by (with_reducible repeat (first | apply Kd.R_alloc | apply Kd.R_drewN | apply Kd.R_drew)); exact HO245.out) (Kd.R_base ho0) hb); have n1_ := Aside0.mk (Kd.R_lower (Kd.R_new' ho0 (Kd.R_lt (by (with_reducible repeat (first | apply Kd.R_alloc | apply Kd.R_drewN | apply Kd.R_drew)); exact HO245.out))) (below_size (by repeat (first | (with_reducible first | exact HB.out | apply below_alloc | apply pw_below_drewN | apply below_drew1) | exact HB.out)))); have n2_ := Aside0.mk (below_step (by repeat (first | (with_reducible first | exact HB.out | apply below_alloc | apply pw_below_drewN | apply below_drew1) | exact HB.out)) hb); clear HO245; clear HB; have HO245 := n0_; have HO248 := n1_; have HB := n2_; clear n0_ n1_ n2_; (try clear hb); (try clear hb2); (try clear hk); (try clear hi); (try clear ho0)))
  go_ret2
  exact ⟨_, by first | rfl | (simp [errW_none, errW_some] <;> rfl) | (simp [*, errW_none, errW_some] <;> rfl), by (with_reducible repeat (first | apply Kd.R_alloc | apply Kd.R_drewN | apply Kd.R_drew)); exact Kd.R_mono HO248.out (fun _ hk => trivial), by repeat (first | (with_reducible first | exact HB.out | apply below_alloc | apply pw_below_drewN | apply below_drew1) | exact HB.out)⟩
 ·rw [if_neg c4] at H
  have c4b0 : (t241 == 0) = false := beq_eq_false_iff_ne.mpr c4
  have c4b1 : (t241 != 0) = true := bne_iff_ne.mpr c4
  simp only [Option.some.injEq, Prod.mk.injEq] at H
  obtain ⟨rfl, rfl⟩ := H
  go_enter Tryd.func15, Tryd.ntmps15
  go_wp2_with (first | ((with_reducible refine gate_callee (f := 11) rfl ?_); refine goesL_ (some 13) rfl rfl Tryd.func11 (by kernel_rfl) rfl #[.string a0, .slice A1 l1.length c1] rfl (by (try simp only [List.map_toArray, List.map_cons, List.map_nil]); first | done | rfl | (simp only [List.length_drop, List.length_take]; rfl)) ?_; (with_reducible refine (smockingref01_Apply.calls k a0 _ _ l1 t240 t241 _ ?side1 ?side2 A3.out).mono ?_); (case side1 => repeat (first | exact HR1.out | (with_reducible refine Kd.C_alloc ?_ _) | (with_reducible refine Kd.C_drewN ?_ _) | (with_reducible refine Kd.C_drew ?_))); (case side2 => exact HC1.out); rintro e w11 ⟨rfl, hb⟩; refine ⟨_, rfl, ?_⟩; have n0_ := Aside0.mk (below_step (by repeat (first | (with_reducible first | exact HB.out | apply below_alloc | apply pw_below_drewN | apply below_drew1) | exact HB.out)) hb); clear HB; have HB := n0_; clear n0_; (try clear hb); (try clear hb2); (try clear hk); (try clear hi)))
  go_ret2
  exact ⟨_, by first | rfl | (simp [errW_none, errW_some] <;> rfl) | (simp [*, errW_none, errW_some] <;> rfl), by first | exact Kd.R_nil _ _ _ _ _ | exact Kd.N_nil _ _ _ _ _ | exact Kd.V_nil _ _ _ _ _ | exact Kd.Q_nil _ _ _ _ _ | exact Kd.S_nil _ _ _ _ _, by repeat (first | (with_reducible first | exact HB.out | apply below_alloc | apply pw_below_drewN | apply below_drew1) | exact HB.out)⟩

end Go.Proofs.YthimblhfjfngiaaDoor.PText

namespace Go.Proofs.YthimblhfjfngiaaDoor.PText
open Go.RowKit Go.Proofs.YthimblhfjfngiaaDoorW.PrintWords Go.Proofs.YthimblhfjfngiaaDoorW.PrintLast Go.Proofs.YthimblhfjfngiaaDoorW.PrintMore
attribute [local go_sem] max2_int min2_int max_two min_two max_three min_three max_four min_four   -- for this text's walks alone
set_option linter.unusedVariables false
set_option linter.unusedSimpArgs false

attribute [local go_sem high] eqA34
def rf0_EqEdits.l0 : Nat → List (S34) → List (S34) → Int → Option (Bool)
 | 0, _, _, _ => none
 | k + 1, x0, x1, x5 => if x5 < (x0.length : Int) then (if 0 ≤ x5 then (if x5 < (x1.length : Int) then (if (!(((rd_T34 x0 x5).f0) == ((rd_T34 x1 x5).f0)) || (!(((rd_T34 x0 x5).f1) == ((rd_T34 x1 x5).f1)) || (!((((rd_T34 x0 x5).f2).toList) == (((rd_T34 x1 x5).f2).toList))))) = true then (some false) else (rf0_EqEdits.l0 k x0 x1 (wrap64 (x5 + 1)))) else (none)) else (none)) else (some true)
def rf0_EqEdits.f (k : Nat) (l0 : List (S34)) (l1 : List (S34)) : Option (Bool) := if (l0.length : Int) = (l1.length : Int) then (rf0_EqEdits.l0 k l0 l1 0) else (some false)
set_option maxHeartbeats 8000000 in
set_option maxRecDepth 100000 in
theorem rf0_EqEdits.calls (k : Nat) (A0 : Option Addr) (c0 : Nat) (l0 : List (S34)) (A1 : Option Addr) (c1 : Nat) (l1 : List (S34)) (r : Bool) (w : World) (hr0 : Kd.C k34 w A0 l0.length l0) (hc0 : l0.length ≤ c0) (hr1 : Kd.C k34 w A1 l1.length l1) (hc1 : l1.length ≤ c1) (h : rf0_EqEdits.f k l0 l1 = some r) :
  Calls Tryd.prog 16 #[.slice A0 l0.length c0, .slice A1 l1.length c1] w fun e w' => e = .returned (.bool r) ∧ Drawn0 w w' := by
 have hu34 := Tryd.underlying34
 have HR0 := Aside0.mk hr0
 have HC0 := Aside0.mk hc0
 clear hr0 hc0
 have HR1 := Aside0.mk hr1
 have HC1 := Aside0.mk hc1
 clear hr1 hc1
 have H : (if (l0.length : Int) = (l1.length : Int) then (rf0_EqEdits.l0 k l0 l1 0) else (some false)) = some r := h
 clear h
 by_cases c3 : (l0.length : Int) = (l1.length : Int)
 ·rw [if_pos c3] at H
  have c3b0 : ((l0.length : Int) == (l1.length : Int)) = true := beq_iff_eq.mpr c3
  have c3b1 : ((l0.length : Int) != (l1.length : Int)) = false := bne_eq_false_iff_eq.mpr c3
  have c3b2 : (l0.length == l1.length) = true := by first | simpa using c3 | (simp at c3 ⊢; omega)
  clear c3
  have H' := Aside0.mk H
  clear H
  go_enter Tryd.func16, Tryd.ntmps16
  go_wp2
  repeat (go_quiet (fail); try go_wp2)
  try simp only [Act.put, List.setIfInBounds_toArray, List.set_cons_succ, List.set_cons_zero]
  go_loopg [5] k (fun kq v5 w' => ∃ (x5_1 : Int), v5 = .int .i64 x5_1 ∧ Aside0 (rf0_EqEdits.l0 kq l0 l1 x5_1 = some r) ∧ Aside0 (kq ≤ k) ∧ Drawn0 w w')
  case atStart => exact ⟨(0), (by first | rfl | (simp; done) | (simp [*]; done)), H', ⟨Nat.le_refl _⟩, by repeat (first | exact Drawn0.refl _ | apply Drawn0.step)⟩
  case round =>
   clear H'
   try clear c1
   try clear p2
   try clear c3
   try clear c3b0
   try clear c3b1
   try clear c3b2
   obtain ⟨x5_1, rfl, HA, HK1, ⟨m1, rfl⟩⟩ := hrel
   cases gk with
   | zero => exact absurd HA.out (by simp [rf0_EqEdits.l0])
   | succ k1 =>
    have H := HA.out
    clear HA
    simp only [rf0_EqEdits.l0] at H
    by_cases c4 : x5_1 < (l0.length : Int)
    ·rw [if_pos c4] at H
     have c4b0 : decide (x5_1 < (l0.length : Int)) = true := decide_eq_true c4
     clear c4
     by_cases c5 : 0 ≤ x5_1
     ·rw [if_pos c5] at H
      have c5b0 : decide (0 ≤ x5_1) = true := decide_eq_true c5
      clear c5
      by_cases c6 : x5_1 < (l1.length : Int)
      ·rw [if_pos c6] at H
       have c6b0 : decide (x5_1 < (l1.length : Int)) = true := decide_eq_true c6
       clear c6
       by_cases c7 : (!(((rd_T34 l0 x5_1).f0) == ((rd_T34 l1 x5_1).f0)) || (!(((rd_T34 l0 x5_1).f1) == ((rd_T34 l1 x5_1).f1)) || (!((((rd_T34 l0 x5_1).f2).toList) == (((rd_T34 l1 x5_1).f2).toList))))) = true
       ·rw [if_pos c7] at H
        have c7b0 : (!(((rd_T34 l0 x5_1).f0) == ((rd_T34 l1 x5_1).f0)) || (!(((rd_T34 l0 x5_1).f1) == ((rd_T34 l1 x5_1).f1)) || (!((((rd_T34 l0 x5_1).f2).toList) == (((rd_T34 l1 x5_1).f2).toList))))) = true := c7
        clear c7
        obtain rfl := Option.some.inj H
        have p249 : 0 ≤ (x5_1 : Int) := of_decide_eq_true (by first | (with_reducible assumption) | assumption)
        have q249 : x5_1 < (l0.length : Int) := of_decide_eq_true (by first | (with_reducible assumption) | assumption)
        obtain ⟨ad249, e249, hx249_0, hx249_1, hx249_2⟩ := at_T34 HR0.out x5_1 p249 q249
        cases e249
        replace p249 := eq_true p249
        replace q249 := eq_true q249
        have p250 : 0 ≤ (x5_1 : Int) := of_decide_eq_true (by first | (with_reducible assumption) | assumption)
        have q250 : x5_1 < (l1.length : Int) := of_decide_eq_true (by first | (with_reducible assumption) | assumption)
        obtain ⟨ad250, e250, hx250_0, hx250_1, hx250_2⟩ := at_T34 HR1.out x5_1 p250 q250
        cases e250
        replace p250 := eq_true p250
        replace q250 := eq_true q250
        go_wp2
        repeat (go_quiet (fail); try go_wp2)
        go_ret
        exact ⟨by first | rfl | (simp; done) | (simp [*]; done), by repeat (first | exact Drawn0.refl _ | apply Drawn0.step)⟩
       ·rw [if_neg c7] at H
        have c7b0 : (!(((rd_T34 l0 x5_1).f0) == ((rd_T34 l1 x5_1).f0)) || (!(((rd_T34 l0 x5_1).f1) == ((rd_T34 l1 x5_1).f1)) || (!((((rd_T34 l0 x5_1).f2).toList) == (((rd_T34 l1 x5_1).f2).toList))))) = false := by simpa using c7
        clear c7
        have H' := Aside0.mk H
        clear H
        have p249 : 0 ≤ (x5_1 : Int) := of_decide_eq_true (by first | (with_reducible assumption) | assumption)
        have q249 : x5_1 < (l0.length : Int) := of_decide_eq_true (by first | (with_reducible assumption) | assumption)
        obtain ⟨ad249, e249, hx249_0, hx249_1, hx249_2⟩ := at_T34 HR0.out x5_1 p249 q249
        cases e249
        replace p249 := eq_true p249
        replace q249 := eq_true q249
        have p250 : 0 ≤ (x5_1 : Int) := of_decide_eq_true (by first | (with_reducible assumption) | assumption)
        have q250 : x5_1 < (l1.length : Int) := of_decide_eq_true (by first | (with_reducible assumption) | assumption)
        obtain ⟨ad250, e250, hx250_0, hx250_1, hx250_2⟩ := at_T34 HR1.out x5_1 p250 q250
        cases e250
        replace p250 := eq_true p250
        replace q250 := eq_true q250
        go_wp2
        repeat (go_quiet (fail); try go_wp2)
        go_roundg k1
        case measure => have := HK1.out; omega
        case rel => exact ⟨(wrap64 (x5_1 + 1)), (by first | rfl | (simp; done) | (simp [*]; done)), H', ⟨by have := HK1.out; omega⟩, by repeat (first | exact Drawn0.refl _ | apply Drawn0.step)⟩
      ·rw [if_neg c6] at H
       exact absurd H (by simp)
     ·rw [if_neg c5] at H
      exact absurd H (by simp)
    ·rw [if_neg c4] at H
     have c4b0 : decide (x5_1 < (l0.length : Int)) = false := decide_eq_false c4
     clear c4
     obtain rfl := Option.some.inj H
     go_wp2
     repeat (go_quiet (fail); try go_wp2)
     go_ret
     exact ⟨by first | rfl | (simp; done) | (simp [*]; done), by repeat (first | exact Drawn0.refl _ | apply Drawn0.step)⟩
 ·rw [if_neg c3] at H
  have c3b0 : ((l0.length : Int) == (l1.length : Int)) = false := beq_eq_false_iff_ne.mpr c3
  have c3b1 : ((l0.length : Int) != (l1.length : Int)) = true := bne_iff_ne.mpr c3
  have c3b2 : (l0.length == l1.length) = false := by first | simpa using c3 | (simp at c3 ⊢; omega)
  obtain rfl := Option.some.inj H
  go_enter Tryd.func16, Tryd.ntmps16
  go_wp2
  repeat (go_quiet (fail); try go_wp2)
  go_ret
  exact ⟨by first | rfl | (simp; done) | (simp [*]; done), by repeat (first | exact Drawn0.refl _ | apply Drawn0.step)⟩

end Go.Proofs.YthimblhfjfngiaaDoor.PText

namespace Go.Proofs.YthimblhfjfngiaaDoor.PText
open Go.RowKit Go.Proofs.YthimblhfjfngiaaDoorW.PrintWords Go.Proofs.YthimblhfjfngiaaDoorW.PrintLast Go.Proofs.YthimblhfjfngiaaDoorW.PrintMore
attribute [local go_sem] max2_int min2_int max_two min_two max_three min_three max_four min_four   -- for this text's walks alone
set_option linter.unusedVariables false
set_option linter.unusedSimpArgs false

mutual
def smockinglaw01_TextEdits.j0 : Nat → ByteArray → List (S34) → Bool → Option (Bool)
 | 0, _, _, _ => none
 | k + 1, x0, x1, x20 => if x20 = true then (some true) else ((text_Apply.f x0 x1).bind fun bt310 => ((smockingref01_Apply.f k x0 x1).bind fun bt312 => ((text_Fine.f x0 x1).bind fun t314 => ((smockingref01_Fine.f k x0 x1).bind fun t315 => (if t314 = t315 then (if bt310.1.toList = bt312.1.toList then (smockinglaw01_TextEdits.j1 k x0 x1 (bt310.2 != bt312.2)) else (smockinglaw01_TextEdits.j1 k x0 x1 true)) else (smockinglaw01_TextEdits.j1 k x0 x1 true))))))
def smockinglaw01_TextEdits.j1 : Nat → ByteArray → List (S34) → Bool → Option (Bool)
 | 0, _, _, _ => none
 | k + 1, x0, x1, x49 => if x49 = true then (some false) else ((text_Inverse.f k x0 x1).bind fun bt316 => ((smockingref01_Inverse.f k x0 x1).bind fun bt320 => (if bt316.2 = bt320.2 then ((rf0_EqEdits.f k bt316.1 bt320.1).bind fun t324 => (if t324 = true then ((smockinglaw01_awake.f).bind fun t325 => (some t325)) else (some false))) else (some false))))
end
def smockinglaw01_TextEdits.f (k : Nat) (a0 : ByteArray) (l1 : List (S34)) : Option (Bool) := (smockinglaw01_heavy.f k a0 l1).bind fun t309 => (if t309 = true then (smockinglaw01_TextEdits.j0 k a0 l1 true) else (smockinglaw01_TextEdits.j0 k a0 l1 (decide ((l1.length : Int) > 60))))
set_option maxHeartbeats 8000000 in
set_option maxRecDepth 100000 in
theorem smockinglaw01_TextEdits.calls (k : Nat) (a0 : ByteArray) (A1 : Option Addr) (c1 : Nat) (l1 : List (S34)) (r : Bool) (w : World) (hr1 : Kd.C k34 w A1 l1.length l1) (hc1 : l1.length ≤ c1) (h : smockinglaw01_TextEdits.f k a0 l1 = some r) :
  Calls Tryd.prog 3 #[.string a0, .slice A1 l1.length c1] w fun e w' => e = .returned (.bool r) ∧ Below w.heap.size w w' := by
 have HR1 := Aside0.mk hr1
 have HC1 := Aside0.mk hc1
 clear hr1 hc1
 have HB := Aside0.mk (Below.refl w.heap.size w)
 have H : ((smockinglaw01_heavy.f k a0 l1).bind fun t309 => (if t309 = true then (smockinglaw01_TextEdits.j0 k a0 l1 true) else (smockinglaw01_TextEdits.j0 k a0 l1 (decide ((l1.length : Int) > 60))))) = some r := h
 clear h
 have HC3 := Aside0.mk H
 clear H
 go_enter Tryd.func3, Tryd.ntmps3
 go_upto_region 1 with (fail)
 go_cut [20] (fun v20 wc => ∃ (kq : Nat) (x20_2 : Bool), v20 = .bool x20_2 ∧ Aside0 (smockinglaw01_TextEdits.j0 kq a0 l1 x20_2 = some r) ∧ Aside0 (kq ≤ k) ∧ Aside0 (Below w.heap.size w wc))
 case first =>
  have H := HC3.out
  clear HC3
  replace H := Option.bind_eq_some_iff.mp H
  obtain ⟨t309, A40, H⟩ := H
  replace H : (if t309 = true then (smockinglaw01_TextEdits.j0 k a0 l1 true) else (smockinglaw01_TextEdits.j0 k a0 l1 (decide ((l1.length : Int) > 60)))) = some r := H
  have A4 := Aside0.mk A40
  clear A40
  by_cases c5 : t309 = true
  ·subst c5
   have H1 : (smockinglaw01_TextEdits.j0 k a0 l1 true) = some r := by rw [if_pos rfl] at H; exact H
   clear H
   have H := H1
   clear H1
   have H' := Aside0.mk H
   clear H
   go_wp2_with (first | ((with_reducible refine gate_callee (f := 9) rfl ?_); refine goesL_ (some 15) rfl rfl Tryd.func9 (by kernel_rfl) rfl #[.string a0, .slice A1 l1.length c1] rfl (by (try simp only [List.map_toArray, List.map_cons, List.map_nil]); first | done | rfl | (simp only [List.length_drop, List.length_take]; rfl)) ?_; (with_reducible refine (smockinglaw01_heavy.calls k a0 _ _ l1 true _ ?side1 ?side2 A4.out).mono ?_); (case side1 => repeat (first | exact (Kd.C_below HR1.out HB.out) | (with_reducible refine Kd.C_alloc ?_ _) | (with_reducible refine Kd.C_drewN ?_ _) | (with_reducible refine Kd.C_drew ?_))); (case side2 => exact HC1.out); rintro e w' ⟨rfl, ⟨nd, rfl⟩⟩; refine ⟨_, rfl, ?_⟩))
   go_meet
   case rel => exact ⟨_, (true), (by first | rfl | (simp; done) | (simp [*]; done)), H', ⟨by first | omega | exact Nat.le_refl _⟩, ⟨by repeat (first | (with_reducible first | exact HB.out | apply below_alloc | apply pw_below_drewN | apply below_drew1) | exact HB.out)⟩⟩
  ·replace c5 := Bool.eq_false_iff.mpr c5
   subst c5
   have H1 : (smockinglaw01_TextEdits.j0 k a0 l1 (decide ((l1.length : Int) > 60))) = some r := by rw [if_neg (show ¬ (false = true) by decide)] at H; exact H
   clear H
   have H := H1
   clear H1
   have H' := Aside0.mk H
   clear H
   go_wp2_with (first | ((with_reducible refine gate_callee (f := 9) rfl ?_); refine goesL_ (some 15) rfl rfl Tryd.func9 (by kernel_rfl) rfl #[.string a0, .slice A1 l1.length c1] rfl (by (try simp only [List.map_toArray, List.map_cons, List.map_nil]); first | done | rfl | (simp only [List.length_drop, List.length_take]; rfl)) ?_; (with_reducible refine (smockinglaw01_heavy.calls k a0 _ _ l1 false _ ?side1 ?side2 A4.out).mono ?_); (case side1 => repeat (first | exact (Kd.C_below HR1.out HB.out) | (with_reducible refine Kd.C_alloc ?_ _) | (with_reducible refine Kd.C_drewN ?_ _) | (with_reducible refine Kd.C_drew ?_))); (case side2 => exact HC1.out); rintro e w' ⟨rfl, ⟨nd, rfl⟩⟩; refine ⟨_, rfl, ?_⟩))
   go_meet
   case rel => exact ⟨_, (decide ((l1.length : Int) > 60)), (by first | rfl | (simp; done) | (simp [*]; done)), H', ⟨by first | omega | exact Nat.le_refl _⟩, ⟨by repeat (first | (with_reducible first | exact HB.out | apply below_alloc | apply pw_below_drewN | apply below_drew1) | exact HB.out)⟩⟩
 case rest =>
  clear HC3
  try clear c1
  try clear p2
  try clear c3
  try clear c5
  obtain ⟨kq, x20_2, rfl, HA, HJ2, HB⟩ := hcut
  cases kq with
  | zero => exact absurd HA.out (by simp [smockinglaw01_TextEdits.j0])
  | succ kj2 =>
   have H := HA.out
   clear HA
   simp only [smockinglaw01_TextEdits.j0] at H
   by_cases c6 : x20_2 = true
   ·subst c6
    have H1 : (some true) = some r := by rw [if_pos rfl] at H; exact H
    clear H
    have H := H1
    clear H1
    obtain rfl := Option.some.inj H
    go_wp2
    go_ret
    exact ⟨by first | rfl | (simp [errW_none, errW_some] <;> rfl) | (simp [*, errW_none, errW_some] <;> rfl), by repeat (first | (with_reducible first | exact HB.out | apply below_alloc | apply pw_below_drewN | apply below_drew1) | exact HB.out)⟩
   ·replace c6 := Bool.eq_false_iff.mpr c6
    subst c6
    have H1 : ((text_Apply.f a0 l1).bind fun bt310 => ((smockingref01_Apply.f kj2 a0 l1).bind fun bt312 => ((text_Fine.f a0 l1).bind fun t314 => ((smockingref01_Fine.f kj2 a0 l1).bind fun t315 => (if t314 = t315 then (if bt310.1.toList = bt312.1.toList then (smockinglaw01_TextEdits.j1 kj2 a0 l1 (bt310.2 != bt312.2)) else (smockinglaw01_TextEdits.j1 kj2 a0 l1 true)) else (smockinglaw01_TextEdits.j1 kj2 a0 l1 true)))))) = some r := by rw [if_neg (show ¬ (false = true) by decide)] at H; exact H
    clear H
    have H := H1
    clear H1
    replace H := Option.bind_eq_some_iff.mp H
    obtain ⟨⟨t310, t311⟩, A70, H⟩ := H
    replace H : ((smockingref01_Apply.f kj2 a0 l1).bind fun bt312 => ((text_Fine.f a0 l1).bind fun t314 => ((smockingref01_Fine.f kj2 a0 l1).bind fun t315 => (if t314 = t315 then (if t310.toList = bt312.1.toList then (smockinglaw01_TextEdits.j1 kj2 a0 l1 (t311 != bt312.2)) else (smockinglaw01_TextEdits.j1 kj2 a0 l1 true)) else (smockinglaw01_TextEdits.j1 kj2 a0 l1 true))))) = some r := H
    have A7 := Aside0.mk A70
    clear A70
    replace H := Option.bind_eq_some_iff.mp H
    obtain ⟨⟨t312, t313⟩, A80, H⟩ := H
    replace H : ((text_Fine.f a0 l1).bind fun t314 => ((smockingref01_Fine.f kj2 a0 l1).bind fun t315 => (if t314 = t315 then (if t310.toList = t312.toList then (smockinglaw01_TextEdits.j1 kj2 a0 l1 (t311 != t313)) else (smockinglaw01_TextEdits.j1 kj2 a0 l1 true)) else (smockinglaw01_TextEdits.j1 kj2 a0 l1 true)))) = some r := H
    have A8 := Aside0.mk A80
    clear A80
    have HC9 := Aside0.mk H
    clear H
    go_upto_region 5 with (first | ((with_reducible refine gate_callee (f := 10) rfl ?_); refine goesL_ (some 24) rfl rfl Tryd.func10 (by kernel_rfl) rfl #[.string a0, .slice A1 l1.length c1] rfl (by (try simp only [List.map_toArray, List.map_cons, List.map_nil]); first | done | rfl | (simp only [List.length_drop, List.length_take]; rfl)) ?_; (with_reducible refine (text_Apply.calls a0 _ _ l1 t310 t311 _ ?side1 ?side2 A7.out).mono ?_); (case side1 => repeat (first | exact (Kd.C_below HR1.out HB.out) | (with_reducible refine Kd.C_alloc ?_ _) | (with_reducible refine Kd.C_drewN ?_ _) | (with_reducible refine Kd.C_drew ?_))); (case side2 => exact HC1.out); rintro e w10 ⟨rfl, hb⟩; refine ⟨_, rfl, ?_⟩; have n0_ := Aside0.mk (below_step (by repeat (first | (with_reducible first | exact HB.out | apply below_alloc | apply pw_below_drewN | apply below_drew1) | exact HB.out)) hb); clear HB; have HB := n0_; clear n0_; (try clear hb); (try clear hb2); (try clear hk); (try clear hi)) | ((with_reducible refine gate_callee (f := 11) rfl ?_); refine goesL_ (some 30) rfl rfl Tryd.func11 (by kernel_rfl) rfl #[.string a0, .slice A1 l1.length c1] rfl (by (try simp only [List.map_toArray, List.map_cons, List.map_nil]); first | done | rfl | (simp only [List.length_drop, List.length_take]; rfl)) ?_; (with_reducible refine (smockingref01_Apply.calls kj2 a0 _ _ l1 t312 t313 _ ?side1 ?side2 A8.out).mono ?_); (case side1 => repeat (first | exact (Kd.C_below HR1.out HB.out) | (with_reducible refine Kd.C_alloc ?_ _) | (with_reducible refine Kd.C_drewN ?_ _) | (with_reducible refine Kd.C_drew ?_))); (case side2 => exact HC1.out); rintro e w11 ⟨rfl, hb⟩; refine ⟨_, rfl, ?_⟩; have n0_ := Aside0.mk (below_step (by repeat (first | (with_reducible first | exact HB.out | apply below_alloc | apply pw_below_drewN | apply below_drew1) | exact HB.out)) hb); clear HB; have HB := n0_; clear n0_; (try clear hb); (try clear hb2); (try clear hk); (try clear hi)))
    (try simp only [Act.put, q1_, q2_, q3_])
    go_cut [49] (fun v49 wc => ∃ (kq : Nat) (x49_8 : Bool), v49 = .bool x49_8 ∧ Aside0 (smockinglaw01_TextEdits.j1 kq a0 l1 x49_8 = some r) ∧ Aside0 (kq ≤ kj2) ∧ Aside0 (Below w.heap.size w wc))
    case first =>
     have H := HC9.out
     clear HC9
     replace H := Option.bind_eq_some_iff.mp H
     obtain ⟨t314, A120, H⟩ := H
     replace H : ((smockingref01_Fine.f kj2 a0 l1).bind fun t315 => (if t314 = t315 then (if t310.toList = t312.toList then (smockinglaw01_TextEdits.j1 kj2 a0 l1 (t311 != t313)) else (smockinglaw01_TextEdits.j1 kj2 a0 l1 true)) else (smockinglaw01_TextEdits.j1 kj2 a0 l1 true))) = some r := H
     have A12 := Aside0.mk A120
     clear A120
     replace H := Option.bind_eq_some_iff.mp H
     obtain ⟨t315, A130, H⟩ := H
     replace H : (if t314 = t315 then (if t310.toList = t312.toList then (smockinglaw01_TextEdits.j1 kj2 a0 l1 (t311 != t313)) else (smockinglaw01_TextEdits.j1 kj2 a0 l1 true)) else (smockinglaw01_TextEdits.j1 kj2 a0 l1 true)) = some r := H
     have A13 := Aside0.mk A130
     clear A130
     by_cases c14 : t314 = t315
     ·rw [if_pos c14] at H
      have c14b0 : (t314 == t315) = true := beq_iff_eq.mpr c14
      have c14b1 : (t314 != t315) = false := bne_eq_false_iff_eq.mpr c14
      clear c14
      (first | rw [c14b0] | (simp only [i64_w, i32_w]; rw [c14b0]) | skip)
      by_cases c15 : t310.toList = t312.toList
      ·rw [if_pos c15] at H
       have c15b0 : (t310.toList == t312.toList) = true := beq_iff_eq.mpr c15
       have c15b1 : (t310.toList != t312.toList) = false := bne_eq_false_iff_eq.mpr c15
       clear c15
       have H' := Aside0.mk H
       clear H
       go_wp2_with (first | ((with_reducible refine gate_callee (f := 12) rfl ?_); refine goesL_ (some 35) rfl rfl Tryd.func12 (by kernel_rfl) rfl #[.string a0, .slice A1 l1.length c1] rfl (by (try simp only [List.map_toArray, List.map_cons, List.map_nil]); first | done | rfl | (simp only [List.length_drop, List.length_take]; rfl)) ?_; (with_reducible refine (text_Fine.calls a0 _ _ l1 t314 _ ?side1 ?side2 A12.out).mono ?_); (case side1 => repeat (first | exact (Kd.C_below HR1.out HB.out) | (with_reducible refine Kd.C_alloc ?_ _) | (with_reducible refine Kd.C_drewN ?_ _) | (with_reducible refine Kd.C_drew ?_))); (case side2 => exact HC1.out); rintro e w16 ⟨rfl, hb⟩; refine ⟨_, rfl, ?_⟩; have n0_ := Aside0.mk (below_step (by repeat (first | (with_reducible first | exact HB.out | apply below_alloc | apply pw_below_drewN | apply below_drew1) | exact HB.out)) hb); clear HB; have HB := n0_; clear n0_; (try clear hb); (try clear hb2); (try clear hk); (try clear hi)) | ((with_reducible refine gate_callee (f := 13) rfl ?_); refine goesL_ (some 38) rfl rfl Tryd.func13 (by kernel_rfl) rfl #[.string a0, .slice A1 l1.length c1] rfl (by (try simp only [List.map_toArray, List.map_cons, List.map_nil]); first | done | rfl | (simp only [List.length_drop, List.length_take]; rfl)) ?_; (with_reducible refine (smockingref01_Fine.calls kj2 a0 _ _ l1 t315 _ ?side1 ?side2 A13.out).mono ?_); (case side1 => repeat (first | exact (Kd.C_below HR1.out HB.out) | (with_reducible refine Kd.C_alloc ?_ _) | (with_reducible refine Kd.C_drewN ?_ _) | (with_reducible refine Kd.C_drew ?_))); (case side2 => exact HC1.out); rintro e w17 ⟨rfl, hb⟩; refine ⟨_, rfl, ?_⟩; have n0_ := Aside0.mk (below_step (by repeat (first | (with_reducible first | exact HB.out | apply below_alloc | apply pw_below_drewN | apply below_drew1) | exact HB.out)) hb); clear HB; have HB := n0_; clear n0_; (try clear hb); (try clear hb2); (try clear hk); (try clear hi)))
       go_meet
       case rel => exact ⟨_, ((t311 != t313)), (by first | rfl | (simp; done) | (simp [*]; done)), H', ⟨by have := HJ2.out; first | omega | exact Nat.le_refl _⟩, ⟨by repeat (first | (with_reducible first | exact HB.out | apply below_alloc | apply pw_below_drewN | apply below_drew1) | exact HB.out)⟩⟩
      ·rw [if_neg c15] at H
       have c15b0 : (t310.toList == t312.toList) = false := beq_eq_false_iff_ne.mpr c15
       have c15b1 : (t310.toList != t312.toList) = true := bne_iff_ne.mpr c15
       have H' := Aside0.mk H
       clear H
       go_wp2_with (first | ((with_reducible refine gate_callee (f := 12) rfl ?_); refine goesL_ (some 35) rfl rfl Tryd.func12 (by kernel_rfl) rfl #[.string a0, .slice A1 l1.length c1] rfl (by (try simp only [List.map_toArray, List.map_cons, List.map_nil]); first | done | rfl | (simp only [List.length_drop, List.length_take]; rfl)) ?_; (with_reducible refine (text_Fine.calls a0 _ _ l1 t314 _ ?side1 ?side2 A12.out).mono ?_); (case side1 => repeat (first | exact (Kd.C_below HR1.out HB.out) | (with_reducible refine Kd.C_alloc ?_ _) | (with_reducible refine Kd.C_drewN ?_ _) | (with_reducible refine Kd.C_drew ?_))); (case side2 => exact HC1.out); rintro e w18 ⟨rfl, hb⟩; refine ⟨_, rfl, ?_⟩; have n0_ := Aside0.mk (below_step (by repeat (first | (with_reducible first | exact HB.out | apply below_alloc | apply pw_below_drewN | apply below_drew1) | exact HB.out)) hb); clear HB; have HB := n0_; clear n0_; (try clear hb); (try clear hb2); (try clear hk); (try clear hi)) | ((with_reducible refine gate_callee (f := 13) rfl ?_); refine goesL_ (some 38) rfl rfl Tryd.func13 (by kernel_rfl) rfl #[.string a0, .slice A1 l1.length c1] rfl (by (try simp only [List.map_toArray, List.map_cons, List.map_nil]); first | done | rfl | (simp only [List.length_drop, List.length_take]; rfl)) ?_; (with_reducible refine (smockingref01_Fine.calls kj2 a0 _ _ l1 t315 _ ?side1 ?side2 A13.out).mono ?_); (case side1 => repeat (first | exact (Kd.C_below HR1.out HB.out) | (with_reducible refine Kd.C_alloc ?_ _) | (with_reducible refine Kd.C_drewN ?_ _) | (with_reducible refine Kd.C_drew ?_))); (case side2 => exact HC1.out); rintro e w19 ⟨rfl, hb⟩; refine ⟨_, rfl, ?_⟩; have n0_ := Aside0.mk (below_step (by repeat (first | (with_reducible first | exact HB.out | apply below_alloc | apply pw_below_drewN | apply below_drew1) | exact HB.out)) hb); clear HB; have HB := n0_; clear n0_; (try clear hb); (try clear hb2); (try clear hk); (try clear hi)))
       go_meet
       case rel => exact ⟨_, (true), (by first | rfl | (simp; done) | (simp [*]; done)), H', ⟨by have := HJ2.out; first | omega | exact Nat.le_refl _⟩, ⟨by repeat (first | (with_reducible first | exact HB.out | apply below_alloc | apply pw_below_drewN | apply below_drew1) | exact HB.out)⟩⟩
     ·rw [if_neg c14] at H
      have c14b0 : (t314 == t315) = false := beq_eq_false_iff_ne.mpr c14
      have c14b1 : (t314 != t315) = true := bne_iff_ne.mpr c14
      (first | rw [c14b0] | (simp only [i64_w, i32_w]; rw [c14b0]) | skip)
      have H' := Aside0.mk H
      clear H
      go_wp2_with (first | ((with_reducible refine gate_callee (f := 12) rfl ?_); refine goesL_ (some 35) rfl rfl Tryd.func12 (by kernel_rfl) rfl #[.string a0, .slice A1 l1.length c1] rfl (by (try simp only [List.map_toArray, List.map_cons, List.map_nil]); first | done | rfl | (simp only [List.length_drop, List.length_take]; rfl)) ?_; (with_reducible refine (text_Fine.calls a0 _ _ l1 t314 _ ?side1 ?side2 A12.out).mono ?_); (case side1 => repeat (first | exact (Kd.C_below HR1.out HB.out) | (with_reducible refine Kd.C_alloc ?_ _) | (with_reducible refine Kd.C_drewN ?_ _) | (with_reducible refine Kd.C_drew ?_))); (case side2 => exact HC1.out); rintro e w20 ⟨rfl, hb⟩; refine ⟨_, rfl, ?_⟩; have n0_ := Aside0.mk (below_step (by repeat (first | (with_reducible first | exact HB.out | apply below_alloc | apply pw_below_drewN | apply below_drew1) | exact HB.out)) hb); clear HB; have HB := n0_; clear n0_; (try clear hb); (try clear hb2); (try clear hk); (try clear hi)) | ((with_reducible refine gate_callee (f := 13) rfl ?_); refine goesL_ (some 38) rfl rfl Tryd.func13 (by kernel_rfl) rfl #[.string a0, .slice A1 l1.length c1] rfl (by (try simp only [List.map_toArray, List.map_cons, List.map_nil]); first | done | rfl | (simp only [List.length_drop, List.length_take]; rfl)) ?_; (with_reducible refine (smockingref01_Fine.calls kj2 a0 _ _ l1 t315 _ ?side1 ?side2 A13.out).mono ?_); (case side1 => repeat (first | exact (Kd.C_below HR1.out HB.out) | (with_reducible refine Kd.C_alloc ?_ _) | (with_reducible refine Kd.C_drewN ?_ _) | (with_reducible refine Kd.C_drew ?_))); (case side2 => exact HC1.out); rintro e w21 ⟨rfl, hb⟩; refine ⟨_, rfl, ?_⟩; have n0_ := Aside0.mk (below_step (by repeat (first | (with_reducible first | exact HB.out | apply below_alloc | apply pw_below_drewN | apply below_drew1) | exact HB.out)) hb); clear HB; have HB := n0_; clear n0_; (try clear hb); (try clear hb2); (try clear hk); (try clear hi)))
      go_meet
      case rel => exact ⟨_, (true), (by first | rfl | (simp; done) | (simp [*]; done)), H', ⟨by have := HJ2.out; first | omega | exact Nat.le_refl _⟩, ⟨by repeat (first | (with_reducible first | exact HB.out | apply below_alloc | apply pw_below_drewN | apply below_drew1) | exact HB.out)⟩⟩
    case rest =>
     clear HC9
     try clear c1
     try clear p2
     try clear c3
     try clear c5
     try clear c6
     try clear c9
     try clear c10
     try clear c11
     try clear c12
     try clear c13
     try clear c14
     try clear c14b0
     try clear c14b1
     try clear c15
     try clear c15b0
     try clear c15b1
     try clear p2
     obtain ⟨kq, x49_8, rfl, HA, HJ8, HB⟩ := hcut
     cases kq with
     | zero => exact absurd HA.out (by simp [smockinglaw01_TextEdits.j1])
     | succ kj8 =>
      have H := HA.out
      clear HA
      simp only [smockinglaw01_TextEdits.j1] at H
      by_cases c22 : x49_8 = true
      ·subst c22
       have H1 : (some false) = some r := by rw [if_pos rfl] at H; exact H
       clear H
       have H := H1
       clear H1
       obtain rfl := Option.some.inj H
       go_wp2
       go_ret
       exact ⟨by first | rfl | (simp [errW_none, errW_some] <;> rfl) | (simp [*, errW_none, errW_some] <;> rfl), by repeat (first | (with_reducible first | exact HB.out | apply below_alloc | apply pw_below_drewN | apply below_drew1) | exact HB.out)⟩
      ·replace c22 := Bool.eq_false_iff.mpr c22
       subst c22
       have H1 : ((text_Inverse.f kj8 a0 l1).bind fun bt316 => ((smockingref01_Inverse.f kj8 a0 l1).bind fun bt320 => (if bt316.2 = bt320.2 then ((rf0_EqEdits.f kj8 bt316.1 bt320.1).bind fun t324 => (if t324 = true then ((smockinglaw01_awake.f).bind fun t325 => (some t325)) else (some false))) else (some false)))) = some r := by rw [if_neg (show ¬ (false = true) by decide)] at H; exact H
       clear H
       have H := H1
       clear H1
       replace H := Option.bind_eq_some_iff.mp H
       obtain ⟨⟨t316, t317⟩, A230, H⟩ := H
       replace H : ((smockingref01_Inverse.f kj8 a0 l1).bind fun bt320 => (if t317 = bt320.2 then ((rf0_EqEdits.f kj8 t316 bt320.1).bind fun t324 => (if t324 = true then ((smockinglaw01_awake.f).bind fun t325 => (some t325)) else (some false))) else (some false))) = some r := H
       have A23 := Aside0.mk A230
       clear A230
       replace H := Option.bind_eq_some_iff.mp H
       obtain ⟨⟨t320, t321⟩, A240, H⟩ := H
       replace H : (if t317 = t321 then ((rf0_EqEdits.f kj8 t316 t320).bind fun t324 => (if t324 = true then ((smockinglaw01_awake.f).bind fun t325 => (some t325)) else (some false))) else (some false)) = some r := H
       have A24 := Aside0.mk A240
       clear A240
       by_cases c25 : t317 = t321
       ·rw [if_pos c25] at H
        have c25b0 : (t317 == t321) = true := beq_iff_eq.mpr c25
        have c25b1 : (t317 != t321) = false := bne_eq_false_iff_eq.mpr c25
        clear c25
        replace H := Option.bind_eq_some_iff.mp H
        obtain ⟨t324, A260, H⟩ := H
        replace H : (if t324 = true then ((smockinglaw01_awake.f).bind fun t325 => (some t325)) else (some false)) = some r := H
        have A26 := Aside0.mk A260
        clear A260
        by_cases c27 : t324 = true
        ·subst c27
         have H1 : ((smockinglaw01_awake.f).bind fun t325 => (some t325)) = some r := by rw [if_pos rfl] at H; exact H
         clear H
         have H := H1
         clear H1
         replace H := Option.bind_eq_some_iff.mp H
         obtain ⟨t325, A280, H⟩ := H
         replace H : (some t325) = some r := H
         have A28 := Aside0.mk A280
         clear A280
         obtain rfl := Option.some.inj H
         go_wp2_with (first | ((with_reducible refine gate_callee (f := 14) rfl ?_); refine goesL_ (some 53) rfl rfl Tryd.func14 (by kernel_rfl) rfl #[.string a0, .slice A1 l1.length c1] rfl (by (try simp only [List.map_toArray, List.map_cons, List.map_nil]); first | done | rfl | (simp only [List.length_drop, List.length_take]; rfl)) ?_; (with_reducible refine (text_Inverse.calls kj8 a0 _ _ l1 t316 t317 _ ?side1 ?side2 A23.out).mono ?_); (case side1 => repeat (first | exact (Kd.C_below HR1.out HB.out) | (with_reducible refine Kd.C_alloc ?_ _) | (with_reducible refine Kd.C_drewN ?_ _) | (with_reducible refine Kd.C_drew ?_))); (case side2 => exact HC1.out); rintro e w29 ⟨v318, rfl, ho0, hb⟩; refine ⟨_, rfl, ?_⟩; have n0_ := Aside0.mk (Kd.R_lower ho0 (below_size (by repeat (first | (with_reducible first | exact HB.out | apply below_alloc | apply pw_below_drewN | apply below_drew1) | exact HB.out)))); have n1_ := Aside0.mk (below_step (by repeat (first | (with_reducible first | exact HB.out | apply below_alloc | apply pw_below_drewN | apply below_drew1) | exact HB.out)) hb); clear HB; have HO319 := n0_; have HB := n1_; clear n0_ n1_; (try clear hb); (try clear hb2); (try clear hk); (try clear hi); (try clear ho0)) | ((with_reducible refine gate_callee (f := 15) rfl ?_); refine goesL_ (some 59) rfl rfl Tryd.func15 (by kernel_rfl) rfl #[.string a0, .slice A1 l1.length c1] rfl (by (try simp only [List.map_toArray, List.map_cons, List.map_nil]); first | done | rfl | (simp only [List.length_drop, List.length_take]; rfl)) ?_; (with_reducible refine (smockingref01_Inverse.calls kj8 a0 _ _ l1 t320 t321 _ ?side1 ?side2 A24.out).mono ?_); (case side1 => repeat (first | exact (Kd.C_below HR1.out HB.out) | (with_reducible refine Kd.C_alloc ?_ _) | (with_reducible refine Kd.C_drewN ?_ _) | (with_reducible refine Kd.C_drew ?_))); (case side2 => exact HC1.out); rintro e w30 ⟨v322, rfl, ho0, hb⟩; refine ⟨_, rfl, ?_⟩; have n0_ := Aside0.mk (Kd.R_elder' (by (with_reducible repeat (first | apply Kd.R_alloc | apply Kd.R_drewN | apply Kd.R_drew)); exact HO319.out) (Kd.R_base ho0) hb); have n1_ := Aside0.mk (Kd.R_lower (Kd.R_new' ho0 (Kd.R_lt (by (with_reducible repeat (first | apply Kd.R_alloc | apply Kd.R_drewN | apply Kd.R_drew)); exact HO319.out))) (below_size (by repeat (first | (with_reducible first | exact HB.out | apply below_alloc | apply pw_below_drewN | apply below_drew1) | exact HB.out)))); have n2_ := Aside0.mk (below_step (by repeat (first | (with_reducible first | exact HB.out | apply below_alloc | apply pw_below_drewN | apply below_drew1) | exact HB.out)) hb); clear HO319; clear HB; have HO319 := n0_; have HO323 := n1_; have HB := n2_; clear n0_ n1_ n2_; (try clear hb); (try clear hb2); (try clear hk); (try clear hi); (try clear ho0); obtain ⟨Ao31, co31, eo31⟩ := Kd.R_slice HO319.out; subst eo31; obtain ⟨Ao32, co32, eo32⟩ := Kd.R_slice HO323.out; subst eo32) | (go_at_call 16; (with_reducible refine (rf0_EqEdits.calls kj8 _ _ t316 _ _ t320 true _ ?side1 ?side2 ?side3 ?side4 A26.out).mono ?_); (case side1 => repeat (first | exact (Kd.R_reads' HO319.out).2.2 | (with_reducible refine Kd.C_alloc ?_ _) | (with_reducible refine Kd.C_drewN ?_ _) | (with_reducible refine Kd.C_drew ?_))); (case side2 => exact (Kd.R_reads' HO319.out).2.1); (case side3 => repeat (first | exact (Kd.R_reads' HO323.out).2.2 | (with_reducible refine Kd.C_alloc ?_ _) | (with_reducible refine Kd.C_drewN ?_ _) | (with_reducible refine Kd.C_drew ?_))); (case side4 => exact (Kd.R_reads' HO323.out).2.1); rintro e w' ⟨rfl, ⟨nd, rfl⟩⟩) | (go_at_call 17; (with_reducible refine (smockinglaw01_awake.calls  t325 _ A28.out).mono ?_); rintro e w33 ⟨rfl, hb⟩; have n0_ := Aside0.mk (Kd.R_below (by (with_reducible repeat (first | apply Kd.R_alloc | apply Kd.R_drewN | apply Kd.R_drew)); exact HO319.out) hb); have n1_ := Aside0.mk (Kd.R_below (by (with_reducible repeat (first | apply Kd.R_alloc | apply Kd.R_drewN | apply Kd.R_drew)); exact HO323.out) hb); have n2_ := Aside0.mk (below_step (by repeat (first | (with_reducible first | exact HB.out | apply below_alloc | apply pw_below_drewN | apply below_drew1) | exact HB.out)) hb); clear HO319; clear HO323; clear HB; have HO319 := n0_; have HO323 := n1_; have HB := n2_; clear n0_ n1_ n2_; (try clear hb); (try clear hb2); (try clear hk); (try clear hi)))
         go_ret
         exact ⟨by first | rfl | (simp [errW_none, errW_some] <;> rfl) | (simp [*, errW_none, errW_some] <;> rfl), by repeat (first | (with_reducible first | exact HB.out | apply below_alloc | apply pw_below_drewN | apply below_drew1) | exact HB.out)⟩
        ·replace c27 := Bool.eq_false_iff.mpr c27
         subst c27
         have H1 : (some false) = some r := by rw [if_neg (show ¬ (false = true) by decide)] at H; exact H
         clear H
         have H := H1
         clear H1
         obtain rfl := Option.some.inj H
         go_wp2_with (first | ((with_reducible refine gate_callee (f := 14) rfl ?_); refine goesL_ (some 53) rfl rfl Tryd.func14 (by kernel_rfl) rfl #[.string a0, .slice A1 l1.length c1] rfl (by (try simp only [List.map_toArray, List.map_cons, List.map_nil]); first | done | rfl | (simp only [List.length_drop, List.length_take]; rfl)) ?_; (with_reducible refine (text_Inverse.calls kj8 a0 _ _ l1 t316 t317 _ ?side1 ?side2 A23.out).mono ?_); (case side1 => repeat (first | exact (Kd.C_below HR1.out HB.out) | (with_reducible refine Kd.C_alloc ?_ _) | (with_reducible refine Kd.C_drewN ?_ _) | (with_reducible refine Kd.C_drew ?_))); (case side2 => exact HC1.out); rintro e w34 ⟨v318, rfl, ho0, hb⟩; refine ⟨_, rfl, ?_⟩; have n0_ := Aside0.mk (Kd.R_lower ho0 (below_size (by repeat (first | (with_reducible first | exact HB.out | apply below_alloc | apply pw_below_drewN | apply below_drew1) | exact HB.out)))); have n1_ := Aside0.mk (below_step (by repeat (first | (with_reducible first | exact HB.out | apply below_alloc | apply pw_below_drewN | apply below_drew1) | exact HB.out)) hb); clear HB; have HO319 := n0_; have HB := n1_; clear n0_ n1_; (try clear hb); (try clear hb2); (try clear hk); (try clear hi); (try clear ho0)) | ((with_reducible refine gate_callee (f := 15) rfl ?_); refine goesL_ (some 59) rfl rfl Tryd.func15 (by kernel_rfl) rfl #[.string a0, .slice A1 l1.length c1] rfl (by (try simp only [List.map_toArray, List.map_cons, List.map_nil]); first | done | rfl | (simp only [List.length_drop, List.length_take]; rfl)) ?_; (with_reducible refine (smockingref01_Inverse.calls kj8 a0 _ _ l1 t320 t321 _ ?side1 ?side2 A24.out).mono ?_); (case side1 => repeat (first | exact (Kd.C_below HR1.out HB.out) | (with_reducible refine Kd.C_alloc ?_ _) | (with_reducible refine Kd.C_drewN ?_ _) | (with_reducible refine Kd.C_drew ?_))); (case side2 => exact HC1.out); rintro e w35 ⟨v322, rfl, ho0, hb⟩; refine ⟨_, rfl, ?_⟩; have n0_ := Aside0.mk (Kd.R_elder' (by (with_reducible repeat (first | apply Kd.R_alloc | apply Kd.R_drewN | apply Kd.R_drew)); exact HO319.out) (Kd.R_base ho0) hb); have n1_ := Aside0.mk (Kd.R_lower (Kd.R_new' ho0 (Kd.R_lt (by (with_reducible repeat (first | apply Kd.R_alloc | apply Kd.R_drewN | apply Kd.R_drew)); exact HO319.out))) (below_size (by repeat (first | (with_reducible first | exact HB.out | apply below_alloc | apply pw_below_drewN | apply below_drew1) | exact HB.out)))); have n2_ := Aside0.mk (below_step (by repeat (first | (with_reducible first | exact HB.out | apply below_alloc | apply pw_below_drewN | apply below_drew1) | exact HB.out)) hb); clear HO319; clear HB; have HO319 := n0_; have HO323 := n1_; have HB := n2_; clear n0_ n1_ n2_; (try clear hb); (try clear hb2); (try clear hk); (try clear hi); (try clear ho0); obtain ⟨Ao36, co36, eo36⟩ := Kd.R_slice HO319.out; subst eo36; obtain ⟨Ao37, co37, eo37⟩ := Kd.R_slice HO323.out; subst eo37) | (go_at_call 16; (with_reducible refine (rf0_EqEdits.calls kj8 _ _ t316 _ _ t320 false _ ?side1 ?side2 ?side3 ?side4 A26.out).mono ?_); (case side1 => repeat (first | exact (Kd.R_reads' HO319.out).2.2 | (with_reducible refine Kd.C_alloc ?_ _) | (with_reducible refine Kd.C_drewN ?_ _) | (with_reducible refine Kd.C_drew ?_))); (case side2 => exact (Kd.R_reads' HO319.out).2.1); (case side3 => repeat (first | exact (Kd.R_reads' HO323.out).2.2 | (with_reducible refine Kd.C_alloc ?_ _) | (with_reducible refine Kd.C_drewN ?_ _) | (with_reducible refine Kd.C_drew ?_))); (case side4 => exact (Kd.R_reads' HO323.out).2.1); rintro e w' ⟨rfl, ⟨nd, rfl⟩⟩))
         go_ret
         exact ⟨by first | rfl | (simp [errW_none, errW_some] <;> rfl) | (simp [*, errW_none, errW_some] <;> rfl), by repeat (first | (with_reducible first | exact HB.out | apply below_alloc | apply pw_below_drewN | apply below_drew1) | exact HB.out)⟩
       ·rw [if_neg c25] at H
        have c25b0 : (t317 == t321) = false := beq_eq_false_iff_ne.mpr c25
        have c25b1 : (t317 != t321) = true := bne_iff_ne.mpr c25
        obtain rfl := Option.some.inj H
        go_wp2_with (first | ((with_reducible refine gate_callee (f := 14) rfl ?_); refine goesL_ (some 53) rfl rfl Tryd.func14 (by kernel_rfl) rfl #[.string a0, .slice A1 l1.length c1] rfl (by (try simp only [List.map_toArray, List.map_cons, List.map_nil]); first | done | rfl | (simp only [List.length_drop, List.length_take]; rfl)) ?_; (with_reducible refine (text_Inverse.calls kj8 a0 _ _ l1 t316 t317 _ ?side1 ?side2 A23.out).mono ?_); (case side1 => repeat (first | exact (Kd.C_below HR1.out HB.out) | (with_reducible refine Kd.C_alloc ?_ _) | (with_reducible refine Kd.C_drewN ?_ _) | (with_reducible refine Kd.C_drew ?_))); (case side2 => exact HC1.out); rintro e w38 ⟨v318, rfl, ho0, hb⟩; refine ⟨_, rfl, ?_⟩; have n0_ := Aside0.mk (Kd.R_lower ho0 (below_size (by repeat (first | (with_reducible first | exact HB.out | apply below_alloc | apply pw_below_drewN | apply below_drew1) | exact HB.out)))); have n1_ := Aside0.mk (below_step (by repeat (first | (with_reducible first | exact HB.out | apply below_alloc | apply pw_below_drewN | apply below_drew1) | exact HB.out)) hb); clear HB; have HO319 := n0_; have HB := n1_; clear n0_ n1_; (try clear hb); (try clear hb2); (try clear hk); (try clear hi); (try clear ho0)) | ((with_reducible refine gate_callee (f := 15) rfl ?_); refine goesL_ (some 59) rfl rfl Tryd.func15 (by kernel_rfl) rfl #[.string a0, .slice A1 l1.length c1] rfl (by (try simp only [List.map_toArray, List.map_cons, List.map_nil]); first | done | rfl | (simp only [List.length_drop, List.length_take]; rfl)) ?_; (with_reducible refine (smockingref01_Inverse.calls kj8 a0 _ _ l1 t320 t321 _ ?side1 ?side2 A24.out).mono ?_); (case side1 => repeat (first | exact (Kd.C_below HR1.out HB.out) | (with_reducible refine Kd.C_alloc ?_ _) | (with_reducible refine Kd.C_drewN ?_ _) | (with_reducible refine Kd.C_drew ?_))); (case side2 => exact HC1.out); rintro e w39 ⟨v322, rfl, ho0, hb⟩; refine ⟨_, rfl, ?_⟩; have n0_ := Aside0.mk (Kd.R_elder' (by (with_reducible repeat (first | apply Kd.R_alloc | apply Kd.R_drewN | apply Kd.R_drew)); exact HO319.out) (Kd.R_base ho0) hb); have n1_ := Aside0.mk (Kd.R_lower (Kd.R_new' ho0 (Kd.R_lt (by (with_reducible repeat (first | apply Kd.R_alloc | apply Kd.R_drewN | apply Kd.R_drew)); exact HO319.out))) (below_size (by repeat (first | (with_reducible first | exact HB.out | apply below_alloc | apply pw_below_drewN | apply below_drew1) | exact HB.out)))); have n2_ := Aside0.mk (below_step (by repeat (first | (with_reducible first | exact HB.out | apply below_alloc | apply pw_below_drewN | apply below_drew1) | exact HB.out)) hb); clear HO319; clear HB; have HO319 := n0_; have HO323 := n1_; have HB := n2_; clear n0_ n1_ n2_; (try clear hb); (try clear hb2); (try clear hk); (try clear hi); (try clear ho0)))
        go_ret
        exact ⟨by first | rfl | (simp [errW_none, errW_some] <;> rfl) | (simp [*, errW_none, errW_some] <;> rfl), by repeat (first | (with_reducible first | exact HB.out | apply below_alloc | apply pw_below_drewN | apply below_drew1) | exact HB.out)⟩

end Go.Proofs.YthimblhfjfngiaaDoor.PText

namespace Go.Proofs.YthimblhfjfngiaaDoor.PText
open Go.RowKit Go.Lib Go.Proofs.YthimblhfjfngiaaDoorW.PrintWords Go.Proofs.YthimblhfjfngiaaDoorW.PrintLast Go.Proofs.YthimblhfjfngiaaDoorW.PrintMore
theorem before_f (x y : S34) : smockingref01_before.f x.f0 x.f1 x.f2 y.f0 y.f1 y.f2 = some (eltS x y) := by
  unfold smockingref01_before.f eltS Tx.elt toE
  by_cases h0 : x.f0 = y.f0
  · have n0 : ¬ x.f0 < y.f0 := by omega
    rw [if_pos h0]
    by_cases h1 : x.f1 = y.f1
    · have n1 : ¬ x.f1 < y.f1 := by omega
      rw [if_pos h1, bl_lt]
      simp [h0, h1]
    · rw [if_neg h1]
      simp [h0, h1]
  · rw [if_neg h0]
    simp [h0]
theorem touch_f (k : Nat) (x y : S34) : smockingref01_touch.f (k + 1) x.f0 x.f1 x.f2 y.f0 y.f1 y.f2 = some (Tx.touch (toE x) (toE y)) := by
  unfold smockingref01_touch.f Tx.touch toE
  simp only [smockingref01_touch.j0]
  by_cases h1 : x.f0 = x.f1
  · rw [if_pos h1]
    by_cases h2 : y.f0 = y.f1
    · have b : (y.f0 == y.f1) = true := beq_iff_eq.2 h2
      rw [b, if_pos rfl, if_pos ⟨h1, h2⟩]
      rfl
    · have b : (y.f0 == y.f1) = false := beq_eq_false_iff_ne.2 h2
      rw [b, if_neg (show ¬ (false = true) by decide), if_pos h1, if_neg (show ¬ (x.f0 = x.f1 ∧ y.f0 = y.f1) from fun q => h2 q.2), if_pos h1]
      by_cases h3 : y.f0 < x.f0
      · rw [if_pos h3]; simp [h3]
      · rw [if_neg h3]; simp [h3]
  · rw [if_neg h1, if_neg (show ¬ (false = true) by decide), if_neg h1, if_neg (show ¬ (x.f0 = x.f1 ∧ y.f0 = y.f1) from fun q => h1 q.1), if_neg h1]
    by_cases h2 : y.f0 = y.f1
    · rw [if_pos h2, if_pos h2]
      by_cases h3 : x.f0 < y.f0
      · rw [if_pos h3]; simp [h3]
      · rw [if_neg h3]; simp [h3]
    · rw [if_neg h2, if_neg h2]
      by_cases h3 : x.f0 < y.f1
      · rw [if_pos h3]; simp [h3]
      · rw [if_neg h3]; simp [h3]
end Go.Proofs.YthimblhfjfngiaaDoor.PText

namespace Go.Proofs.YthimblhfjfngiaaDoor.PText
open Go.RowKit Go.Lib Go.Proofs.YthimblhfjfngiaaDoorW.PrintWords Go.Proofs.YthimblhfjfngiaaDoorW.PrintLast Go.Proofs.YthimblhfjfngiaaDoorW.PrintMore
theorem eqS34 (x y : S34) : (x.f0 == y.f0 && (x.f1 == y.f1 && (x.f2.toList == y.f2.toList))) = decide (x = y) := by
  rw [Bool.eq_iff_iff, decide_eq_true_iff]
  simp only [Bool.and_eq_true, beq_iff_eq]
  constructor
  · rintro ⟨h0, h1, h2⟩
    refine toE_inj ?_
    unfold toE
    rw [h0, h1, h2]
  · rintro rfl; exact ⟨rfl, rfl, rfl⟩
theorem ordered_l1 (x0 : List S34) (hx0 : x0.length ≤ 1000000) (i : Nat) (hi : i < x0.length) (x3 : List S34) (hx : x3.length ≤ 1000000) : ∀ (m j k B : Nat) (b : Bool), x3.length - j = m → j ≤ x3.length → m + 1 + B ≤ k →
    ∃ k', B ≤ k' ∧ smockingref01_ordered.l1 k x0 x3 (i : Int) b (j : Int) = if b = true ∨ x0[i] ∈ x3.drop j then smockingref01_ordered.l0 k' x0 x3 (((i + 1 : Nat)) : Int) else smockingref01_ordered.l2 k' x0 (x3 ++ [x0[i]]) (i : Int) (x3.length : Int) := by
  intro m
  induction m with
  | zero =>
    intro j k B b hm hj hk
    obtain ⟨k, rfl⟩ : ∃ q, k = q + 1 := ⟨k - 1, by omega⟩
    refine ⟨k, by omega, ?_⟩
    rw [smockingref01_ordered.l1, if_neg (by omega), List.drop_of_length_le (by omega)]
    cases b with
    | true => rw [if_pos rfl, if_pos (Or.inl rfl), nx i (by omega)]
    | false =>
      rw [if_neg (show ¬ (false = true) by decide), if_neg (show ¬ (false = true ∨ x0[i] ∈ []) by rintro (q | q) <;> cases q), if_pos (by omega), if_pos (by omega), if_pos (by omega), Option.bind_some, rd34_at x0 i hi]
      have e : wrap64 (((x3 ++ [(⟨x0[i].f0, x0[i].f1, x0[i].f2⟩ : S34)]).length : Int) - 1) = (x3.length : Int) := by
        rw [List.length_append, List.length_singleton, w64 (by omega) (by omega)]; omega
      rw [e]
  | succ m ih =>
    intro j k B b hm hj hk
    obtain ⟨k, rfl⟩ : ∃ q, k = q + 1 := ⟨k - 1, by omega⟩
    have hlt : j < x3.length := by omega
    have hd : x3.drop j = x3[j] :: x3.drop (j + 1) := List.drop_eq_getElem_cons hlt
    rw [smockingref01_ordered.l1, if_pos (by omega), nx j (by omega)]
    cases b with
    | true =>
      obtain ⟨k', h1, h2⟩ := ih (j + 1) k B true (by omega) (by omega) (by omega)
      refine ⟨k', h1, ?_⟩
      rw [if_pos rfl, h2, if_pos (Or.inl rfl), if_pos (Or.inl rfl)]
    | false =>
      obtain ⟨k', h1, h2⟩ := ih (j + 1) k B (decide (x3[j] = x0[i])) (by omega) (by omega) (by omega)
      refine ⟨k', h1, ?_⟩
      rw [if_neg (show ¬ (false = true) by decide), if_pos (by omega), if_pos (by omega), if_pos (by omega), rd34_at x0 i hi, rd34_at x3 j hlt, eqS34, h2, hd]
      by_cases q : x3[j] = x0[i]
      · rw [if_pos (Or.inl (decide_eq_true q)), if_pos (Or.inr (by rw [q]; exact List.mem_cons_self))]
      · by_cases q2 : x0[i] ∈ x3.drop (j + 1)
        · rw [if_pos (Or.inr q2), if_pos (Or.inr (List.mem_cons_of_mem _ q2))]
        · rw [if_neg (by rintro (c | c); exact q (of_decide_eq_true c); exact q2 c), if_neg (by
            rintro (c | c)
            · cases c
            · rcases List.mem_cons.1 c with c | c
              · exact q c.symm
              · exact q2 c)]
theorem swap_last (A : List S34) (y x : S34) (C : List S34) (p : Nat) (h : A.length = p) : ((A ++ [y] ++ x :: C).set (p + 1) y).set p x = A ++ x :: y :: C := by
  subst h
  rw [List.append_assoc, List.set_append_right _ _ (by omega), List.set_append_right _ _ (by omega)]
  simp
theorem ordered_l2 (x0 : List S34) (i : Nat) (hi : i ≤ 1000000) : ∀ (p k B : Nat) (A : List S34) (x : S34) (C : List S34), A.length = p → Tx.Asc eltS (A ++ C) → (∀ c ∈ C, eltS x c = true) → x ∉ A → A.length + C.length ≤ 1000000 → p + 1 + B ≤ k →
    ∃ k' L, B ≤ k' ∧ smockingref01_ordered.l2 k x0 (A ++ x :: C) (i : Int) (p : Int) = smockingref01_ordered.l0 k' x0 L ((i + 1 : Nat) : Int) ∧ Tx.Asc eltS L ∧ (∀ a, a ∈ L ↔ a ∈ A ++ x :: C) := by
  intro p
  induction p with
  | zero =>
    intro k B A x C hA hs hc hx hl hk
    obtain ⟨k, rfl⟩ : ∃ q, k = q + 1 := ⟨k - 1, by omega⟩
    obtain rfl := List.eq_nil_of_length_eq_zero hA
    refine ⟨k, x :: C, by omega, ?_, Tx.asc_cons.2 ⟨hc, hs⟩, fun a => Iff.rfl⟩
    rw [smockingref01_ordered.l2, if_neg (by omega), nx i hi]
    rfl
  | succ p ih =>
    intro k B A x C hA hs hc hx hl hk
    obtain ⟨k, rfl⟩ : ∃ q, k = q + 1 := ⟨k - 1, by omega⟩
    obtain ⟨A', y, rfl⟩ : ∃ A' y, A = A' ++ [y] := by
      rcases List.eq_nil_or_concat A with h | ⟨A', y, h⟩
      · subst h; cases hA
      · exact ⟨A', y, by rw [h, List.concat_eq_append]⟩
    have hA' : A'.length = p := by rw [List.length_append, List.length_singleton] at hA; omega
    have hlen : (A' ++ [y] ++ x :: C).length = p + 1 + (C.length + 1) := by
      rw [List.length_append, List.length_append, List.length_singleton, List.length_cons, hA']
    have e1 : rd_T34 (A' ++ [y] ++ x :: C) ((p + 1 : Nat) : Int) = x := by
      rw [rd34_at _ (p + 1) (by omega), List.getElem_append_right (by rw [List.length_append, List.length_singleton]; omega)]
      simp [hA']
    have e2 : rd_T34 (A' ++ [y] ++ x :: C) (p : Int) = y := by
      rw [rd34_at _ p (by omega), List.getElem_append_left (by rw [List.length_append, List.length_singleton]; omega), List.getElem_append_right (by omega)]
      simp [hA']
    have e3 : wrap64 (((p + 1 : Nat) : Int) - 1) = (p : Int) := by
      rw [List.length_append, List.length_singleton] at hl
      rw [w64 (by omega) (by omega)]; omega
    have hs' : Tx.Asc eltS (A' ++ y :: C) := by rwa [List.append_assoc] at hs
    rw [smockingref01_ordered.l2, if_pos (by omega), if_pos (by omega), if_pos (by rw [hlen]; omega), e3, if_pos (by omega), if_pos (by rw [hlen]; omega), e1, e2, before_f, Option.bind_some]
    cases q : eltS x y with
    | true =>
      rw [if_pos rfl]
      obtain ⟨k', L, h1, h2, h3, h4⟩ := ih k B A' x (y :: C) hA' hs' (fun c m => by
        rcases List.mem_cons.1 m with m | m
        · rw [m]; exact q
        · exact hc c m) (fun m => hx (List.mem_append_left _ m)) (by rw [List.length_append, List.length_singleton] at hl; rw [List.length_cons]; omega) (by omega)
      refine ⟨k', L, h1, ?_, h3, fun a => ?_⟩
      · rw [← h2, Int.toNat_natCast, Int.toNat_natCast]
        have := swap_last A' y x C p hA'
        rw [show (⟨y.f0, y.f1, y.f2⟩ : S34) = y from rfl, show (⟨x.f0, x.f1, x.f2⟩ : S34) = x from rfl, this]
      · rw [h4 a]
        simp only [List.mem_append, List.mem_cons, List.not_mem_nil, or_false]
        constructor
        · rintro (m | m | m | m)
          · exact .inl (.inl m)
          · exact .inr (.inl m)
          · exact .inl (.inr m)
          · exact .inr (.inr m)
        · rintro ((m | m) | m | m)
          · exact .inl m
          · exact .inr (.inr (.inl m))
          · exact .inr (.inl m)
          · exact .inr (.inr (.inr m))
    | false =>
      rw [if_neg (show ¬ (false = true) by decide), nx i hi]
      refine ⟨k, A' ++ [y] ++ x :: C, by omega, rfl, ?_, fun a => Iff.rfl⟩
      have hyx : eltS y x = true := by
        cases q2 : eltS y x with
        | true => rfl
        | false => exact absurd (eltS_lin.tri q q2) (fun e => hx (by rw [e]; exact List.mem_append_right _ List.mem_cons_self))
      obtain ⟨s1, s2, s3⟩ := Tx.asc_append.1 hs
      refine Tx.asc_append.2 ⟨s1, Tx.asc_cons.2 ⟨hc, s2⟩, fun a ma b mb => ?_⟩
      rcases List.mem_cons.1 mb with mb | mb
      · rw [mb]
        rcases List.mem_append.1 ma with ma | ma
        · exact eltS_lin.tr ((Tx.asc_append.1 s1).2.2 a ma y List.mem_cons_self) hyx
        · rw [List.mem_singleton.1 ma]; exact hyx
      · exact s3 a ma b mb
theorem ordered_l0 (x0 : List S34) (N : Nat) (hN : x0.length ≤ N) (hN2 : N ≤ 1000000) : ∀ (m i k : Nat), x0.length - i = m → i ≤ x0.length → m * (2 * N + 5) + 1 ≤ k →
    smockingref01_ordered.l0 k x0 (Tx.ord eltS (x0.take i)) (i : Int) = some (Tx.ord eltS x0) := by
  intro m
  induction m with
  | zero =>
    intro i k hm hi hk
    obtain ⟨k, rfl⟩ : ∃ q, k = q + 1 := ⟨k - 1, by omega⟩
    rw [smockingref01_ordered.l0, if_neg (by omega), List.take_of_length_le (by omega)]
  | succ m ih =>
    intro i k hm hi hk
    rw [Nat.succ_mul] at hk
    obtain ⟨k, rfl⟩ : ∃ q, k = q + 1 := ⟨k - 1, by omega⟩
    have hlt : i < x0.length := by omega
    have hlo : (Tx.ord eltS (x0.take i)).length ≤ N := Nat.le_trans (Tx.ord_len _) (by rw [List.length_take]; omega)
    have ht : x0.take (i + 1) = x0.take i ++ [x0[i]] := List.take_succ_eq_append_getElem hlt
    have ih1 := fun k => ih (i + 1) k (by omega) (by omega)
    rw [smockingref01_ordered.l0, if_pos (by omega)]
    obtain ⟨k1, h1, h2⟩ := ordered_l1 x0 (by omega) i hlt (Tx.ord eltS (x0.take i)) (by omega) _ 0 k (m * (2 * N + 5) + 1 + (N + 2)) false rfl (by omega) (by omega)
    rw [show ((0 : Nat) : Int) = 0 from rfl, List.drop_zero] at h2
    rw [h2]
    by_cases q : x0[i] ∈ Tx.ord eltS (x0.take i)
    · rw [if_pos (Or.inr q)]
      have := ih1 k1 (by omega)
      rw [ht, Tx.ord_snoc_mem eltS_lin ((Tx.mem_ord eltS_lin).1 q)] at this
      exact this
    · rw [if_neg (by rintro (c | c); cases c; exact q c)]
      obtain ⟨k2, L, g1, g2, g3, g4⟩ := ordered_l2 x0 i (by omega) (Tx.ord eltS (x0.take i)).length k1 (m * (2 * N + 5) + 1) (Tx.ord eltS (x0.take i)) x0[i] [] rfl (by rw [List.append_nil]; exact Tx.asc_ord eltS_lin) (fun c m => by cases m) q (by rw [List.length_nil]; omega) (by omega)
      rw [g2]
      have e : L = Tx.ord eltS (x0.take (i + 1)) := Tx.ord_of_asc eltS_lin g3 (fun a => by
        rw [g4 a, ht, List.mem_append, List.mem_append, Tx.mem_ord eltS_lin])
      rw [e]
      exact ih1 k2 (by omega)
theorem ordered_f (x0 : List S34) (N : Nat) (hN : x0.length ≤ N) (hN2 : N ≤ 1000000) (k : Nat) (hk : N * (2 * N + 5) + 1 ≤ k) : smockingref01_ordered.f k x0 = some (Tx.ord eltS x0) := by
  have h := ordered_l0 x0 N hN hN2 x0.length 0 k (by omega) (by omega) (Nat.le_trans (Nat.add_le_add_right (Nat.mul_le_mul_right _ hN) 1) hk)
  exact h
end Go.Proofs.YthimblhfjfngiaaDoor.PText

namespace Go.Proofs.YthimblhfjfngiaaDoor.PText
open Go.RowKit Go.Lib Go.Proofs.YthimblhfjfngiaaDoorW.PrintWords Go.Proofs.YthimblhfjfngiaaDoorW.PrintLast Go.Proofs.YthimblhfjfngiaaDoorW.PrintMore
/-- two edits that do not go together -/
def clE (x y : S34) : Bool := decide (x ≠ y) && Tx.touch (toE x) (toE y)
theorem neS34 (x y : S34) : (!(x.f0 == y.f0) || (!(x.f1 == y.f1) || !(x.f2.toList == y.f2.toList))) = decide (x ≠ y) := by
  have h := eqS34 x y
  rw [show decide (x ≠ y) = !decide (x = y) by simp, ← h]
  simp only [Bool.not_and]
theorem fine_l0 (s : ByteArray) (l : List S34) (hl : l.length ≤ 1000000) : ∀ (m i k B : Nat), l.length - i = m → i ≤ l.length → m + 1 + B ≤ k →
    ∃ k', B ≤ k' ∧ smockingref01_Fine.l0 k s l (i : Int) = if (l.drop i).any (badE s.size) = true then some 1 else smockingref01_Fine.l1 k' l 0 := by
  intro m
  induction m with
  | zero =>
    intro i k B hm hi hk
    obtain ⟨k, rfl⟩ : ∃ q, k = q + 1 := ⟨k - 1, by omega⟩
    refine ⟨k, by omega, ?_⟩
    rw [smockingref01_Fine.l0, if_neg (by omega), List.drop_of_length_le (by omega)]
    rfl
  | succ m ih =>
    intro i k B hm hi hk
    obtain ⟨k, rfl⟩ : ∃ q, k = q + 1 := ⟨k - 1, by omega⟩
    have hlt : i < l.length := by omega
    have hd : l.drop i = l[i] :: l.drop (i + 1) := List.drop_eq_getElem_cons hlt
    obtain ⟨k', h1, h2⟩ := ih (i + 1) k B (by omega) (by omega) (by omega)
    refine ⟨k', h1, ?_⟩
    rw [smockingref01_Fine.l0, if_pos (by omega), if_pos (by omega), rd34_at l i hlt, nx i (by omega), h2, hd, List.any_cons]
    unfold badE
    by_cases c1 : l[i].f0 < 0
    · rw [if_pos c1]; simp [c1]
    · rw [if_neg c1]
      by_cases c2 : l[i].f1 > (s.size : Int)
      · rw [if_pos c2]; simp [c2]
      · rw [if_neg c2]
        by_cases c3 : l[i].f0 > l[i].f1
        · rw [if_pos c3]; simp [c3]
        · rw [if_neg c3]
          have d1 : decide (l[i].f0 < 0) = false := decide_eq_false c1
          have d2 : decide ((s.size : Int) < l[i].f1) = false := decide_eq_false (by omega)
          have d3 : decide (l[i].f1 < l[i].f0) = false := decide_eq_false (by omega)
          rw [d1, d2, d3]
          rfl
theorem fine_l2 (l : List S34) (hl : l.length ≤ 1000000) (i : Nat) (hi : i < l.length) : ∀ (m j k B : Nat), i - j = m → j ≤ i → m + 2 + B ≤ k →
    ((∃ q, ∃ _ : q < l.length, q < i ∧ clE l[i] l[q] = true) ∧ smockingref01_Fine.l2 k l (i : Int) (j : Int) = some 10) ∨
    ((∀ q, ∀ _ : q < l.length, j ≤ q → q < i → clE l[i] l[q] = false) ∧ ∃ k', B ≤ k' ∧ smockingref01_Fine.l2 k l (i : Int) (j : Int) = smockingref01_Fine.l1 k' l ((i + 1 : Nat) : Int)) := by
  intro m
  induction m with
  | zero =>
    intro j k B hm hj hk
    obtain ⟨k, rfl⟩ : ∃ q, k = q + 1 := ⟨k - 1, by omega⟩
    refine .inr ⟨fun q _ h1 h2 => by omega, k, by omega, ?_⟩
    rw [smockingref01_Fine.l2, if_neg (by omega), nx i (by omega)]
  | succ m ih =>
    intro j k B hm hj hk
    obtain ⟨k, rfl⟩ : ∃ q, k = q + 2 := ⟨k - 2, by omega⟩
    have hlt : j < l.length := by omega
    have hh := ih (j + 1) (k + 1) B (by omega) (by omega) (by omega)
    rw [smockingref01_Fine.l2, if_pos (by omega), if_pos (by omega), if_pos (by omega), if_pos (by omega), if_pos (by omega), rd34_at l i hi, rd34_at l j hlt, neS34, nx j (by omega), touch_f, Option.bind_some]
    by_cases c1 : l[i] ≠ l[j]
    · rw [if_pos (decide_eq_true c1)]
      cases c2 : Tx.touch (toE l[i]) (toE l[j]) with
      | true =>
        rw [if_pos rfl]
        exact .inl ⟨⟨j, hlt, by omega, by unfold clE; rw [c2, decide_eq_true c1]; rfl⟩, rfl⟩
      | false =>
        rw [if_neg (show ¬ (false = true) by decide)]
        have c3 : clE l[i] l[j] = false := by unfold clE; rw [c2, Bool.and_false]
        rcases hh with ⟨h1, h2⟩ | ⟨h1, h2⟩
        · exact .inl ⟨h1, h2⟩
        · refine .inr ⟨fun q hq g1 g2 => ?_, h2⟩
          rcases Nat.eq_or_lt_of_le g1 with e | e
          · subst e; exact c3
          · exact h1 q hq e g2
    · rw [if_neg (show ¬ (decide (l[i] ≠ l[j]) = true) by rw [decide_eq_false c1]; decide)]
      have c3 : clE l[i] l[j] = false := by unfold clE; rw [decide_eq_false c1, Bool.false_and]
      rcases hh with ⟨h1, h2⟩ | ⟨h1, h2⟩
      · exact .inl ⟨h1, h2⟩
      · refine .inr ⟨fun q hq g1 g2 => ?_, h2⟩
        rcases Nat.eq_or_lt_of_le g1 with e | e
        · subst e; exact c3
        · exact h1 q hq e g2
theorem fine_l1 (l : List S34) (N : Nat) (hN : l.length ≤ N) (hN2 : N ≤ 1000000) : ∀ (m i k : Nat), l.length - i = m → i ≤ l.length → m * (N + 4) + 1 ≤ k →
    ((∃ p, ∃ _ : p < l.length, ∃ q, ∃ _ : q < l.length, clE l[p] l[q] = true) ∧ smockingref01_Fine.l1 k l (i : Int) = some 10) ∨
    ((∀ p, ∀ _ : p < l.length, ∀ q, ∀ _ : q < l.length, i ≤ p → q < p → clE l[p] l[q] = false) ∧ smockingref01_Fine.l1 k l (i : Int) = some 0) := by
  intro m
  induction m with
  | zero =>
    intro i k hm hi hk
    obtain ⟨k, rfl⟩ : ∃ q, k = q + 1 := ⟨k - 1, by omega⟩
    refine .inr ⟨fun p _ q _ h1 h2 => by omega, ?_⟩
    rw [smockingref01_Fine.l1, if_neg (by omega)]
  | succ m ih =>
    intro i k hm hi hk
    rw [Nat.succ_mul] at hk
    obtain ⟨k, rfl⟩ : ∃ q, k = q + 1 := ⟨k - 1, by omega⟩
    have hlt : i < l.length := by omega
    rw [smockingref01_Fine.l1, if_pos (by omega)]
    rcases fine_l2 l (by omega) i hlt i 0 k (m * (N + 4) + 1) (by omega) (by omega) (by omega) with ⟨⟨q, hq, h1, h2⟩, h3⟩ | ⟨h1, k', h2, h3⟩
    · exact .inl ⟨⟨i, hlt, q, hq, h2⟩, h3⟩
    · rw [show (0 : Int) = ((0 : Nat) : Int) from rfl, h3]
      rcases ih (i + 1) k' (by omega) (by omega) h2 with ⟨g1, g2⟩ | ⟨g1, g2⟩
      · exact .inl ⟨g1, g2⟩
      · refine .inr ⟨fun p hp q hq e1 e2 => ?_, g2⟩
        rcases Nat.eq_or_lt_of_le e1 with e | e
        · subst e; exact h1 q hq (Nat.zero_le _) e2
        · exact g1 p hp q hq e e2
theorem clE_symm (x y : S34) : clE x y = clE y x := by
  unfold clE
  rw [Tx.touch_symm, show decide (x ≠ y) = decide (y ≠ x) from decide_eq_decide.2 ⟨fun h e => h e.symm, fun h e => h e.symm⟩]
theorem fine_f (s : ByteArray) (l : List S34) (N : Nat) (hN : l.length ≤ N) (hN2 : N ≤ 1000000) (k : Nat) (hk : N * (N + 4) + N + 5 ≤ k) : smockingref01_Fine.f k s l = some (fineE s.size l) := by
  obtain ⟨k, rfl⟩ : ∃ q, k = q + 1 := ⟨k - 1, by omega⟩
  have hmul : l.length * (N + 4) ≤ N * (N + 4) := Nat.mul_le_mul_right _ hN
  unfold smockingref01_Fine.f fineE
  by_cases c1 : 200000 < s.size
  · rw [if_pos (by omega), if_pos (Or.inl c1), smockingref01_Fine.j0, if_pos rfl]
  · rw [if_neg (by omega)]
    by_cases c2 : 10000 < l.length
    · rw [if_pos (Or.inr c2), smockingref01_Fine.j0, if_pos (decide_eq_true (by omega))]
    · rw [if_neg (show ¬ (200000 < s.size ∨ 10000 < l.length) by rintro (q | q); exact c1 q; exact c2 q), smockingref01_Fine.j0, if_neg (show ¬ (decide ((l.length : Int) > 10000) = true) by rw [decide_eq_false (by omega)]; decide)]
      obtain ⟨k', h1, h2⟩ := fine_l0 s l (by omega) l.length 0 k (l.length * (N + 4) + 1) (by omega) (by omega) (by omega)
      rw [show ((0 : Nat) : Int) = 0 from rfl, List.drop_zero] at h2
      rw [h2]
      by_cases c3 : l.any (badE s.size) = true
      · rw [if_pos c3, if_pos c3]
      · rw [if_neg c3, if_neg c3]
        have hok : Tx.Okay (s.size : Int) ((Tx.ord eltS l).map toE) := fun e he => by
          obtain ⟨x, hx, rfl⟩ := List.mem_map.1 he
          have hx' := (Tx.mem_ord eltS_lin).1 hx
          have hb : badE s.size x = false := by
            cases q : badE s.size x with
            | false => rfl
            | true => exact absurd (List.any_eq_true.2 ⟨x, hx', q⟩) c3
          unfold badE at hb
          simp only [Bool.or_eq_false_iff, decide_eq_false_iff_not] at hb
          show 0 ≤ x.f0 ∧ x.f0 ≤ x.f1 ∧ x.f1 ≤ (s.size : Int)
          omega
        have hasc : Tx.Asc Tx.elt ((Tx.ord eltS l).map toE) := List.pairwise_map.2 (Tx.asc_ord eltS_lin)
        have hci := Tx.clash_iff hok hasc
        rcases fine_l1 l N hN hN2 l.length 0 k' (by omega) (by omega) h1 with ⟨⟨p, hp, q, hq, g1⟩, g2⟩ | ⟨g1, g2⟩
        · rw [show ((0 : Nat) : Int) = 0 from rfl] at g2
          rw [g2, if_pos]
          unfold clE at g1
          rw [Bool.and_eq_true] at g1
          refine hci.2 ⟨_, List.mem_map.2 ⟨l[p], (Tx.mem_ord eltS_lin).2 (List.getElem_mem hp), rfl⟩, _, List.mem_map.2 ⟨l[q], (Tx.mem_ord eltS_lin).2 (List.getElem_mem hq), rfl⟩, fun e => of_decide_eq_true g1.1 (toE_inj e), g1.2⟩
        · rw [show ((0 : Nat) : Int) = 0 from rfl] at g2
          rw [g2, if_neg]
          intro hc
          obtain ⟨a, ha, b, hb, hab, ht⟩ := hci.1 hc
          obtain ⟨x, hx, rfl⟩ := List.mem_map.1 ha
          obtain ⟨y, hy, rfl⟩ := List.mem_map.1 hb
          obtain ⟨p, hp, rfl⟩ := List.mem_iff_getElem.1 ((Tx.mem_ord eltS_lin).1 hx)
          obtain ⟨q, hq, rfl⟩ := List.mem_iff_getElem.1 ((Tx.mem_ord eltS_lin).1 hy)
          have hcl : clE l[p] l[q] = true := by
            unfold clE
            rw [ht, Bool.and_true]
            exact decide_eq_true (fun e => hab (by rw [e]))
          rcases Nat.lt_trichotomy p q with e | e | e
          · have := g1 q hq p hp (Nat.zero_le _) e
            rw [clE_symm, hcl] at this; cases this
          · subst e; exact hab rfl
          · have := g1 p hp q hq (Nat.zero_le _) e
            rw [hcl] at this; cases this
end Go.Proofs.YthimblhfjfngiaaDoor.PText

namespace Go.Proofs.YthimblhfjfngiaaDoor.PText
open Go.RowKit Go.Lib Go.Proofs.YthimblhfjfngiaaDoorW.PrintWords Go.Proofs.YthimblhfjfngiaaDoorW.PrintLast Go.Proofs.YthimblhfjfngiaaDoorW.PrintMore
theorem made_l0 (s : ByteArray) (l : List S34) (hl : l.length ≤ 1000000) : ∀ (m i k : Nat) (P : List UInt8) (back : List S34) (p sh : Int), l.length - i = m → i ≤ l.length → m + 1 ≤ k → 0 ≤ p →
    Tx.Ch (s.size : Int) p ((l.drop i).map toE) → (P.length : Int) = p + sh → (P ++ Tx.ap s.data.toList p ((l.drop i).map toE)).length ≤ 100000000000000 → back.length ≤ i →
    smockingref01_made.l0 k s l (nums P) back p (i : Int) = some (⟨(P ++ Tx.ap s.data.toList p ((l.drop i).map toE)).toArray⟩, back ++ invS s sh (l.drop i)) := by
  intro m
  induction m with
  | zero =>
    intro i k P back p sh hm hi hk hp hc hP hlen hb
    obtain ⟨k, rfl⟩ : ∃ q, k = q + 1 := ⟨k - 1, by omega⟩
    have hd : l.drop i = [] := List.drop_of_length_le (by omega)
    rw [hd] at hc hlen ⊢
    have hc' : p ≤ (s.size : Int) := hc
    have e1 : Tx.ap s.data.toList p (([] : List S34).map toE) = s.data.toList.drop p.toNat := rfl
    rw [e1] at hlen ⊢
    have e2 : (s.extract p.toNat s.size).size = (s.data.toList.drop p.toNat).length := by rw [size_list, ext_end]
    rw [List.length_append] at hlen
    rw [smockingref01_made.l0, if_neg (by omega), if_pos hp, if_pos hc', if_pos (by rw [nums_len, e2]; omega), nums_bytesOf, ext_end, nums_app, str_nums]
    simp [invS]
  | succ m ih =>
    intro i k P back p sh hm hi hk hp hc hP hlen hb
    obtain ⟨k, rfl⟩ : ∃ q, k = q + 1 := ⟨k - 1, by omega⟩
    have hlt : i < l.length := by omega
    have hd : l.drop i = l[i] :: l.drop (i + 1) := List.drop_eq_getElem_cons hlt
    rw [hd] at hc hlen ⊢
    obtain ⟨hc1, hc2, hc3⟩ := hc
    replace hc1 : p ≤ l[i].f0 := hc1
    replace hc2 : l[i].f0 ≤ l[i].f1 := hc2
    replace hc3 : Tx.Ch (s.size : Int) l[i].f1 ((l.drop (i + 1)).map toE) := hc3
    have hc4 := Tx.ch_le hc3
    have e0 : Tx.ap s.data.toList p ((l[i] :: l.drop (i + 1)).map toE) = Tx.sl s.data.toList p l[i].f0 ++ l[i].f2.data.toList ++ Tx.ap s.data.toList l[i].f1 ((l.drop (i + 1)).map toE) := by
      rw [← toE_x]; rfl
    rw [e0] at hlen ⊢
    have hsl : ((Tx.sl s.data.toList p l[i].f0).length : Int) = l[i].f0 - p := Tx.sl_len hp hc1 (by rw [← size_list]; omega)
    have e1 : P ++ (Tx.sl s.data.toList p l[i].f0 ++ l[i].f2.data.toList ++ Tx.ap s.data.toList l[i].f1 ((l.drop (i + 1)).map toE)) = (P ++ Tx.sl s.data.toList p l[i].f0 ++ l[i].f2.data.toList) ++ Tx.ap s.data.toList l[i].f1 ((l.drop (i + 1)).map toE) := by simp
    rw [e1] at hlen ⊢
    have hlen' := hlen
    rw [List.length_append, List.length_append, List.length_append, ← size_list] at hlen
    have g1 : (s.extract p.toNat l[i].f0.toNat).size = (Tx.sl s.data.toList p l[i].f0).length := by rw [size_list, ext_sl]
    have ih1 := ih (i + 1) k (P ++ Tx.sl s.data.toList p l[i].f0 ++ l[i].f2.data.toList) (back ++ [(⟨l[i].f0 + sh, l[i].f0 + sh + (l[i].f2.size : Int), s.extract l[i].f0.toNat l[i].f1.toNat⟩ : S34)]) l[i].f1 (sh + ((l[i].f2.size : Int) - (l[i].f1 - l[i].f0))) (by omega) (by omega) (by omega) (by omega) hc3
      (by rw [List.length_append, List.length_append, ← size_list]; omega) hlen' (by rw [List.length_append, List.length_singleton]; omega)
    rw [smockingref01_made.l0, if_pos (by omega), if_pos (by omega), if_pos hp, rd34_at l i hlt, if_pos hc1, if_pos (by omega), if_pos (by rw [nums_len, g1]; omega), Option.bind_some, nums_bytesOf, ext_sl, nums_app,
      if_pos (by rw [nums_len, List.length_append]; omega), Option.bind_some, nums_bytesOf, nums_app, if_pos (by omega), if_pos hc2, if_pos hc4, if_pos (by omega), nx i (by omega)]
    have n1 : ((nums (P ++ Tx.sl s.data.toList p l[i].f0)).length : Int) = l[i].f0 + sh := by rw [nums_len, List.length_append]; omega
    have n2 : ((nums (P ++ Tx.sl s.data.toList p l[i].f0 ++ l[i].f2.data.toList)).length : Int) = l[i].f0 + sh + (l[i].f2.size : Int) := by rw [nums_len, List.length_append, List.length_append, ← size_list]; omega
    rw [n1, n2, ih1]
    have e4 : invS s sh (l[i] :: l.drop (i + 1)) = (⟨l[i].f0 + sh, l[i].f0 + sh + (l[i].f2.size : Int), s.extract l[i].f0.toNat l[i].f1.toNat⟩ : S34) :: invS s (sh + ((l[i].f2.size : Int) - (l[i].f1 - l[i].f0))) (l.drop (i + 1)) := rfl
    rw [e4, List.append_assoc back, List.singleton_append]
theorem rjoined_l0 (l : List S34) (hl : l.length ≤ 1000000) : ∀ (m i k : Nat) (D : List S34) (c : S34), l.length - i = m → i ≤ l.length → m + 1 ≤ k → D.length ≤ i → c.f2.size + sumS (l.drop i) ≤ 1000000000000000 →
    smockingref01_joined.l0 k l (D ++ [c]) (i : Int) = some (D ++ jgoS c (l.drop i)) := by
  intro m
  induction m with
  | zero =>
    intro i k D c hm hi hk hD hz
    obtain ⟨k, rfl⟩ : ∃ q, k = q + 1 := ⟨k - 1, by omega⟩
    rw [smockingref01_joined.l0, if_neg (by omega), List.drop_of_length_le (by omega)]
    rfl
  | succ m ih =>
    intro i k D c hm hi hk hD hz
    obtain ⟨k, rfl⟩ : ∃ q, k = q + 1 := ⟨k - 1, by omega⟩
    have hlt : i < l.length := by omega
    have hd : l.drop i = l[i] :: l.drop (i + 1) := List.drop_eq_getElem_cons hlt
    rw [hd, sumS_cons] at hz
    obtain ⟨w1, w2, w3⟩ := last_rd D c (by omega)
    have e2 : (D ++ [c]).length = D.length + 1 := by rw [List.length_append, List.length_singleton]
    have nomatch_ : (¬ (l[i].f0 = l[i].f1 ∧ c.f0 = l[i].f0 ∧ c.f1 = l[i].f0)) → smockingref01_joined.l0 k l (D ++ [c] ++ [(⟨l[i].f0, l[i].f1, l[i].f2⟩ : S34)]) ((i + 1 : Nat) : Int) = some (D ++ jgoS c (l[i] :: l.drop (i + 1))) := by
      intro hn
      rw [ih (i + 1) k (D ++ [c]) ⟨l[i].f0, l[i].f1, l[i].f2⟩ (by omega) (by omega) (by omega) (by omega) (by show l[i].f2.size + _ ≤ _; omega)]
      have e : jgoS c (l[i] :: l.drop (i + 1)) = if l[i].f0 = l[i].f1 ∧ c.f0 = l[i].f0 ∧ c.f1 = l[i].f0 then jgoS ⟨c.f0, c.f1, c.f2 ++ l[i].f2⟩ (l.drop (i + 1)) else c :: jgoS l[i] (l.drop (i + 1)) := rfl
      rw [e, if_neg hn, List.append_assoc, List.singleton_append]
    rw [smockingref01_joined.l0, if_pos (by omega), w1, if_pos (by omega), if_pos (by omega), rd34_at l i hlt, nx i (by omega), hd, w2, e2]
    by_cases c1 : l[i].f0 = l[i].f1
    · rw [if_pos c1, if_pos (by omega), if_pos (by omega)]
      by_cases c2 : c.f0 = l[i].f0
      · rw [if_pos c2]
        by_cases c3 : c.f1 = l[i].f0
        · rw [if_pos c3, if_pos (by omega), Int.toNat_natCast, set_last]
          rw [ih (i + 1) k D ⟨c.f0, c.f1, c.f2 ++ l[i].f2⟩ (by omega) (by omega) (by omega) (by omega) (by show (c.f2 ++ l[i].f2).size + _ ≤ _; rw [ByteArray.size_append]; omega)]
          have e : jgoS c (l[i] :: l.drop (i + 1)) = if l[i].f0 = l[i].f1 ∧ c.f0 = l[i].f0 ∧ c.f1 = l[i].f0 then jgoS ⟨c.f0, c.f1, c.f2 ++ l[i].f2⟩ (l.drop (i + 1)) else c :: jgoS l[i] (l.drop (i + 1)) := rfl
          rw [e, if_pos ⟨c1, c2, c3⟩]
        · rw [if_neg c3, if_pos (by omega)]
          exact nomatch_ (fun q => c3 q.2.2)
      · rw [if_neg c2, if_pos (by omega)]
        exact nomatch_ (fun q => c2 q.2.1)
    · rw [if_neg c1, if_pos (by omega)]
      exact nomatch_ (fun q => c1 q.1)
theorem rjoined_f (l : List S34) (hl : l.length ≤ 1000000) (hz : sumS l ≤ 1000000000000000) (k : Nat) (hk : l.length + 1 ≤ k) : smockingref01_joined.f k l = some (jnS l) := by
  obtain ⟨k, rfl⟩ : ∃ q, k = q + 1 := ⟨k - 1, by omega⟩
  unfold smockingref01_joined.f
  cases l with
  | nil => rw [smockingref01_joined.l0, if_neg (by simp)]; rfl
  | cons x l =>
    rw [List.length_cons] at hl hk
    have h := rjoined_l0 (x :: l) hl l.length 1 k [] x (by simp) (by simp) (by omega) (Nat.zero_le _) (by rw [sumS_cons] at hz; exact hz)
    rw [smockingref01_joined.l0, if_pos (by rw [List.length_cons]; omega), neg1, if_neg (by omega), if_pos (by omega), if_pos (by simp)]
    rw [show wrap64 (0 + 1) = ((1 : Nat) : Int) by unfold wrap64; omega]
    exact h
end Go.Proofs.YthimblhfjfngiaaDoor.PText

namespace Go.Proofs.YthimblhfjfngiaaDoor.PText
open Go.RowKit Go.Lib Go.Proofs.YthimblhfjfngiaaDoorW.PrintWords Go.Proofs.YthimblhfjfngiaaDoorW.PrintLast Go.Proofs.YthimblhfjfngiaaDoorW.PrintMore
theorem made_f (s : ByteArray) (l : List S34) (N : Nat) (hN : l.length ≤ N) (hN2 : N ≤ 10000) (h : s.size + sumS l ≤ 100000000000) (hf : fineE s.size l = 0) (k : Nat) (hk : N * (2 * N + 5) + N + 2 ≤ k) :
    smockingref01_made.f k s l = some (⟨(madeE s l).toArray⟩, invS s 0 (Tx.ord eltS l)) := by
  have hc := (fine_chain s.size l hf).2.2
  have hl := made_len hf
  have ho : (Tx.ord eltS l).length ≤ N := Nat.le_trans (Tx.ord_len l) hN
  unfold smockingref01_made.f
  rw [ordered_f l N hN (by omega) k (by omega), Option.bind_some]
  have h := made_l0 s (Tx.ord eltS l) (by omega) (Tx.ord eltS l).length 0 k [] [] 0 0 (by omega) (by omega) (by omega) (Int.le_refl 0) (by rw [List.drop_zero]; exact hc) (by simp) (by rw [List.drop_zero, List.nil_append]; exact Nat.le_trans hl (by omega)) (Nat.le_refl _)
  rw [List.drop_zero, List.nil_append, List.nil_append] at h
  exact h
theorem rapply_f (s : ByteArray) (l : List S34) (N : Nat) (hN : l.length ≤ N) (hN2 : N ≤ 10000) (h : s.size + sumS l ≤ 100000000000) (k : Nat) (hk : N * (2 * N + 5) + 5 * N + 10 ≤ k) :
    smockingref01_Apply.f k s l = some (applyR s l) := by
  have hm : N * (N + 4) ≤ N * (2 * N + 5) := Nat.mul_le_mul_left _ (by omega)
  unfold smockingref01_Apply.f applyR
  rw [fine_f s l N hN (by omega) k (by omega), Option.bind_some]
  by_cases hf : fineE s.size l = 0
  · rw [if_pos hf, made_f s l N hN hN2 h hf k (by omega), Option.bind_some, if_neg (show ¬ (fineE s.size l ≠ 0) from fun q => q hf)]
    have e : (((⟨(madeE s l).toArray⟩ : ByteArray), invS s 0 (Tx.ord eltS l)).1).size = (madeE s l).length := by
      show (madeE s l).toArray.size = _
      simp
    rw [e]
    by_cases hb : 200000 < (madeE s l).length
    · rw [if_pos (by omega), if_pos hb]
    · rw [if_neg (by omega), if_neg hb]
  · rw [if_neg hf, if_pos hf]
theorem rinverse_f (s : ByteArray) (l : List S34) (N : Nat) (hN : l.length ≤ N) (hN2 : N ≤ 10000) (h : s.size + sumS l ≤ 100000000000) (k : Nat) (hk : N * (2 * N + 5) + 5 * N + 10 ≤ k) : smockingref01_Inverse.f k s l = some (inverseR s l) := by
  unfold smockingref01_Inverse.f inverseR
  rw [rapply_f s l N hN hN2 h k hk, Option.bind_some]
  by_cases hz : (applyR s l).2 = 0
  · have hf := (apply_zero hz).1
    obtain ⟨b1, b2⟩ := inv_bounds hN hN2 h
    rw [if_pos hz, if_pos hz, made_f s l N hN hN2 h hf k (by omega), Option.bind_some, rjoined_f _ (by show (invS s 0 (Tx.ord eltS l)).length ≤ _; omega) b2 k (by show (invS s 0 (Tx.ord eltS l)).length + 1 ≤ _; omega), Option.bind_some]
  · rw [if_neg hz, if_neg hz]
theorem eqEdits_l0 (l : List S34) (hl : l.length ≤ 1000000) : ∀ (m i k : Nat), l.length - i = m → i ≤ l.length → m + 1 ≤ k → rf0_EqEdits.l0 k l l (i : Int) = some true := by
  intro m
  induction m with
  | zero =>
    intro i k hm hi hk
    obtain ⟨k, rfl⟩ : ∃ q, k = q + 1 := ⟨k - 1, by omega⟩
    rw [rf0_EqEdits.l0, if_neg (by omega)]
  | succ m ih =>
    intro i k hm hi hk
    obtain ⟨k, rfl⟩ : ∃ q, k = q + 1 := ⟨k - 1, by omega⟩
    have hlt : i < l.length := by omega
    rw [rf0_EqEdits.l0, if_pos (by omega), if_pos (by omega), if_pos (by omega), neS34, if_neg (show ¬ (decide (rd_T34 l (i : Int) ≠ rd_T34 l (i : Int)) = true) by simp), nx i (by omega)]
    exact ih (i + 1) k (by omega) (by omega) (by omega)
theorem eqEdits_f (l : List S34) (hl : l.length ≤ 1000000) (k : Nat) (hk : l.length + 1 ≤ k) : rf0_EqEdits.f k l l = some true := by
  unfold rf0_EqEdits.f
  rw [if_pos rfl]
  exact eqEdits_l0 l hl l.length 0 k (by omega) (by omega) hk
end Go.Proofs.YthimblhfjfngiaaDoor.PText

namespace Go.Proofs.YthimblhfjfngiaaDoor.PText
open Go.RowKit Go.Lib Go.Proofs.YthimblhfjfngiaaDoorW.PrintWords Go.Proofs.YthimblhfjfngiaaDoorW.PrintLast Go.Proofs.YthimblhfjfngiaaDoorW.PrintMore
theorem textEdits_eq (s : ByteArray) (l : List S34) (hs : s.size ≤ 1000000000000000) (hl : l.length ≤ 1000000000000000) (hz : ∀ x ∈ l, x.f2.size ≤ 1000000000000000) :
    ∃ k, smockinglaw01_TextEdits.f k s l = some true := by
  refine ⟨l.length + 20000, ?_⟩
  obtain ⟨b, h1, h2⟩ := heavy_f s l hs hl hz (l.length + 20000) (by omega)
  unfold smockinglaw01_TextEdits.f
  rw [h1, Option.bind_some]
  have early : ∀ k, smockinglaw01_TextEdits.j0 (k + 1) s l true = some true := fun k => by rw [smockinglaw01_TextEdits.j0, if_pos rfl]
  cases b with
  | true => rw [if_pos rfl]; exact early _
  | false =>
    rw [if_neg (show ¬ (false = true) by decide)]
    by_cases c : l.length ≤ 60
    · have hb := h2 rfl
      rw [decide_eq_false (show ¬ (l.length : Int) > 60 by omega)]
      have e1 := apply_f s l (by omega)
      have e2 := rapply_f s l 60 c (by omega) (by omega) (l.length + 19999) (by omega)
      have e3 : text_Fine.f s l = some (fineE s.size l) := rfl
      have e4 := fine_f s l 60 c (by omega) (l.length + 19999) (by omega)
      have e5 := inverse_f s l 60 c (by omega) (by omega) (l.length + 19998) (by omega)
      have e6 := rinverse_f s l 60 c (by omega) (by omega) (l.length + 19998) (by omega)
      have e7 : rf0_EqEdits.f (l.length + 19998) (inverseR s l).1 (inverseR s l).1 = some true := by
        have hlen : (inverseR s l).1.length ≤ 60 := by
          unfold inverseR
          by_cases hz : (applyR s l).2 = 0
          · rw [if_pos hz]
            have h3 := Tx.jn_len ((invS s 0 (Tx.ord eltS l)).map toE)
            rw [← jn_toE, List.length_map, List.length_map] at h3
            have h4 := (inv_bounds (s := s) c (by omega) (by omega)).1
            show (jnS _).length ≤ 60
            omega
          · rw [if_neg hz]; exact Nat.zero_le _
        exact eqEdits_f _ (by omega) _ (by omega)
      show smockinglaw01_TextEdits.j0 (l.length + 19999 + 1) s l false = some true
      rw [smockinglaw01_TextEdits.j0, if_neg (show ¬ (false = true) by decide), e1, Option.bind_some, e2, Option.bind_some, e3, Option.bind_some, e4, Option.bind_some, if_pos rfl, if_pos rfl]
      show smockinglaw01_TextEdits.j1 (l.length + 19998 + 1) s l ((applyR s l).2 != (applyR s l).2) = some true
      rw [show ((applyR s l).2 != (applyR s l).2) = false by simp, smockinglaw01_TextEdits.j1, if_neg (show ¬ (false = true) by decide), e5, Option.bind_some, e6, Option.bind_some, if_pos rfl, e7, Option.bind_some, if_pos rfl, awake_f, Option.bind_some]
    · rw [decide_eq_true (show (l.length : Int) > 60 by omega)]
      exact early _
end Go.Proofs.YthimblhfjfngiaaDoor.PText

