/- TextBack holds: for every text, all edits and all numbers that shuffle them the statement answers true, where the three listed package variables hold what the program's text lays. Part 1 of 2. -/
import Derived.Test.YthimblhfjfngiaaDoorBTextR
namespace Go.Proofs.YthimblhfjfngiaaDoor.PText
open Go.RowKit Go.Proofs.YthimblhfjfngiaaDoorW.PrintWords Go.Proofs.YthimblhfjfngiaaDoorW.PrintLast Go.Proofs.YthimblhfjfngiaaDoorW.PrintMore
attribute [local go_sem] max2_int min2_int max_two min_two max_three min_three max_four min_four   -- for this text's walks alone
set_option linter.unusedVariables false
set_option linter.unusedSimpArgs false

mutual
def smockinglaw01_TextBack.j0 : Nat → ByteArray → List (S34) → List Int → Bool → Option (Bool)
 | 0, _, _, _, _ => none
 | k + 1, x0, x1, x2, x29 => if x29 = true then (some true) else ((text_Apply.f x0 x1).bind fun bt327 => (if bt327.2 = 0 then ((text_Inverse.f k x0 x1).bind fun bt330 => ((text_Apply.f bt327.1 bt330.1).bind fun bt334 => ((text_Inverse.f k bt327.1 bt330.1).bind fun bt336 => ((text_Apply.f bt334.1 bt336.1).bind fun bt340 => (if bt330.2 = 0 then (if bt334.2 = 0 then (if bt336.2 = 0 then (if bt340.2 = 0 then (if bt334.1.toList = x0.toList then (smockinglaw01_TextBack.j1 k x0 x1 x2 bt327.1 (bt340.1.toList != bt327.1.toList)) else (smockinglaw01_TextBack.j1 k x0 x1 x2 bt327.1 true)) else (smockinglaw01_TextBack.j1 k x0 x1 x2 bt327.1 true)) else (smockinglaw01_TextBack.j1 k x0 x1 x2 bt327.1 true)) else (smockinglaw01_TextBack.j1 k x0 x1 x2 bt327.1 true)) else (smockinglaw01_TextBack.j1 k x0 x1 x2 bt327.1 true)))))) else ((smockinglaw01_awake.f).bind fun t329 => (some t329))))
def smockinglaw01_TextBack.j1 : Nat → ByteArray → List (S34) → List Int → ByteArray → Bool → Option (Bool)
 | 0, _, _, _, _, _ => none
 | k + 1, x0, x1, x2, x7, x86 => if x86 = true then (some false) else ((some (([] : List (S34)) : List (S34))).bind fun y342 => (if y342.length + x1.length < 4398046511104 then (smockinglaw01_TextBack.l0 k x0 x2 x7 (y342 ++ x1) 0) else (none)))
def smockinglaw01_TextBack.l0 : Nat → ByteArray → List Int → ByteArray → List (S34) → Int → Option (Bool)
 | 0, _, _, _, _, _ => none
 | k + 1, x0, x2, x7, x17, x18 => if x18 < (x17.length : Int) then (if x18 < (x2.length : Int) then (if 0 ≤ x18 then (if (x17.length : Int) = 0 then (none) else (if 0 ≤ (Int.tmod (wrap64 (rd x2 x18)) (x17.length : Int)) then (if (Int.tmod (wrap64 (rd x2 x18)) (x17.length : Int)) < (x17.length : Int) then (smockinglaw01_TextBack.l0 k x0 x2 x7 ((x17.set (x18 : Int).toNat (⟨(rd_T34 x17 (Int.tmod (wrap64 (rd x2 x18)) (x17.length : Int))).f0, (rd_T34 x17 (Int.tmod (wrap64 (rd x2 x18)) (x17.length : Int))).f1, (rd_T34 x17 (Int.tmod (wrap64 (rd x2 x18)) (x17.length : Int))).f2⟩ : S34)).set ((Int.tmod (wrap64 (rd x2 x18)) (x17.length : Int)) : Int).toNat (⟨(rd_T34 x17 x18).f0, (rd_T34 x17 x18).f1, (rd_T34 x17 x18).f2⟩ : S34)) (wrap64 (x18 + 1))) else (none)) else (none))) else (none)) else ((text_Apply.f x0 x17).bind fun bt354 => (if bt354.2 = 0 then (if bt354.1.toList = x7.toList then ((smockinglaw01_awake.f).bind fun t356 => (some t356)) else (some false)) else (some false)))) else ((text_Apply.f x0 x17).bind fun bt357 => (if bt357.2 = 0 then (if bt357.1.toList = x7.toList then ((smockinglaw01_awake.f).bind fun t359 => (some t359)) else (some false)) else (some false)))
end
def smockinglaw01_TextBack.f (k : Nat) (a0 : ByteArray) (l1 : List (S34)) (l2 : List Int) : Option (Bool) := (smockinglaw01_heavy.f k a0 l1).bind fun t326 => (if t326 = true then (smockinglaw01_TextBack.j0 k a0 l1 l2 true) else (smockinglaw01_TextBack.j0 k a0 l1 l2 (decide ((l1.length : Int) > 60))))
set_option maxHeartbeats 8000000 in
set_option maxRecDepth 100000 in
theorem smockinglaw01_TextBack.calls (k : Nat) (a0 : ByteArray) (A1 : Option Addr) (c1 : Nat) (l1 : List (S34)) (A2 : Option Addr) (c2 : Nat) (l2 : List Int) (r : Bool) (w : World) (hr1 : Kd.C k34 w A1 l1.length l1) (hc1 : l1.length ≤ c1) (hr2 : Kd.C (Kd.int .u8) w A2 l2.length l2) (hc2 : l2.length ≤ c2) (h : smockinglaw01_TextBack.f k a0 l1 l2 = some r) :
  Calls Tryd.prog 4 #[.string a0, .slice A1 l1.length c1, .slice A2 l2.length c2] w fun e w' => e = .returned (.bool r) ∧ Below w.heap.size w w' := by
 have hu34 := Tryd.underlying34
 have HR1 := Aside0.mk hr1
 have HC1 := Aside0.mk hc1
 clear hr1 hc1
 have HR2 := Aside0.mk hr2
 have HC2 := Aside0.mk hc2
 clear hr2 hc2
 have HB := Aside0.mk (Below.refl w.heap.size w)
 have H : ((smockinglaw01_heavy.f k a0 l1).bind fun t326 => (if t326 = true then (smockinglaw01_TextBack.j0 k a0 l1 l2 true) else (smockinglaw01_TextBack.j0 k a0 l1 l2 (decide ((l1.length : Int) > 60))))) = some r := h
 clear h
 have HC4 := Aside0.mk H
 clear H
 go_enter Tryd.func4, Tryd.ntmps4
 go_upto_region 1 with (fail)
 go_cut [29] (fun v29 wc => ∃ (kq : Nat) (x29_3 : Bool), v29 = .bool x29_3 ∧ Aside0 (smockinglaw01_TextBack.j0 kq a0 l1 l2 x29_3 = some r) ∧ Aside0 (kq ≤ k) ∧ Aside0 (Below w.heap.size w wc))
 case first =>
  have H := HC4.out
  clear HC4
  replace H := Option.bind_eq_some_iff.mp H
  obtain ⟨t326, A50, H⟩ := H
  replace H : (if t326 = true then (smockinglaw01_TextBack.j0 k a0 l1 l2 true) else (smockinglaw01_TextBack.j0 k a0 l1 l2 (decide ((l1.length : Int) > 60)))) = some r := H
  have A5 := Aside0.mk A50
  clear A50
  by_cases c6 : t326 = true
  ·subst c6
   have H1 : (smockinglaw01_TextBack.j0 k a0 l1 l2 true) = some r := by rw [if_pos rfl] at H; exact H
   clear H
   have H := H1
   clear H1
   have H' := Aside0.mk H
   clear H
   go_wp2_with (first | ((with_reducible refine gate_callee (f := 9) rfl ?_); refine goesL_ (some 24) rfl rfl Tryd.func9 (by kernel_rfl) rfl #[.string a0, .slice A1 l1.length c1] rfl (by (try simp only [List.map_toArray, List.map_cons, List.map_nil]); first | done | rfl | (simp only [List.length_drop, List.length_take]; rfl)) ?_; (with_reducible refine (smockinglaw01_heavy.calls k a0 _ _ l1 true _ ?side1 ?side2 A5.out).mono ?_); (case side1 => repeat (first | exact (Kd.C_below HR1.out HB.out) | (with_reducible refine Kd.C_alloc ?_ _) | (with_reducible refine Kd.C_drewN ?_ _) | (with_reducible refine Kd.C_drew ?_))); (case side2 => exact HC1.out); rintro e w' ⟨rfl, ⟨nd, rfl⟩⟩; refine ⟨_, rfl, ?_⟩))
   go_meet
   case rel => exact ⟨_, (true), (by first | rfl | (simp; done) | (simp [*]; done)), H', ⟨by first | omega | exact Nat.le_refl _⟩, ⟨by repeat (first | (with_reducible first | exact HB.out | apply below_alloc | apply pw_below_drewN | apply below_drew1) | exact HB.out)⟩⟩
  ·replace c6 := Bool.eq_false_iff.mpr c6
   subst c6
   have H1 : (smockinglaw01_TextBack.j0 k a0 l1 l2 (decide ((l1.length : Int) > 60))) = some r := by rw [if_neg (show ¬ (false = true) by decide)] at H; exact H
   clear H
   have H := H1
   clear H1
   have H' := Aside0.mk H
   clear H
   go_wp2_with (first | ((with_reducible refine gate_callee (f := 9) rfl ?_); refine goesL_ (some 24) rfl rfl Tryd.func9 (by kernel_rfl) rfl #[.string a0, .slice A1 l1.length c1] rfl (by (try simp only [List.map_toArray, List.map_cons, List.map_nil]); first | done | rfl | (simp only [List.length_drop, List.length_take]; rfl)) ?_; (with_reducible refine (smockinglaw01_heavy.calls k a0 _ _ l1 false _ ?side1 ?side2 A5.out).mono ?_); (case side1 => repeat (first | exact (Kd.C_below HR1.out HB.out) | (with_reducible refine Kd.C_alloc ?_ _) | (with_reducible refine Kd.C_drewN ?_ _) | (with_reducible refine Kd.C_drew ?_))); (case side2 => exact HC1.out); rintro e w' ⟨rfl, ⟨nd, rfl⟩⟩; refine ⟨_, rfl, ?_⟩))
   go_meet
   case rel => exact ⟨_, (decide ((l1.length : Int) > 60)), (by first | rfl | (simp; done) | (simp [*]; done)), H', ⟨by first | omega | exact Nat.le_refl _⟩, ⟨by repeat (first | (with_reducible first | exact HB.out | apply below_alloc | apply pw_below_drewN | apply below_drew1) | exact HB.out)⟩⟩
 case rest =>
  clear HC4
  try clear c1
  try clear c2
  try clear p2
  try clear c4
  try clear c6
  obtain ⟨kq, x29_3, rfl, HA, HJ3, HB⟩ := hcut
  cases kq with
  | zero => exact absurd HA.out (by simp [smockinglaw01_TextBack.j0])
  | succ kj3 =>
   have H := HA.out
   clear HA
   simp only [smockinglaw01_TextBack.j0] at H
   by_cases c7 : x29_3 = true
   ·subst c7
    have H1 : (some true) = some r := by rw [if_pos rfl] at H; exact H
    clear H
    have H := H1
    clear H1
    obtain rfl := Option.some.inj H
    go_wp2
    go_ret
    exact ⟨by first | rfl | (simp [errW_none, errW_some] <;> rfl) | (simp [*, errW_none, errW_some] <;> rfl), by repeat (first | (with_reducible first | exact HB.out | apply below_alloc | apply pw_below_drewN | apply below_drew1) | exact HB.out)⟩
   ·replace c7 := Bool.eq_false_iff.mpr c7
    subst c7
    have H1 : ((text_Apply.f a0 l1).bind fun bt327 => (if bt327.2 = 0 then ((text_Inverse.f kj3 a0 l1).bind fun bt330 => ((text_Apply.f bt327.1 bt330.1).bind fun bt334 => ((text_Inverse.f kj3 bt327.1 bt330.1).bind fun bt336 => ((text_Apply.f bt334.1 bt336.1).bind fun bt340 => (if bt330.2 = 0 then (if bt334.2 = 0 then (if bt336.2 = 0 then (if bt340.2 = 0 then (if bt334.1.toList = a0.toList then (smockinglaw01_TextBack.j1 kj3 a0 l1 l2 bt327.1 (bt340.1.toList != bt327.1.toList)) else (smockinglaw01_TextBack.j1 kj3 a0 l1 l2 bt327.1 true)) else (smockinglaw01_TextBack.j1 kj3 a0 l1 l2 bt327.1 true)) else (smockinglaw01_TextBack.j1 kj3 a0 l1 l2 bt327.1 true)) else (smockinglaw01_TextBack.j1 kj3 a0 l1 l2 bt327.1 true)) else (smockinglaw01_TextBack.j1 kj3 a0 l1 l2 bt327.1 true)))))) else ((smockinglaw01_awake.f).bind fun t329 => (some t329)))) = some r := by rw [if_neg (show ¬ (false = true) by decide)] at H; exact H
    clear H
    have H := H1
    clear H1
    replace H := Option.bind_eq_some_iff.mp H
    obtain ⟨⟨t327, t328⟩, A80, H⟩ := H
    replace H : (if t328 = 0 then ((text_Inverse.f kj3 a0 l1).bind fun bt330 => ((text_Apply.f t327 bt330.1).bind fun bt334 => ((text_Inverse.f kj3 t327 bt330.1).bind fun bt336 => ((text_Apply.f bt334.1 bt336.1).bind fun bt340 => (if bt330.2 = 0 then (if bt334.2 = 0 then (if bt336.2 = 0 then (if bt340.2 = 0 then (if bt334.1.toList = a0.toList then (smockinglaw01_TextBack.j1 kj3 a0 l1 l2 t327 (bt340.1.toList != t327.toList)) else (smockinglaw01_TextBack.j1 kj3 a0 l1 l2 t327 true)) else (smockinglaw01_TextBack.j1 kj3 a0 l1 l2 t327 true)) else (smockinglaw01_TextBack.j1 kj3 a0 l1 l2 t327 true)) else (smockinglaw01_TextBack.j1 kj3 a0 l1 l2 t327 true)) else (smockinglaw01_TextBack.j1 kj3 a0 l1 l2 t327 true)))))) else ((smockinglaw01_awake.f).bind fun t329 => (some t329))) = some r := H
    have A8 := Aside0.mk A80
    clear A80
    by_cases c9 : t328 = 0
    ·rw [if_pos c9] at H
     have c9b0 : (t328 == 0) = true := beq_iff_eq.mpr c9
     have c9b1 : (t328 != 0) = false := bne_eq_false_iff_eq.mpr c9
     clear c9
     replace H := Option.bind_eq_some_iff.mp H
     obtain ⟨⟨t330, t331⟩, A100, H⟩ := H
     replace H : ((text_Apply.f t327 t330).bind fun bt334 => ((text_Inverse.f kj3 t327 t330).bind fun bt336 => ((text_Apply.f bt334.1 bt336.1).bind fun bt340 => (if t331 = 0 then (if bt334.2 = 0 then (if bt336.2 = 0 then (if bt340.2 = 0 then (if bt334.1.toList = a0.toList then (smockinglaw01_TextBack.j1 kj3 a0 l1 l2 t327 (bt340.1.toList != t327.toList)) else (smockinglaw01_TextBack.j1 kj3 a0 l1 l2 t327 true)) else (smockinglaw01_TextBack.j1 kj3 a0 l1 l2 t327 true)) else (smockinglaw01_TextBack.j1 kj3 a0 l1 l2 t327 true)) else (smockinglaw01_TextBack.j1 kj3 a0 l1 l2 t327 true)) else (smockinglaw01_TextBack.j1 kj3 a0 l1 l2 t327 true))))) = some r := H
     have A10 := Aside0.mk A100
     clear A100
     replace H := Option.bind_eq_some_iff.mp H
     obtain ⟨⟨t334, t335⟩, A110, H⟩ := H
     replace H : ((text_Inverse.f kj3 t327 t330).bind fun bt336 => ((text_Apply.f t334 bt336.1).bind fun bt340 => (if t331 = 0 then (if t335 = 0 then (if bt336.2 = 0 then (if bt340.2 = 0 then (if t334.toList = a0.toList then (smockinglaw01_TextBack.j1 kj3 a0 l1 l2 t327 (bt340.1.toList != t327.toList)) else (smockinglaw01_TextBack.j1 kj3 a0 l1 l2 t327 true)) else (smockinglaw01_TextBack.j1 kj3 a0 l1 l2 t327 true)) else (smockinglaw01_TextBack.j1 kj3 a0 l1 l2 t327 true)) else (smockinglaw01_TextBack.j1 kj3 a0 l1 l2 t327 true)) else (smockinglaw01_TextBack.j1 kj3 a0 l1 l2 t327 true)))) = some r := H
     have A11 := Aside0.mk A110
     clear A110
     replace H := Option.bind_eq_some_iff.mp H
     obtain ⟨⟨t336, t337⟩, A120, H⟩ := H
     replace H : ((text_Apply.f t334 t336).bind fun bt340 => (if t331 = 0 then (if t335 = 0 then (if t337 = 0 then (if bt340.2 = 0 then (if t334.toList = a0.toList then (smockinglaw01_TextBack.j1 kj3 a0 l1 l2 t327 (bt340.1.toList != t327.toList)) else (smockinglaw01_TextBack.j1 kj3 a0 l1 l2 t327 true)) else (smockinglaw01_TextBack.j1 kj3 a0 l1 l2 t327 true)) else (smockinglaw01_TextBack.j1 kj3 a0 l1 l2 t327 true)) else (smockinglaw01_TextBack.j1 kj3 a0 l1 l2 t327 true)) else (smockinglaw01_TextBack.j1 kj3 a0 l1 l2 t327 true))) = some r := H
     have A12 := Aside0.mk A120
     clear A120
     replace H := Option.bind_eq_some_iff.mp H
     obtain ⟨⟨t340, t341⟩, A130, H⟩ := H
     replace H : (if t331 = 0 then (if t335 = 0 then (if t337 = 0 then (if t341 = 0 then (if t334.toList = a0.toList then (smockinglaw01_TextBack.j1 kj3 a0 l1 l2 t327 (t340.toList != t327.toList)) else (smockinglaw01_TextBack.j1 kj3 a0 l1 l2 t327 true)) else (smockinglaw01_TextBack.j1 kj3 a0 l1 l2 t327 true)) else (smockinglaw01_TextBack.j1 kj3 a0 l1 l2 t327 true)) else (smockinglaw01_TextBack.j1 kj3 a0 l1 l2 t327 true)) else (smockinglaw01_TextBack.j1 kj3 a0 l1 l2 t327 true)) = some r := H
     have A13 := Aside0.mk A130
     clear A130
     have HC14 := Aside0.mk H
     clear H
     go_upto_region 10 with (first | ((with_reducible refine gate_callee (f := 10) rfl ?_); refine goesL_ (some 33) rfl rfl Tryd.func10 (by kernel_rfl) rfl #[.string a0, .slice A1 l1.length c1] rfl (by (try simp only [List.map_toArray, List.map_cons, List.map_nil]); first | done | rfl | (simp only [List.length_drop, List.length_take]; rfl)) ?_; (with_reducible refine (text_Apply.calls a0 _ _ l1 t327 t328 _ ?side1 ?side2 A8.out).mono ?_); (case side1 => repeat (first | exact (Kd.C_below HR1.out HB.out) | (with_reducible refine Kd.C_alloc ?_ _) | (with_reducible refine Kd.C_drewN ?_ _) | (with_reducible refine Kd.C_drew ?_))); (case side2 => exact HC1.out); rintro e w15 ⟨rfl, hb⟩; refine ⟨_, rfl, ?_⟩; have n0_ := Aside0.mk (below_step (by repeat (first | (with_reducible first | exact HB.out | apply below_alloc | apply pw_below_drewN | apply below_drew1) | exact HB.out)) hb); clear HB; have HB := n0_; clear n0_; (try clear hb); (try clear hb2); (try clear hk); (try clear hi)) | ((with_reducible refine gate_callee (f := 14) rfl ?_); refine goesL_ (some 42) rfl rfl Tryd.func14 (by kernel_rfl) rfl #[.string a0, .slice A1 l1.length c1] rfl (by (try simp only [List.map_toArray, List.map_cons, List.map_nil]); first | done | rfl | (simp only [List.length_drop, List.length_take]; rfl)) ?_; (with_reducible refine (text_Inverse.calls kj3 a0 _ _ l1 t330 t331 _ ?side1 ?side2 A10.out).mono ?_); (case side1 => repeat (first | exact (Kd.C_below HR1.out HB.out) | (with_reducible refine Kd.C_alloc ?_ _) | (with_reducible refine Kd.C_drewN ?_ _) | (with_reducible refine Kd.C_drew ?_))); (case side2 => exact HC1.out); rintro e w16 ⟨v332, rfl, ho0, hb⟩; refine ⟨_, rfl, ?_⟩; have n0_ := Aside0.mk (Kd.R_lower ho0 (below_size (by repeat (first | (with_reducible first | exact HB.out | apply below_alloc | apply pw_below_drewN | apply below_drew1) | exact HB.out)))); have n1_ := Aside0.mk (below_step (by repeat (first | (with_reducible first | exact HB.out | apply below_alloc | apply pw_below_drewN | apply below_drew1) | exact HB.out)) hb); clear HB; have HO333 := n0_; have HB := n1_; clear n0_ n1_; (try clear hb); (try clear hb2); (try clear hk); (try clear hi); (try clear ho0); obtain ⟨Ao17, co17, eo17⟩ := Kd.R_slice HO333.out; subst eo17) | ((with_reducible refine gate_callee (f := 10) rfl ?_); refine goesL_ (some 48) rfl rfl Tryd.func10 (by kernel_rfl) rfl #[.string t327, .slice Ao17 t330.length co17] rfl (by (try simp only [List.map_toArray, List.map_cons, List.map_nil]); first | done | rfl | (simp only [List.length_drop, List.length_take]; rfl)) ?_; (with_reducible refine (text_Apply.calls t327 _ _ t330 t334 t335 _ ?side1 ?side2 A11.out).mono ?_); (case side1 => repeat (first | exact (Kd.R_reads' HO333.out).2.2 | (with_reducible refine Kd.C_alloc ?_ _) | (with_reducible refine Kd.C_drewN ?_ _) | (with_reducible refine Kd.C_drew ?_))); (case side2 => exact (Kd.R_reads' HO333.out).2.1); rintro e w18 ⟨rfl, hb⟩; refine ⟨_, rfl, ?_⟩; have n0_ := Aside0.mk (Kd.R_below (by (with_reducible repeat (first | apply Kd.R_alloc | apply Kd.R_drewN | apply Kd.R_drew)); exact HO333.out) hb); have n1_ := Aside0.mk (below_step (by repeat (first | (with_reducible first | exact HB.out | apply below_alloc | apply pw_below_drewN | apply below_drew1) | exact HB.out)) hb); clear HO333; clear HB; have HO333 := n0_; have HB := n1_; clear n0_ n1_; (try clear hb); (try clear hb2); (try clear hk); (try clear hi)) | ((with_reducible refine gate_callee (f := 14) rfl ?_); refine goesL_ (some 54) rfl rfl Tryd.func14 (by kernel_rfl) rfl #[.string t327, .slice Ao17 t330.length co17] rfl (by (try simp only [List.map_toArray, List.map_cons, List.map_nil]); first | done | rfl | (simp only [List.length_drop, List.length_take]; rfl)) ?_; (with_reducible refine (text_Inverse.calls kj3 t327 _ _ t330 t336 t337 _ ?side1 ?side2 A12.out).mono ?_); (case side1 => repeat (first | exact (Kd.R_reads' HO333.out).2.2 | (with_reducible refine Kd.C_alloc ?_ _) | (with_reducible refine Kd.C_drewN ?_ _) | (with_reducible refine Kd.C_drew ?_))); (case side2 => exact (Kd.R_reads' HO333.out).2.1); rintro e w19 ⟨v338, rfl, ho0, hb⟩; refine ⟨_, rfl, ?_⟩; have n0_ := Aside0.mk (Kd.R_elder' (by (with_reducible repeat (first | apply Kd.R_alloc | apply Kd.R_drewN | apply Kd.R_drew)); exact HO333.out) (Kd.R_base ho0) hb); have n1_ := Aside0.mk (Kd.R_lower (Kd.R_new' ho0 (Kd.R_lt (by (with_reducible repeat (first | apply Kd.R_alloc | apply Kd.R_drewN | apply Kd.R_drew)); exact HO333.out))) (below_size (by repeat (first | (with_reducible first | exact HB.out | apply below_alloc | apply pw_below_drewN | apply below_drew1) | exact HB.out)))); have n2_ := Aside0.mk (below_step (by repeat (first | (with_reducible first | exact HB.out | apply below_alloc | apply pw_below_drewN | apply below_drew1) | exact HB.out)) hb); clear HO333; clear HB; have HO333 := n0_; have HO339 := n1_; have HB := n2_; clear n0_ n1_ n2_; (try clear hb); (try clear hb2); (try clear hk); (try clear hi); (try clear ho0); obtain ⟨Ao20, co20, eo20⟩ := Kd.R_slice HO339.out; subst eo20) | ((with_reducible refine gate_callee (f := 10) rfl ?_); refine goesL_ (some 60) rfl rfl Tryd.func10 (by kernel_rfl) rfl #[.string t334, .slice Ao20 t336.length co20] rfl (by (try simp only [List.map_toArray, List.map_cons, List.map_nil]); first | done | rfl | (simp only [List.length_drop, List.length_take]; rfl)) ?_; (with_reducible refine (text_Apply.calls t334 _ _ t336 t340 t341 _ ?side1 ?side2 A13.out).mono ?_); (case side1 => repeat (first | exact (Kd.R_reads' HO339.out).2.2 | (with_reducible refine Kd.C_alloc ?_ _) | (with_reducible refine Kd.C_drewN ?_ _) | (with_reducible refine Kd.C_drew ?_))); (case side2 => exact (Kd.R_reads' HO339.out).2.1); rintro e w21 ⟨rfl, hb⟩; refine ⟨_, rfl, ?_⟩; have n0_ := Aside0.mk (Kd.R_below (by (with_reducible repeat (first | apply Kd.R_alloc | apply Kd.R_drewN | apply Kd.R_drew)); exact HO333.out) hb); have n1_ := Aside0.mk (Kd.R_below (by (with_reducible repeat (first | apply Kd.R_alloc | apply Kd.R_drewN | apply Kd.R_drew)); exact HO339.out) hb); have n2_ := Aside0.mk (below_step (by repeat (first | (with_reducible first | exact HB.out | apply below_alloc | apply pw_below_drewN | apply below_drew1) | exact HB.out)) hb); clear HO333; clear HO339; clear HB; have HO333 := n0_; have HO339 := n1_; have HB := n2_; clear n0_ n1_ n2_; (try clear hb); (try clear hb2); (try clear hk); (try clear hi)))
     (try simp only [Act.put, q1_, q2_, q3_])
     go_cut [86] (fun v86 wc => ∃ (kq : Nat) (x86_13 : Bool), v86 = .bool x86_13 ∧ Aside0 (smockinglaw01_TextBack.j1 kq a0 l1 l2 t327 x86_13 = some r) ∧ Aside0 (kq ≤ kj3) ∧ Aside0 (Below w.heap.size w wc))
     case first =>
      have H := HC14.out
      clear HC14
      by_cases c22 : t331 = 0
      ·rw [if_pos c22] at H
       have c22b0 : (t331 == 0) = true := beq_iff_eq.mpr c22
       have c22b1 : (t331 != 0) = false := bne_eq_false_iff_eq.mpr c22
       clear c22
       (first | rw [c22b0] | (simp only [i64_w, i32_w]; rw [c22b0]) | skip)
       by_cases c23 : t335 = 0
       ·rw [if_pos c23] at H
        have c23b0 : (t335 == 0) = true := beq_iff_eq.mpr c23
        have c23b1 : (t335 != 0) = false := bne_eq_false_iff_eq.mpr c23
        clear c23
        by_cases c24 : t337 = 0
        ·rw [if_pos c24] at H
         have c24b0 : (t337 == 0) = true := beq_iff_eq.mpr c24
         have c24b1 : (t337 != 0) = false := bne_eq_false_iff_eq.mpr c24
         clear c24
         by_cases c25 : t341 = 0
         ·rw [if_pos c25] at H
          have c25b0 : (t341 == 0) = true := beq_iff_eq.mpr c25
          have c25b1 : (t341 != 0) = false := bne_eq_false_iff_eq.mpr c25
          clear c25
          by_cases c26 : t334.toList = a0.toList
          ·rw [if_pos c26] at H
           have c26b0 : (t334.toList == a0.toList) = true := beq_iff_eq.mpr c26
           have c26b1 : (t334.toList != a0.toList) = false := bne_eq_false_iff_eq.mpr c26
           clear c26
           have H' := Aside0.mk H
           clear H
           go_wp2
           go_meet
           case rel => exact ⟨_, ((t340.toList != t327.toList)), (by first | rfl | (simp; done) | (simp [*]; done)), H', ⟨by have := HJ3.out; first | omega | exact Nat.le_refl _⟩, ⟨by repeat (first | (with_reducible first | exact HB.out | apply below_alloc | apply pw_below_drewN | apply below_drew1) | exact HB.out)⟩⟩
          ·rw [if_neg c26] at H
           have c26b0 : (t334.toList == a0.toList) = false := beq_eq_false_iff_ne.mpr c26
           have c26b1 : (t334.toList != a0.toList) = true := bne_iff_ne.mpr c26
           have H' := Aside0.mk H
           clear H
           go_wp2
           go_meet
           case rel => exact ⟨_, (true), (by first | rfl | (simp; done) | (simp [*]; done)), H', ⟨by have := HJ3.out; first | omega | exact Nat.le_refl _⟩, ⟨by repeat (first | (with_reducible first | exact HB.out | apply below_alloc | apply pw_below_drewN | apply below_drew1) | exact HB.out)⟩⟩
         ·rw [if_neg c25] at H
          have c25b0 : (t341 == 0) = false := beq_eq_false_iff_ne.mpr c25
          have c25b1 : (t341 != 0) = true := bne_iff_ne.mpr c25
          have H' := Aside0.mk H
          clear H
          go_wp2
          go_meet
          case rel => exact ⟨_, (true), (by first | rfl | (simp; done) | (simp [*]; done)), H', ⟨by have := HJ3.out; first | omega | exact Nat.le_refl _⟩, ⟨by repeat (first | (with_reducible first | exact HB.out | apply below_alloc | apply pw_below_drewN | apply below_drew1) | exact HB.out)⟩⟩
        ·rw [if_neg c24] at H
         have c24b0 : (t337 == 0) = false := beq_eq_false_iff_ne.mpr c24
         have c24b1 : (t337 != 0) = true := bne_iff_ne.mpr c24
         have H' := Aside0.mk H
         clear H
         go_wp2
         go_meet
         case rel => exact ⟨_, (true), (by first | rfl | (simp; done) | (simp [*]; done)), H', ⟨by have := HJ3.out; first | omega | exact Nat.le_refl _⟩, ⟨by repeat (first | (with_reducible first | exact HB.out | apply below_alloc | apply pw_below_drewN | apply below_drew1) | exact HB.out)⟩⟩
       ·rw [if_neg c23] at H
        have c23b0 : (t335 == 0) = false := beq_eq_false_iff_ne.mpr c23
        have c23b1 : (t335 != 0) = true := bne_iff_ne.mpr c23
        have H' := Aside0.mk H
        clear H
        go_wp2
        go_meet
        case rel => exact ⟨_, (true), (by first | rfl | (simp; done) | (simp [*]; done)), H', ⟨by have := HJ3.out; first | omega | exact Nat.le_refl _⟩, ⟨by repeat (first | (with_reducible first | exact HB.out | apply below_alloc | apply pw_below_drewN | apply below_drew1) | exact HB.out)⟩⟩
      ·rw [if_neg c22] at H
       have c22b0 : (t331 == 0) = false := beq_eq_false_iff_ne.mpr c22
       have c22b1 : (t331 != 0) = true := bne_iff_ne.mpr c22
       (first | rw [c22b0] | (simp only [i64_w, i32_w]; rw [c22b0]) | skip)
       have H' := Aside0.mk H
       clear H
       go_wp2
       go_meet
       case rel => exact ⟨_, (true), (by first | rfl | (simp; done) | (simp [*]; done)), H', ⟨by have := HJ3.out; first | omega | exact Nat.le_refl _⟩, ⟨by repeat (first | (with_reducible first | exact HB.out | apply below_alloc | apply pw_below_drewN | apply below_drew1) | exact HB.out)⟩⟩
     case rest =>
      clear HC14
      try clear c1
      try clear c2
      try clear p2
      try clear c4
      try clear c6
      try clear c7
      try clear c9
      try clear c9b0
      try clear c9b1
      try clear c10
      try clear c14
      try clear c22
      try clear c22b0
      try clear c22b1
      try clear c23
      try clear c23b0
      try clear c23b1
      try clear c24
      try clear c24b0
      try clear c24b1
      try clear c25
      try clear c25b0
      try clear c25b1
      try clear c26
      try clear c26b0
      try clear c26b1
      try clear p2
      obtain ⟨kq, x86_13, rfl, HA, HJ13, HB⟩ := hcut
      cases kq with
      | zero => exact absurd HA.out (by simp [smockinglaw01_TextBack.j1])
      | succ kj13 =>
       have H := HA.out
       clear HA
       simp only [smockinglaw01_TextBack.j1] at H
       by_cases c27 : x86_13 = true
       ·subst c27
        have H1 : (some false) = some r := by rw [if_pos rfl] at H; exact H
        clear H
        have H := H1
        clear H1
        obtain rfl := Option.some.inj H
        go_wp2
        go_ret
        exact ⟨by first | rfl | (simp [errW_none, errW_some] <;> rfl) | (simp [*, errW_none, errW_some] <;> rfl), by repeat (first | (with_reducible first | exact HB.out | apply below_alloc | apply pw_below_drewN | apply below_drew1) | exact HB.out)⟩
       ·replace c27 := Bool.eq_false_iff.mpr c27
        subst c27
        have H1 : ((some (([] : List (S34)) : List (S34))).bind fun y342 => (if y342.length + l1.length < 4398046511104 then (smockinglaw01_TextBack.l0 kj13 a0 l2 t327 (y342 ++ l1) 0) else (none))) = some r := by rw [if_neg (show ¬ (false = true) by decide)] at H; exact H
        clear H
        have H := H1
        clear H1
        obtain ⟨y342, hy342⟩ : ∃ y_ : List (S34), y_ = (([] : List (S34))) := ⟨_, rfl⟩
        replace H : (if y342.length + l1.length < 4398046511104 then (smockinglaw01_TextBack.l0 kj13 a0 l2 t327 (y342 ++ l1) 0) else (none)) = some r := by first | (rw [hy342]; with_reducible exact H) | (have H2_ := (Option.bind_some _ _).symm.trans H; rw [hy342]; with_reducible exact H2_) | (have H2_ := (Option.bind_some _ _).symm.trans H; with_reducible exact H2_) | with_reducible exact H | (rw [hy342]; exact H) | exact H
        have Ny342 := Aside0.mk hy342
        clear hy342
        by_cases c28 : y342.length + l1.length < 4398046511104
        ·rw [if_pos c28] at H
         have LMc28 := Aside0.mk c28
         clear c28
         obtain ⟨y345, hy345⟩ : ∃ y_ : List (S34), y_ = (y342 ++ l1) := ⟨_, rfl⟩
         replace H : (smockinglaw01_TextBack.l0 kj13 a0 l2 t327 y345 0) = some r := by first | (rw [hy345]; with_reducible exact H) | (have H2_ := (Option.bind_some _ _).symm.trans H; rw [hy345]; with_reducible exact H2_) | (have H2_ := (Option.bind_some _ _).symm.trans H; with_reducible exact H2_) | with_reducible exact H | (rw [hy345]; exact H) | exact H
         have Ny345 := Aside0.mk hy345
         clear hy345
         have H' := Aside0.mk H
         clear H
         go_wp2_with (first | ((with_reducible refine gate_dst (N := 87) rfl ?_); (try (refine gate_guard (by rfl) ?_; dsimp only)); refine Kd.R_lit k34 _ 34 ?hg (N := 87) ?hd (xs := ([] : List (S34))) (inner := []) (ok := fun _ => True) (okp := fun _ => True) ?hr ?hp (fun _ hk => hk) trivial (Below.refl _ _) (Nat.le_refl _) (by simp) ?_; (case hd => rfl); (case hg => rfl); (case hr => first | (go_simp; done) | (go_simp; rfl)); (case hp => exact (Reps.none _ _)); intro v343 w29 ho30 hb hg_ hnew_; clear hg_ hnew_; (first | rw [← Ny342.out] at ho30 | (simp only [Int.reduceToNat] at ho30; rw [← Ny342.out] at ho30)); have n0_ := Aside0.mk (Kd.R_lower ho30 (below_size (by repeat (first | (with_reducible first | exact HB.out | apply below_alloc | apply pw_below_drewN | apply below_drew1) | exact HB.out)))); have n1_ := Aside0.mk (below_step (by repeat (first | (with_reducible first | exact HB.out | apply below_alloc | apply pw_below_drewN | apply below_drew1) | exact HB.out)) hb); clear HB; have HO344 := n0_; have HB := n1_; clear n0_ n1_; clear hb ho30) | ((with_reducible refine gate_builtin (b := .append) (xs := #[.tmp 87, .tmp 88]) rfl ?_); (try (refine gate_guard (by rfl) ?_; dsimp only)); at_builtin; refine Kd.R_append_rows k34 (w0 := w) w.heap.size rfl (.tmp 87) (.tmp 88) 22 34 (.agg #[(.int .i64 0), (.int .i64 0), (.string ⟨#[]⟩)]) 32 rfl Tryd.underlying22 info34 rfl (by decide) (by omega) v343 y342 l1 _ _ _ (fun _ => True) (fun _ => False) rfl rfl ?aO ?aR (fun _ _ h => h) (fun _ h => h.elim) ?aF ?aB ?aS ?aL ?_; (case aR => repeat (first | exact (Kd.C_below HR1.out HB.out) | (with_reducible refine Kd.C_alloc ?_ _) | (with_reducible refine Kd.C_drewN ?_ _) | (with_reducible refine Kd.C_drew ?_))); (case aB => exact (by repeat (first | (with_reducible first | exact HB.out | apply below_alloc | apply pw_below_drewN | apply below_drew1) | exact HB.out))); (case aF => exact (fun _ _ => trivial)); (case aO => exact (by (with_reducible repeat (first | apply Kd.R_alloc | apply Kd.R_drewN | apply Kd.R_drew)); exact HO344.out)); (case aS => exact (below_size (by repeat (first | (with_reducible first | exact HB.out | apply below_alloc | apply pw_below_drewN | apply below_drew1) | exact HB.out)))); (case aL => have := LMc28.out; omega); intro v346 w31 ho hb hg hat; rw [← Ny345.out] at ho; have n0_ := Aside0.mk (hb); have n1_ := Aside0.mk (ho); clear HB; clear HO344; have HB := n0_; have HO347 := n1_; clear n0_ n1_; clear ho hb hg hat))
         try simp only [Act.put, List.setIfInBounds_toArray, List.set_cons_succ, List.set_cons_zero]
         go_loopg [18] kj13 (fun kq v18 w' => ∃ (x17_3 : List (S34)) (x18_3 : Int), v18 = .int .i64 x18_3 ∧ Aside0 (smockinglaw01_TextBack.l0 kq a0 l2 t327 x17_3 x18_3 = some r) ∧ Aside0 (kq ≤ kj13) ∧ Aside0 (Kd.R k34 34 w' w.heap.size (fun _ => True) v346 x17_3) ∧ Aside0 (Below w.heap.size w w'))
         case atStart => exact ⟨(y345), (0), (by first | rfl | (simp; done) | (simp [*]; done)), H', ⟨Nat.le_refl _⟩, ⟨by (with_reducible repeat (first | apply Kd.R_alloc | apply Kd.R_drewN | apply Kd.R_drew)); exact HO347.out⟩, ⟨by repeat (first | (with_reducible first | exact HB.out | apply below_alloc | apply pw_below_drewN | apply below_drew1) | exact HB.out)⟩⟩
         case round =>
          clear H'
          try clear c1
          try clear c2
          try clear p2
          try clear c4
          try clear c6
          try clear c7
          try clear c9
          try clear c9b0
          try clear c9b1
          try clear c10
          try clear c14
          try clear c22
          try clear c22b0
          try clear c22b1
          try clear c23
          try clear c23b0
          try clear c23b1
          try clear c24
          try clear c24b0
          try clear c24b1
          try clear c25
          try clear c25b0
          try clear c25b1
          try clear c26
          try clear c26b0
          try clear c26b1
          try clear c27
          try clear c28
          try clear p2
          obtain ⟨x17_3, x18_3, rfl, HA, HK3, HO_17, HB⟩ := hrel
          cases gk with
          | zero => exact absurd HA.out (by simp [smockinglaw01_TextBack.l0])
          | succ k3 =>
           have H := HA.out
           clear HA
           simp only [smockinglaw01_TextBack.l0] at H
           by_cases c32 : x18_3 < (x17_3.length : Int)
           ·rw [if_pos c32] at H
            have c32b0 : decide (x18_3 < (x17_3.length : Int)) = true := decide_eq_true c32
            clear c32
            by_cases c33 : x18_3 < (l2.length : Int)
            ·rw [if_pos c33] at H
             have c33b0 : decide (x18_3 < (l2.length : Int)) = true := decide_eq_true c33
             clear c33
             by_cases c34 : 0 ≤ x18_3
             ·rw [if_pos c34] at H
              have c34b0 : decide (0 ≤ x18_3) = true := decide_eq_true c34
              clear c34
              by_cases c35 : (x17_3.length : Int) = 0
              ·rw [if_pos c35] at H
               exact absurd H (by simp)
              ·rw [if_neg c35] at H
               have c35b0 : ((x17_3.length : Int) == 0) = false := beq_eq_false_iff_ne.mpr c35
               have c35b1 : ((x17_3.length : Int) != 0) = true := bne_iff_ne.mpr c35
               have c35b2 : ¬ (x17_3 = []) := fun h_ => c35 (by rw [h_]; rfl)
               obtain ⟨ji36, hji36⟩ : ∃ j_ : Int, (Int.tmod (wrap64 (rd l2 x18_3)) (x17_3.length : Int)) = j_ := ⟨_, rfl⟩
               replace H : (if 0 ≤ (ji36) then (if (ji36) < (x17_3.length : Int) then (smockinglaw01_TextBack.l0 k3 a0 l2 t327 ((x17_3.set (x18_3 : Int).toNat (⟨(rd_T34 x17_3 (ji36)).f0, (rd_T34 x17_3 (ji36)).f1, (rd_T34 x17_3 (ji36)).f2⟩ : S34)).set ((ji36) : Int).toNat (⟨(rd_T34 x17_3 x18_3).f0, (rd_T34 x17_3 x18_3).f1, (rd_T34 x17_3 x18_3).f2⟩ : S34)) (wrap64 (x18_3 + 1))) else (none)) else (none)) = some r := by first | (rw [hji36] at H; exact H) | (simp only [hji36] at H ⊢; exact H)
               by_cases c37 : 0 ≤ (ji36)
               ·rw [if_pos c37] at H
                have c37b0 : decide (0 ≤ (ji36)) = true := decide_eq_true c37
                clear c37
                by_cases c38 : (ji36) < (x17_3.length : Int)
                ·rw [if_pos c38] at H
                 have c38b0 : decide ((ji36) < (x17_3.length : Int)) = true := decide_eq_true c38
                 clear c38
                 obtain ⟨y352, hy352⟩ : ∃ y_ : List (S34), y_ = (x17_3.set (x18_3 : Int).toNat (⟨(rd_T34 x17_3 (ji36)).f0, (rd_T34 x17_3 (ji36)).f1, (rd_T34 x17_3 (ji36)).f2⟩ : S34)) := ⟨_, rfl⟩
                 replace H : (smockinglaw01_TextBack.l0 k3 a0 l2 t327 (y352.set ((ji36) : Int).toNat (⟨(rd_T34 x17_3 x18_3).f0, (rd_T34 x17_3 x18_3).f1, (rd_T34 x17_3 x18_3).f2⟩ : S34)) (wrap64 (x18_3 + 1))) = some r := by first | (rw [hy352]; with_reducible exact H) | (have H2_ := (Option.bind_some _ _).symm.trans H; rw [hy352]; with_reducible exact H2_) | (have H2_ := (Option.bind_some _ _).symm.trans H; with_reducible exact H2_) | with_reducible exact H | (rw [hy352]; exact H) | exact H
                 have Ny352 := Aside0.mk hy352
                 clear hy352
                 obtain ⟨y353, hy353⟩ : ∃ y_ : List (S34), y_ = (y352.set ((ji36) : Int).toNat (⟨(rd_T34 x17_3 x18_3).f0, (rd_T34 x17_3 x18_3).f1, (rd_T34 x17_3 x18_3).f2⟩ : S34)) := ⟨_, rfl⟩
                 replace H : (smockinglaw01_TextBack.l0 k3 a0 l2 t327 y353 (wrap64 (x18_3 + 1))) = some r := by first | (rw [hy353]; with_reducible exact H) | (have H2_ := (Option.bind_some _ _).symm.trans H; rw [hy353]; with_reducible exact H2_) | (have H2_ := (Option.bind_some _ _).symm.trans H; with_reducible exact H2_) | with_reducible exact H | (rw [hy353]; exact H) | exact H
                 have Ny353 := Aside0.mk hy353
                 clear hy353
                 have H' := Aside0.mk H
                 clear H
                 obtain ⟨Ao41, co41, eo41⟩ := Kd.R_slice HO_17.out
                 subst eo41
                 have p348 : 0 ≤ (x18_3 : Int) := of_decide_eq_true (by first | (with_reducible assumption) | assumption)
                 have q348 : x18_3 < (l2.length : Int) := of_decide_eq_true (by first | (with_reducible assumption) | assumption)
                 obtain ⟨ad348, e348, hx348_0⟩ := Kd.at_int HR2.out x18_3 p348 q348
                 cases e348
                 replace hx348_0 := (HB.out.cell (World.block_lt_of_cell? w _ hx348_0)).trans hx348_0
                 replace p348 := eq_true p348
                 replace q348 := eq_true q348
                 have p349 : 0 ≤ (x18_3 : Int) := of_decide_eq_true (by first | (with_reducible assumption) | assumption)
                 have q349 : x18_3 < (x17_3.length : Int) := of_decide_eq_true (by first | (with_reducible assumption) | assumption)
                 obtain ⟨ad349, e349, hx349_0, hx349_1, hx349_2⟩ := at_T34 (Kd.R_reads' HO_17.out).2.2 x18_3 p349 q349
                 cases e349
                 replace p349 := eq_true p349
                 replace q349 := eq_true q349
                 go_wp2_with (first | ((with_reducible refine gate_dst (N := 20) rfl ?_); (try (refine gate_guard (by rfl) ?_; dsimp only)); refine box_event ?hg (N := 20) ?hd (cs := #[.int .i64 0, .int .i64 0, .string (⟨#[]⟩ : ByteArray)]) (t := 34) ?hr ?_; (case hd => rfl); (case hg => rfl); (case hr => first | (go_simp; done) | (go_simp; rfl)); intro gb350 hg w42 hbox hb; have n0_ := Aside0.mk (Kd.R_below (Kd.R_elderB (by (with_reducible repeat (first | apply Kd.R_alloc | apply Kd.R_drewN | apply Kd.R_drew)); exact HO_17.out) gb350 (Nat.le_of_eq hg.symm)) hb); have n1_ := Aside0.mk (below_step (by repeat (first | (with_reducible first | exact HB.out | apply below_alloc | apply pw_below_drewN | apply below_drew1) | exact HB.out)) hb); have n2_ := Aside0.mk (hbox); have n3_ := Aside0.mk ((by rw [hg]; exact (below_size (by repeat (first | (with_reducible first | exact HB.out | apply below_alloc | apply pw_below_drewN | apply below_drew1) | exact HB.out))) : w.heap.size ≤ gb350)); have n4_ := Aside0.mk ((by rw [hg]; exact (below_size (by repeat (first | (with_reducible first | exact HB.out | apply below_alloc | apply pw_below_drewN | apply below_drew1) | exact HB.out))) : w.heap.size ≤ gb350)); clear HO_17; clear HB; have HO_17 := n0_; have HB := n1_; have BK350 := n2_; have GW350 := n3_; have GE350 := n4_; clear n0_ n1_ n2_ n3_ n4_; clear hb hbox hg; have hcz43_0 : w42.cell? ⟨gb350, 0, none⟩ = some (.int .i64 0) := (blk_cell BK350.out 0).trans rfl; have hcz43_1 : w42.cell? ⟨gb350, 1, none⟩ = some (.int .i64 0) := (blk_cell BK350.out 1).trans rfl; have hcz43_2 : w42.cell? ⟨gb350, 2, none⟩ = some (.string (⟨#[]⟩ : ByteArray)) := (blk_cell BK350.out 2).trans rfl; have hfz43_0 := blk_frozen BK350.out 0; have hfz43_1 := blk_frozen BK350.out 1; have hfz43_2 := blk_frozen BK350.out 2) | ((with_reducible refine gate_store (t := 34) (p := 20) rfl ?_); refine store_event (t := 34) (p := 20) (v := ?vo_w44) (w1 := (((w42.setCell ⟨gb350, 0, none⟩ (.int .i64 ((rd_T34 x17_3 x18_3).f0))).setCell ⟨gb350, 1, none⟩ (.int .i64 ((rd_T34 x17_3 x18_3).f1))).setCell ⟨gb350, 2, none⟩ (.string ((rd_T34 x17_3 x18_3).f2)))) ?hg ?ho ?hn ?hr ?_; (case ho => rfl); (case hg => rfl); (case hn => rfl); (case hr => first | (go_simp; done) | (go_simp; rfl)); intro w44 hw; have n0_ : Aside0 (Kd.R k34 34 w44 w.heap.size (fun k_ => k_ ≠ gb350) (.slice (some ad349) x17_3.length co41) x17_3) := ⟨(by rw [hw]; exact (by (with_reducible repeat (first | apply Kd.R_alloc | apply Kd.R_drewN | apply Kd.R_drew)); exact Kd.R_mono (Kd.R_far (p := ⟨gb350, 2, none⟩) (Kd.R_far (p := ⟨gb350, 1, none⟩) (Kd.R_far (p := ⟨gb350, 0, none⟩) (Kd.R_mono HO_17.out (fun k_ hk => (⟨hk, hk.2⟩ : _ ∧ k_ ≠ gb350))) (fun _ hk => hk.2) (.int .i64 ((rd_T34 x17_3 x18_3).f0))) (fun _ hk => hk.2) (.int .i64 ((rd_T34 x17_3 x18_3).f1))) (fun _ hk => hk.2) (.string ((rd_T34 x17_3 x18_3).f2))) (fun _ hk => hk.1.2)))⟩; have n1_ : Aside0 (w44.heap[gb350]? = some (.cells #[.int .i64 ((rd_T34 x17_3 x18_3).f0), .int .i64 ((rd_T34 x17_3 x18_3).f1), .string ((rd_T34 x17_3 x18_3).f2)] 34 (0, 0))) := ⟨(by rw [hw]; exact (by (with_reducible repeat (first | refine blk_drewN ?_ _ | refine blk_drew ?_ | refine blk_alloc ?_ _)); refine blk_put (cs := #[.int .i64 ((rd_T34 x17_3 x18_3).f0), .int .i64 ((rd_T34 x17_3 x18_3).f1), .string (⟨#[]⟩ : ByteArray)]) ?_ 2 _ rfl; (with_reducible repeat (first | refine blk_drewN ?_ _ | refine blk_drew ?_ | refine blk_alloc ?_ _)); refine blk_put (cs := #[.int .i64 ((rd_T34 x17_3 x18_3).f0), .int .i64 0, .string (⟨#[]⟩ : ByteArray)]) ?_ 1 _ rfl; (with_reducible repeat (first | refine blk_drewN ?_ _ | refine blk_drew ?_ | refine blk_alloc ?_ _)); refine blk_put (cs := #[.int .i64 0, .int .i64 0, .string (⟨#[]⟩ : ByteArray)]) ?_ 0 _ rfl; (with_reducible repeat (first | refine blk_drewN ?_ _ | refine blk_drew ?_ | refine blk_alloc ?_ _)); exact BK350.out))⟩; have n2_ : Aside0 (Below w.heap.size w w44) := ⟨(by rw [hw]; exact (by repeat (first | (with_reducible first | exact HB.out | apply below_alloc | apply pw_below_drewN | apply below_drew1 | refine below_set ?_ GE350.out) | exact HB.out)))⟩; clear hw; clear HO_17; clear BK350; clear HB; have HO_17 := n0_; have BK350 := n1_; have HB := n2_; clear n0_ n1_ n2_; have p351 : 0 ≤ ((ji36) : Int) := of_decide_eq_true (by first | (with_reducible assumption) | assumption); have q351 : (ji36) < (x17_3.length : Int) := of_decide_eq_true (by first | (with_reducible assumption) | assumption); obtain ⟨ad351, e351, hx351_0, hx351_1, hx351_2⟩ := at_T34 (Kd.R_reads' HO_17.out).2.2 (ji36) p351 q351; obtain rfl : ad349 = ad351 := (by injection e351); replace p351 := eq_true p351; replace q351 := eq_true q351; have p39 : 0 ≤ (x18_3 : Int) := of_decide_eq_true (by first | (with_reducible assumption) | assumption); have q39 : (x18_3 : Int) < ((x17_3.length : Int) : Int) := of_decide_eq_true (by first | (with_reducible assumption) | assumption); obtain ⟨go39, co39, eo39, gb39, gl39, cl39, HG39⟩ := Kd.R_form HO_17.out (by omega); (first | cases eo39 | (injection eo39 with ea_ en_ ec_; (first | subst ea_ | (injection ea_ with ea_; subst ea_)); subst ec_; clear en_)); have GB39 := Aside0.mk gb39; have GG39 := Aside0.mk HG39; clear gb39 gl39 HG39; (first | simp only [add_plain] at hx349_0 | skip); (first | simp only [add_plain] at hx349_1 | skip); (first | simp only [add_plain] at hx349_2 | skip); (first | simp only [add_plain] at hx351_0 | skip); (first | simp only [add_plain] at hx351_1 | skip); (first | simp only [add_plain] at hx351_2 | skip); obtain ⟨ce39, hcl39, hM39, hcc39, hfr39⟩ := Kd.R_elem HO_17.out z34 (x18_3 : Int) p39 q39; obtain rfl := k34_openM hM39; have hx39_0 : w44.cell? ⟨go39, (x18_3 : Int).toNat * 3, none⟩ = some (.int .i64 ((rd_T34 x17_3 x18_3).f0)) := hcc39 0 _ rfl; have hx39_1 : w44.cell? ⟨go39, (x18_3 : Int).toNat * 3 + 1, none⟩ = some (.int .i64 ((rd_T34 x17_3 x18_3).f1)) := hcc39 1 _ rfl; have hx39_2 : w44.cell? ⟨go39, (x18_3 : Int).toNat * 3 + 2, none⟩ = some (.string ((rd_T34 x17_3 x18_3).f2)) := hcc39 2 _ rfl; have hf39_0 : w44.frozen? ⟨go39, (x18_3 : Int).toNat * 3, none⟩ = false := hfr39 0; have hf39_1 : w44.frozen? ⟨go39, (x18_3 : Int).toNat * 3 + 1, none⟩ = false := hfr39 1; have hf39_2 : w44.frozen? ⟨go39, (x18_3 : Int).toNat * 3 + 2, none⟩ = false := hfr39 2; clear hcl39 hcc39 hfr39 hM39; replace p39 := eq_true p39; replace q39 := eq_true q39; have HX45 := Aside0.mk (show Kd.R k34 34 w44 w.heap.size (fun k_ => k_ ≠ gb350) (.slice (some ⟨go39, 0, none⟩) x17_3.length co41) x17_3 from (by (with_reducible repeat (first | apply Kd.R_alloc | apply Kd.R_drewN | apply Kd.R_drew)); exact HO_17.out)); obtain ⟨ce45, hcl45, hM45, hcc45, hfr45⟩ := Kd.R_elem HX45.out z34 (x18_3 : Int) (of_decide_eq_true (by first | (with_reducible assumption) | assumption)) (by have h_ : (x18_3 : Int) < ((x17_3.length : Int) : Int) := of_decide_eq_true (by first | (with_reducible assumption) | assumption); first | exact h_ | (have e_ := (Kd.R_reads' HO_17.out).1; omega) | simpa using h_); obtain rfl := k34_openM hM45; have HP45 := Kd.R_seg HX45.out (x18_3 : Int) (of_decide_eq_true (by first | (with_reducible assumption) | assumption)) (by have h_ : (x18_3 : Int) < ((x17_3.length : Int) : Int) := of_decide_eq_true (by first | (with_reducible assumption) | assumption); first | exact h_ | (have e_ := (Kd.R_reads' HO_17.out).1; omega) | simpa using h_) (seg := [.int .i64 ((rd_T34 x17_3 (ji36)).f0), .int .i64 ((rd_T34 x17_3 (ji36)).f1), .string ((rd_T34 x17_3 (ji36)).f2)]) (j := 0) hcl45 hcc45 (show 3 ≤ 3 from by decide) (x' := (⟨(rd_T34 x17_3 (ji36)).f0, (rd_T34 x17_3 (ji36)).f1, (rd_T34 x17_3 (ji36)).f2⟩ : S34)) (k34_mkM _ _ _ (⟨(rd_T34 x17_3 (ji36)).f0, (rd_T34 x17_3 (ji36)).f1, (rd_T34 x17_3 (ji36)).f2⟩ : S34) ) (fun _ hk => hk); have hx45_0 := hcc45 0 _ rfl; (try simp only [show (k34).sz = 3 from rfl, Nat.mul_one, Nat.add_zero] at hx45_0); have hf45_0 := hfr45 0; (try simp only [show (k34).sz = 3 from rfl, Nat.mul_one, Nat.add_zero] at hf45_0); have hx45_1 := hcc45 1 _ rfl; (try simp only [show (k34).sz = 3 from rfl, Nat.mul_one, Nat.add_zero] at hx45_1); have hf45_1 := hfr45 1; (try simp only [show (k34).sz = 3 from rfl, Nat.mul_one, Nat.add_zero] at hf45_1); have hx45_2 := hcc45 2 _ rfl; (try simp only [show (k34).sz = 3 from rfl, Nat.mul_one, Nat.add_zero] at hx45_2); have hf45_2 := hfr45 2; (try simp only [show (k34).sz = 3 from rfl, Nat.mul_one, Nat.add_zero] at hf45_2); clear hcl45 hcc45 hfr45 hM45) | ((with_reducible refine gate_store (t := 34) (p := 120) rfl ?_); refine store_event (t := 34) (p := 120) (v := ?vo_w46) (w1 := (((w44.setCell ⟨go39, (x18_3 : Int).toNat * 3, none⟩ (.int .i64 ((rd_T34 x17_3 (ji36)).f0))).setCell ⟨go39, (x18_3 : Int).toNat * 3 + 1, none⟩ (.int .i64 ((rd_T34 x17_3 (ji36)).f1))).setCell ⟨go39, (x18_3 : Int).toNat * 3 + 2, none⟩ (.string ((rd_T34 x17_3 (ji36)).f2)))) ?hg ?ho ?hn ?hr ?_; (case ho => rfl); (case hg => rfl); (case hn => rfl); (case hr => first | (go_simp; done) | (go_simp; rfl)); intro w46 hw; have hg : w44.grownBy w46 (some go39) := (by rw [hw]; exact HP45.2); have hp_ : Kd.R k34 34 w46 w.heap.size (fun k_ => k_ ≠ gb350) (.slice (some ⟨go39, 0, none⟩) x17_3.length co41) y352 := (by rw [hw, Ny352.out]; exact HP45.1); clear HP45; have n0_ := Aside0.mk (hp_); have n1_ := Aside0.mk (blk_grown (g := gb350) (o := .cells #[.int .i64 ((rd_T34 x17_3 x18_3).f0), .int .i64 ((rd_T34 x17_3 x18_3).f1), .string ((rd_T34 x17_3 x18_3).f2)] 34 (0, 0)) (by (with_reducible repeat (first | refine blk_drewN ?_ _ | refine blk_drew ?_ | refine blk_alloc ?_ _)); exact BK350.out) hg (Kd.R_away HO_17.out (fun _ hk => hk))); have n2_ := Aside0.mk ((by rw [hw]; exact below_set (below_set (below_set (HB.out) GB39.out) GB39.out) GB39.out : Below w.heap.size w w46)); clear HO_17; clear BK350; clear HB; have HO_17 := n0_; have BK350 := n1_; have HB := n2_; clear n0_ n1_ n2_; clear hg hw hp_; have hcz47_0 : w46.cell? ⟨gb350, 0, none⟩ = some (.int .i64 ((rd_T34 x17_3 x18_3).f0)) := (blk_cell BK350.out 0).trans rfl; have hcz47_1 : w46.cell? ⟨gb350, 1, none⟩ = some (.int .i64 ((rd_T34 x17_3 x18_3).f1)) := (blk_cell BK350.out 1).trans rfl; have hcz47_2 : w46.cell? ⟨gb350, 2, none⟩ = some (.string ((rd_T34 x17_3 x18_3).f2)) := (blk_cell BK350.out 2).trans rfl; have hfz47_0 := blk_frozen BK350.out 0; have hfz47_1 := blk_frozen BK350.out 1; have hfz47_2 := blk_frozen BK350.out 2; have p40 : 0 ≤ ((ji36) : Int) := of_decide_eq_true (by first | (with_reducible assumption) | assumption); have q40 : ((ji36) : Int) < ((x17_3.length : Int) : Int) := of_decide_eq_true (by first | (with_reducible assumption) | assumption); obtain ⟨ce40, hcl40, hM40, hcc40, hfr40⟩ := Kd.R_elem HO_17.out z34 ((ji36) : Int) p40 q40; obtain rfl := k34_openM hM40; have hx40_0 : w46.cell? ⟨go39, ((ji36) : Int).toNat * 3, none⟩ = some (.int .i64 ((rd_T34 y352 (ji36)).f0)) := hcc40 0 _ rfl; have hx40_1 : w46.cell? ⟨go39, ((ji36) : Int).toNat * 3 + 1, none⟩ = some (.int .i64 ((rd_T34 y352 (ji36)).f1)) := hcc40 1 _ rfl; have hx40_2 : w46.cell? ⟨go39, ((ji36) : Int).toNat * 3 + 2, none⟩ = some (.string ((rd_T34 y352 (ji36)).f2)) := hcc40 2 _ rfl; have hf40_0 : w46.frozen? ⟨go39, ((ji36) : Int).toNat * 3, none⟩ = false := hfr40 0; have hf40_1 : w46.frozen? ⟨go39, ((ji36) : Int).toNat * 3 + 1, none⟩ = false := hfr40 1; have hf40_2 : w46.frozen? ⟨go39, ((ji36) : Int).toNat * 3 + 2, none⟩ = false := hfr40 2; clear hcl40 hcc40 hfr40 hM40; replace p40 := eq_true p40; replace q40 := eq_true q40; have HX48 := Aside0.mk (show Kd.R k34 34 w46 w.heap.size (fun k_ => k_ ≠ gb350) (.slice (some ⟨go39, 0, none⟩) x17_3.length co41) y352 from (by (with_reducible repeat (first | apply Kd.R_alloc | apply Kd.R_drewN | apply Kd.R_drew)); exact HO_17.out)); obtain ⟨ce48, hcl48, hM48, hcc48, hfr48⟩ := Kd.R_elem HX48.out z34 ((ji36) : Int) (of_decide_eq_true (by first | (with_reducible assumption) | assumption)) (by have h_ : ((ji36) : Int) < ((x17_3.length : Int) : Int) := of_decide_eq_true (by first | (with_reducible assumption) | assumption); first | exact h_ | (have e_ := (Kd.R_reads' HO_17.out).1; omega) | simpa using h_); obtain rfl := k34_openM hM48; have HP48 := Kd.R_seg HX48.out ((ji36) : Int) (of_decide_eq_true (by first | (with_reducible assumption) | assumption)) (by have h_ : ((ji36) : Int) < ((x17_3.length : Int) : Int) := of_decide_eq_true (by first | (with_reducible assumption) | assumption); first | exact h_ | (have e_ := (Kd.R_reads' HO_17.out).1; omega) | simpa using h_) (seg := [.int .i64 ((rd_T34 x17_3 x18_3).f0), .int .i64 ((rd_T34 x17_3 x18_3).f1), .string ((rd_T34 x17_3 x18_3).f2)]) (j := 0) hcl48 hcc48 (show 3 ≤ 3 from by decide) (x' := (⟨(rd_T34 x17_3 x18_3).f0, (rd_T34 x17_3 x18_3).f1, (rd_T34 x17_3 x18_3).f2⟩ : S34)) (k34_mkM _ _ _ (⟨(rd_T34 x17_3 x18_3).f0, (rd_T34 x17_3 x18_3).f1, (rd_T34 x17_3 x18_3).f2⟩ : S34) ) (fun _ hk => hk); have hx48_0 := hcc48 0 _ rfl; (try simp only [show (k34).sz = 3 from rfl, Nat.mul_one, Nat.add_zero] at hx48_0); have hf48_0 := hfr48 0; (try simp only [show (k34).sz = 3 from rfl, Nat.mul_one, Nat.add_zero] at hf48_0); have hx48_1 := hcc48 1 _ rfl; (try simp only [show (k34).sz = 3 from rfl, Nat.mul_one, Nat.add_zero] at hx48_1); have hf48_1 := hfr48 1; (try simp only [show (k34).sz = 3 from rfl, Nat.mul_one, Nat.add_zero] at hf48_1); have hx48_2 := hcc48 2 _ rfl; (try simp only [show (k34).sz = 3 from rfl, Nat.mul_one, Nat.add_zero] at hx48_2); have hf48_2 := hfr48 2; (try simp only [show (k34).sz = 3 from rfl, Nat.mul_one, Nat.add_zero] at hf48_2); clear hcl48 hcc48 hfr48 hM48) | ((with_reducible refine gate_store (t := 34) (p := 124) rfl ?_); refine store_event (t := 34) (p := 124) (v := ?vo_w49) (w1 := (((w46.setCell ⟨go39, ((ji36) : Int).toNat * 3, none⟩ (.int .i64 ((rd_T34 x17_3 x18_3).f0))).setCell ⟨go39, ((ji36) : Int).toNat * 3 + 1, none⟩ (.int .i64 ((rd_T34 x17_3 x18_3).f1))).setCell ⟨go39, ((ji36) : Int).toNat * 3 + 2, none⟩ (.string ((rd_T34 x17_3 x18_3).f2)))) ?hg ?ho ?hn ?hr ?_; (case ho => rfl); (case hg => rfl); (case hn => rfl); (case hr => first | (go_simp; done) | (go_simp; rfl)); intro w49 hw; have hg : w46.grownBy w49 (some go39) := (by rw [hw]; exact HP48.2); have hp_ : Kd.R k34 34 w49 w.heap.size (fun k_ => k_ ≠ gb350) (.slice (some ⟨go39, 0, none⟩) x17_3.length co41) y353 := (by rw [hw, Ny353.out]; exact HP48.1); clear HP48; have n0_ := Aside0.mk (hp_); have n1_ := Aside0.mk (blk_grown (g := gb350) (o := .cells #[.int .i64 ((rd_T34 x17_3 x18_3).f0), .int .i64 ((rd_T34 x17_3 x18_3).f1), .string ((rd_T34 x17_3 x18_3).f2)] 34 (0, 0)) (by (with_reducible repeat (first | refine blk_drewN ?_ _ | refine blk_drew ?_ | refine blk_alloc ?_ _)); exact BK350.out) hg (Kd.R_away HO_17.out (fun _ hk => hk))); have n2_ := Aside0.mk ((by rw [hw]; exact below_set (below_set (below_set (HB.out) GB39.out) GB39.out) GB39.out : Below w.heap.size w w49)); clear HO_17; clear BK350; clear HB; have HO_17 := n0_; have BK350 := n1_; have HB := n2_; clear n0_ n1_ n2_; clear hg hw hp_))
                 go_roundg k3
                 case measure => have := HJ3.out; have := HJ13.out; have := HK3.out; omega
                 case rel => exact ⟨(y353), (wrap64 (x18_3 + 1)), (by first | rfl | (simp; done) | (simp [*]; done)), H', ⟨by have := HJ3.out; have := HJ13.out; have := HK3.out; omega⟩, ⟨by (with_reducible repeat (first | apply Kd.R_alloc | apply Kd.R_drewN | apply Kd.R_drew)); exact Kd.R_mono HO_17.out (fun _ hk => trivial)⟩, ⟨by repeat (first | (with_reducible first | exact HB.out | apply below_alloc | apply pw_below_drewN | apply below_drew1 | refine below_set ?_ GE350.out) | exact HB.out)⟩⟩
                ·rw [if_neg c38] at H
                 exact absurd H (by simp)
               ·rw [if_neg c37] at H
                exact absurd H (by simp)
             ·rw [if_neg c34] at H
              exact absurd H (by simp)
            ·rw [if_neg c33] at H
             have c33b0 : decide (x18_3 < (l2.length : Int)) = false := decide_eq_false c33
             clear c33
             replace H := Option.bind_eq_some_iff.mp H
             obtain ⟨⟨t354, t355⟩, A500, H⟩ := H
             replace H : (if t355 = 0 then (if t354.toList = t327.toList then ((smockinglaw01_awake.f).bind fun t356 => (some t356)) else (some false)) else (some false)) = some r := H
             have A50 := Aside0.mk A500
             clear A500
             by_cases c51 : t355 = 0
             ·rw [if_pos c51] at H
              have c51b0 : (t355 == 0) = true := beq_iff_eq.mpr c51
              have c51b1 : (t355 != 0) = false := bne_eq_false_iff_eq.mpr c51
              clear c51
              by_cases c52 : t354.toList = t327.toList
              ·rw [if_pos c52] at H
               have c52b0 : (t354.toList == t327.toList) = true := beq_iff_eq.mpr c52
               have c52b1 : (t354.toList != t327.toList) = false := bne_eq_false_iff_eq.mpr c52
               clear c52
               replace H := Option.bind_eq_some_iff.mp H
               obtain ⟨t356, A530, H⟩ := H
               replace H : (some t356) = some r := H
               have A53 := Aside0.mk A530
               clear A530
               obtain rfl := Option.some.inj H
               obtain ⟨Ao54, co54, eo54⟩ := Kd.R_slice HO_17.out
               subst eo54
               go_wp2_with (first | ((with_reducible refine gate_callee (f := 10) rfl ?_); refine goesL_ (some 128) rfl rfl Tryd.func10 (by kernel_rfl) rfl #[.string a0, .slice Ao54 x17_3.length co54] rfl (by (try simp only [List.map_toArray, List.map_cons, List.map_nil]); first | done | rfl | (simp only [List.length_drop, List.length_take]; rfl)) ?_; (with_reducible refine (text_Apply.calls a0 _ _ x17_3 t354 t355 _ ?side1 ?side2 A50.out).mono ?_); (case side1 => repeat (first | exact (Kd.R_reads' HO_17.out).2.2 | (with_reducible refine Kd.C_alloc ?_ _) | (with_reducible refine Kd.C_drewN ?_ _) | (with_reducible refine Kd.C_drew ?_))); (case side2 => exact (Kd.R_reads' HO_17.out).2.1); rintro e w55 ⟨rfl, hb⟩; refine ⟨_, rfl, ?_⟩; have n0_ := Aside0.mk (Kd.R_below (by (with_reducible repeat (first | apply Kd.R_alloc | apply Kd.R_drewN | apply Kd.R_drew)); exact HO_17.out) hb); have n1_ := Aside0.mk (below_step (by repeat (first | (with_reducible first | exact HB.out | apply below_alloc | apply pw_below_drewN | apply below_drew1) | exact HB.out)) hb); clear HO_17; clear HB; have HO_17 := n0_; have HB := n1_; clear n0_ n1_; (try clear hb); (try clear hb2); (try clear hk); (try clear hi)) | (go_at_call 17; (with_reducible refine (smockinglaw01_awake.calls  t356 _ A53.out).mono ?_); rintro e w56 ⟨rfl, hb⟩; have n0_ := Aside0.mk (Kd.R_below (by (with_reducible repeat (first | apply Kd.R_alloc | apply Kd.R_drewN | apply Kd.R_drew)); exact HO_17.out) hb); have n1_ := Aside0.mk (below_step (by repeat (first | (with_reducible first | exact HB.out | apply below_alloc | apply pw_below_drewN | apply below_drew1) | exact HB.out)) hb); clear HO_17; clear HB; have HO_17 := n0_; have HB := n1_; clear n0_ n1_; (try clear hb); (try clear hb2); (try clear hk); (try clear hi)))
               go_ret
               exact ⟨by first | rfl | (simp [errW_none, errW_some] <;> rfl) | (simp [*, errW_none, errW_some] <;> rfl), by repeat (first | (with_reducible first | exact HB.out | apply below_alloc | apply pw_below_drewN | apply below_drew1) | exact HB.out)⟩
              ·rw [if_neg c52] at H
               have c52b0 : (t354.toList == t327.toList) = false := beq_eq_false_iff_ne.mpr c52
               have c52b1 : (t354.toList != t327.toList) = true := bne_iff_ne.mpr c52
               obtain rfl := Option.some.inj H
               obtain ⟨Ao57, co57, eo57⟩ := Kd.R_slice HO_17.out
               subst eo57
               go_wp2_with (first | ((with_reducible refine gate_callee (f := 10) rfl ?_); refine goesL_ (some 128) rfl rfl Tryd.func10 (by kernel_rfl) rfl #[.string a0, .slice Ao57 x17_3.length co57] rfl (by (try simp only [List.map_toArray, List.map_cons, List.map_nil]); first | done | rfl | (simp only [List.length_drop, List.length_take]; rfl)) ?_; (with_reducible refine (text_Apply.calls a0 _ _ x17_3 t354 t355 _ ?side1 ?side2 A50.out).mono ?_); (case side1 => repeat (first | exact (Kd.R_reads' HO_17.out).2.2 | (with_reducible refine Kd.C_alloc ?_ _) | (with_reducible refine Kd.C_drewN ?_ _) | (with_reducible refine Kd.C_drew ?_))); (case side2 => exact (Kd.R_reads' HO_17.out).2.1); rintro e w58 ⟨rfl, hb⟩; refine ⟨_, rfl, ?_⟩; have n0_ := Aside0.mk (Kd.R_below (by (with_reducible repeat (first | apply Kd.R_alloc | apply Kd.R_drewN | apply Kd.R_drew)); exact HO_17.out) hb); have n1_ := Aside0.mk (below_step (by repeat (first | (with_reducible first | exact HB.out | apply below_alloc | apply pw_below_drewN | apply below_drew1) | exact HB.out)) hb); clear HO_17; clear HB; have HO_17 := n0_; have HB := n1_; clear n0_ n1_; (try clear hb); (try clear hb2); (try clear hk); (try clear hi)))
               go_ret
               exact ⟨by first | rfl | (simp [errW_none, errW_some] <;> rfl) | (simp [*, errW_none, errW_some] <;> rfl), by repeat (first | (with_reducible first | exact HB.out | apply below_alloc | apply pw_below_drewN | apply below_drew1) | exact HB.out)⟩
             ·rw [if_neg c51] at H
              have c51b0 : (t355 == 0) = false := beq_eq_false_iff_ne.mpr c51
              have c51b1 : (t355 != 0) = true := bne_iff_ne.mpr c51
              obtain rfl := Option.some.inj H
              obtain ⟨Ao59, co59, eo59⟩ := Kd.R_slice HO_17.out
              subst eo59
              go_wp2_with (first | ((with_reducible refine gate_callee (f := 10) rfl ?_); refine goesL_ (some 128) rfl rfl Tryd.func10 (by kernel_rfl) rfl #[.string a0, .slice Ao59 x17_3.length co59] rfl (by (try simp only [List.map_toArray, List.map_cons, List.map_nil]); first | done | rfl | (simp only [List.length_drop, List.length_take]; rfl)) ?_; (with_reducible refine (text_Apply.calls a0 _ _ x17_3 t354 t355 _ ?side1 ?side2 A50.out).mono ?_); (case side1 => repeat (first | exact (Kd.R_reads' HO_17.out).2.2 | (with_reducible refine Kd.C_alloc ?_ _) | (with_reducible refine Kd.C_drewN ?_ _) | (with_reducible refine Kd.C_drew ?_))); (case side2 => exact (Kd.R_reads' HO_17.out).2.1); rintro e w60 ⟨rfl, hb⟩; refine ⟨_, rfl, ?_⟩; have n0_ := Aside0.mk (Kd.R_below (by (with_reducible repeat (first | apply Kd.R_alloc | apply Kd.R_drewN | apply Kd.R_drew)); exact HO_17.out) hb); have n1_ := Aside0.mk (below_step (by repeat (first | (with_reducible first | exact HB.out | apply below_alloc | apply pw_below_drewN | apply below_drew1) | exact HB.out)) hb); clear HO_17; clear HB; have HO_17 := n0_; have HB := n1_; clear n0_ n1_; (try clear hb); (try clear hb2); (try clear hk); (try clear hi)))
              go_ret
              exact ⟨by first | rfl | (simp [errW_none, errW_some] <;> rfl) | (simp [*, errW_none, errW_some] <;> rfl), by repeat (first | (with_reducible first | exact HB.out | apply below_alloc | apply pw_below_drewN | apply below_drew1) | exact HB.out)⟩
           ·rw [if_neg c32] at H
            have c32b0 : decide (x18_3 < (x17_3.length : Int)) = false := decide_eq_false c32
            clear c32
            replace H := Option.bind_eq_some_iff.mp H
            obtain ⟨⟨t357, t358⟩, A610, H⟩ := H
            replace H : (if t358 = 0 then (if t357.toList = t327.toList then ((smockinglaw01_awake.f).bind fun t359 => (some t359)) else (some false)) else (some false)) = some r := H
            have A61 := Aside0.mk A610
            clear A610
            by_cases c62 : t358 = 0
            ·rw [if_pos c62] at H
             have c62b0 : (t358 == 0) = true := beq_iff_eq.mpr c62
             have c62b1 : (t358 != 0) = false := bne_eq_false_iff_eq.mpr c62
             clear c62
             by_cases c63 : t357.toList = t327.toList
             ·rw [if_pos c63] at H
              have c63b0 : (t357.toList == t327.toList) = true := beq_iff_eq.mpr c63
              have c63b1 : (t357.toList != t327.toList) = false := bne_eq_false_iff_eq.mpr c63
              clear c63
              replace H := Option.bind_eq_some_iff.mp H
              obtain ⟨t359, A640, H⟩ := H
              replace H : (some t359) = some r := H
              have A64 := Aside0.mk A640
              clear A640
              obtain rfl := Option.some.inj H
              obtain ⟨Ao65, co65, eo65⟩ := Kd.R_slice HO_17.out
              subst eo65
              go_wp2_with (first | ((with_reducible refine gate_callee (f := 10) rfl ?_); refine goesL_ (some 128) rfl rfl Tryd.func10 (by kernel_rfl) rfl #[.string a0, .slice Ao65 x17_3.length co65] rfl (by (try simp only [List.map_toArray, List.map_cons, List.map_nil]); first | done | rfl | (simp only [List.length_drop, List.length_take]; rfl)) ?_; (with_reducible refine (text_Apply.calls a0 _ _ x17_3 t357 t358 _ ?side1 ?side2 A61.out).mono ?_); (case side1 => repeat (first | exact (Kd.R_reads' HO_17.out).2.2 | (with_reducible refine Kd.C_alloc ?_ _) | (with_reducible refine Kd.C_drewN ?_ _) | (with_reducible refine Kd.C_drew ?_))); (case side2 => exact (Kd.R_reads' HO_17.out).2.1); rintro e w66 ⟨rfl, hb⟩; refine ⟨_, rfl, ?_⟩; have n0_ := Aside0.mk (Kd.R_below (by (with_reducible repeat (first | apply Kd.R_alloc | apply Kd.R_drewN | apply Kd.R_drew)); exact HO_17.out) hb); have n1_ := Aside0.mk (below_step (by repeat (first | (with_reducible first | exact HB.out | apply below_alloc | apply pw_below_drewN | apply below_drew1) | exact HB.out)) hb); clear HO_17; clear HB; have HO_17 := n0_; have HB := n1_; clear n0_ n1_; (try clear hb); (try clear hb2); (try clear hk); (try clear hi)) | (go_at_call 17; (with_reducible refine (smockinglaw01_awake.calls  t359 _ A64.out).mono ?_); rintro e w67 ⟨rfl, hb⟩; have n0_ := Aside0.mk (Kd.R_below (by (with_reducible repeat (first | apply Kd.R_alloc | apply Kd.R_drewN | apply Kd.R_drew)); exact HO_17.out) hb); have n1_ := Aside0.mk (below_step (by repeat (first | (with_reducible first | exact HB.out | apply below_alloc | apply pw_below_drewN | apply below_drew1) | exact HB.out)) hb); clear HO_17; clear HB; have HO_17 := n0_; have HB := n1_; clear n0_ n1_; (try clear hb); (try clear hb2); (try clear hk); (try clear hi)))
              go_ret
              exact ⟨by first | rfl | (simp [errW_none, errW_some] <;> rfl) | (simp [*, errW_none, errW_some] <;> rfl), by repeat (first | (with_reducible first | exact HB.out | apply below_alloc | apply pw_below_drewN | apply below_drew1) | exact HB.out)⟩
             ·rw [if_neg c63] at H
              have c63b0 : (t357.toList == t327.toList) = false := beq_eq_false_iff_ne.mpr c63
              have c63b1 : (t357.toList != t327.toList) = true := bne_iff_ne.mpr c63
              obtain rfl := Option.some.inj H
              obtain ⟨Ao68, co68, eo68⟩ := Kd.R_slice HO_17.out
              subst eo68
              go_wp2_with (first | ((with_reducible refine gate_callee (f := 10) rfl ?_); refine goesL_ (some 128) rfl rfl Tryd.func10 (by kernel_rfl) rfl #[.string a0, .slice Ao68 x17_3.length co68] rfl (by (try simp only [List.map_toArray, List.map_cons, List.map_nil]); first | done | rfl | (simp only [List.length_drop, List.length_take]; rfl)) ?_; (with_reducible refine (text_Apply.calls a0 _ _ x17_3 t357 t358 _ ?side1 ?side2 A61.out).mono ?_); (case side1 => repeat (first | exact (Kd.R_reads' HO_17.out).2.2 | (with_reducible refine Kd.C_alloc ?_ _) | (with_reducible refine Kd.C_drewN ?_ _) | (with_reducible refine Kd.C_drew ?_))); (case side2 => exact (Kd.R_reads' HO_17.out).2.1); rintro e w69 ⟨rfl, hb⟩; refine ⟨_, rfl, ?_⟩; have n0_ := Aside0.mk (Kd.R_below (by (with_reducible repeat (first | apply Kd.R_alloc | apply Kd.R_drewN | apply Kd.R_drew)); exact HO_17.out) hb); have n1_ := Aside0.mk (below_step (by repeat (first | (with_reducible first | exact HB.out | apply below_alloc | apply pw_below_drewN | apply below_drew1) | exact HB.out)) hb); clear HO_17; clear HB; have HO_17 := n0_; have HB := n1_; clear n0_ n1_; (try clear hb); (try clear hb2); (try clear hk); (try clear hi)))
              go_ret
              exact ⟨by first | rfl | (simp [errW_none, errW_some] <;> rfl) | (simp [*, errW_none, errW_some] <;> rfl), by repeat (first | (with_reducible first | exact HB.out | apply below_alloc | apply pw_below_drewN | apply below_drew1) | exact HB.out)⟩
            ·rw [if_neg c62] at H
             have c62b0 : (t358 == 0) = false := beq_eq_false_iff_ne.mpr c62
             have c62b1 : (t358 != 0) = true := bne_iff_ne.mpr c62
             obtain rfl := Option.some.inj H
             obtain ⟨Ao70, co70, eo70⟩ := Kd.R_slice HO_17.out
             subst eo70
             go_wp2_with (first | ((with_reducible refine gate_callee (f := 10) rfl ?_); refine goesL_ (some 128) rfl rfl Tryd.func10 (by kernel_rfl) rfl #[.string a0, .slice Ao70 x17_3.length co70] rfl (by (try simp only [List.map_toArray, List.map_cons, List.map_nil]); first | done | rfl | (simp only [List.length_drop, List.length_take]; rfl)) ?_; (with_reducible refine (text_Apply.calls a0 _ _ x17_3 t357 t358 _ ?side1 ?side2 A61.out).mono ?_); (case side1 => repeat (first | exact (Kd.R_reads' HO_17.out).2.2 | (with_reducible refine Kd.C_alloc ?_ _) | (with_reducible refine Kd.C_drewN ?_ _) | (with_reducible refine Kd.C_drew ?_))); (case side2 => exact (Kd.R_reads' HO_17.out).2.1); rintro e w71 ⟨rfl, hb⟩; refine ⟨_, rfl, ?_⟩; have n0_ := Aside0.mk (Kd.R_below (by (with_reducible repeat (first | apply Kd.R_alloc | apply Kd.R_drewN | apply Kd.R_drew)); exact HO_17.out) hb); have n1_ := Aside0.mk (below_step (by repeat (first | (with_reducible first | exact HB.out | apply below_alloc | apply pw_below_drewN | apply below_drew1) | exact HB.out)) hb); clear HO_17; clear HB; have HO_17 := n0_; have HB := n1_; clear n0_ n1_; (try clear hb); (try clear hb2); (try clear hk); (try clear hi)))
             go_ret
             exact ⟨by first | rfl | (simp [errW_none, errW_some] <;> rfl) | (simp [*, errW_none, errW_some] <;> rfl), by repeat (first | (with_reducible first | exact HB.out | apply below_alloc | apply pw_below_drewN | apply below_drew1) | exact HB.out)⟩
        ·rw [if_neg c28] at H
         exact absurd H (by simp)
    ·rw [if_neg c9] at H
     have c9b0 : (t328 == 0) = false := beq_eq_false_iff_ne.mpr c9
     have c9b1 : (t328 != 0) = true := bne_iff_ne.mpr c9
     replace H := Option.bind_eq_some_iff.mp H
     obtain ⟨t329, A720, H⟩ := H
     replace H : (some t329) = some r := H
     have A72 := Aside0.mk A720
     clear A720
     obtain rfl := Option.some.inj H
     go_wp2_with (first | ((with_reducible refine gate_callee (f := 10) rfl ?_); refine goesL_ (some 33) rfl rfl Tryd.func10 (by kernel_rfl) rfl #[.string a0, .slice A1 l1.length c1] rfl (by (try simp only [List.map_toArray, List.map_cons, List.map_nil]); first | done | rfl | (simp only [List.length_drop, List.length_take]; rfl)) ?_; (with_reducible refine (text_Apply.calls a0 _ _ l1 t327 t328 _ ?side1 ?side2 A8.out).mono ?_); (case side1 => repeat (first | exact (Kd.C_below HR1.out HB.out) | (with_reducible refine Kd.C_alloc ?_ _) | (with_reducible refine Kd.C_drewN ?_ _) | (with_reducible refine Kd.C_drew ?_))); (case side2 => exact HC1.out); rintro e w73 ⟨rfl, hb⟩; refine ⟨_, rfl, ?_⟩; have n0_ := Aside0.mk (below_step (by repeat (first | (with_reducible first | exact HB.out | apply below_alloc | apply pw_below_drewN | apply below_drew1) | exact HB.out)) hb); clear HB; have HB := n0_; clear n0_; (try clear hb); (try clear hb2); (try clear hk); (try clear hi)) | ((with_reducible refine gate_callee (f := 17) rfl ?_); refine goesL_ (some 38) rfl rfl Tryd.func17 (by kernel_rfl) rfl #[] rfl (by (try simp only [List.map_toArray, List.map_cons, List.map_nil]); first | done | rfl | (simp only [List.length_drop, List.length_take]; rfl)) ?_; (with_reducible refine (smockinglaw01_awake.calls  t329 _ A72.out).mono ?_); rintro e w74 ⟨rfl, hb⟩; refine ⟨_, rfl, ?_⟩; have n0_ := Aside0.mk (below_step (by repeat (first | (with_reducible first | exact HB.out | apply below_alloc | apply pw_below_drewN | apply below_drew1) | exact HB.out)) hb); clear HB; have HB := n0_; clear n0_; (try clear hb); (try clear hb2); (try clear hk); (try clear hi)))
     go_ret
     exact ⟨by first | rfl | (simp [errW_none, errW_some] <;> rfl) | (simp [*, errW_none, errW_some] <;> rfl), by repeat (first | (with_reducible first | exact HB.out | apply below_alloc | apply pw_below_drewN | apply below_drew1) | exact HB.out)⟩

end Go.Proofs.YthimblhfjfngiaaDoor.PText

namespace Go.Proofs.YthimblhfjfngiaaDoor.PText
open Go.RowKit Go.Lib Go.Proofs.YthimblhfjfngiaaDoorW.PrintWords Go.Proofs.YthimblhfjfngiaaDoorW.PrintLast Go.Proofs.YthimblhfjfngiaaDoorW.PrintMore
theorem sumS_jgo : ∀ (l : List S34) (c : S34), sumS (jgoS c l) = c.f2.size + sumS l
  | [], c => by
    have e : jgoS c [] = [c] := rfl
    rw [e, sumS_cons]
  | x :: l, c => by
    have e : jgoS c (x :: l) = if x.f0 = x.f1 ∧ c.f0 = x.f0 ∧ c.f1 = x.f0 then jgoS ⟨c.f0, c.f1, c.f2 ++ x.f2⟩ l else c :: jgoS x l := rfl
    rw [e, sumS_cons]
    by_cases h : x.f0 = x.f1 ∧ c.f0 = x.f0 ∧ c.f1 = x.f0
    · rw [if_pos h, sumS_jgo l]
      show (c.f2 ++ x.f2).size + _ = _
      rw [ByteArray.size_append]
      omega
    · rw [if_neg h, sumS_cons, sumS_jgo l]
theorem sumS_jn (l : List S34) : sumS (jnS l) = sumS l := by
  cases l with
  | nil => rfl
  | cons x l =>
    rw [sumS_cons]
    exact sumS_jgo l x
theorem jnS_len (l : List S34) : (jnS l).length ≤ l.length := by
  have h := Tx.jn_len (l.map toE)
  rw [← jn_toE, List.length_map, List.length_map] at h
  exact h
/-- edits that are in order, in range and apart are fine, and are what is sorted -/
theorem fine_of (n : Nat) (m : List S34) (h0 : n ≤ 200000) (h1 : m.length ≤ 10000) (ho : Tx.Okay (n : Int) (m.map toE)) (ha : Tx.Asc Tx.elt (m.map toE)) (hc : Tx.clash 0 (-1) (m.map toE) = false) : fineE n m = 0 ∧ Tx.ord eltS m = m := by
  have hm : Tx.ord eltS m = m := Tx.ord_ord eltS_lin (List.pairwise_map.1 ha)
  refine ⟨?_, hm⟩
  unfold fineE
  rw [if_neg (show ¬ (200000 < n ∨ 10000 < m.length) by omega)]
  have hb : ¬ m.any (badE n) = true := by
    intro h
    obtain ⟨x, hx, hbx⟩ := List.any_eq_true.1 h
    have := ho (toE x) (List.mem_map.2 ⟨x, hx, rfl⟩)
    have g1 : 0 ≤ x.f0 := this.1
    have g2 : x.f0 ≤ x.f1 := this.2.1
    have g3 : x.f1 ≤ (n : Int) := this.2.2
    unfold badE at hbx
    rw [decide_eq_false (show ¬ x.f0 < 0 by omega), decide_eq_false (show ¬ (n : Int) < x.f1 by omega), decide_eq_false (show ¬ x.f1 < x.f0 by omega)] at hbx
    cases hbx
  rw [if_neg hb, hm, hc]
  rfl
theorem ba_eta (s : ByteArray) : (⟨s.data.toList.toArray⟩ : ByteArray) = s := by cases s; simp
/-- the inverse undoes, and the inverse of the inverse does again -/
theorem back_facts (s : ByteArray) (l : List S34) (hl : l.length ≤ 60) (hz : s.size + sumS l ≤ 6000) (hf : fineE s.size l = 0) :
    ∃ bk again : List S34, inverseR s l = (bk, 0) ∧ applyR ⟨(madeE s l).toArray⟩ bk = (s, 0) ∧ inverseR ⟨(madeE s l).toArray⟩ bk = (again, 0) ∧ applyR s again = (⟨(madeE s l).toArray⟩, 0) ∧
      bk.length ≤ 60 ∧ sumS bk ≤ 360000 ∧ again.length ≤ 60 ∧ sumS again ≤ 720000 ∧ (madeE s l).length ≤ 6000 ∧ applyR s l = (⟨(madeE s l).toArray⟩, 0) := by
  have hc := (fine_chain s.size l hf).2.2
  rw [size_list] at hc
  have hml := made_len hf
  have ho : (Tx.ord eltS l).length ≤ 60 := Nat.le_trans (Tx.ord_len l) hl
  have ha : applyR s l = (⟨(madeE s l).toArray⟩, 0) := by
    unfold applyR
    rw [if_neg (show ¬ (fineE s.size l ≠ 0) from fun q => q hf), if_neg (by omega)]
  obtain ⟨i1, i2, i3, i4, i5⟩ := Tx.inv_ap s.data.toList ((Tx.ord eltS l).map toE) hc
  have hbk : (jnS (invS s 0 (Tx.ord eltS l))).map toE = Tx.jn (Tx.inv s.data.toList 0 ((Tx.ord eltS l).map toE)) := by rw [jn_toE, inv_toE]
  have hM : Tx.ap s.data.toList 0 ((Tx.ord eltS l).map toE) = madeE s l := rfl
  rw [← hbk] at i1 i2 i3 i4 i5
  rw [hM] at i1 i2 i5
  have hbl : (jnS (invS s 0 (Tx.ord eltS l))).length ≤ 60 := by
    have := jnS_len (invS s 0 (Tx.ord eltS l))
    rw [invS_len] at this
    omega
  have hbs : sumS (jnS (invS s 0 (Tx.ord eltS l))) ≤ 360000 := by
    rw [sumS_jn]
    exact Nat.le_trans (invS_sum s _ 0) (Nat.le_trans (Nat.mul_le_mul ho (show s.size ≤ 6000 by omega)) (by decide))
  have hI : inverseR s l = (jnS (invS s 0 (Tx.ord eltS l)), 0) := by
    unfold inverseR
    rw [ha, if_pos rfl]
  generalize jnS (invS s 0 (Tx.ord eltS l)) = bk at *
  obtain ⟨t, ht⟩ : ∃ t : ByteArray, t = ⟨(madeE s l).toArray⟩ := ⟨_, rfl⟩
  have htl : t.data.toList = madeE s l := by rw [ht]
  have hts : t.size = (madeE s l).length := by rw [size_list, htl]
  rw [← htl] at i1 i2 i5
  rw [← size_list] at i2
  rw [← ht] at ha ⊢
  obtain ⟨f1, f2⟩ := fine_of t.size bk (by omega) (by omega) i2 i3 i4
  have hmb : madeE t bk = s.data.toList := by
    unfold madeE
    rw [f2]
    exact i1
  have hA : applyR t bk = (s, 0) := by
    unfold applyR
    rw [if_neg (show ¬ (fineE t.size bk ≠ 0) from fun q => q f1), hmb, if_neg (by rw [← size_list]; omega), ba_eta]
  obtain ⟨j1, j2, j3, j4, j5⟩ := Tx.inv_ap t.data.toList (bk.map toE) i5
  have hag : (jnS (invS t 0 (Tx.ord eltS bk))).map toE = Tx.jn (Tx.inv t.data.toList 0 (bk.map toE)) := by rw [jn_toE, inv_toE, f2]
  rw [← hag, i1] at j1 j2
  rw [← hag] at j3 j4
  have hgl : (jnS (invS t 0 (Tx.ord eltS bk))).length ≤ 60 := by
    rw [f2]
    have := jnS_len (invS t 0 bk)
    rw [invS_len] at this
    omega
  have hgs : sumS (jnS (invS t 0 (Tx.ord eltS bk))) ≤ 720000 := by
    rw [sumS_jn]
    refine Nat.le_trans (invS_sum t _ 0) ?_
    rw [f2]
    exact Nat.le_trans (Nat.mul_le_mul hbl (show t.size ≤ 12000 by omega)) (by decide)
  have hI2 : inverseR t bk = (jnS (invS t 0 (Tx.ord eltS bk)), 0) := by
    unfold inverseR
    rw [hA, if_pos rfl]
  generalize jnS (invS t 0 (Tx.ord eltS bk)) = again at *
  rw [← size_list] at j2
  obtain ⟨e1, e2⟩ := fine_of s.size again (by omega) (by omega) j2 j3 j4
  have hmg : madeE s again = t.data.toList := by
    unfold madeE
    rw [e2]
    exact j1
  have hA2 : applyR s again = (t, 0) := by
    unfold applyR
    rw [if_neg (show ¬ (fineE s.size again ≠ 0) from fun q => q e1), hmg, if_neg (by rw [← size_list]; omega), ba_eta]
  exact ⟨bk, again, hI, hA, hI2, hA2, hbl, hbs, hgl, hgs, by omega, ha⟩
theorem apply_perm {s : ByteArray} {l m : List S34} (hlen : m.length = l.length) (hm : ∀ a, a ∈ m ↔ a ∈ l) : text_Apply.f s m = text_Apply.f s l := by
  have h1 : Tx.ord eltS m = Tx.ord eltS l := Tx.ord_congr eltS_lin hm
  have h2 : m.any (badE s.size) = l.any (badE s.size) := by
    rw [Bool.eq_iff_iff, List.any_eq_true, List.any_eq_true]
    exact ⟨fun ⟨x, hx, q⟩ => ⟨x, (hm x).1 hx, q⟩, fun ⟨x, hx, q⟩ => ⟨x, (hm x).2 hx, q⟩⟩
  have h3 : fineE s.size m = fineE s.size l := by
    unfold fineE
    rw [h1, h2, hlen]
  unfold text_Apply.f madeE
  rw [h3, h1]
theorem swap_mem {m : List S34} {i n : Nat} (hi : i < m.length) (hn : n < m.length) (a : S34) : a ∈ (m.set i m[n]).set n m[i] ↔ a ∈ m := by
  constructor
  · intro h
    rcases List.mem_or_eq_of_mem_set h with h | h
    · rcases List.mem_or_eq_of_mem_set h with h | h
      · exact h
      · rw [h]; exact List.getElem_mem hn
    · rw [h]; exact List.getElem_mem hi
  · intro h
    obtain ⟨j, hj, rfl⟩ := List.mem_iff_getElem.1 h
    rw [List.mem_iff_getElem]
    by_cases e1 : j = i
    · subst e1
      exact ⟨n, by simp; exact hn, by simp⟩
    · by_cases e2 : j = n
      · subst e2
        exact ⟨i, by simp; exact hi, by rw [List.getElem_set_ne (by omega), List.getElem_set_self]⟩
      · exact ⟨j, by simp; exact hj, by rw [List.getElem_set_ne (by omega), List.getElem_set_ne (by omega)]⟩
theorem rd_at (x : List Int) (i : Nat) (h : i < x.length) : rd x (i : Int) = x[i] := by
  unfold rd
  rw [Int.toNat_natCast, List.getD_eq_getElem?_getD, List.getElem?_eq_getElem h]; rfl
theorem back_l0 (s t : ByteArray) (l : List S34) (seeds : List Int) (hl : l.length ≤ 60) (hseeds : ∀ v ∈ seeds, 0 ≤ v ∧ v ≤ 255) (hA : text_Apply.f s l = some (t, 0)) :
    ∀ (n i k : Nat) (m : List S34), m.length = l.length → (∀ a, a ∈ m ↔ a ∈ l) → m.length - i = n → i ≤ m.length → n + 1 ≤ k → smockinglaw01_TextBack.l0 k s seeds t m (i : Int) = some true := by
  intro n
  induction n with
  | zero =>
    intro i k m hlen hm hn hi hk
    obtain ⟨k, rfl⟩ : ∃ q, k = q + 1 := ⟨k - 1, by omega⟩
    rw [smockinglaw01_TextBack.l0, if_neg (by omega), apply_perm hlen hm, hA, Option.bind_some, if_pos rfl, if_pos rfl, awake_f, Option.bind_some]
  | succ n ih =>
    intro i k m hlen hm hn hi hk
    obtain ⟨k, rfl⟩ : ∃ q, k = q + 1 := ⟨k - 1, by omega⟩
    have hlt : i < m.length := by omega
    rw [smockinglaw01_TextBack.l0, if_pos (by omega)]
    by_cases c : i < seeds.length
    · have hv := hseeds seeds[i] (List.getElem_mem c)
      have hp : (0 : Int) < (m.length : Int) := by omega
      have t0 : 0 ≤ Int.tmod seeds[i] (m.length : Int) := Int.tmod_nonneg _ hv.1
      have t1 : Int.tmod seeds[i] (m.length : Int) < (m.length : Int) := Int.tmod_lt_of_pos _ hp
      obtain ⟨j, hj⟩ : ∃ j : Nat, Int.tmod seeds[i] (m.length : Int) = (j : Int) := ⟨(Int.tmod seeds[i] (m.length : Int)).toNat, by omega⟩
      have hjl : j < m.length := by omega
      rw [if_pos (by omega), if_pos (by omega), if_neg (by omega), rd_at seeds i c, w64 (x := seeds[i]) (by omega) (by omega), hj, if_pos (by omega), if_pos (by omega), rd34_at m j hjl, rd34_at m i hlt, Int.toNat_natCast, Int.toNat_natCast, nx i (by omega)]
      have e : ((m.set i (⟨m[j].f0, m[j].f1, m[j].f2⟩ : S34)).set j (⟨m[i].f0, m[i].f1, m[i].f2⟩ : S34)) = (m.set i m[j]).set j m[i] := rfl
      rw [e]
      exact ih (i + 1) k _ (by simp [hlen]) (fun a => (swap_mem hlt hjl a).trans (hm a)) (by simp; omega) (by simp; omega) (by omega)
    · rw [if_neg (by omega), apply_perm hlen hm, hA, Option.bind_some, if_pos rfl, if_pos rfl, awake_f, Option.bind_some]
theorem textBack_eq (s : ByteArray) (l : List S34) (seeds : List Int) (hs : s.size ≤ 1000000000000000) (hl : l.length ≤ 1000000000000000) (hz : ∀ x ∈ l, x.f2.size ≤ 1000000000000000) (hseeds : ∀ v ∈ seeds, 0 ≤ v ∧ v ≤ 255) :
    ∃ k, smockinglaw01_TextBack.f k s l seeds = some true := by
  refine ⟨l.length + 20000, ?_⟩
  obtain ⟨b, h1, h2⟩ := heavy_f s l hs hl hz (l.length + 20000) (by omega)
  unfold smockinglaw01_TextBack.f
  rw [h1, Option.bind_some]
  have early : ∀ k, smockinglaw01_TextBack.j0 (k + 1) s l seeds true = some true := fun k => by rw [smockinglaw01_TextBack.j0, if_pos rfl]
  cases b with
  | true => rw [if_pos rfl]; exact early _
  | false =>
    rw [if_neg (show ¬ (false = true) by decide)]
    by_cases c : l.length ≤ 60
    · have hb := h2 rfl
      rw [decide_eq_false (show ¬ (l.length : Int) > 60 by omega)]
      have e1 := apply_f s l (by omega)
      show smockinglaw01_TextBack.j0 (l.length + 19999 + 1) s l seeds false = some true
      rw [smockinglaw01_TextBack.j0, if_neg (show ¬ (false = true) by decide), e1, Option.bind_some]
      by_cases hz0 : (applyR s l).2 = 0
      · rw [if_pos hz0]
        have hf := (apply_zero hz0).1
        obtain ⟨bk, again, g1, g2, g3, g4, g5, g6, g7, g8, g9, g10⟩ := back_facts s l c hb hf
        have e2 := inverse_f s l 60 c (by omega) (by omega) (l.length + 19999) (by omega)
        rw [g10] at e1 ⊢
        obtain ⟨t, ht⟩ : ∃ t : ByteArray, t = ⟨(madeE s l).toArray⟩ := ⟨_, rfl⟩
        have hts : t.size ≤ 6000 := by rw [ht, size_list]; exact g9
        rw [← ht] at e1 g2 g3 g4 ⊢
        have e3 := apply_f t bk (by omega)
        have e4 := inverse_f t bk 60 g5 (by omega) (by omega) (l.length + 19999) (by omega)
        have e5 := apply_f s again (by omega)
        rw [e2, Option.bind_some, g1, e3, Option.bind_some, g2, e4, Option.bind_some, g3, e5, Option.bind_some, g4, if_pos rfl, if_pos rfl, if_pos rfl, if_pos rfl, if_pos rfl]
        show smockinglaw01_TextBack.j1 (l.length + 19998 + 1) s l seeds t (t.toList != t.toList) = some true
        rw [show (t.toList != t.toList) = false by simp, smockinglaw01_TextBack.j1, if_neg (show ¬ (false = true) by decide), Option.bind_some, if_pos (by simp; omega), List.nil_append]
        exact back_l0 s t l seeds c hseeds e1 l.length 0 (l.length + 19998) l rfl (fun _ => Iff.rfl) (by omega) (by omega) (by omega)
      · rw [if_neg hz0, awake_f, Option.bind_some]
    · rw [decide_eq_true (show (l.length : Int) > 60 by omega)]
      exact early _
end Go.Proofs.YthimblhfjfngiaaDoor.PText

