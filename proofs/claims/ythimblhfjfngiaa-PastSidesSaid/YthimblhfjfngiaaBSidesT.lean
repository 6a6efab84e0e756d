/- PastSides holds: for every three texts the statement answers true. Part 20 of 20. -/
import Derived.Test.YthimblhfjfngiaaBSidesS
import Derived.Test.YthimblhfjfngiaaRows
import Derived.ProofKit
import Derived.OpenShut
import Derived.ShutString
import Derived.SizedLaws
import Derived.Deep.DeepHandedRow
import Derived.Deep.DeepWitnessRowRef
import Derived.Deep.Slices
import Derived.ChangeArms
import Derived.ChangeOld
namespace Go.Proofs.Ythimblhfjfngiaa.PText
open Go.RowKit Go.Lib Go.Sort Go.Proofs.YthimblhfjfngiaaW.PrintWords Go.Proofs.YthimblhfjfngiaaW.PrintLast Go.Proofs.YthimblhfjfngiaaW.PrintMore
set_option linter.unusedVariables false
set_option linter.unusedSimpArgs false
theorem edits_k (a b : ByteArray) (r : List S59 × Int) (k : Nat) (hk : k ≤ 5000000) (h : text_Edits.f k a b = some r) : text_Edits.f 5000000 a b = some r := at_rounds (text_Edits.mono a b) hk h
theorem editsR_k (a b : ByteArray) (r : List S59 × Int) (k : Nat) (hk : k ≤ 5000000) (ha : a.size ≤ 1000000000) (hb : b.size ≤ 1000000000) (h : text_Edits.f k a b = some r) : editsR a b = r :=
  Option.some.inj ((edits_f a b ha hb 5000000 (Nat.le_refl _)).symm.trans (edits_k a b r k hk h))
def awA : ByteArray := ⟨#[97, 10, 98, 10, 99, 10]⟩
def awB : ByteArray := ⟨#[120, 10, 98, 10, 99, 10]⟩
def awC : ByteArray := ⟨#[97, 10, 98, 10, 121, 10]⟩
def awR : ByteArray := ⟨#[120, 10, 98, 10, 121, 10]⟩
theorem aw_e1 : text_Edits.f 60 awA awB = some ([⟨0, 2, ⟨#[120, 10]⟩⟩], 0) := by kernel_rfl
theorem aw_e2 : text_Edits.f 60 awA awC = some ([⟨4, 6, ⟨#[121, 10]⟩⟩], 0) := by kernel_rfl
theorem aw_e0 : text_Edits.f 60 ⟨#[]⟩ ⟨#[97, 10]⟩ = some ([⟨0, 0, ⟨#[97, 10]⟩⟩], 0) := by kernel_rfl
theorem aw_mg : mergeR 6 [⟨0, 2, ⟨#[120, 10]⟩⟩] [⟨4, 6, ⟨#[121, 10]⟩⟩] = ([⟨0, 2, ⟨#[120, 10]⟩⟩, ⟨4, 6, ⟨#[121, 10]⟩⟩], 0) := by kernel_rfl
theorem aw_ap : text_Apply.f awA [⟨0, 2, ⟨#[120, 10]⟩⟩, ⟨4, 6, ⟨#[121, 10]⟩⟩] = some (awR, 0) := by kernel_rfl
theorem aw_three : past_Three.f awA awB awC = some (awR, 0) := by
  have s1 : awA.size = 6 := rfl
  have s2 : awB.size = 6 := rfl
  have s3 : awC.size = 6 := rfl
  have h1 := editsR_k awA awB _ 60 (by omega) (by omega) (by omega) aw_e1
  have h2 := editsR_k awA awC _ 60 (by omega) (by omega) (by omega) aw_e2
  unfold past_Three.f
  rw [if_pos ⟨by omega, by omega, by omega⟩, h1, h2, s1, aw_mg]
  rw [if_neg (by decide), if_neg (by decide), if_neg (by decide), if_neg (by decide), aw_ap, Option.bind_some]
  rfl
theorem aw_put : putL [⟨0, 0, ⟨#[97, 10]⟩⟩] 0 = [0] := by kernel_rfl
def awF : S53 := ⟨⟨#[102]⟩, ⟨#[97, 10]⟩⟩
theorem aw_commit : commitR [] ⟨#[111, 110, 101]⟩ [awF] = (0, 0, [⟨⟨#[111, 110, 101]⟩, [awF]⟩]) := by
  have h : srtF [awF] = [awF] := by kernel_rfl
  unfold commitR
  rw [if_neg (by decide), if_neg (fun q => q (show ([_] : List _).Nodup by simp)), if_neg (by rintro ⟨x, hx, e⟩; rcases List.mem_cons.1 hx with rfl | h; exact absurd e (by rw [show awF.f0.toList = [102] by kernel_rfl]; decide); cases h), h]
  rfl
theorem aw_find : findR [awF] ⟨#[102]⟩ = (⟨#[97, 10]⟩, true) := by kernel_rfl
def smockinglaw25_awake.f : Option Bool := some true
theorem file_row (w : World) : Kd.C k53 (w.alloc (.cells #[.string ⟨#[102]⟩, .string ⟨#[97, 10]⟩] 53)) (some ⟨w.heap.size, 0, none⟩) 1 [awF] := by
  refine ⟨rfl, by simp, fun _ => ⟨⟨w.heap.size, 0, none⟩, rfl, fun j t hj => ?_⟩⟩
  have hj0 : j = 0 := by
    rcases Nat.eq_zero_or_pos j with h | h
    · exact h
    · rw [List.getElem?_eq_none (by simp; omega)] at hj; cases hj
  subst hj0
  cases Option.some.inj hj
  refine ⟨[.string ⟨#[102]⟩, .string ⟨#[97, 10]⟩], rfl, k53_mk _ _, fun i u hu => ?_⟩
  have hi : (w.alloc (.cells #[.string ⟨#[102]⟩, .string ⟨#[97, 10]⟩] 53)).cell? ⟨w.heap.size, i, none⟩ = some u := by
    unfold World.cell?
    simp only [heap_nw]
    match i, hu with
    | 0, hu => exact hu
    | 1, hu => exact hu
    | i + 2, hu => simp at hu
  have e : (Addr.add ⟨w.heap.size, 0, none⟩ (0 * k53.sz + i)) = (⟨w.heap.size, i, none⟩ : Addr) := by unfold Addr.add; simp; exact fun q => q.symm
  rw [e]
  exact hi
theorem int_row (w : World) (k : Int) : Kd.C (Kd.int .i64) (w.alloc (.cells #[.int .i64 k] 3)) (some ⟨w.heap.size, 0, none⟩) 1 [k] := by
  refine ⟨rfl, by simp, fun _ => ⟨⟨w.heap.size, 0, none⟩, rfl, fun j t hj => ?_⟩⟩
  have hj0 : j = 0 := by
    rcases Nat.eq_zero_or_pos j with h | h
    · exact h
    · rw [List.getElem?_eq_none (by simp; omega)] at hj; cases hj
  subst hj0
  cases Option.some.inj hj
  refine ⟨[.int .i64 k], rfl, rfl, fun i u hu => ?_⟩
  have hi : (w.alloc (.cells #[.int .i64 k] 3)).cell? ⟨w.heap.size, i, none⟩ = some u := by
    unfold World.cell?
    simp only [heap_nw]
    match i, hu with
    | 0, hu => exact hu
    | i + 1, hu => simp at hu
  have e : (Addr.add ⟨w.heap.size, 0, none⟩ (0 * (Kd.int .i64).sz + i)) = (⟨w.heap.size, i, none⟩ : Addr) := by unfold Addr.add; simp; exact fun q => q.symm
  rw [e]
  exact hi
theorem aw_ints : rf0_EqInts.f 10 [0] [0] = some true := by kernel_rfl
set_option maxRecDepth 100000 in
set_option maxHeartbeats 4000000 in
theorem smockinglaw25_awake.calls (r : Bool) (w : World) (h : smockinglaw25_awake.f = some r) : Calls Try.prog 11 #[] w fun e w' => e = .returned (.bool r) ∧ Below w.heap.size w w' := by
  cases Option.some.inj h
  have H3 := Aside0.mk (fun w => past_Three.calls awA awB awC _ _ w aw_three)
  have HBL := Aside0.mk (fun base p w hP => blame_one base p ⟨⟨#[111, 110, 101]⟩, [awF]⟩ ⟨#[102]⟩ _ _ w hP (by simp) aw_find (edits_k _ _ _ 60 (by omega) aw_e0) (by
    intro x hx
    rcases List.mem_cons.1 hx with rfl | h
    · exact ⟨rfl, rfl, by show 2 ≤ 1000000000; omega⟩
    · cases h) (by simp) (by rw [aw_put]; simp))
  unfold awA awB awC awR at H3
  go_enter Try.func11, Try.ntmps11
  go_wp2_with (first
    | (go_at_call 6; refine (H3.out _).mono ?_; rintro e w1 ⟨rfl, hb⟩; have HB1 := Aside0.mk hb; clear hb H3)
    | (go_at_call 32; refine (new_calls _).mono ?_; rintro e w2 ⟨rfl, hp, hb, hk⟩; have HP2 := Aside0.mk hp; have HB2 := Aside0.mk (below_step HB1.out hb); have HBB := Aside0.mk hb.size; clear hp hb hk)
    | (go_at_call 21; refine (commit_calls w1.heap.size w1.heap.size [] ⟨#[111, 110, 101]⟩ (some ⟨w2.heap.size, 0, none⟩) 1 [awF] _ (HP2.out.below (Below.alloc (Below.refl _ w2) (Nat.le_refl _) _)) (file_row w2) (by simp) (by simp) (by have := HBB.out; simp; omega)).mono ?_; rintro e w3 ⟨rfl, hp, hb, hk⟩; rw [aw_commit] at hp; have HP3 := Aside0.mk hp; have HB3 := Aside0.mk ((HB2.out.alloc HB2.out.size _).trans (hb.mono HB1.out.size)); clear hp hb hk; rw [aw_commit])
    | (go_at_call 19; refine (HBL.out w1.heap.size w1.heap.size w3 HP3.out).mono ?_; rintro e w4 ⟨v4, rfl, ho, hb⟩; rw [aw_put] at ho; obtain ⟨A4, c4, rfl⟩ := Kd.R_slice ho; have HO4 := Aside0.mk (Kd.R_reads' ho); have HB4 := Aside0.mk (below_step HB3.out hb); clear ho hb)
    | (go_at_call 22; refine (rf0_EqInts.calls 10 A4 c4 [0] (some ⟨w4.heap.size, 0, none⟩) 1 [0] true _ (Kd.C_alloc HO4.out.2.2 _) HO4.out.2.1 (int_row w4 0) (by simp) aw_ints).mono ?_; rintro e w5 ⟨rfl, hd⟩; have HD5 := Aside0.mk hd; clear hd))
  go_ret
  exact ⟨rfl, (HB4.out.alloc HB4.out.size _).trans (HD5.out.below.mono (by have := HB4.out.size; simp; omega))⟩
end Go.Proofs.Ythimblhfjfngiaa.PText

namespace Go.Proofs.Ythimblhfjfngiaa.PText
open Go.RowKit Go.Proofs.YthimblhfjfngiaaW.PrintWords Go.Proofs.YthimblhfjfngiaaW.PrintLast Go.Proofs.YthimblhfjfngiaaW.PrintMore
attribute [local go_sem] max2_int min2_int max_two min_two max_three min_three max_four min_four   -- for this text's walks alone
set_option linter.unusedVariables false
set_option linter.unusedSimpArgs false

mutual
def smockinglaw25_PastSides.j0 : Nat → ByteArray → ByteArray → ByteArray → Bool → Option (Bool)
 | 0, _, _, _, _ => none
 | k + 1, x0, x1, x2, x40 => if x40 = true then (some true) else ((past_Three.f x0 x1 x2).bind fun bt441 => ((past_Three.f x0 x2 x1).bind fun bt443 => ((past_Three.f x0 x0 x2).bind fun bt445 => ((past_Three.f x0 x1 x1).bind fun bt447 => (if bt441.2 = bt443.2 then (if bt441.1.toList = bt443.1.toList then (if bt445.2 = 0 then (if bt445.1.toList = x2.toList then (if bt447.2 = 0 then (smockinglaw25_PastSides.j1 k x0 x1 x2 bt441.1 bt441.2 (bt447.1.toList != x1.toList)) else (smockinglaw25_PastSides.j1 k x0 x1 x2 bt441.1 bt441.2 true)) else (smockinglaw25_PastSides.j1 k x0 x1 x2 bt441.1 bt441.2 true)) else (smockinglaw25_PastSides.j1 k x0 x1 x2 bt441.1 bt441.2 true)) else (smockinglaw25_PastSides.j1 k x0 x1 x2 bt441.1 bt441.2 true)) else (smockinglaw25_PastSides.j1 k x0 x1 x2 bt441.1 bt441.2 true))))))
def smockinglaw25_PastSides.j1 : Nat → ByteArray → ByteArray → ByteArray → ByteArray → Int → Bool → Option (Bool)
 | 0, _, _, _, _, _, _ => none
 | k + 1, x0, x1, x2, x7, x8, x94 => if x94 = true then (some false) else ((past_Conflicts.f k x0 x1 x2).bind fun bt449 => (if bt449.2 = 0 then (smockinglaw25_PastSides.j2 k x0 x1 x2 x7 x8 ((x8 == 250) != (decide ((bt449.1.length : Int) > 0)))) else (smockinglaw25_PastSides.j2 k x0 x1 x2 x7 x8 true)))
def smockinglaw25_PastSides.j2 : Nat → ByteArray → ByteArray → ByteArray → ByteArray → Int → Bool → Option (Bool)
 | 0, _, _, _, _, _, _ => none
 | k + 1, x0, x1, x2, x7, x8, x111 => if x111 = true then (some false) else (if x8 = 0 then ((smockingref01_Lines.f k x0).bind fun t454 => ((smockingref01_Lines.f k x1).bind fun t457 => ((smockingref01_Lines.f k x2).bind fun t460 => (if t457.length + t460.length < 8796093022208 then ((smockingref01_Lines.f k x7).bind fun t466 => (smockinglaw25_PastSides.l0 k t454 (t457 ++ t460) t466 0)) else (none))))) else (if x8 = 250 then (if x7.toList = ([] : List UInt8) then ((smockinglaw25_awake.f).bind fun t453 => (some t453)) else (some false)) else (some false)))
def smockinglaw25_PastSides.l0 : Nat → List ByteArray → List ByteArray → List ByteArray → Int → Option (Bool)
 | 0, _, _, _, _ => none
 | k + 1, x17, x18, x19, x20 => if x20 < (x19.length : Int) then (if 0 ≤ x20 then ((rf0_Has.f k x17 (rdOf ByteArray.empty x19 x20)).bind fun t471 => (if t471 < 0 then ((rf0_Has.f k x18 (rdOf ByteArray.empty x19 x20)).bind fun t473 => (if t473 < 0 then (if (rdOf ByteArray.empty x19 x20).size + 1 ≤ 9223372036854775807 then ((rf0_Has.f k x18 ((rdOf ByteArray.empty x19 x20) ++ (⟨#[10]⟩ : ByteArray))).bind fun t475 => (if t475 < 0 then ((smockinglaw25_joined.f k (rdOf ByteArray.empty x19 x20) x17 x18).bind fun t477 => (if t477 = true then (smockinglaw25_PastSides.l0 k x17 x18 x19 (wrap64 (x20 + 1))) else (some false))) else (smockinglaw25_PastSides.l0 k x17 x18 x19 (wrap64 (x20 + 1))))) else (none)) else (smockinglaw25_PastSides.l0 k x17 x18 x19 (wrap64 (x20 + 1))))) else (smockinglaw25_PastSides.l0 k x17 x18 x19 (wrap64 (x20 + 1))))) else (none)) else ((smockinglaw25_awake.f).bind fun t469 => (some t469))
end
def smockinglaw25_PastSides.f (k : Nat) (a0 : ByteArray) (a1 : ByteArray) (a2 : ByteArray) : Option (Bool) := if (a0.size : Int) > 3000 then (smockinglaw25_PastSides.j0 k a0 a1 a2 true) else (if (a1.size : Int) > 3000 then (smockinglaw25_PastSides.j0 k a0 a1 a2 true) else (if (a2.size : Int) > 3000 then (smockinglaw25_PastSides.j0 k a0 a1 a2 true) else ((smockinglaw25_many.f k (([a0, a1, a2] : List ByteArray))).bind fun t440 => (smockinglaw25_PastSides.j0 k a0 a1 a2 t440))))
set_option maxHeartbeats 8000000 in
set_option maxRecDepth 100000 in
theorem smockinglaw25_PastSides.calls (k : Nat) (a0 : ByteArray) (a1 : ByteArray) (a2 : ByteArray) (r : Bool) (w : World) (h : smockinglaw25_PastSides.f k a0 a1 a2 = some r) :
  Calls Try.prog 4 #[.string a0, .string a1, .string a2] w fun e w' => e = .returned (.bool r) ∧ Below w.heap.size w w' := by
 have HB := Aside0.mk (Below.refl w.heap.size w)
 have H : (if (a0.size : Int) > 3000 then (smockinglaw25_PastSides.j0 k a0 a1 a2 true) else (if (a1.size : Int) > 3000 then (smockinglaw25_PastSides.j0 k a0 a1 a2 true) else (if (a2.size : Int) > 3000 then (smockinglaw25_PastSides.j0 k a0 a1 a2 true) else ((smockinglaw25_many.f k (([a0, a1, a2] : List ByteArray))).bind fun t440 => (smockinglaw25_PastSides.j0 k a0 a1 a2 t440))))) = some r := h
 clear h
 have HC4 := Aside0.mk H
 clear H
 go_enter Try.func4, Try.ntmps4
 go_upto_region 1 with (fail)
 go_cut [40] (fun v40 wc => ∃ (kq : Nat) (x40_3 : Bool), v40 = .bool x40_3 ∧ Aside0 (smockinglaw25_PastSides.j0 kq a0 a1 a2 x40_3 = some r) ∧ Aside0 (kq ≤ k) ∧ Aside0 (Below w.heap.size w wc))
 case first =>
  have H := HC4.out
  clear HC4
  by_cases c5 : (a0.size : Int) > 3000
  ·rw [if_pos c5] at H
   have c5b0 : decide (3000 < (a0.size : Int)) = true := decide_eq_true c5
   have c5b1 : decide (3000 < a0.size) = true := decide_eq_true (by omega)
   clear c5
   (first | rw [c5b0] | (simp only [i64_w, i32_w]; rw [c5b0]) | skip)
   have H' := Aside0.mk H
   clear H
   go_wp2
   go_meet
   case rel => exact ⟨_, (true), (by first | rfl | (simp; done) | (simp [*]; done)), H', ⟨by first | omega | exact Nat.le_refl _⟩, ⟨by repeat (with_reducible first | exact HB.out | apply below_alloc | apply pw_below_drewN | apply below_drew1)⟩⟩
  ·rw [if_neg c5] at H
   have c5b0 : decide (3000 < (a0.size : Int)) = false := decide_eq_false c5
   have c5b1 : decide (3000 < a0.size) = false := decide_eq_false (by omega)
   clear c5
   (first | rw [c5b0] | (simp only [i64_w, i32_w]; rw [c5b0]) | skip)
   by_cases c6 : (a1.size : Int) > 3000
   ·rw [if_pos c6] at H
    have c6b0 : decide (3000 < (a1.size : Int)) = true := decide_eq_true c6
    have c6b1 : decide (3000 < a1.size) = true := decide_eq_true (by omega)
    clear c6
    have H' := Aside0.mk H
    clear H
    go_wp2
    go_meet
    case rel => exact ⟨_, (true), (by first | rfl | (simp; done) | (simp [*]; done)), H', ⟨by first | omega | exact Nat.le_refl _⟩, ⟨by repeat (with_reducible first | exact HB.out | apply below_alloc | apply pw_below_drewN | apply below_drew1)⟩⟩
   ·rw [if_neg c6] at H
    have c6b0 : decide (3000 < (a1.size : Int)) = false := decide_eq_false c6
    have c6b1 : decide (3000 < a1.size) = false := decide_eq_false (by omega)
    clear c6
    by_cases c7 : (a2.size : Int) > 3000
    ·rw [if_pos c7] at H
     have c7b0 : decide (3000 < (a2.size : Int)) = true := decide_eq_true c7
     have c7b1 : decide (3000 < a2.size) = true := decide_eq_true (by omega)
     clear c7
     have H' := Aside0.mk H
     clear H
     go_wp2
     go_meet
     case rel => exact ⟨_, (true), (by first | rfl | (simp; done) | (simp [*]; done)), H', ⟨by first | omega | exact Nat.le_refl _⟩, ⟨by repeat (with_reducible first | exact HB.out | apply below_alloc | apply pw_below_drewN | apply below_drew1)⟩⟩
    ·rw [if_neg c7] at H
     have c7b0 : decide (3000 < (a2.size : Int)) = false := decide_eq_false c7
     have c7b1 : decide (3000 < a2.size) = false := decide_eq_false (by omega)
     clear c7
     obtain ⟨y437, hy437⟩ : ∃ y_ : List ByteArray, y_ = (([a0, a1, a2] : List ByteArray)) := ⟨_, rfl⟩
     replace H : ((smockinglaw25_many.f k y437).bind fun t440 => (smockinglaw25_PastSides.j0 k a0 a1 a2 t440)) = some r := by first | (rw [hy437]; with_reducible exact H) | (have H2_ := (Option.bind_some _ _).symm.trans H; rw [hy437]; with_reducible exact H2_) | (have H2_ := (Option.bind_some _ _).symm.trans H; with_reducible exact H2_) | with_reducible exact H | (rw [hy437]; exact H) | exact H
     have Ny437 := Aside0.mk hy437
     clear hy437
     replace H := Option.bind_eq_some_iff.mp H
     obtain ⟨t440, A80, H⟩ := H
     replace H : (smockinglaw25_PastSides.j0 k a0 a1 a2 t440) = some r := H
     have A8 := Aside0.mk A80
     clear A80
     have H' := Aside0.mk H
     clear H
     go_wp2_with (first | ((with_reducible refine gate_dst (N := 38) rfl ?_); (try (refine gate_guard (by rfl) ?_; dsimp only)); refine Kd.R_lit Kd.string _ 9 ?hg (N := 38) ?hd (xs := ([a0, a1, a2] : List ByteArray)) (inner := [.string a0, .string a1, .string a2]) (ok := fun _ => True) (okp := fun _ => True) ?hr ?hp (fun _ hk => hk) trivial (Below.refl _ _) (Nat.le_refl _) (by simp) ?_; (case hd => rfl); (case hg => rfl); (case hr => first | (go_simp; done) | (go_simp; rfl)); (case hp => exact (Reps.one (show Kd.M Kd.string _ _ _ a0 [.string a0] from rfl) (Reps.one (show Kd.M Kd.string _ _ _ a1 [.string a1] from rfl) (Reps.one (show Kd.M Kd.string _ _ _ a2 [.string a2] from rfl) (Reps.none _ _))))); intro v438 w9 ho10 hb hg_ hnew_; clear hg_ hnew_; (first | rw [← Ny437.out] at ho10 | (simp only [Int.reduceToNat] at ho10; rw [← Ny437.out] at ho10)); have n0_ := Aside0.mk (Kd.R_lower ho10 (below_size (by repeat (with_reducible first | exact HB.out | apply below_alloc | apply pw_below_drewN | apply below_drew1)))); have n1_ := Aside0.mk (below_step (by repeat (with_reducible first | exact HB.out | apply below_alloc | apply pw_below_drewN | apply below_drew1)) hb); clear HB; have HO439 := n0_; have HB := n1_; clear n0_ n1_; clear hb ho10; obtain ⟨Ao11, co11, eo11⟩ := Kd.R_slice HO439.out; subst eo11) | (go_at_call 12; (with_reducible refine (smockinglaw25_many.calls k _ _ y437 t440 _ ?side1 ?side2 A8.out).mono ?_); (case side1 => repeat (first | exact (Kd.R_reads' HO439.out).2.2 | (with_reducible refine Kd.C_alloc ?_ _) | (with_reducible refine Kd.C_drewN ?_ _) | (with_reducible refine Kd.C_drew ?_))); (case side2 => exact (Kd.R_reads' HO439.out).2.1); rintro e w12 ⟨rfl, hb⟩; have n0_ := Aside0.mk (Kd.R_below (by (with_reducible repeat (first | apply Kd.R_alloc | apply Kd.R_drewN | apply Kd.R_drew)); exact HO439.out) hb); have n1_ := Aside0.mk (below_step (by repeat (with_reducible first | exact HB.out | apply below_alloc | apply pw_below_drewN | apply below_drew1)) hb); clear HO439; clear HB; have HO439 := n0_; have HB := n1_; clear n0_ n1_; (try clear hb); (try clear hb2); (try clear hk); (try clear hi)))
     go_meet
     case rel => exact ⟨_, (t440), (by first | rfl | (simp; done) | (simp [*]; done)), H', ⟨by first | omega | exact Nat.le_refl _⟩, ⟨by repeat (with_reducible first | exact HB.out | apply below_alloc | apply pw_below_drewN | apply below_drew1)⟩⟩
 case rest =>
  clear HC4
  try clear p2
  try clear c4
  try clear c5
  try clear c5b0
  try clear c5b1
  try clear c6
  try clear c6b0
  try clear c6b1
  try clear c7
  try clear c7b0
  try clear c7b1
  obtain ⟨kq, x40_3, rfl, HA, HJ3, HB⟩ := hcut
  cases kq with
  | zero => exact absurd HA.out (by simp [smockinglaw25_PastSides.j0])
  | succ kj3 =>
   have H := HA.out
   clear HA
   simp only [smockinglaw25_PastSides.j0] at H
   by_cases c13 : x40_3 = true
   ·subst c13
    have H1 : (some true) = some r := by rw [if_pos rfl] at H; exact H
    clear H
    have H := H1
    clear H1
    obtain rfl := Option.some.inj H
    go_wp2
    go_ret
    exact ⟨by first | rfl | (simp [errW_none, errW_some] <;> rfl) | (simp [*, errW_none, errW_some] <;> rfl), by repeat (with_reducible first | exact HB.out | apply below_alloc | apply pw_below_drewN | apply below_drew1)⟩
   ·replace c13 := Bool.eq_false_iff.mpr c13
    subst c13
    have H1 : ((past_Three.f a0 a1 a2).bind fun bt441 => ((past_Three.f a0 a2 a1).bind fun bt443 => ((past_Three.f a0 a0 a2).bind fun bt445 => ((past_Three.f a0 a1 a1).bind fun bt447 => (if bt441.2 = bt443.2 then (if bt441.1.toList = bt443.1.toList then (if bt445.2 = 0 then (if bt445.1.toList = a2.toList then (if bt447.2 = 0 then (smockinglaw25_PastSides.j1 kj3 a0 a1 a2 bt441.1 bt441.2 (bt447.1.toList != a1.toList)) else (smockinglaw25_PastSides.j1 kj3 a0 a1 a2 bt441.1 bt441.2 true)) else (smockinglaw25_PastSides.j1 kj3 a0 a1 a2 bt441.1 bt441.2 true)) else (smockinglaw25_PastSides.j1 kj3 a0 a1 a2 bt441.1 bt441.2 true)) else (smockinglaw25_PastSides.j1 kj3 a0 a1 a2 bt441.1 bt441.2 true)) else (smockinglaw25_PastSides.j1 kj3 a0 a1 a2 bt441.1 bt441.2 true)))))) = some r := by rw [if_neg (show ¬ (false = true) by decide)] at H; exact H
    clear H
    have H := H1
    clear H1
    replace H := Option.bind_eq_some_iff.mp H
    obtain ⟨⟨t441, t442⟩, A140, H⟩ := H
    replace H : ((past_Three.f a0 a2 a1).bind fun bt443 => ((past_Three.f a0 a0 a2).bind fun bt445 => ((past_Three.f a0 a1 a1).bind fun bt447 => (if t442 = bt443.2 then (if t441.toList = bt443.1.toList then (if bt445.2 = 0 then (if bt445.1.toList = a2.toList then (if bt447.2 = 0 then (smockinglaw25_PastSides.j1 kj3 a0 a1 a2 t441 t442 (bt447.1.toList != a1.toList)) else (smockinglaw25_PastSides.j1 kj3 a0 a1 a2 t441 t442 true)) else (smockinglaw25_PastSides.j1 kj3 a0 a1 a2 t441 t442 true)) else (smockinglaw25_PastSides.j1 kj3 a0 a1 a2 t441 t442 true)) else (smockinglaw25_PastSides.j1 kj3 a0 a1 a2 t441 t442 true)) else (smockinglaw25_PastSides.j1 kj3 a0 a1 a2 t441 t442 true))))) = some r := H
    have A14 := Aside0.mk A140
    clear A140
    replace H := Option.bind_eq_some_iff.mp H
    obtain ⟨⟨t443, t444⟩, A150, H⟩ := H
    replace H : ((past_Three.f a0 a0 a2).bind fun bt445 => ((past_Three.f a0 a1 a1).bind fun bt447 => (if t442 = t444 then (if t441.toList = t443.toList then (if bt445.2 = 0 then (if bt445.1.toList = a2.toList then (if bt447.2 = 0 then (smockinglaw25_PastSides.j1 kj3 a0 a1 a2 t441 t442 (bt447.1.toList != a1.toList)) else (smockinglaw25_PastSides.j1 kj3 a0 a1 a2 t441 t442 true)) else (smockinglaw25_PastSides.j1 kj3 a0 a1 a2 t441 t442 true)) else (smockinglaw25_PastSides.j1 kj3 a0 a1 a2 t441 t442 true)) else (smockinglaw25_PastSides.j1 kj3 a0 a1 a2 t441 t442 true)) else (smockinglaw25_PastSides.j1 kj3 a0 a1 a2 t441 t442 true)))) = some r := H
    have A15 := Aside0.mk A150
    clear A150
    replace H := Option.bind_eq_some_iff.mp H
    obtain ⟨⟨t445, t446⟩, A160, H⟩ := H
    replace H : ((past_Three.f a0 a1 a1).bind fun bt447 => (if t442 = t444 then (if t441.toList = t443.toList then (if t446 = 0 then (if t445.toList = a2.toList then (if bt447.2 = 0 then (smockinglaw25_PastSides.j1 kj3 a0 a1 a2 t441 t442 (bt447.1.toList != a1.toList)) else (smockinglaw25_PastSides.j1 kj3 a0 a1 a2 t441 t442 true)) else (smockinglaw25_PastSides.j1 kj3 a0 a1 a2 t441 t442 true)) else (smockinglaw25_PastSides.j1 kj3 a0 a1 a2 t441 t442 true)) else (smockinglaw25_PastSides.j1 kj3 a0 a1 a2 t441 t442 true)) else (smockinglaw25_PastSides.j1 kj3 a0 a1 a2 t441 t442 true))) = some r := H
    have A16 := Aside0.mk A160
    clear A160
    replace H := Option.bind_eq_some_iff.mp H
    obtain ⟨⟨t447, t448⟩, A170, H⟩ := H
    replace H : (if t442 = t444 then (if t441.toList = t443.toList then (if t446 = 0 then (if t445.toList = a2.toList then (if t448 = 0 then (smockinglaw25_PastSides.j1 kj3 a0 a1 a2 t441 t442 (t447.toList != a1.toList)) else (smockinglaw25_PastSides.j1 kj3 a0 a1 a2 t441 t442 true)) else (smockinglaw25_PastSides.j1 kj3 a0 a1 a2 t441 t442 true)) else (smockinglaw25_PastSides.j1 kj3 a0 a1 a2 t441 t442 true)) else (smockinglaw25_PastSides.j1 kj3 a0 a1 a2 t441 t442 true)) else (smockinglaw25_PastSides.j1 kj3 a0 a1 a2 t441 t442 true)) = some r := H
    have A17 := Aside0.mk A170
    clear A170
    have HC18 := Aside0.mk H
    clear H
    go_upto_region 7 with (first | ((with_reducible refine gate_callee (f := 6) rfl ?_); refine goesL_ (some 45) rfl rfl Try.func6 (by kernel_rfl) rfl #[.string a0, .string a1, .string a2] rfl (by (try simp only [List.map_toArray, List.map_cons, List.map_nil]); first | done | rfl | (simp only [List.length_drop, List.length_take]; rfl)) ?_; (with_reducible refine (past_Three.calls a0 a1 a2 t441 t442 _ A14.out).mono ?_); rintro e w19 ⟨rfl, hb⟩; refine ⟨_, rfl, ?_⟩; have n0_ := Aside0.mk (below_step (by repeat (with_reducible first | exact HB.out | apply below_alloc | apply pw_below_drewN | apply below_drew1)) hb); clear HB; have HB := n0_; clear n0_; (try clear hb); (try clear hb2); (try clear hk); (try clear hi)) | ((with_reducible refine gate_callee (f := 6) rfl ?_); refine goesL_ (some 52) rfl rfl Try.func6 (by kernel_rfl) rfl #[.string a0, .string a2, .string a1] rfl (by (try simp only [List.map_toArray, List.map_cons, List.map_nil]); first | done | rfl | (simp only [List.length_drop, List.length_take]; rfl)) ?_; (with_reducible refine (past_Three.calls a0 a2 a1 t443 t444 _ A15.out).mono ?_); rintro e w20 ⟨rfl, hb⟩; refine ⟨_, rfl, ?_⟩; have n0_ := Aside0.mk (below_step (by repeat (with_reducible first | exact HB.out | apply below_alloc | apply pw_below_drewN | apply below_drew1)) hb); clear HB; have HB := n0_; clear n0_; (try clear hb); (try clear hb2); (try clear hk); (try clear hi)) | ((with_reducible refine gate_callee (f := 6) rfl ?_); refine goesL_ (some 59) rfl rfl Try.func6 (by kernel_rfl) rfl #[.string a0, .string a0, .string a2] rfl (by (try simp only [List.map_toArray, List.map_cons, List.map_nil]); first | done | rfl | (simp only [List.length_drop, List.length_take]; rfl)) ?_; (with_reducible refine (past_Three.calls a0 a0 a2 t445 t446 _ A16.out).mono ?_); rintro e w21 ⟨rfl, hb⟩; refine ⟨_, rfl, ?_⟩; have n0_ := Aside0.mk (below_step (by repeat (with_reducible first | exact HB.out | apply below_alloc | apply pw_below_drewN | apply below_drew1)) hb); clear HB; have HB := n0_; clear n0_; (try clear hb); (try clear hb2); (try clear hk); (try clear hi)) | ((with_reducible refine gate_callee (f := 6) rfl ?_); refine goesL_ (some 66) rfl rfl Try.func6 (by kernel_rfl) rfl #[.string a0, .string a1, .string a1] rfl (by (try simp only [List.map_toArray, List.map_cons, List.map_nil]); first | done | rfl | (simp only [List.length_drop, List.length_take]; rfl)) ?_; (with_reducible refine (past_Three.calls a0 a1 a1 t447 t448 _ A17.out).mono ?_); rintro e w22 ⟨rfl, hb⟩; refine ⟨_, rfl, ?_⟩; have n0_ := Aside0.mk (below_step (by repeat (with_reducible first | exact HB.out | apply below_alloc | apply pw_below_drewN | apply below_drew1)) hb); clear HB; have HB := n0_; clear n0_; (try clear hb); (try clear hb2); (try clear hk); (try clear hi)))
    (try simp only [Act.put, q1_, q2_, q3_])
    go_cut [94] (fun v94 wc => ∃ (kq : Nat) (x94_17 : Bool), v94 = .bool x94_17 ∧ Aside0 (smockinglaw25_PastSides.j1 kq a0 a1 a2 t441 t442 x94_17 = some r) ∧ Aside0 (kq ≤ kj3) ∧ Aside0 (Below w.heap.size w wc))
    case first =>
     have H := HC18.out
     clear HC18
     by_cases c23 : t442 = t444
     ·rw [if_pos c23] at H
      have c23b0 : (t442 == t444) = true := beq_iff_eq.mpr c23
      have c23b1 : (t442 != t444) = false := bne_eq_false_iff_eq.mpr c23
      clear c23
      (first | rw [c23b0] | (simp only [i64_w, i32_w]; rw [c23b0]) | skip)
      by_cases c24 : t441.toList = t443.toList
      ·rw [if_pos c24] at H
       have c24b0 : (t441.toList == t443.toList) = true := beq_iff_eq.mpr c24
       have c24b1 : (t441.toList != t443.toList) = false := bne_eq_false_iff_eq.mpr c24
       clear c24
       by_cases c25 : t446 = 0
       ·rw [if_pos c25] at H
        have c25b0 : (t446 == 0) = true := beq_iff_eq.mpr c25
        have c25b1 : (t446 != 0) = false := bne_eq_false_iff_eq.mpr c25
        clear c25
        by_cases c26 : t445.toList = a2.toList
        ·rw [if_pos c26] at H
         have c26b0 : (t445.toList == a2.toList) = true := beq_iff_eq.mpr c26
         have c26b1 : (t445.toList != a2.toList) = false := bne_eq_false_iff_eq.mpr c26
         clear c26
         by_cases c27 : t448 = 0
         ·rw [if_pos c27] at H
          have c27b0 : (t448 == 0) = true := beq_iff_eq.mpr c27
          have c27b1 : (t448 != 0) = false := bne_eq_false_iff_eq.mpr c27
          clear c27
          have H' := Aside0.mk H
          clear H
          go_wp2
          go_meet
          case rel => exact ⟨_, ((t447.toList != a1.toList)), (by first | rfl | (simp; done) | (simp [*]; done)), H', ⟨by have := HJ3.out; first | omega | exact Nat.le_refl _⟩, ⟨by repeat (with_reducible first | exact HB.out | apply below_alloc | apply pw_below_drewN | apply below_drew1)⟩⟩
         ·rw [if_neg c27] at H
          have c27b0 : (t448 == 0) = false := beq_eq_false_iff_ne.mpr c27
          have c27b1 : (t448 != 0) = true := bne_iff_ne.mpr c27
          have H' := Aside0.mk H
          clear H
          go_wp2
          go_meet
          case rel => exact ⟨_, (true), (by first | rfl | (simp; done) | (simp [*]; done)), H', ⟨by have := HJ3.out; first | omega | exact Nat.le_refl _⟩, ⟨by repeat (with_reducible first | exact HB.out | apply below_alloc | apply pw_below_drewN | apply below_drew1)⟩⟩
        ·rw [if_neg c26] at H
         have c26b0 : (t445.toList == a2.toList) = false := beq_eq_false_iff_ne.mpr c26
         have c26b1 : (t445.toList != a2.toList) = true := bne_iff_ne.mpr c26
         have H' := Aside0.mk H
         clear H
         go_wp2
         go_meet
         case rel => exact ⟨_, (true), (by first | rfl | (simp; done) | (simp [*]; done)), H', ⟨by have := HJ3.out; first | omega | exact Nat.le_refl _⟩, ⟨by repeat (with_reducible first | exact HB.out | apply below_alloc | apply pw_below_drewN | apply below_drew1)⟩⟩
       ·rw [if_neg c25] at H
        have c25b0 : (t446 == 0) = false := beq_eq_false_iff_ne.mpr c25
        have c25b1 : (t446 != 0) = true := bne_iff_ne.mpr c25
        have H' := Aside0.mk H
        clear H
        go_wp2
        go_meet
        case rel => exact ⟨_, (true), (by first | rfl | (simp; done) | (simp [*]; done)), H', ⟨by have := HJ3.out; first | omega | exact Nat.le_refl _⟩, ⟨by repeat (with_reducible first | exact HB.out | apply below_alloc | apply pw_below_drewN | apply below_drew1)⟩⟩
      ·rw [if_neg c24] at H
       have c24b0 : (t441.toList == t443.toList) = false := beq_eq_false_iff_ne.mpr c24
       have c24b1 : (t441.toList != t443.toList) = true := bne_iff_ne.mpr c24
       have H' := Aside0.mk H
       clear H
       go_wp2
       go_meet
       case rel => exact ⟨_, (true), (by first | rfl | (simp; done) | (simp [*]; done)), H', ⟨by have := HJ3.out; first | omega | exact Nat.le_refl _⟩, ⟨by repeat (with_reducible first | exact HB.out | apply below_alloc | apply pw_below_drewN | apply below_drew1)⟩⟩
     ·rw [if_neg c23] at H
      have c23b0 : (t442 == t444) = false := beq_eq_false_iff_ne.mpr c23
      have c23b1 : (t442 != t444) = true := bne_iff_ne.mpr c23
      (first | rw [c23b0] | (simp only [i64_w, i32_w]; rw [c23b0]) | skip)
      have H' := Aside0.mk H
      clear H
      go_wp2
      go_meet
      case rel => exact ⟨_, (true), (by first | rfl | (simp; done) | (simp [*]; done)), H', ⟨by have := HJ3.out; first | omega | exact Nat.le_refl _⟩, ⟨by repeat (with_reducible first | exact HB.out | apply below_alloc | apply pw_below_drewN | apply below_drew1)⟩⟩
    case rest =>
     clear HC18
     try clear c1
     try clear c2
     try clear p2
     try clear c4
     try clear c5
     try clear c5b0
     try clear c5b1
     try clear c6
     try clear c6b0
     try clear c6b1
     try clear c7
     try clear c7b0
     try clear c7b1
     try clear c13
     try clear c23
     try clear c23b0
     try clear c23b1
     try clear c24
     try clear c24b0
     try clear c24b1
     try clear c25
     try clear c25b0
     try clear c25b1
     try clear c26
     try clear c26b0
     try clear c26b1
     try clear c27
     try clear c27b0
     try clear c27b1
     try clear p2
     obtain ⟨kq, x94_17, rfl, HA, HJ17, HB⟩ := hcut
     cases kq with
     | zero => exact absurd HA.out (by simp [smockinglaw25_PastSides.j1])
     | succ kj17 =>
      have H := HA.out
      clear HA
      simp only [smockinglaw25_PastSides.j1] at H
      by_cases c28 : x94_17 = true
      ·subst c28
       have H1 : (some false) = some r := by rw [if_pos rfl] at H; exact H
       clear H
       have H := H1
       clear H1
       obtain rfl := Option.some.inj H
       go_wp2
       go_ret
       exact ⟨by first | rfl | (simp [errW_none, errW_some] <;> rfl) | (simp [*, errW_none, errW_some] <;> rfl), by repeat (with_reducible first | exact HB.out | apply below_alloc | apply pw_below_drewN | apply below_drew1)⟩
      ·replace c28 := Bool.eq_false_iff.mpr c28
       subst c28
       have H1 : ((past_Conflicts.f kj17 a0 a1 a2).bind fun bt449 => (if bt449.2 = 0 then (smockinglaw25_PastSides.j2 kj17 a0 a1 a2 t441 t442 ((t442 == 250) != (decide ((bt449.1.length : Int) > 0)))) else (smockinglaw25_PastSides.j2 kj17 a0 a1 a2 t441 t442 true))) = some r := by rw [if_neg (show ¬ (false = true) by decide)] at H; exact H
       clear H
       have H := H1
       clear H1
       replace H := Option.bind_eq_some_iff.mp H
       obtain ⟨⟨t449, t450⟩, A290, H⟩ := H
       replace H : (if t450 = 0 then (smockinglaw25_PastSides.j2 kj17 a0 a1 a2 t441 t442 ((t442 == 250) != (decide ((t449.length : Int) > 0)))) else (smockinglaw25_PastSides.j2 kj17 a0 a1 a2 t441 t442 true)) = some r := H
       have A29 := Aside0.mk A290
       clear A290
       have HC30 := Aside0.mk H
       clear H
       go_upto_region 10 with (first | ((with_reducible refine gate_callee (f := 8) rfl ?_); refine goesL_ (some 99) rfl rfl Try.func8 (by kernel_rfl) rfl #[.string a0, .string a1, .string a2] rfl (by (try simp only [List.map_toArray, List.map_cons, List.map_nil]); first | done | rfl | (simp only [List.length_drop, List.length_take]; rfl)) ?_; (with_reducible refine (past_Conflicts.calls kj17 a0 a1 a2 t449 t450 _ A29.out).mono ?_); rintro e w31 ⟨v451, rfl, ho0, hb⟩; refine ⟨_, rfl, ?_⟩; have n0_ := Aside0.mk (Kd.R_lower ho0 (below_size (by repeat (with_reducible first | exact HB.out | apply below_alloc | apply pw_below_drewN | apply below_drew1)))); have n1_ := Aside0.mk (below_step (by repeat (with_reducible first | exact HB.out | apply below_alloc | apply pw_below_drewN | apply below_drew1)) hb); clear HB; have HO452 := n0_; have HB := n1_; clear n0_ n1_; (try clear hb); (try clear hb2); (try clear hk); (try clear hi); (try clear ho0)))
       (try simp only [Act.put, q1_, q2_, q3_])
       go_cut [111] (fun v111 wc => ∃ (kq : Nat) (x111_29 : Bool), v111 = .bool x111_29 ∧ Aside0 (smockinglaw25_PastSides.j2 kq a0 a1 a2 t441 t442 x111_29 = some r) ∧ Aside0 (kq ≤ kj17) ∧ Aside0 (Below w.heap.size w wc))
       case first =>
        have H := HC30.out
        clear HC30
        by_cases c32 : t450 = 0
        ·rw [if_pos c32] at H
         have c32b0 : (t450 == 0) = true := beq_iff_eq.mpr c32
         have c32b1 : (t450 != 0) = false := bne_eq_false_iff_eq.mpr c32
         clear c32
         (first | rw [c32b0] | (simp only [i64_w, i32_w]; rw [c32b0]) | skip)
         have H' := Aside0.mk H
         clear H
         obtain ⟨Ao33, co33, eo33⟩ := Kd.R_slice HO452.out
         subst eo33
         go_wp2
         go_meet
         case rel => exact ⟨_, (((t442 == 250) != (decide ((t449.length : Int) > 0)))), (by first | rfl | (simp; done) | (simp [*]; done) | (simp [bne]; done)), H', ⟨by have := HJ3.out; have := HJ17.out; first | omega | exact Nat.le_refl _⟩, ⟨by repeat (with_reducible first | exact HB.out | apply below_alloc | apply pw_below_drewN | apply below_drew1)⟩⟩
        ·rw [if_neg c32] at H
         have c32b0 : (t450 == 0) = false := beq_eq_false_iff_ne.mpr c32
         have c32b1 : (t450 != 0) = true := bne_iff_ne.mpr c32
         (first | rw [c32b0] | (simp only [i64_w, i32_w]; rw [c32b0]) | skip)
         have H' := Aside0.mk H
         clear H
         go_wp2
         go_meet
         case rel => exact ⟨_, (true), (by first | rfl | (simp; done) | (simp [*]; done)), H', ⟨by have := HJ3.out; have := HJ17.out; first | omega | exact Nat.le_refl _⟩, ⟨by repeat (with_reducible first | exact HB.out | apply below_alloc | apply pw_below_drewN | apply below_drew1)⟩⟩
       case rest =>
        clear HC30
        try clear c1
        try clear c2
        try clear p2
        try clear c3
        try clear c4
        try clear c5
        try clear c5b0
        try clear c5b1
        try clear c6
        try clear c6b0
        try clear c6b1
        try clear c7
        try clear c7b0
        try clear c7b1
        try clear c8
        try clear c13
        try clear c23
        try clear c23b0
        try clear c23b1
        try clear c24
        try clear c24b0
        try clear c24b1
        try clear c25
        try clear c25b0
        try clear c25b1
        try clear c26
        try clear c26b0
        try clear c26b1
        try clear c27
        try clear c27b0
        try clear c27b1
        try clear c28
        try clear c32
        try clear c32b0
        try clear c32b1
        try clear p2
        obtain ⟨kq, x111_29, rfl, HA, HJ29, HB⟩ := hcut
        cases kq with
        | zero => exact absurd HA.out (by simp [smockinglaw25_PastSides.j2])
        | succ kj29 =>
         have H := HA.out
         clear HA
         simp only [smockinglaw25_PastSides.j2] at H
         by_cases c34 : x111_29 = true
         ·subst c34
          have H1 : (some false) = some r := by rw [if_pos rfl] at H; exact H
          clear H
          have H := H1
          clear H1
          obtain rfl := Option.some.inj H
          go_wp2
          go_ret
          exact ⟨by first | rfl | (simp [errW_none, errW_some] <;> rfl) | (simp [*, errW_none, errW_some] <;> rfl), by repeat (with_reducible first | exact HB.out | apply below_alloc | apply pw_below_drewN | apply below_drew1)⟩
         ·replace c34 := Bool.eq_false_iff.mpr c34
          subst c34
          have H1 : (if t442 = 0 then ((smockingref01_Lines.f kj29 a0).bind fun t454 => ((smockingref01_Lines.f kj29 a1).bind fun t457 => ((smockingref01_Lines.f kj29 a2).bind fun t460 => (if t457.length + t460.length < 8796093022208 then ((smockingref01_Lines.f kj29 t441).bind fun t466 => (smockinglaw25_PastSides.l0 kj29 t454 (t457 ++ t460) t466 0)) else (none))))) else (if t442 = 250 then (if t441.toList = ([] : List UInt8) then ((smockinglaw25_awake.f).bind fun t453 => (some t453)) else (some false)) else (some false))) = some r := by rw [if_neg (show ¬ (false = true) by decide)] at H; exact H
          clear H
          have H := H1
          clear H1
          by_cases c35 : t442 = 0
          ·rw [if_pos c35] at H
           have c35b0 : (t442 == 0) = true := beq_iff_eq.mpr c35
           have c35b1 : (t442 != 0) = false := bne_eq_false_iff_eq.mpr c35
           clear c35
           replace H := Option.bind_eq_some_iff.mp H
           obtain ⟨t454, A360, H⟩ := H
           replace H : ((smockingref01_Lines.f kj29 a1).bind fun t457 => ((smockingref01_Lines.f kj29 a2).bind fun t460 => (if t457.length + t460.length < 8796093022208 then ((smockingref01_Lines.f kj29 t441).bind fun t466 => (smockinglaw25_PastSides.l0 kj29 t454 (t457 ++ t460) t466 0)) else (none)))) = some r := H
           have A36 := Aside0.mk A360
           clear A360
           replace H := Option.bind_eq_some_iff.mp H
           obtain ⟨t457, A370, H⟩ := H
           replace H : ((smockingref01_Lines.f kj29 a2).bind fun t460 => (if t457.length + t460.length < 8796093022208 then ((smockingref01_Lines.f kj29 t441).bind fun t466 => (smockinglaw25_PastSides.l0 kj29 t454 (t457 ++ t460) t466 0)) else (none))) = some r := H
           have A37 := Aside0.mk A370
           clear A370
           replace H := Option.bind_eq_some_iff.mp H
           obtain ⟨t460, A380, H⟩ := H
           replace H : (if t457.length + t460.length < 8796093022208 then ((smockingref01_Lines.f kj29 t441).bind fun t466 => (smockinglaw25_PastSides.l0 kj29 t454 (t457 ++ t460) t466 0)) else (none)) = some r := H
           have A38 := Aside0.mk A380
           clear A380
           by_cases c39 : t457.length + t460.length < 8796093022208
           ·rw [if_pos c39] at H
            have LMc39 := Aside0.mk c39
            clear c39
            obtain ⟨y463, hy463⟩ : ∃ y_ : List ByteArray, y_ = (t457 ++ t460) := ⟨_, rfl⟩
            replace H : ((smockingref01_Lines.f kj29 t441).bind fun t466 => (smockinglaw25_PastSides.l0 kj29 t454 y463 t466 0)) = some r := by first | (rw [hy463]; with_reducible exact H) | (have H2_ := (Option.bind_some _ _).symm.trans H; rw [hy463]; with_reducible exact H2_) | (have H2_ := (Option.bind_some _ _).symm.trans H; with_reducible exact H2_) | with_reducible exact H | (rw [hy463]; exact H) | exact H
            have Ny463 := Aside0.mk hy463
            clear hy463
            replace H := Option.bind_eq_some_iff.mp H
            obtain ⟨t466, A400, H⟩ := H
            replace H : (smockinglaw25_PastSides.l0 kj29 t454 y463 t466 0) = some r := H
            have A40 := Aside0.mk A400
            clear A400
            have H' := Aside0.mk H
            clear H
            go_wp2_with (first | ((with_reducible refine gate_callee (f := 13) rfl ?_); refine goesL_ (some 124) rfl rfl Try.func13 (by kernel_rfl) rfl #[.string a0] rfl (by (try simp only [List.map_toArray, List.map_cons, List.map_nil]); first | done | rfl | (simp only [List.length_drop, List.length_take]; rfl)) ?_; (with_reducible refine (smockingref01_Lines.calls kj29 a0 t454 _ A36.out).mono ?_); rintro e w41 ⟨v455, rfl, ho0, hb⟩; refine ⟨_, rfl, ?_⟩; have n0_ := Aside0.mk (Kd.R_lower ho0 (below_size (by repeat (with_reducible first | exact HB.out | apply below_alloc | apply pw_below_drewN | apply below_drew1)))); have n1_ := Aside0.mk (below_step (by repeat (with_reducible first | exact HB.out | apply below_alloc | apply pw_below_drewN | apply below_drew1)) hb); clear HB; have HO456 := n0_; have HB := n1_; clear n0_ n1_; (try clear hb); (try clear hb2); (try clear hk); (try clear hi); (try clear ho0)) | ((with_reducible refine gate_callee (f := 13) rfl ?_); refine goesL_ (some 126) rfl rfl Try.func13 (by kernel_rfl) rfl #[.string a1] rfl (by (try simp only [List.map_toArray, List.map_cons, List.map_nil]); first | done | rfl | (simp only [List.length_drop, List.length_take]; rfl)) ?_; (with_reducible refine (smockingref01_Lines.calls kj29 a1 t457 _ A37.out).mono ?_); rintro e w42 ⟨v458, rfl, ho0, hb⟩; refine ⟨_, rfl, ?_⟩; have n0_ := Aside0.mk (Kd.R_elder' (by (with_reducible repeat (first | apply Kd.R_alloc | apply Kd.R_drewN | apply Kd.R_drew)); exact HO456.out) (Kd.R_base ho0) hb); have n1_ := Aside0.mk (Kd.R_lower (Kd.R_new' ho0 (Kd.R_lt (by (with_reducible repeat (first | apply Kd.R_alloc | apply Kd.R_drewN | apply Kd.R_drew)); exact HO456.out))) (below_size (by repeat (with_reducible first | exact HB.out | apply below_alloc | apply pw_below_drewN | apply below_drew1)))); have n2_ := Aside0.mk (below_step (by repeat (with_reducible first | exact HB.out | apply below_alloc | apply pw_below_drewN | apply below_drew1)) hb); clear HO456; clear HB; have HO456 := n0_; have HO459 := n1_; have HB := n2_; clear n0_ n1_ n2_; (try clear hb); (try clear hb2); (try clear hk); (try clear hi); (try clear ho0)) | ((with_reducible refine gate_callee (f := 13) rfl ?_); refine goesL_ (some 128) rfl rfl Try.func13 (by kernel_rfl) rfl #[.string a2] rfl (by (try simp only [List.map_toArray, List.map_cons, List.map_nil]); first | done | rfl | (simp only [List.length_drop, List.length_take]; rfl)) ?_; (with_reducible refine (smockingref01_Lines.calls kj29 a2 t460 _ A38.out).mono ?_); rintro e w43 ⟨v461, rfl, ho0, hb⟩; refine ⟨_, rfl, ?_⟩; have n0_ := Aside0.mk (Kd.R_elder' (by (with_reducible repeat (first | apply Kd.R_alloc | apply Kd.R_drewN | apply Kd.R_drew)); exact HO456.out) (Kd.R_base ho0) hb); have n1_ := Aside0.mk (Kd.R_elder' (by (with_reducible repeat (first | apply Kd.R_alloc | apply Kd.R_drewN | apply Kd.R_drew)); exact HO459.out) (Kd.R_base ho0) hb); have n2_ := Aside0.mk (Kd.R_lower (Kd.R_new' (Kd.R_new' ho0 (Kd.R_lt (by (with_reducible repeat (first | apply Kd.R_alloc | apply Kd.R_drewN | apply Kd.R_drew)); exact HO456.out))) (Kd.R_lt (by (with_reducible repeat (first | apply Kd.R_alloc | apply Kd.R_drewN | apply Kd.R_drew)); exact HO459.out))) (below_size (by repeat (with_reducible first | exact HB.out | apply below_alloc | apply pw_below_drewN | apply below_drew1)))); have n3_ := Aside0.mk (below_step (by repeat (with_reducible first | exact HB.out | apply below_alloc | apply pw_below_drewN | apply below_drew1)) hb); clear HO456; clear HO459; clear HB; have HO456 := n0_; have HO459 := n1_; have HO462 := n2_; have HB := n3_; clear n0_ n1_ n2_ n3_; (try clear hb); (try clear hb2); (try clear hk); (try clear hi); (try clear ho0); obtain ⟨Ao45, co45, eo45⟩ := Kd.R_slice HO462.out; subst eo45) | ((with_reducible refine gate_builtin (b := .append) (xs := #[.tmp 126, .tmp 128]) rfl ?_); (try (refine gate_guard (by rfl) ?_; dsimp only)); at_builtin; refine Kd.R_append_rows Kd.string (w0 := w) w.heap.size rfl (.tmp 126) (.tmp 128) 32 9 (.string ⟨#[]⟩) 16 rfl Try.underlying32 info9 rfl (by decide) (by omega) v458 t457 t460 _ _ _ (fun k_ => some k_ ≠ (v455 : Value).ownBlock ∧ some k_ ≠ (.slice Ao45 t460.length co45 : Value).ownBlock) (fun _ => False) rfl rfl ?aO ?aR (fun _ _ h => h) (fun _ h => h.elim) ?aF ?aB ?aS ?aL ?_; (case aR => repeat (first | exact (Kd.R_reads' HO462.out).2.2 | (with_reducible refine Kd.C_alloc ?_ _) | (with_reducible refine Kd.C_drewN ?_ _) | (with_reducible refine Kd.C_drew ?_))); (case aB => exact (by repeat (with_reducible first | exact HB.out | apply below_alloc | apply pw_below_drewN | apply below_drew1))); (case aF => exact (fun k_ hk => ⟨Kd.fresh' (Kd.R_lt (by (with_reducible repeat (first | apply Kd.R_alloc | apply Kd.R_drewN | apply Kd.R_drew)); exact HO456.out)) k_ hk, Kd.fresh' (Kd.R_lt (by (with_reducible repeat (first | apply Kd.R_alloc | apply Kd.R_drewN | apply Kd.R_drew)); exact HO462.out)) k_ hk⟩)); (case aO => exact (by (with_reducible repeat (first | apply Kd.R_alloc | apply Kd.R_drewN | apply Kd.R_drew)); exact Kd.R_mono HO459.out (fun _ hk => ⟨hk.1.2, hk.2⟩))); (case aS => exact (below_size (by repeat (with_reducible first | exact HB.out | apply below_alloc | apply pw_below_drewN | apply below_drew1)))); (case aL => have := LMc39.out; omega); intro v464 w44 ho hb hg hat; rw [← Ny463.out] at ho; have n0_ := Aside0.mk (Kd.R_after (ok := (fun k_ => some k_ ≠ (.slice Ao45 t460.length co45 : Value).ownBlock)) (by (with_reducible repeat (first | apply Kd.R_alloc | apply Kd.R_drewN | apply Kd.R_drew)); exact Kd.R_mono HO456.out (fun _ hk => ⟨hk.2, hk.1.2⟩)) hg hat); have n1_ := Aside0.mk (Kd.R_after (ok := (fun k_ => some k_ ≠ (v455 : Value).ownBlock)) (by (with_reducible repeat (first | apply Kd.R_alloc | apply Kd.R_drewN | apply Kd.R_drew)); exact Kd.R_mono HO462.out (fun _ hk => ⟨hk.1.2, hk.2⟩)) hg hat); have n2_ := Aside0.mk (hb); have n3_ := Aside0.mk (ho); clear HO456; clear HO462; clear HB; clear HO459; have HO456 := n0_; have HO462 := n1_; have HB := n2_; have HO465 := n3_; clear n0_ n1_ n2_ n3_; clear ho hb hg hat) | ((with_reducible refine gate_callee (f := 13) rfl ?_); refine goesL_ (some 131) rfl rfl Try.func13 (by kernel_rfl) rfl #[.string t441] rfl (by (try simp only [List.map_toArray, List.map_cons, List.map_nil]); first | done | rfl | (simp only [List.length_drop, List.length_take]; rfl)) ?_; (with_reducible refine (smockingref01_Lines.calls kj29 t441 t466 _ A40.out).mono ?_); rintro e w46 ⟨v467, rfl, ho0, hb⟩; refine ⟨_, rfl, ?_⟩; have n0_ := Aside0.mk (Kd.R_elder' (by (with_reducible repeat (first | apply Kd.R_alloc | apply Kd.R_drewN | apply Kd.R_drew)); exact HO456.out) (Kd.R_base ho0) hb); have n1_ := Aside0.mk (Kd.R_elder' (by (with_reducible repeat (first | apply Kd.R_alloc | apply Kd.R_drewN | apply Kd.R_drew)); exact HO462.out) (Kd.R_base ho0) hb); have n2_ := Aside0.mk (Kd.R_elder' (by (with_reducible repeat (first | apply Kd.R_alloc | apply Kd.R_drewN | apply Kd.R_drew)); exact HO465.out) (Kd.R_base ho0) hb); have n3_ := Aside0.mk (Kd.R_lower (Kd.R_new' (Kd.R_new' (Kd.R_new' ho0 (Kd.R_lt (by (with_reducible repeat (first | apply Kd.R_alloc | apply Kd.R_drewN | apply Kd.R_drew)); exact HO456.out))) (Kd.R_lt (by (with_reducible repeat (first | apply Kd.R_alloc | apply Kd.R_drewN | apply Kd.R_drew)); exact HO462.out))) (Kd.R_lt (by (with_reducible repeat (first | apply Kd.R_alloc | apply Kd.R_drewN | apply Kd.R_drew)); exact HO465.out))) (below_size (by repeat (with_reducible first | exact HB.out | apply below_alloc | apply pw_below_drewN | apply below_drew1)))); have n4_ := Aside0.mk (below_step (by repeat (with_reducible first | exact HB.out | apply below_alloc | apply pw_below_drewN | apply below_drew1)) hb); clear HO456; clear HO462; clear HO465; clear HB; have HO456 := n0_; have HO462 := n1_; have HO465 := n2_; have HO468 := n3_; have HB := n4_; clear n0_ n1_ n2_ n3_ n4_; (try clear hb); (try clear hb2); (try clear hk); (try clear hi); (try clear ho0)))
            try simp only [Act.put, List.setIfInBounds_toArray, List.set_cons_succ, List.set_cons_zero]
            go_loopg [20] kj29 (fun kq v20 w' => ∃ (x20_4 : Int), v20 = .int .i64 x20_4 ∧ Aside0 (smockinglaw25_PastSides.l0 kq t454 y463 t466 x20_4 = some r) ∧ Aside0 (kq ≤ kj29) ∧ Aside0 (Kd.R Kd.string 9 w' w.heap.size (fun k_ => some k_ ≠ (v464 : Value).ownBlock ∧ some k_ ≠ (v467 : Value).ownBlock) v455 t454) ∧ Aside0 (Kd.R Kd.string 9 w' w.heap.size (fun k_ => some k_ ≠ (v455 : Value).ownBlock ∧ some k_ ≠ (v467 : Value).ownBlock) v464 y463) ∧ Aside0 (Kd.R Kd.string 9 w' w.heap.size (fun k_ => some k_ ≠ (v455 : Value).ownBlock ∧ some k_ ≠ (v464 : Value).ownBlock) v467 t466) ∧ Aside0 (Below w.heap.size w w'))
            case atStart => exact ⟨(0), (by first | rfl | (simp; done) | (simp [*]; done)), H', ⟨Nat.le_refl _⟩, ⟨by (with_reducible repeat (first | apply Kd.R_alloc | apply Kd.R_drewN | apply Kd.R_drew)); exact Kd.R_mono HO456.out (fun _ hk => ⟨hk.1.2, hk.2⟩)⟩, ⟨by (with_reducible repeat (first | apply Kd.R_alloc | apply Kd.R_drewN | apply Kd.R_drew)); exact Kd.R_mono HO465.out (fun _ hk => ⟨hk.1.1, hk.2⟩)⟩, ⟨by (with_reducible repeat (first | apply Kd.R_alloc | apply Kd.R_drewN | apply Kd.R_drew)); exact Kd.R_mono HO468.out (fun _ hk => ⟨hk.1.1.2, hk.2⟩)⟩, ⟨by repeat (with_reducible first | exact HB.out | apply below_alloc | apply pw_below_drewN | apply below_drew1)⟩⟩
            case round =>
             clear H'
             try clear c1
             try clear c2
             try clear p2
             try clear c3
             try clear c4
             try clear c5
             try clear c5b0
             try clear c5b1
             try clear c6
             try clear c6b0
             try clear c6b1
             try clear c7
             try clear c7b0
             try clear c7b1
             try clear c8
             try clear c13
             try clear c23
             try clear c23b0
             try clear c23b1
             try clear c24
             try clear c24b0
             try clear c24b1
             try clear c25
             try clear c25b0
             try clear c25b1
             try clear c26
             try clear c26b0
             try clear c26b1
             try clear c27
             try clear c27b0
             try clear c27b1
             try clear c28
             try clear c32
             try clear c32b0
             try clear c32b1
             try clear c34
             try clear c35
             try clear c35b0
             try clear c35b1
             try clear c39
             try clear p2
             obtain ⟨x20_4, rfl, HA, HK4, HO_17, HO_18, HO_19, HB⟩ := hrel
             cases gk with
             | zero => exact absurd HA.out (by simp [smockinglaw25_PastSides.l0])
             | succ k4 =>
              have H := HA.out
              clear HA
              simp only [smockinglaw25_PastSides.l0] at H
              by_cases c47 : x20_4 < (t466.length : Int)
              ·rw [if_pos c47] at H
               have c47b0 : decide (x20_4 < (t466.length : Int)) = true := decide_eq_true c47
               clear c47
               by_cases c48 : 0 ≤ x20_4
               ·rw [if_pos c48] at H
                have c48b0 : decide (0 ≤ x20_4) = true := decide_eq_true c48
                clear c48
                replace H := Option.bind_eq_some_iff.mp H
                obtain ⟨t471, A490, H⟩ := H
                replace H : (if t471 < 0 then ((rf0_Has.f k4 y463 (rdOf ByteArray.empty t466 x20_4)).bind fun t473 => (if t473 < 0 then (if (rdOf ByteArray.empty t466 x20_4).size + 1 ≤ 9223372036854775807 then ((rf0_Has.f k4 y463 ((rdOf ByteArray.empty t466 x20_4) ++ (⟨#[10]⟩ : ByteArray))).bind fun t475 => (if t475 < 0 then ((smockinglaw25_joined.f k4 (rdOf ByteArray.empty t466 x20_4) t454 y463).bind fun t477 => (if t477 = true then (smockinglaw25_PastSides.l0 k4 t454 y463 t466 (wrap64 (x20_4 + 1))) else (some false))) else (smockinglaw25_PastSides.l0 k4 t454 y463 t466 (wrap64 (x20_4 + 1))))) else (none)) else (smockinglaw25_PastSides.l0 k4 t454 y463 t466 (wrap64 (x20_4 + 1))))) else (smockinglaw25_PastSides.l0 k4 t454 y463 t466 (wrap64 (x20_4 + 1)))) = some r := H
                have A49 := Aside0.mk A490
                clear A490
                by_cases c50 : t471 < 0
                ·rw [if_pos c50] at H
                 have c50b0 : decide (t471 < 0) = true := decide_eq_true c50
                 clear c50
                 replace H := Option.bind_eq_some_iff.mp H
                 obtain ⟨t473, A510, H⟩ := H
                 replace H : (if t473 < 0 then (if (rdOf ByteArray.empty t466 x20_4).size + 1 ≤ 9223372036854775807 then ((rf0_Has.f k4 y463 ((rdOf ByteArray.empty t466 x20_4) ++ (⟨#[10]⟩ : ByteArray))).bind fun t475 => (if t475 < 0 then ((smockinglaw25_joined.f k4 (rdOf ByteArray.empty t466 x20_4) t454 y463).bind fun t477 => (if t477 = true then (smockinglaw25_PastSides.l0 k4 t454 y463 t466 (wrap64 (x20_4 + 1))) else (some false))) else (smockinglaw25_PastSides.l0 k4 t454 y463 t466 (wrap64 (x20_4 + 1))))) else (none)) else (smockinglaw25_PastSides.l0 k4 t454 y463 t466 (wrap64 (x20_4 + 1)))) = some r := H
                 have A51 := Aside0.mk A510
                 clear A510
                 by_cases c52 : t473 < 0
                 ·rw [if_pos c52] at H
                  have c52b0 : decide (t473 < 0) = true := decide_eq_true c52
                  clear c52
                  by_cases c53 : (rdOf ByteArray.empty t466 x20_4).size + 1 ≤ 9223372036854775807
                  ·rw [if_pos c53] at H
                   have c53b0 := eq_true c53
                   have c53b1 : decide ((rdOf ByteArray.empty t466 x20_4).size + 1 ≤ 9223372036854775807) = true := decide_eq_true c53
                   try have c53b2 : (9223372036854775807 < (rdOf ByteArray.empty t466 x20_4).size + 1) = False := eq_false (Nat.not_lt.2 c53)
                   replace H := Option.bind_eq_some_iff.mp H
                   obtain ⟨t475, A540, H⟩ := H
                   replace H : (if t475 < 0 then ((smockinglaw25_joined.f k4 (rdOf ByteArray.empty t466 x20_4) t454 y463).bind fun t477 => (if t477 = true then (smockinglaw25_PastSides.l0 k4 t454 y463 t466 (wrap64 (x20_4 + 1))) else (some false))) else (smockinglaw25_PastSides.l0 k4 t454 y463 t466 (wrap64 (x20_4 + 1)))) = some r := H
                   have A54 := Aside0.mk A540
                   clear A540
                   by_cases c55 : t475 < 0
                   ·rw [if_pos c55] at H
                    have c55b0 : decide (t475 < 0) = true := decide_eq_true c55
                    clear c55
                    replace H := Option.bind_eq_some_iff.mp H
                    obtain ⟨t477, A560, H⟩ := H
                    replace H : (if t477 = true then (smockinglaw25_PastSides.l0 k4 t454 y463 t466 (wrap64 (x20_4 + 1))) else (some false)) = some r := H
                    have A56 := Aside0.mk A560
                    clear A560
                    by_cases c57 : t477 = true
                    ·subst c57
                     have H1 : (smockinglaw25_PastSides.l0 k4 t454 y463 t466 (wrap64 (x20_4 + 1))) = some r := by rw [if_pos rfl] at H; exact H
                     clear H
                     have H := H1
                     clear H1
                     have H' := Aside0.mk H
                     clear H
                     obtain ⟨Ao58, co58, eo58⟩ := Kd.R_slice HO_19.out
                     subst eo58
                     have p470 : 0 ≤ (x20_4 : Int) := of_decide_eq_true (by assumption)
                     have q470 : x20_4 < (t466.length : Int) := of_decide_eq_true (by assumption)
                     obtain ⟨ad470, e470, hx470_0⟩ := Kd.at_string (Kd.R_reads' HO_19.out).2.2 x20_4 p470 q470
                     cases e470
                     replace p470 := eq_true p470
                     replace q470 := eq_true q470
                     obtain ⟨Ao59, co59, eo59⟩ := Kd.R_slice HO_17.out
                     subst eo59
                     go_wp2_with (first | ((with_reducible refine gate_callee (f := 14) rfl ?_); refine goesL_ (some 143) rfl rfl Try.func14 (by kernel_rfl) rfl #[.slice Ao59 t454.length co59, .string (rdOf ByteArray.empty t466 x20_4)] rfl (by (try simp only [List.map_toArray, List.map_cons, List.map_nil]); first | done | rfl | (simp only [List.length_drop, List.length_take]; rfl)) ?_; (with_reducible refine (rf0_Has.calls k4 _ _ t454 (rdOf ByteArray.empty t466 x20_4) t471 _ ?side1 ?side2 A49.out).mono ?_); (case side1 => repeat (first | exact (Kd.R_reads' HO_17.out).2.2 | (with_reducible refine Kd.C_alloc ?_ _) | (with_reducible refine Kd.C_drewN ?_ _) | (with_reducible refine Kd.C_drew ?_))); (case side2 => exact (Kd.R_reads' HO_17.out).2.1); rintro e w' ⟨rfl, ⟨nd, rfl⟩⟩; refine ⟨_, rfl, ?_⟩; have p472 : 0 ≤ (x20_4 : Int) := of_decide_eq_true (by assumption); have q472 : x20_4 < (t466.length : Int) := of_decide_eq_true (by assumption); obtain ⟨ad472, e472, hx472_0⟩ := Kd.at_string (Kd.R_reads' HO_19.out).2.2 x20_4 p472 q472; obtain rfl : ad470 = ad472 := (by injection e472); replace p472 := eq_true p472; replace q472 := eq_true q472; obtain ⟨Ao60, co60, eo60⟩ := Kd.R_slice HO_18.out; subst eo60) | (go_at_call 14; (with_reducible refine (rf0_Has.calls k4 _ _ y463 (rdOf ByteArray.empty t466 x20_4) t473 _ ?side1 ?side2 A51.out).mono ?_); (case side1 => repeat (first | exact (Kd.R_reads' HO_18.out).2.2 | (with_reducible refine Kd.C_alloc ?_ _) | (with_reducible refine Kd.C_drewN ?_ _) | (with_reducible refine Kd.C_drew ?_))); (case side2 => exact (Kd.R_reads' HO_18.out).2.1); rintro e w' ⟨rfl, ⟨nd, rfl⟩⟩; have p474 : 0 ≤ (x20_4 : Int) := of_decide_eq_true (by assumption); have q474 : x20_4 < (t466.length : Int) := of_decide_eq_true (by assumption); obtain ⟨ad474, e474, hx474_0⟩ := Kd.at_string (Kd.R_reads' HO_19.out).2.2 x20_4 p474 q474; obtain rfl : ad470 = ad474 := (by injection e474); replace p474 := eq_true p474; replace q474 := eq_true q474) | (go_at_call 14; (with_reducible refine (rf0_Has.calls k4 _ _ y463 ((rdOf ByteArray.empty t466 x20_4) ++ (⟨#[10]⟩ : ByteArray)) t475 _ ?side1 ?side2 A54.out).mono ?_); (case side1 => repeat (first | exact (Kd.R_reads' HO_18.out).2.2 | (with_reducible refine Kd.C_alloc ?_ _) | (with_reducible refine Kd.C_drewN ?_ _) | (with_reducible refine Kd.C_drew ?_))); (case side2 => exact (Kd.R_reads' HO_18.out).2.1); rintro e w' ⟨rfl, ⟨nd, rfl⟩⟩; have p476 : 0 ≤ (x20_4 : Int) := of_decide_eq_true (by assumption); have q476 : x20_4 < (t466.length : Int) := of_decide_eq_true (by assumption); obtain ⟨ad476, e476, hx476_0⟩ := Kd.at_string (Kd.R_reads' HO_19.out).2.2 x20_4 p476 q476; obtain rfl : ad470 = ad476 := (by injection e476); replace p476 := eq_true p476; replace q476 := eq_true q476) | (go_at_call 15; (with_reducible refine (smockinglaw25_joined.calls k4 (rdOf ByteArray.empty t466 x20_4) _ _ t454 _ _ y463 true _ ?side1 ?side2 ?side3 ?side4 A56.out).mono ?_); (case side1 => repeat (first | exact (Kd.R_reads' HO_17.out).2.2 | (with_reducible refine Kd.C_alloc ?_ _) | (with_reducible refine Kd.C_drewN ?_ _) | (with_reducible refine Kd.C_drew ?_))); (case side2 => exact (Kd.R_reads' HO_17.out).2.1); (case side3 => repeat (first | exact (Kd.R_reads' HO_18.out).2.2 | (with_reducible refine Kd.C_alloc ?_ _) | (with_reducible refine Kd.C_drewN ?_ _) | (with_reducible refine Kd.C_drew ?_))); (case side4 => exact (Kd.R_reads' HO_18.out).2.1); rintro e w61 ⟨rfl, hb⟩; have n0_ := Aside0.mk (Kd.R_below (by (with_reducible repeat (first | apply Kd.R_alloc | apply Kd.R_drewN | apply Kd.R_drew)); exact HO_17.out) hb); have n1_ := Aside0.mk (Kd.R_below (by (with_reducible repeat (first | apply Kd.R_alloc | apply Kd.R_drewN | apply Kd.R_drew)); exact HO_18.out) hb); have n2_ := Aside0.mk (Kd.R_below (by (with_reducible repeat (first | apply Kd.R_alloc | apply Kd.R_drewN | apply Kd.R_drew)); exact HO_19.out) hb); have n3_ := Aside0.mk (below_step (by repeat (with_reducible first | exact HB.out | apply below_alloc | apply pw_below_drewN | apply below_drew1)) hb); clear HO_17; clear HO_18; clear HO_19; clear HB; have HO_17 := n0_; have HO_18 := n1_; have HO_19 := n2_; have HB := n3_; clear n0_ n1_ n2_ n3_; (try clear hb); (try clear hb2); (try clear hk); (try clear hi)))
                     go_roundg k4
                     case measure => have := HJ3.out; have := HJ17.out; have := HJ29.out; have := HK4.out; omega
                     case rel => exact ⟨(wrap64 (x20_4 + 1)), (by first | rfl | (simp; done) | (simp [*]; done)), H', ⟨by have := HJ3.out; have := HJ17.out; have := HJ29.out; have := HK4.out; omega⟩, ⟨by (with_reducible repeat (first | apply Kd.R_alloc | apply Kd.R_drewN | apply Kd.R_drew)); exact HO_17.out⟩, ⟨by (with_reducible repeat (first | apply Kd.R_alloc | apply Kd.R_drewN | apply Kd.R_drew)); exact HO_18.out⟩, ⟨by (with_reducible repeat (first | apply Kd.R_alloc | apply Kd.R_drewN | apply Kd.R_drew)); exact HO_19.out⟩, ⟨by repeat (with_reducible first | exact HB.out | apply below_alloc | apply pw_below_drewN | apply below_drew1)⟩⟩
                    ·replace c57 := Bool.eq_false_iff.mpr c57
                     subst c57
                     have H1 : (some false) = some r := by rw [if_neg (show ¬ (false = true) by decide)] at H; exact H
                     clear H
                     have H := H1
                     clear H1
                     obtain rfl := Option.some.inj H
                     obtain ⟨Ao62, co62, eo62⟩ := Kd.R_slice HO_19.out
                     subst eo62
                     have p470 : 0 ≤ (x20_4 : Int) := of_decide_eq_true (by assumption)
                     have q470 : x20_4 < (t466.length : Int) := of_decide_eq_true (by assumption)
                     obtain ⟨ad470, e470, hx470_0⟩ := Kd.at_string (Kd.R_reads' HO_19.out).2.2 x20_4 p470 q470
                     cases e470
                     replace p470 := eq_true p470
                     replace q470 := eq_true q470
                     obtain ⟨Ao63, co63, eo63⟩ := Kd.R_slice HO_17.out
                     subst eo63
                     go_wp2_with (first | ((with_reducible refine gate_callee (f := 14) rfl ?_); refine goesL_ (some 143) rfl rfl Try.func14 (by kernel_rfl) rfl #[.slice Ao63 t454.length co63, .string (rdOf ByteArray.empty t466 x20_4)] rfl (by (try simp only [List.map_toArray, List.map_cons, List.map_nil]); first | done | rfl | (simp only [List.length_drop, List.length_take]; rfl)) ?_; (with_reducible refine (rf0_Has.calls k4 _ _ t454 (rdOf ByteArray.empty t466 x20_4) t471 _ ?side1 ?side2 A49.out).mono ?_); (case side1 => repeat (first | exact (Kd.R_reads' HO_17.out).2.2 | (with_reducible refine Kd.C_alloc ?_ _) | (with_reducible refine Kd.C_drewN ?_ _) | (with_reducible refine Kd.C_drew ?_))); (case side2 => exact (Kd.R_reads' HO_17.out).2.1); rintro e w' ⟨rfl, ⟨nd, rfl⟩⟩; refine ⟨_, rfl, ?_⟩; have p472 : 0 ≤ (x20_4 : Int) := of_decide_eq_true (by assumption); have q472 : x20_4 < (t466.length : Int) := of_decide_eq_true (by assumption); obtain ⟨ad472, e472, hx472_0⟩ := Kd.at_string (Kd.R_reads' HO_19.out).2.2 x20_4 p472 q472; obtain rfl : ad470 = ad472 := (by injection e472); replace p472 := eq_true p472; replace q472 := eq_true q472; obtain ⟨Ao64, co64, eo64⟩ := Kd.R_slice HO_18.out; subst eo64) | (go_at_call 14; (with_reducible refine (rf0_Has.calls k4 _ _ y463 (rdOf ByteArray.empty t466 x20_4) t473 _ ?side1 ?side2 A51.out).mono ?_); (case side1 => repeat (first | exact (Kd.R_reads' HO_18.out).2.2 | (with_reducible refine Kd.C_alloc ?_ _) | (with_reducible refine Kd.C_drewN ?_ _) | (with_reducible refine Kd.C_drew ?_))); (case side2 => exact (Kd.R_reads' HO_18.out).2.1); rintro e w' ⟨rfl, ⟨nd, rfl⟩⟩; have p474 : 0 ≤ (x20_4 : Int) := of_decide_eq_true (by assumption); have q474 : x20_4 < (t466.length : Int) := of_decide_eq_true (by assumption); obtain ⟨ad474, e474, hx474_0⟩ := Kd.at_string (Kd.R_reads' HO_19.out).2.2 x20_4 p474 q474; obtain rfl : ad470 = ad474 := (by injection e474); replace p474 := eq_true p474; replace q474 := eq_true q474) | (go_at_call 14; (with_reducible refine (rf0_Has.calls k4 _ _ y463 ((rdOf ByteArray.empty t466 x20_4) ++ (⟨#[10]⟩ : ByteArray)) t475 _ ?side1 ?side2 A54.out).mono ?_); (case side1 => repeat (first | exact (Kd.R_reads' HO_18.out).2.2 | (with_reducible refine Kd.C_alloc ?_ _) | (with_reducible refine Kd.C_drewN ?_ _) | (with_reducible refine Kd.C_drew ?_))); (case side2 => exact (Kd.R_reads' HO_18.out).2.1); rintro e w' ⟨rfl, ⟨nd, rfl⟩⟩; have p476 : 0 ≤ (x20_4 : Int) := of_decide_eq_true (by assumption); have q476 : x20_4 < (t466.length : Int) := of_decide_eq_true (by assumption); obtain ⟨ad476, e476, hx476_0⟩ := Kd.at_string (Kd.R_reads' HO_19.out).2.2 x20_4 p476 q476; obtain rfl : ad470 = ad476 := (by injection e476); replace p476 := eq_true p476; replace q476 := eq_true q476) | (go_at_call 15; (with_reducible refine (smockinglaw25_joined.calls k4 (rdOf ByteArray.empty t466 x20_4) _ _ t454 _ _ y463 false _ ?side1 ?side2 ?side3 ?side4 A56.out).mono ?_); (case side1 => repeat (first | exact (Kd.R_reads' HO_17.out).2.2 | (with_reducible refine Kd.C_alloc ?_ _) | (with_reducible refine Kd.C_drewN ?_ _) | (with_reducible refine Kd.C_drew ?_))); (case side2 => exact (Kd.R_reads' HO_17.out).2.1); (case side3 => repeat (first | exact (Kd.R_reads' HO_18.out).2.2 | (with_reducible refine Kd.C_alloc ?_ _) | (with_reducible refine Kd.C_drewN ?_ _) | (with_reducible refine Kd.C_drew ?_))); (case side4 => exact (Kd.R_reads' HO_18.out).2.1); rintro e w65 ⟨rfl, hb⟩; have n0_ := Aside0.mk (Kd.R_below (by (with_reducible repeat (first | apply Kd.R_alloc | apply Kd.R_drewN | apply Kd.R_drew)); exact HO_17.out) hb); have n1_ := Aside0.mk (Kd.R_below (by (with_reducible repeat (first | apply Kd.R_alloc | apply Kd.R_drewN | apply Kd.R_drew)); exact HO_18.out) hb); have n2_ := Aside0.mk (Kd.R_below (by (with_reducible repeat (first | apply Kd.R_alloc | apply Kd.R_drewN | apply Kd.R_drew)); exact HO_19.out) hb); have n3_ := Aside0.mk (below_step (by repeat (with_reducible first | exact HB.out | apply below_alloc | apply pw_below_drewN | apply below_drew1)) hb); clear HO_17; clear HO_18; clear HO_19; clear HB; have HO_17 := n0_; have HO_18 := n1_; have HO_19 := n2_; have HB := n3_; clear n0_ n1_ n2_ n3_; (try clear hb); (try clear hb2); (try clear hk); (try clear hi)))
                     go_ret
                     exact ⟨by first | rfl | (simp [errW_none, errW_some] <;> rfl) | (simp [*, errW_none, errW_some] <;> rfl), by repeat (with_reducible first | exact HB.out | apply below_alloc | apply pw_below_drewN | apply below_drew1)⟩
                   ·rw [if_neg c55] at H
                    have c55b0 : decide (t475 < 0) = false := decide_eq_false c55
                    clear c55
                    have H' := Aside0.mk H
                    clear H
                    obtain ⟨Ao66, co66, eo66⟩ := Kd.R_slice HO_19.out
                    subst eo66
                    have p470 : 0 ≤ (x20_4 : Int) := of_decide_eq_true (by assumption)
                    have q470 : x20_4 < (t466.length : Int) := of_decide_eq_true (by assumption)
                    obtain ⟨ad470, e470, hx470_0⟩ := Kd.at_string (Kd.R_reads' HO_19.out).2.2 x20_4 p470 q470
                    cases e470
                    replace p470 := eq_true p470
                    replace q470 := eq_true q470
                    obtain ⟨Ao67, co67, eo67⟩ := Kd.R_slice HO_17.out
                    subst eo67
                    go_wp2_with (first | ((with_reducible refine gate_callee (f := 14) rfl ?_); refine goesL_ (some 143) rfl rfl Try.func14 (by kernel_rfl) rfl #[.slice Ao67 t454.length co67, .string (rdOf ByteArray.empty t466 x20_4)] rfl (by (try simp only [List.map_toArray, List.map_cons, List.map_nil]); first | done | rfl | (simp only [List.length_drop, List.length_take]; rfl)) ?_; (with_reducible refine (rf0_Has.calls k4 _ _ t454 (rdOf ByteArray.empty t466 x20_4) t471 _ ?side1 ?side2 A49.out).mono ?_); (case side1 => repeat (first | exact (Kd.R_reads' HO_17.out).2.2 | (with_reducible refine Kd.C_alloc ?_ _) | (with_reducible refine Kd.C_drewN ?_ _) | (with_reducible refine Kd.C_drew ?_))); (case side2 => exact (Kd.R_reads' HO_17.out).2.1); rintro e w' ⟨rfl, ⟨nd, rfl⟩⟩; refine ⟨_, rfl, ?_⟩; have p472 : 0 ≤ (x20_4 : Int) := of_decide_eq_true (by assumption); have q472 : x20_4 < (t466.length : Int) := of_decide_eq_true (by assumption); obtain ⟨ad472, e472, hx472_0⟩ := Kd.at_string (Kd.R_reads' HO_19.out).2.2 x20_4 p472 q472; obtain rfl : ad470 = ad472 := (by injection e472); replace p472 := eq_true p472; replace q472 := eq_true q472; obtain ⟨Ao68, co68, eo68⟩ := Kd.R_slice HO_18.out; subst eo68) | (go_at_call 14; (with_reducible refine (rf0_Has.calls k4 _ _ y463 (rdOf ByteArray.empty t466 x20_4) t473 _ ?side1 ?side2 A51.out).mono ?_); (case side1 => repeat (first | exact (Kd.R_reads' HO_18.out).2.2 | (with_reducible refine Kd.C_alloc ?_ _) | (with_reducible refine Kd.C_drewN ?_ _) | (with_reducible refine Kd.C_drew ?_))); (case side2 => exact (Kd.R_reads' HO_18.out).2.1); rintro e w' ⟨rfl, ⟨nd, rfl⟩⟩; have p474 : 0 ≤ (x20_4 : Int) := of_decide_eq_true (by assumption); have q474 : x20_4 < (t466.length : Int) := of_decide_eq_true (by assumption); obtain ⟨ad474, e474, hx474_0⟩ := Kd.at_string (Kd.R_reads' HO_19.out).2.2 x20_4 p474 q474; obtain rfl : ad470 = ad474 := (by injection e474); replace p474 := eq_true p474; replace q474 := eq_true q474) | (go_at_call 14; (with_reducible refine (rf0_Has.calls k4 _ _ y463 ((rdOf ByteArray.empty t466 x20_4) ++ (⟨#[10]⟩ : ByteArray)) t475 _ ?side1 ?side2 A54.out).mono ?_); (case side1 => repeat (first | exact (Kd.R_reads' HO_18.out).2.2 | (with_reducible refine Kd.C_alloc ?_ _) | (with_reducible refine Kd.C_drewN ?_ _) | (with_reducible refine Kd.C_drew ?_))); (case side2 => exact (Kd.R_reads' HO_18.out).2.1); rintro e w' ⟨rfl, ⟨nd, rfl⟩⟩))
                    go_roundg k4
                    case measure => have := HJ3.out; have := HJ17.out; have := HJ29.out; have := HK4.out; omega
                    case rel => exact ⟨(wrap64 (x20_4 + 1)), (by first | rfl | (simp; done) | (simp [*]; done)), H', ⟨by have := HJ3.out; have := HJ17.out; have := HJ29.out; have := HK4.out; omega⟩, ⟨by (with_reducible repeat (first | apply Kd.R_alloc | apply Kd.R_drewN | apply Kd.R_drew)); exact HO_17.out⟩, ⟨by (with_reducible repeat (first | apply Kd.R_alloc | apply Kd.R_drewN | apply Kd.R_drew)); exact HO_18.out⟩, ⟨by (with_reducible repeat (first | apply Kd.R_alloc | apply Kd.R_drewN | apply Kd.R_drew)); exact HO_19.out⟩, ⟨by repeat (with_reducible first | exact HB.out | apply below_alloc | apply pw_below_drewN | apply below_drew1)⟩⟩
                  ·rw [if_neg c53] at H
                   exact absurd H (by simp)
                 ·rw [if_neg c52] at H
                  have c52b0 : decide (t473 < 0) = false := decide_eq_false c52
                  clear c52
                  have H' := Aside0.mk H
                  clear H
                  obtain ⟨Ao69, co69, eo69⟩ := Kd.R_slice HO_19.out
                  subst eo69
                  have p470 : 0 ≤ (x20_4 : Int) := of_decide_eq_true (by assumption)
                  have q470 : x20_4 < (t466.length : Int) := of_decide_eq_true (by assumption)
                  obtain ⟨ad470, e470, hx470_0⟩ := Kd.at_string (Kd.R_reads' HO_19.out).2.2 x20_4 p470 q470
                  cases e470
                  replace p470 := eq_true p470
                  replace q470 := eq_true q470
                  obtain ⟨Ao70, co70, eo70⟩ := Kd.R_slice HO_17.out
                  subst eo70
                  go_wp2_with (first | ((with_reducible refine gate_callee (f := 14) rfl ?_); refine goesL_ (some 143) rfl rfl Try.func14 (by kernel_rfl) rfl #[.slice Ao70 t454.length co70, .string (rdOf ByteArray.empty t466 x20_4)] rfl (by (try simp only [List.map_toArray, List.map_cons, List.map_nil]); first | done | rfl | (simp only [List.length_drop, List.length_take]; rfl)) ?_; (with_reducible refine (rf0_Has.calls k4 _ _ t454 (rdOf ByteArray.empty t466 x20_4) t471 _ ?side1 ?side2 A49.out).mono ?_); (case side1 => repeat (first | exact (Kd.R_reads' HO_17.out).2.2 | (with_reducible refine Kd.C_alloc ?_ _) | (with_reducible refine Kd.C_drewN ?_ _) | (with_reducible refine Kd.C_drew ?_))); (case side2 => exact (Kd.R_reads' HO_17.out).2.1); rintro e w' ⟨rfl, ⟨nd, rfl⟩⟩; refine ⟨_, rfl, ?_⟩; have p472 : 0 ≤ (x20_4 : Int) := of_decide_eq_true (by assumption); have q472 : x20_4 < (t466.length : Int) := of_decide_eq_true (by assumption); obtain ⟨ad472, e472, hx472_0⟩ := Kd.at_string (Kd.R_reads' HO_19.out).2.2 x20_4 p472 q472; obtain rfl : ad470 = ad472 := (by injection e472); replace p472 := eq_true p472; replace q472 := eq_true q472; obtain ⟨Ao71, co71, eo71⟩ := Kd.R_slice HO_18.out; subst eo71) | (go_at_call 14; (with_reducible refine (rf0_Has.calls k4 _ _ y463 (rdOf ByteArray.empty t466 x20_4) t473 _ ?side1 ?side2 A51.out).mono ?_); (case side1 => repeat (first | exact (Kd.R_reads' HO_18.out).2.2 | (with_reducible refine Kd.C_alloc ?_ _) | (with_reducible refine Kd.C_drewN ?_ _) | (with_reducible refine Kd.C_drew ?_))); (case side2 => exact (Kd.R_reads' HO_18.out).2.1); rintro e w' ⟨rfl, ⟨nd, rfl⟩⟩))
                  go_roundg k4
                  case measure => have := HJ3.out; have := HJ17.out; have := HJ29.out; have := HK4.out; omega
                  case rel => exact ⟨(wrap64 (x20_4 + 1)), (by first | rfl | (simp; done) | (simp [*]; done)), H', ⟨by have := HJ3.out; have := HJ17.out; have := HJ29.out; have := HK4.out; omega⟩, ⟨by (with_reducible repeat (first | apply Kd.R_alloc | apply Kd.R_drewN | apply Kd.R_drew)); exact HO_17.out⟩, ⟨by (with_reducible repeat (first | apply Kd.R_alloc | apply Kd.R_drewN | apply Kd.R_drew)); exact HO_18.out⟩, ⟨by (with_reducible repeat (first | apply Kd.R_alloc | apply Kd.R_drewN | apply Kd.R_drew)); exact HO_19.out⟩, ⟨by repeat (with_reducible first | exact HB.out | apply below_alloc | apply pw_below_drewN | apply below_drew1)⟩⟩
                ·rw [if_neg c50] at H
                 have c50b0 : decide (t471 < 0) = false := decide_eq_false c50
                 clear c50
                 have H' := Aside0.mk H
                 clear H
                 obtain ⟨Ao72, co72, eo72⟩ := Kd.R_slice HO_19.out
                 subst eo72
                 have p470 : 0 ≤ (x20_4 : Int) := of_decide_eq_true (by assumption)
                 have q470 : x20_4 < (t466.length : Int) := of_decide_eq_true (by assumption)
                 obtain ⟨ad470, e470, hx470_0⟩ := Kd.at_string (Kd.R_reads' HO_19.out).2.2 x20_4 p470 q470
                 cases e470
                 replace p470 := eq_true p470
                 replace q470 := eq_true q470
                 obtain ⟨Ao73, co73, eo73⟩ := Kd.R_slice HO_17.out
                 subst eo73
                 go_wp2_with (first | ((with_reducible refine gate_callee (f := 14) rfl ?_); refine goesL_ (some 143) rfl rfl Try.func14 (by kernel_rfl) rfl #[.slice Ao73 t454.length co73, .string (rdOf ByteArray.empty t466 x20_4)] rfl (by (try simp only [List.map_toArray, List.map_cons, List.map_nil]); first | done | rfl | (simp only [List.length_drop, List.length_take]; rfl)) ?_; (with_reducible refine (rf0_Has.calls k4 _ _ t454 (rdOf ByteArray.empty t466 x20_4) t471 _ ?side1 ?side2 A49.out).mono ?_); (case side1 => repeat (first | exact (Kd.R_reads' HO_17.out).2.2 | (with_reducible refine Kd.C_alloc ?_ _) | (with_reducible refine Kd.C_drewN ?_ _) | (with_reducible refine Kd.C_drew ?_))); (case side2 => exact (Kd.R_reads' HO_17.out).2.1); rintro e w' ⟨rfl, ⟨nd, rfl⟩⟩; refine ⟨_, rfl, ?_⟩))
                 go_roundg k4
                 case measure => have := HJ3.out; have := HJ17.out; have := HJ29.out; have := HK4.out; omega
                 case rel => exact ⟨(wrap64 (x20_4 + 1)), (by first | rfl | (simp; done) | (simp [*]; done)), H', ⟨by have := HJ3.out; have := HJ17.out; have := HJ29.out; have := HK4.out; omega⟩, ⟨by (with_reducible repeat (first | apply Kd.R_alloc | apply Kd.R_drewN | apply Kd.R_drew)); exact HO_17.out⟩, ⟨by (with_reducible repeat (first | apply Kd.R_alloc | apply Kd.R_drewN | apply Kd.R_drew)); exact HO_18.out⟩, ⟨by (with_reducible repeat (first | apply Kd.R_alloc | apply Kd.R_drewN | apply Kd.R_drew)); exact HO_19.out⟩, ⟨by repeat (with_reducible first | exact HB.out | apply below_alloc | apply pw_below_drewN | apply below_drew1)⟩⟩
               ·rw [if_neg c48] at H
                exact absurd H (by simp)
              ·rw [if_neg c47] at H
               have c47b0 : decide (x20_4 < (t466.length : Int)) = false := decide_eq_false c47
               clear c47
               replace H := Option.bind_eq_some_iff.mp H
               obtain ⟨t469, A740, H⟩ := H
               replace H : (some t469) = some r := H
               have A74 := Aside0.mk A740
               clear A740
               obtain rfl := Option.some.inj H
               obtain ⟨Ao75, co75, eo75⟩ := Kd.R_slice HO_19.out
               subst eo75
               go_wp2_with (first | ((with_reducible refine gate_callee (f := 11) rfl ?_); refine goesL_ (some 174) rfl rfl Try.func11 (by kernel_rfl) rfl #[] rfl (by (try simp only [List.map_toArray, List.map_cons, List.map_nil]); first | done | rfl | (simp only [List.length_drop, List.length_take]; rfl)) ?_; (with_reducible refine (smockinglaw25_awake.calls  t469 _ A74.out).mono ?_); rintro e w76 ⟨rfl, hb⟩; refine ⟨_, rfl, ?_⟩; have n0_ := Aside0.mk (Kd.R_below (by (with_reducible repeat (first | apply Kd.R_alloc | apply Kd.R_drewN | apply Kd.R_drew)); exact HO_17.out) hb); have n1_ := Aside0.mk (Kd.R_below (by (with_reducible repeat (first | apply Kd.R_alloc | apply Kd.R_drewN | apply Kd.R_drew)); exact HO_18.out) hb); have n2_ := Aside0.mk (Kd.R_below (by (with_reducible repeat (first | apply Kd.R_alloc | apply Kd.R_drewN | apply Kd.R_drew)); exact HO_19.out) hb); have n3_ := Aside0.mk (below_step (by repeat (with_reducible first | exact HB.out | apply below_alloc | apply pw_below_drewN | apply below_drew1)) hb); clear HO_17; clear HO_18; clear HO_19; clear HB; have HO_17 := n0_; have HO_18 := n1_; have HO_19 := n2_; have HB := n3_; clear n0_ n1_ n2_ n3_; (try clear hb); (try clear hb2); (try clear hk); (try clear hi)))
               go_ret
               exact ⟨by first | rfl | (simp [errW_none, errW_some] <;> rfl) | (simp [*, errW_none, errW_some] <;> rfl), by repeat (with_reducible first | exact HB.out | apply below_alloc | apply pw_below_drewN | apply below_drew1)⟩
           ·rw [if_neg c39] at H
            exact absurd H (by simp)
          ·rw [if_neg c35] at H
           have c35b0 : (t442 == 0) = false := beq_eq_false_iff_ne.mpr c35
           have c35b1 : (t442 != 0) = true := bne_iff_ne.mpr c35
           by_cases c77 : t442 = 250
           ·rw [if_pos c77] at H
            have c77b0 : (t442 == 250) = true := beq_iff_eq.mpr c77
            have c77b1 : (t442 != 250) = false := bne_eq_false_iff_eq.mpr c77
            clear c77
            by_cases c78 : t441.toList = ([] : List UInt8)
            ·rw [if_pos c78] at H
             have c78b0 : (t441.toList == ([] : List UInt8)) = true := beq_iff_eq.mpr c78
             have c78b1 : (t441.toList != ([] : List UInt8)) = false := bne_eq_false_iff_eq.mpr c78
             clear c78
             replace H := Option.bind_eq_some_iff.mp H
             obtain ⟨t453, A790, H⟩ := H
             replace H : (some t453) = some r := H
             have A79 := Aside0.mk A790
             clear A790
             obtain rfl := Option.some.inj H
             go_wp2_with (first | (go_at_call 11; (with_reducible refine (smockinglaw25_awake.calls  t453 _ A79.out).mono ?_); rintro e w80 ⟨rfl, hb⟩; have n0_ := Aside0.mk (below_step (by repeat (with_reducible first | exact HB.out | apply below_alloc | apply pw_below_drewN | apply below_drew1)) hb); clear HB; have HB := n0_; clear n0_; (try clear hb); (try clear hb2); (try clear hk); (try clear hi)))
             go_ret
             exact ⟨by first | rfl | (simp [errW_none, errW_some] <;> rfl) | (simp [*, errW_none, errW_some] <;> rfl), by repeat (with_reducible first | exact HB.out | apply below_alloc | apply pw_below_drewN | apply below_drew1)⟩
            ·rw [if_neg c78] at H
             have c78b0 : (t441.toList == ([] : List UInt8)) = false := beq_eq_false_iff_ne.mpr c78
             have c78b1 : (t441.toList != ([] : List UInt8)) = true := bne_iff_ne.mpr c78
             obtain rfl := Option.some.inj H
             go_wp2
             go_ret
             exact ⟨by first | rfl | (simp [errW_none, errW_some] <;> rfl) | (simp [*, errW_none, errW_some] <;> rfl), by repeat (with_reducible first | exact HB.out | apply below_alloc | apply pw_below_drewN | apply below_drew1)⟩
           ·rw [if_neg c77] at H
            have c77b0 : (t442 == 250) = false := beq_eq_false_iff_ne.mpr c77
            have c77b1 : (t442 != 250) = true := bne_iff_ne.mpr c77
            obtain rfl := Option.some.inj H
            go_wp2
            go_ret
            exact ⟨by first | rfl | (simp [errW_none, errW_some] <;> rfl) | (simp [*, errW_none, errW_some] <;> rfl), by repeat (with_reducible first | exact HB.out | apply below_alloc | apply pw_below_drewN | apply below_drew1)⟩

end Go.Proofs.Ythimblhfjfngiaa.PText

namespace Go.Proofs.Ythimblhfjfngiaa.PText
open Go.RowKit Go.Lib Go.Proofs.YthimblhfjfngiaaW.PrintWords Go.Proofs.YthimblhfjfngiaaW.PrintLast Go.Proofs.YthimblhfjfngiaaW.PrintMore
set_option linter.unusedVariables false
set_option linter.unusedSimpArgs false
def rowC (a : S59) (i : Nat) : Nat → List S59 → List S67
  | _, [] => []
  | j, b :: y => (if meetE a b = true then [⟨(i : Int), (j : Int)⟩] else []) ++ rowC a i (j + 1) y
def conC (y : List S59) : Nat → List S59 → List S67
  | _, [] => []
  | i, a :: x => rowC a i 0 y ++ conC y (i + 1) x
theorem conC_cons (y : List S59) (i : Nat) (a : S59) (x : List S59) : conC y i (a :: x) = rowC a i 0 y ++ conC y (i + 1) x := rfl
theorem rowC_len (a : S59) (i : Nat) : ∀ (y : List S59) (j : Nat), (rowC a i j y).length ≤ y.length
  | [], j => Nat.le_refl _
  | b :: y, j => by
    have := rowC_len a i y (j + 1)
    unfold rowC
    rw [List.length_append, List.length_cons]
    split <;> simp <;> omega
theorem rowC_nil (a : S59) (i : Nat) : ∀ (y : List S59) (j : Nat), rowC a i j y = [] ↔ y.any (meetE a) = false
  | [], j => by simp [rowC]
  | b :: y, j => by
    have := rowC_nil a i y (j + 1)
    unfold rowC
    rw [List.any_cons]
    cases h : meetE a b <;> simp [this]
theorem conC_nil (y : List S59) : ∀ (x : List S59) (i : Nat), conC y i x = [] ↔ x.any (fun a => y.any (meetE a)) = false
  | [], i => by simp [conC]
  | a :: x, i => by
    have h1 := conC_nil y x (i + 1)
    have h2 := rowC_nil a i y 0
    unfold conC
    rw [List.any_cons, List.append_eq_nil_iff, h1, h2]
    cases y.any (meetE a) <;> simp
theorem nx2 (i : Nat) (h : i ≤ 1000000) : wrap64 ((i : Int) + 1) = ((i + 1 : Nat) : Int) := by rw [w64 (by omega) (by omega)]; omega
theorem pconf_l1 (x y : List S59) (i : Nat) (hi : i < x.length) (n : Int) (hx : i ≤ 1000000) (hy : y.length ≤ 1000000) : ∀ (m j : Nat), j + m = y.length → ∀ (k : Nat) (D : List S67), D.length + m ≤ 1000000000 →
    past_Conflicts.l1 (k + m + 1) x y D (i : Int) n (i : Int) (y.length : Int) (j : Int) = past_Conflicts.l0 k x y (D ++ rowC x[i] i j (y.drop j)) n ((i + 1 : Nat) : Int)
  | 0, j, hj, k, D, hD => by
    have e : y.drop j = [] := List.drop_eq_nil_of_le (by omega)
    rw [e, show k + 0 + 1 = k + 1 from rfl, past_Conflicts.l1, if_neg (by omega), nx2 i hx]
    unfold rowC
    rw [List.append_nil]
  | m + 1, j, hj, k, D, hD => by
    have hjl : j < y.length := by omega
    have e : y.drop j = y[j] :: y.drop (j + 1) := List.drop_eq_getElem_cons hjl
    rw [e, show k + (m + 1) + 1 = (k + m + 1) + 1 from by omega, past_Conflicts.l1, if_pos (by omega), if_pos (by omega), if_pos (by omega), if_pos (by omega), if_pos (by omega), rd34_at x i hi, rd34_at y j hjl, meet_f, Option.bind_some, nx2 j (by omega)]
    unfold rowC
    cases h : meetE x[i] y[j] with
    | true =>
      rw [if_pos rfl, if_pos (by omega), pconf_l1 x y i hi n hx hy m (j + 1) (by omega) k _ (by rw [List.length_append, List.length_singleton]; omega), if_pos rfl, List.append_assoc]
    | false =>
      rw [if_neg (by decide), pconf_l1 x y i hi n hx hy m (j + 1) (by omega) k D (by omega), if_neg (by decide), List.nil_append]
theorem pconf_l0 (x y : List S59) (C F : Nat) (hx : x.length ≤ 1000000) (hy : y.length ≤ C) (hF : y.length + 2 ≤ F) (hC : C ≤ 1000000) (hB : x.length * C + C ≤ 1000000000) : ∀ (m i : Nat), i + m = x.length → ∀ (k : Nat) (D : List S67), D.length ≤ i * C → m * F + 1 ≤ k →
    past_Conflicts.l0 k x y D (x.length : Int) (i : Int) = some (D ++ conC y i (x.drop i), 0)
  | 0, i, hi, k, D, hD, hk => by
    obtain ⟨k, rfl⟩ : ∃ q, k = q + 1 := ⟨k - 1, by omega⟩
    have e : x.drop i = [] := List.drop_eq_nil_of_le (by omega)
    rw [e, past_Conflicts.l0, if_neg (by omega)]
    unfold conC
    rw [List.append_nil]
  | m + 1, i, hi, k, D, hD, hk => by
    have hil : i < x.length := by omega
    rw [Nat.succ_mul] at hk
    obtain ⟨q, rfl⟩ : ∃ q, k = (q + y.length + 1) + 1 := ⟨k - y.length - 2, by omega⟩
    have e : x.drop i = x[i] :: x.drop (i + 1) := List.drop_eq_getElem_cons hil
    have hr := rowC_len x[i] i y 0
    have hm : i * C ≤ x.length * C := Nat.mul_le_mul_right C (by omega)
    have hs : (i + 1) * C = i * C + C := Nat.succ_mul i C
    have h1 := pconf_l1 x y i hil (x.length : Int) (by omega) (by omega) y.length 0 (by omega) q D (by omega)
    rw [List.drop_zero] at h1
    rw [e, past_Conflicts.l0, if_pos (by omega)]
    rw [show past_Conflicts.l1 (q + y.length + 1) x y D (i : Int) (x.length : Int) (i : Int) (y.length : Int) 0 = _ from h1, pconf_l0 x y C F hx hy hF hC hB m (i + 1) (by omega) q _ (by rw [List.length_append]; omega) (by omega), conC_cons, List.append_assoc]
/-- where two sides meet -/
def confR (b a c : ByteArray) : List S67 × Int := if (editsR b a).2 ≠ 0 then ([], (editsR b a).2) else if (editsR b c).2 ≠ 0 then ([], (editsR b c).2) else (conC (editsR b c).1 0 (editsR b a).1, 0)
theorem pconf_f (b a c : ByteArray) (hb : b.size ≤ 1000000000) (ha : a.size ≤ 1000000000) (hc : c.size ≤ 1000000000) (k : Nat) (hk : 40000000 ≤ k) : past_Conflicts.f k b a c = some (confR b a c) := by
  have l1 := editsR_len b a
  have l2 := editsR_len b c
  unfold past_Conflicts.f confR
  rw [both_f b a c hb ha hc k (by omega), Option.bind_some]
  by_cases h1 : (editsR b a).2 ≠ 0
  · rw [if_pos h1, if_pos h1, if_neg h1]
  · rw [if_neg h1, if_neg h1]
    by_cases h2 : (editsR b c).2 ≠ 0
    · rw [if_pos h2, if_pos h2, if_neg h2]
    · rw [if_neg h2, if_neg h2, if_pos rfl]
      generalize (editsR b a).1 = x at *
      generalize (editsR b c).1 = y at *
      obtain ⟨C, hC⟩ : ∃ C : Nat, C = 4000 := ⟨_, rfl⟩
      obtain ⟨F, hF⟩ : ∃ F : Nat, F = 4002 := ⟨_, rfl⟩
      have hB : x.length * C + C ≤ 1000000000 := by have q1 := Nat.mul_le_mul_right C (show x.length ≤ C by omega); have q2 : C * C = 16000000 := (by rw [hC]); omega
      have hK : x.length * F + 1 ≤ k := by have q1 := Nat.mul_le_mul_right F (show x.length ≤ F by omega); have q2 : F * F = 16016004 := (by rw [hF]); omega
      have h := pconf_l0 x y C F (by omega) (by omega) (by omega) (by omega) hB x.length 0 (by omega) k [] (Nat.zero_le _) hK
      rw [List.drop_zero, List.nil_append] at h
      exact h
end Go.Proofs.Ythimblhfjfngiaa.PText

namespace Go.Proofs.Ythimblhfjfngiaa.PText
open Go.RowKit Go.Lib Go.Proofs.YthimblhfjfngiaaW.PrintWords Go.Proofs.YthimblhfjfngiaaW.PrintLast Go.Proofs.YthimblhfjfngiaaW.PrintMore
theorem bt_ten (s : ByteArray) (i : Nat) : bt s (i : Int) = 10 ↔ s.data.toList[i]? = some 10 := by
  have hs := size_list s
  unfold bt
  rw [Int.toNat_natCast]
  by_cases h : i < s.size
  · rw [dif_pos h]
    have h2 : i < s.data.toList.length := by omega
    rw [List.getElem?_eq_getElem h2]
    have e : s.data.toList[i] = s[i]'h := rfl
    rw [e]
    constructor
    · intro q
      have : (s[i]'h).toNat = 10 := by omega
      rw [Option.some.injEq]
      exact UInt8.toNat_inj.1 this
    · intro q
      rw [Option.some.inj q]
      rfl
  · rw [dif_neg h, List.getElem?_eq_none (by omega)]
    constructor
    · intro q; cases q
    · intro q; cases q
theorem rlines_l0 (s : ByteArray) (hs : s.size ≤ 100000) : ∀ (m i k : Nat) (out : List ByteArray) (p : Nat), s.size - i = m → p ≤ i → i ≤ s.size → m + 1 ≤ k → out.length ≤ p →
    smockingref01_Lines.l0 k s out (p : Int) (i : Int) = some (out ++ (Tx.lgo (Tx.sl s.data.toList p i) (s.data.toList.drop i)).map fun l => ⟨l.toArray⟩) := by
  have hsl := size_list s
  intro m
  induction m with
  | zero =>
    intro i k out p hm hp hi hk ho
    obtain ⟨k, rfl⟩ : ∃ q, k = q + 1 := ⟨k - 1, by omega⟩
    have hd : s.data.toList.drop i = [] := List.drop_of_length_le (by omega)
    have hslen := Tx.sl_len (s := s.data.toList) (a := (p : Int)) (b := (i : Int)) (by omega) (by omega) (by omega)
    have e0 : Tx.lgo (Tx.sl s.data.toList p i) [] = if Tx.sl s.data.toList p i = [] then [] else [Tx.sl s.data.toList p i] := rfl
    rw [smockingref01_Lines.l0, if_neg (by omega), hd, e0]
    by_cases c : p < s.size
    · rw [if_pos (by omega), if_pos (by omega), if_pos (by omega), if_pos (by omega), if_neg (by intro q; rw [q] at hslen; simp at hslen; omega)]
      have e : s.extract (p : Int).toNat s.size = ⟨(Tx.sl s.data.toList p i).toArray⟩ := by
        apply ba_ext
        obtain rfl : i = s.size := by omega
        have := ext_sl s (p : Int) (s.size : Int)
        rw [Int.toNat_natCast s.size] at this
        rw [this]
      rw [e]
      rfl
    · rw [if_neg (by omega), if_pos (by apply List.eq_nil_of_length_eq_zero; omega)]
      simp
  | succ m ih =>
    intro i k out p hm hp hi hk ho
    obtain ⟨k, rfl⟩ : ∃ q, k = q + 1 := ⟨k - 1, by omega⟩
    have hlt : i < s.data.toList.length := by omega
    have hd : s.data.toList.drop i = s.data.toList[i] :: s.data.toList.drop (i + 1) := List.drop_eq_getElem_cons hlt
    have hsn : Tx.sl s.data.toList p ((i + 1 : Nat) : Int) = Tx.sl s.data.toList p i ++ [s.data.toList[i]] := by
      have h1 := Tx.sl_sl (s := s.data.toList) (a := (p : Int)) (b := (i : Int)) (c := ((i + 1 : Nat) : Int)) (by omega) (by omega)
      rw [← h1]
      congr 1
      unfold Tx.sl
      rw [Int.toNat_natCast, Int.toNat_natCast, hd, show i + 1 - i = 1 by omega]
      rfl
    have e0 : ∀ cur, Tx.lgo cur (s.data.toList[i] :: s.data.toList.drop (i + 1)) = if s.data.toList[i] = 10 then (cur ++ [s.data.toList[i]]) :: Tx.lgo [] (s.data.toList.drop (i + 1)) else Tx.lgo (cur ++ [s.data.toList[i]]) (s.data.toList.drop (i + 1)) := fun _ => rfl
    have hb := bt_ten s i
    rw [List.getElem?_eq_getElem hlt, Option.some.injEq] at hb
    rw [smockingref01_Lines.l0, if_pos (by omega), if_pos (by omega), nx i (by omega), hd, e0]
    by_cases q : s.data.toList[i] = 10
    · rw [if_pos (hb.2 q), if_pos (by omega), if_pos (by omega), if_pos (by omega), if_pos (by omega), if_pos q, ih (i + 1) k _ (i + 1) (by omega) (by omega) (by omega) (by omega) (by rw [List.length_append, List.length_singleton]; omega), Tx.sl_same, ← hsn]
      have e : s.extract (p : Int).toNat ((i + 1 : Nat) : Int).toNat = ⟨(Tx.sl s.data.toList p ((i + 1 : Nat) : Int)).toArray⟩ := ba_ext (by rw [ext_sl])
      rw [e, List.append_assoc out, List.singleton_append]
      rfl
    · rw [if_neg (fun c => q (hb.1 c)), if_neg q, ih (i + 1) k out p (by omega) (by omega) (by omega) (by omega) ho, ← hsn]
theorem rlines_f (s : ByteArray) (hs : s.size ≤ 100000) (k : Nat) (hk : s.size + 1 ≤ k) : smockingref01_Lines.f k s = some (linesB s) := by
  have h := rlines_l0 s hs s.size 0 k [] 0 (by omega) (by omega) (by omega) hk (Nat.le_refl _)
  rw [show ((0 : Nat) : Int) = 0 from rfl, Tx.sl_same, List.drop_zero, List.nil_append] at h
  exact h
end Go.Proofs.Ythimblhfjfngiaa.PText

namespace Go.Proofs.Ythimblhfjfngiaa.PText
open Go.RowKit Go.Lib Go.Proofs.YthimblhfjfngiaaW.PrintWords Go.Proofs.YthimblhfjfngiaaW.PrintLast Go.Proofs.YthimblhfjfngiaaW.PrintMore
end Go.Proofs.Ythimblhfjfngiaa.PText

namespace Go.Proofs.Ythimblhfjfngiaa.PText
open Go.RowKit Go.Lib Go.Proofs.YthimblhfjfngiaaW.PrintWords Go.Proofs.YthimblhfjfngiaaW.PrintLast Go.Proofs.YthimblhfjfngiaaW.PrintMore
set_option linter.unusedVariables false
set_option linter.unusedSimpArgs false
theorem apart_in {n : Int} : ∀ {l : List Tx.Ed} {p : Int}, Tx.Apart n p l → ∀ e ∈ l, p ≤ e.f ∧ e.f ≤ e.t ∧ e.t ≤ n
  | [], _, _, e, he => by cases he
  | d :: l, p, h, e, he => by
    rcases List.mem_cons.1 he with rfl | he
    · exact ⟨h.1, h.2.1, h.2.2.1⟩
    · have := apart_in h.2.2.2 e he
      have := h.1
      have := h.2.1
      omega
theorem apart_touch {n : Int} : ∀ {l : List Tx.Ed} {p : Int}, Tx.Apart n p l → ∀ a ∈ l, ∀ b ∈ l, a ≠ b → Tx.touch a b = false
  | [], _, _, a, ha, _, _, _ => by cases ha
  | d :: l, p, h, a, ha, b, hb, hne => by
    have far : ∀ e ∈ l, Tx.touch d e = false := fun e he => by
      have h1 := apart_in h.2.2.2 e he
      have h2 := h.2.1
      rw [Bool.eq_false_iff, Ne, Tx.touch_iff]
      omega
    rcases List.mem_cons.1 ha with ha1 | ha1
    · rcases List.mem_cons.1 hb with hb1 | hb1
      · exact absurd (ha1.trans hb1.symm) hne
      · rw [ha1]; exact far b hb1
    · rcases List.mem_cons.1 hb with hb1 | hb1
      · rw [hb1, Tx.touch_symm]; exact far a ha1
      · exact apart_touch h.2.2.2 a ha1 b hb1 hne
/-- the edits of a side, sound and apart -/
structure Side (n : Nat) (x : List S59) : Prop where
  okay : ∀ e ∈ x, 0 ≤ e.f0 ∧ e.f0 ≤ e.f1 ∧ e.f1 ≤ (n : Int)
  far : ∀ a ∈ x, ∀ b ∈ x, a ≠ b → Tx.touch (toE a) (toE b) = false
  len : x.length ≤ 4000
theorem toE_ofE (e : Tx.Ed) : toE (ofE e) = e := by
  cases e
  unfold toE ofE
  simp only
  rw [Lib.toList_data]
theorem side_of (b a : ByteArray) (h : (editsR b a).2 = 0) : Side b.size (editsR b a).1 := by
  have hl := editsR_len b a
  unfold editsR at h hl ⊢
  by_cases c : (sizedR b a 0).2 = 0
  · rw [if_pos c] at hl ⊢
    have hap : Tx.Apart (b.data.toList.length : Int) 0 (Tx.eg 0 none (stT b a)) := Tx.edits_apart b.data.toList a.data.toList
    have hm : ∀ e ∈ editsS b a, toE e ∈ Tx.eg 0 none (stT b a) := fun e he => by
      obtain ⟨d, hd, rfl⟩ := List.mem_map.1 he
      rw [toE_ofE]; exact hd
    refine ⟨fun e he => ?_, fun u hu v hv hne => apart_touch hap _ (hm u hu) _ (hm v hv) (fun q => hne (toE_inj q)), hl⟩
    have := apart_in hap _ (hm e he)
    rw [size_list]
    exact this
  · rw [if_neg c] at h
    exact absurd h c
theorem fine_sides {n : Nat} {x y : List S59} (hn : n ≤ 200000) (hx : Side n x) (hy : Side n y) (hm : x.any (fun a => y.any (meetE a)) = false) : fineE n (x ++ y) = 0 := by
  have hlx := hx.len
  have hly := hy.len
  have hok : ∀ e ∈ x ++ y, 0 ≤ e.f0 ∧ e.f0 ≤ e.f1 ∧ e.f1 ≤ (n : Int) := fun e he => by
    rcases List.mem_append.1 he with h | h
    · exact hx.okay e h
    · exact hy.okay e h
  have hxy : ∀ a ∈ x, ∀ b ∈ y, a ≠ b → Tx.touch (toE a) (toE b) = false := fun a ha b hb hne => by
    have q : meetE a b = false := by
      cases q : meetE a b with
      | false => rfl
      | true => exact absurd (List.any_eq_true.2 ⟨a, ha, List.any_eq_true.2 ⟨b, hb, q⟩⟩) (by rw [hm]; decide)
    unfold meetE at q
    rw [decide_eq_true hne, Bool.true_and, Bool.and_eq_false_iff, decide_eq_false_iff_not, decide_eq_false_iff_not] at q
    have h1 := hx.okay a ha
    have h2 := hy.okay b hb
    rw [Bool.eq_false_iff, Ne, Tx.touch_iff]
    show ¬ ((a.f0 = a.f1 ∧ b.f0 = b.f1 ∧ a.f0 = b.f0) ∨ (a.f0 = a.f1 ∧ b.f0 ≠ b.f1 ∧ b.f0 < a.f0 ∧ a.f0 < b.f1) ∨ (a.f0 ≠ a.f1 ∧ b.f0 = b.f1 ∧ a.f0 < b.f0 ∧ b.f0 < a.f1) ∨ (a.f0 ≠ a.f1 ∧ b.f0 ≠ b.f1 ∧ a.f0 < b.f1 ∧ b.f0 < a.f1))
    omega
  unfold fineE
  rw [if_neg (by rw [List.length_append]; omega), if_neg, if_neg]
  · intro hc
    obtain ⟨a, ha, b, hb, hne, ht⟩ := (Tx.clash_iff (n := (n : Int)) (fun e he => by
      obtain ⟨d, hd, rfl⟩ := List.mem_map.1 he
      exact hok d ((Tx.mem_ord eltS_lin).1 hd)) (List.pairwise_map.2 (Tx.asc_ord eltS_lin))).1 hc
    obtain ⟨u, hu, rfl⟩ := List.mem_map.1 ha
    obtain ⟨v, hv, rfl⟩ := List.mem_map.1 hb
    have huv : u ≠ v := fun q => hne (by rw [q])
    have hu' := (Tx.mem_ord eltS_lin).1 hu
    have hv' := (Tx.mem_ord eltS_lin).1 hv
    have hf : Tx.touch (toE u) (toE v) = false := by
      rcases List.mem_append.1 hu' with h1 | h1 <;> rcases List.mem_append.1 hv' with h2 | h2
      · exact hx.far u h1 v h2 huv
      · exact hxy u h1 v h2 huv
      · rw [Tx.touch_symm]; exact hxy v h2 u h1 (fun q => huv q.symm)
      · exact hy.far u h1 v h2 huv
    rw [hf] at ht
    cases ht
  · intro hb
    obtain ⟨e, he, q⟩ := List.any_eq_true.1 hb
    have := hok e he
    unfold badE at q
    simp only [Bool.or_eq_true, decide_eq_true_eq] at q
    omega
theorem fine_side {n : Nat} {x : List S59} (hn : n ≤ 200000) (hx : Side n x) : fineE n x = 0 := by
  have := fine_sides (y := []) hn hx ⟨(fun e he => absurd he (by simp)), (fun a ha => absurd ha (by simp)), Nat.zero_le _⟩ (List.any_eq_false.2 (fun a _ => by simp))
  rwa [List.append_nil] at this
theorem fine_ord (n : Nat) (l : List S59) (h : fineE n l = 0) : fineE n (Tx.ord eltS l) = 0 := by
  have hl := Tx.ord_len (lt := eltS) l
  have ho : Tx.ord eltS (Tx.ord eltS l) = Tx.ord eltS l := Tx.ord_ord eltS_lin (Tx.asc_ord eltS_lin)
  unfold fineE at h ⊢
  by_cases h1 : 200000 < n ∨ 10000 < l.length
  · rw [if_pos h1] at h; cases h
  · rw [if_neg h1] at h
    rw [if_neg (by omega)]
    by_cases h2 : l.any (badE n) = true
    · rw [if_pos h2] at h; cases h
    · rw [if_neg h2] at h
      rw [if_neg (fun q => h2 (by
        obtain ⟨e, he, q⟩ := List.any_eq_true.1 q
        exact List.any_eq_true.2 ⟨e, (Tx.mem_ord eltS_lin).1 he, q⟩)), ho]
      exact h
theorem apply_ord (s : ByteArray) (l : List S59) (h : fineE s.size l = 0) : applyR s (Tx.ord eltS l) = applyR s l := by
  have ho : Tx.ord eltS (Tx.ord eltS l) = Tx.ord eltS l := Tx.ord_ord eltS_lin (Tx.asc_ord eltS_lin)
  have hm : madeE s (Tx.ord eltS l) = madeE s l := by unfold madeE; rw [ho]
  unfold applyR
  rw [fine_ord _ _ h, h, hm]
theorem sum_le {α : Type} (f : α → Nat) (C : Nat) : ∀ l : List α, (∀ x ∈ l, f x ≤ C) → (l.map f).sum ≤ l.length * C
  | [], _ => Nat.zero_le _
  | a :: l, h => by
    have h1 := sum_le f C l (fun x hx => h x (List.mem_cons_of_mem _ hx))
    have h2 := h a List.mem_cons_self
    rw [List.map_cons, List.sum_cons, List.length_cons, Nat.succ_mul]
    omega
theorem eg_sum : ∀ (l : List Tx.St) (a : Int) (c : Option Tx.Ed), ((Tx.eg a c l).map (fun e => e.x.length)).sum ≤ (c.toList.map (fun e => e.x.length)).sum + (l.map (fun x => x.2.length)).sum
  | [], a, c => Nat.le_add_right _ _
  | (o, x) :: l, a, c => by
    have hd : (c.getD ⟨a, a, []⟩).x.length = (c.toList.map (fun e => e.x.length)).sum := by cases c <;> simp
    rw [List.map_cons, List.sum_cons]
    show _ ≤ (c.toList.map (fun e => e.x.length)).sum + (x.length + (l.map (fun x => x.2.length)).sum)
    by_cases c1 : o = 32
    · subst c1
      have h := eg_sum l (a + x.length) none
      rw [Tx.eg_keep, List.map_append, List.sum_append]
      simp only [Option.toList_none, List.map_nil, List.sum_nil] at h
      omega
    · by_cases c2 : o = 45
      · subst c2
        have h := eg_sum l (a + x.length) (some ⟨(c.getD ⟨a, a, []⟩).f, a + x.length, (c.getD ⟨a, a, []⟩).x⟩)
        rw [Tx.eg_gone]
        simp only [Option.toList_some, List.map_cons, List.map_nil, List.sum_cons, List.sum_nil] at h
        omega
      · have h := eg_sum l a (some ⟨(c.getD ⟨a, a, []⟩).f, (c.getD ⟨a, a, []⟩).t, (c.getD ⟨a, a, []⟩).x ++ x⟩)
        rw [Tx.eg_come a c o x l c1 c2]
        simp only [Option.toList_some, List.map_cons, List.map_nil, List.sum_cons, List.sum_nil, List.length_append] at h
        omega
theorem sumS_edits (b a : ByteArray) (hb : b.size ≤ 3000) (ha : a.size ≤ 3000) : sumS (editsR b a).1 ≤ 12000000 := by
  unfold editsR
  by_cases c : (sizedR b a 0).2 = 0
  · rw [if_pos c]
    obtain ⟨-, -, -, n1, n2, -, -⟩ := sized_zero c
    have hl := stT_len b a
    have h1 := sum_le (fun x : UInt8 × List UInt8 => x.2.length) 3000 (stT b a) (fun x hx => by have := (stT_ok b a x hx).2.2; omega)
    have h2 : ((Tx.eg 0 none (stT b a)).map (fun e => e.x.length)).sum ≤ ((stT b a).map (fun x : UInt8 × List UInt8 => x.2.length)).sum := by
      have q := eg_sum (stT b a) 0 none
      rw [show ((none : Option Tx.Ed).toList.map (fun e => e.x.length)).sum = 0 from rfl, Nat.zero_add] at q
      exact q
    have h3 : sumS (editsS b a) = ((Tx.eg 0 none (stT b a)).map (fun e => e.x.length)).sum := by
      unfold sumS editsS
      rw [List.map_map]
      rfl
    have h4 := Nat.mul_le_mul_right 3000 (show (stT b a).length ≤ 4000 by omega)
    show sumS (editsS b a) ≤ _
    omega
  · rw [if_neg c]
    exact Nat.zero_le _
/-- two sides merged -/
def threeR (b a c : ByteArray) : ByteArray × Int :=
  if (editsR b a).2 ≠ 0 then (⟨#[]⟩, (editsR b a).2) else if (editsR b c).2 ≠ 0 then (⟨#[]⟩, (editsR b c).2)
  else if (editsR b a).1.any (fun i => (editsR b c).1.any (meetE i)) = true then (⟨#[]⟩, 250)
  else applyR b ((editsR b a).1 ++ (editsR b c).1)
theorem three_f (b a c : ByteArray) (hb : b.size ≤ 3000) (ha : a.size ≤ 3000) (hc : c.size ≤ 3000) : past_Three.f b a c = some (threeR b a c) := by
  have s1 := sumS_edits b a hb ha
  have s2 := sumS_edits b c hb hc
  unfold past_Three.f threeR
  rw [if_pos ⟨by omega, by omega, by omega⟩]
  by_cases h1 : (editsR b a).2 ≠ 0
  · rw [if_pos h1, if_pos h1]
  · rw [if_neg h1, if_neg h1]
    by_cases h2 : (editsR b c).2 ≠ 0
    · rw [if_pos h2, if_pos h2]
    · rw [if_neg h2, if_neg h2]
      have hx := side_of b a (Decidable.of_not_not h1)
      have hy := side_of b c (Decidable.of_not_not h2)
      generalize (editsR b a).1 = x at *
      generalize (editsR b c).1 = y at *
      by_cases h3 : x.any (fun i => y.any (meetE i)) = true
      · rw [if_pos h3, if_pos h3]
      · rw [if_neg h3, if_neg h3]
        have hf := fine_sides (by omega) hx hy (by simpa using h3)
        have hfx := fine_side (show b.size ≤ 200000 by omega) hx
        have hfy := fine_side (show b.size ≤ 200000 by omega) hy
        have hm : mergeR b.size x y = (Tx.ord eltS (x ++ y), 0) := by
          unfold mergeR
          rw [if_neg (fun q => q hfx), if_neg (fun q => q hfy), if_neg (fun q => q hf)]
        have hs : b.size + sumS (Tx.ord eltS (x ++ y)) ≤ 100000000000 := by
          have := sumS_ord (x ++ y)
          rw [sumS_app] at this
          omega
        rw [hm, if_neg (fun q => q rfl), apply_f b _ hs, Option.bind_some, apply_ord b _ hf]
        by_cases hz : (applyR b (x ++ y)).2 = 0
        · rw [if_pos hz, ← hz]
        · rw [if_neg hz]
          unfold applyR at hz ⊢
          rw [if_neg (fun q => q hf)] at hz ⊢
          by_cases hbig : 200000 < (madeE b (x ++ y)).length
          · rw [if_pos hbig]
          · rw [if_neg hbig] at hz; exact absurd rfl hz
end Go.Proofs.Ythimblhfjfngiaa.PText

namespace Go.Proofs.Ythimblhfjfngiaa.PText
open Go.RowKit Go.Lib Go.Proofs.YthimblhfjfngiaaW.PrintWords Go.Proofs.YthimblhfjfngiaaW.PrintLast Go.Proofs.YthimblhfjfngiaaW.PrintMore
set_option linter.unusedVariables false
set_option linter.unusedSimpArgs false
theorem meet_symm (x y : S59) : meetE x y = meetE y x := by
  unfold meetE
  rw [show decide (x ≠ y) = decide (y ≠ x) from decide_eq_decide.2 ⟨fun q e => q e.symm, fun q e => q e.symm⟩, Bool.and_comm (decide (x.f0 ≤ y.f1))]
theorem any_symm (x y : List S59) : x.any (fun a => y.any (meetE a)) = y.any (fun a => x.any (meetE a)) := by
  rw [Bool.eq_iff_iff, List.any_eq_true, List.any_eq_true]
  constructor
  · rintro ⟨a, ha, q⟩
    obtain ⟨b, hb, q⟩ := List.any_eq_true.1 q
    exact ⟨b, hb, List.any_eq_true.2 ⟨a, ha, by rw [meet_symm]; exact q⟩⟩
  · rintro ⟨a, ha, q⟩
    obtain ⟨b, hb, q⟩ := List.any_eq_true.1 q
    exact ⟨b, hb, List.any_eq_true.2 ⟨a, ha, by rw [meet_symm]; exact q⟩⟩
theorem apply_congr (s : ByteArray) (l m : List S59) (hl : l.length = m.length) (h : ∀ a, a ∈ l ↔ a ∈ m) : applyR s l = applyR s m := by
  have ho : Tx.ord eltS l = Tx.ord eltS m := Tx.ord_congr eltS_lin h
  have ha : l.any (badE s.size) = m.any (badE s.size) := by
    rw [Bool.eq_iff_iff, List.any_eq_true, List.any_eq_true]
    exact ⟨fun ⟨a, q1, q2⟩ => ⟨a, (h a).1 q1, q2⟩, fun ⟨a, q1, q2⟩ => ⟨a, (h a).2 q1, q2⟩⟩
  have hf : fineE s.size l = fineE s.size m := by unfold fineE; rw [ho, hl, ha]
  have hm : madeE s l = madeE s m := by unfold madeE; rw [ho]
  unfold applyR
  rw [hf, hm]
/-- edits' errors: none at texts that are not large -/
theorem editsR_ok (b a : ByteArray) (hb : b.size ≤ 200000) (ha : a.size ≤ 200000) (lb : (linesB b).length ≤ 2000) (la : (linesB a).length ≤ 2000) : editsR b a = (editsS b a, 0) := by
  have h : (sizedR b a 0).2 = 0 := by
    unfold sizedR
    rw [if_neg (by omega), if_neg (by omega)]
  unfold editsR
  rw [if_pos h]
theorem three_ok (b a c : ByteArray) (h1 : (editsR b a).2 = 0) (h2 : (editsR b c).2 = 0) : threeR b a c = if (editsR b a).1.any (fun i => (editsR b c).1.any (meetE i)) = true then (⟨#[]⟩, 250) else applyR b ((editsR b a).1 ++ (editsR b c).1) := by
  unfold threeR
  rw [if_neg (fun q => q h1), if_neg (fun q => q h2)]
theorem three_symm (b a c : ByteArray) (h1 : (editsR b a).2 = 0) (h2 : (editsR b c).2 = 0) : threeR b a c = threeR b c a := by
  rw [three_ok b a c h1 h2, three_ok b c a h2 h1, any_symm, apply_congr b ((editsR b a).1 ++ (editsR b c).1) ((editsR b c).1 ++ (editsR b a).1) (by rw [List.length_append, List.length_append, Nat.add_comm]) (fun e => by rw [List.mem_append, List.mem_append, or_comm])]
end Go.Proofs.Ythimblhfjfngiaa.PText

namespace Go.Proofs.Ythimblhfjfngiaa.PText
open Go.RowKit Go.Lib Go.Proofs.YthimblhfjfngiaaW.PrintWords Go.Proofs.YthimblhfjfngiaaW.PrintLast Go.Proofs.YthimblhfjfngiaaW.PrintMore
set_option linter.unusedVariables false
set_option linter.unusedSimpArgs false
theorem steps_sum : ∀ l : List Tx.St, (∀ x ∈ l, x.1 = 32 ∨ x.1 = 45 ∨ x.1 = 43) → (l.map (fun x => x.2.length)).sum ≤ (Tx.olds l).flatten.length + (Tx.news l).flatten.length
  | [], _ => Nat.zero_le _
  | (o, x) :: l, h => by
    have ih := steps_sum l (fun y m => h y (List.mem_cons_of_mem _ m))
    have hoh := h (o, x) List.mem_cons_self
    rw [List.map_cons, List.sum_cons]
    show x.length + _ ≤ _
    rcases hoh with e | e | e <;> (replace e : o = _ := e; subst e)
    · rw [Tx.olds_keep _ _ _ (by decide), Tx.news_keep _ _ _ (by decide), List.flatten_cons, List.flatten_cons, List.length_append, List.length_append]; omega
    · rw [Tx.olds_keep _ _ _ (by decide), Tx.news_gone, List.flatten_cons, List.length_append]; omega
    · rw [Tx.olds_come, Tx.news_keep _ _ _ (by decide), List.flatten_cons, List.length_append]; omega
theorem sumS_edits2 (b a : ByteArray) : sumS (editsR b a).1 ≤ b.size + a.size := by
  unfold editsR
  by_cases c : (sizedR b a 0).2 = 0
  · rw [if_pos c]
    have ho := Tx.stp_olds _ (Tx.lines (bL b)) (Tx.lines (bL a)) (Nat.le_refl _)
    have h1 := steps_sum (stT b a) (fun x hx => (stT_ok b a x hx).1)
    have e1 : Tx.olds (stT b a) = Tx.lines (bL b) := ho.1
    have e2 : Tx.news (stT b a) = Tx.lines (bL a) := ho.2
    rw [e1, e2, Tx.lines_flat, Tx.lines_flat, ← bL_size, ← bL_size] at h1
    have q := eg_sum (stT b a) 0 none
    rw [show ((none : Option Tx.Ed).toList.map (fun e => e.x.length)).sum = 0 from rfl, Nat.zero_add] at q
    have h3 : sumS (editsS b a) = ((Tx.eg 0 none (stT b a)).map (fun e => e.x.length)).sum := by
      unfold sumS editsS
      rw [List.map_map]
      rfl
    show sumS (editsS b a) ≤ _
    omega
  · rw [if_neg c]
    exact Nat.zero_le _
theorem apart_far {n : Int} : ∀ {l : List Tx.Ed} {p : Int}, Tx.Apart n p l → ∀ a ∈ l, ∀ b ∈ l, a ≠ b → ¬ (a.f ≤ b.t ∧ b.f ≤ a.t)
  | [], _, _, a, ha, _, _, _ => by cases ha
  | d :: l, p, h, a, ha, b, hb, hne => by
    have far : ∀ e ∈ l, d.t < e.f ∧ e.f ≤ e.t := fun e he => by
      have h1 := apart_in h.2.2.2 e he
      omega
    have hd := h.2.1
    rcases List.mem_cons.1 ha with ha1 | ha1
    · rcases List.mem_cons.1 hb with hb1 | hb1
      · exact absurd (ha1.trans hb1.symm) hne
      · have := far b hb1
        rw [ha1]; omega
    · rcases List.mem_cons.1 hb with hb1 | hb1
      · have := far a ha1
        rw [hb1]; omega
      · exact apart_far h.2.2.2 a ha1 b hb1 hne
theorem editsS_toE (b a : ByteArray) : (editsS b a).map toE = Tx.edits (bL b) (bL a) := by
  unfold editsS
  rw [List.map_map]
  have : (toE ∘ ofE) = id := funext fun e => toE_ofE e
  rw [this, List.map_id]
  rfl
theorem editsS_asc (b a : ByteArray) : Tx.Asc eltS (editsS b a) := by
  have h := Tx.sep_asc (Tx.edits_ch (bL b) (bL a)) (Tx.apart_sep (Tx.edits_apart (bL b) (bL a)))
  rw [← editsS_toE] at h
  exact List.pairwise_map.1 h
theorem made_edits (b a : ByteArray) : madeE b (editsS b a) = bL a := by
  unfold madeE
  rw [Tx.ord_ord eltS_lin (editsS_asc b a), editsS_toE]
  exact Tx.edits_ap (bL b) (bL a)
theorem edits_self' (b : ByteArray) : editsS b b = [] := by
  have h := editsS_toE b b
  rw [Tx.edits_self] at h
  exact List.map_eq_nil_iff.1 h
theorem side_meet (b a : ByteArray) : (editsS b a).any (fun i => (editsS b a).any (meetE i)) = false := by
  rw [List.any_eq_false]
  intro i hi
  rw [Bool.not_eq_true, List.any_eq_false]
  intro j hj
  have h := apart_far (Tx.edits_apart (bL b) (bL a))
  rw [← editsS_toE] at h
  by_cases e : i = j
  · subst e; unfold meetE; simp
  · have := h (toE i) (List.mem_map_of_mem hi) (toE j) (List.mem_map_of_mem hj) (fun q => e (toE_inj q))
    have this' : ¬ (i.f0 ≤ j.f1 ∧ j.f0 ≤ i.f1) := this
    unfold meetE
    simp only [Bool.not_eq_true, Bool.and_eq_false_iff, decide_eq_false_iff_not]
    omega
theorem madeE_congr (s : ByteArray) {l m : List S59} (h : ∀ a, a ∈ l ↔ a ∈ m) : madeE s l = madeE s m := by
  have ho : Tx.ord eltS l = Tx.ord eltS m := Tx.ord_congr eltS_lin h
  unfold madeE; rw [ho]
/-- the texts and lines of a statement about sides -/
structure Okay2 (b a c : ByteArray) : Prop where
  hb : b.size ≤ 3000
  ha : a.size ≤ 3000
  hc : c.size ≤ 3000
  lb : (linesB b).length ≤ 2000
  la : (linesB a).length ≤ 2000
  lc : (linesB c).length ≤ 2000
theorem three_val {b a c : ByteArray} (h : Okay2 b a c) (hm : (editsS b a).any (fun i => (editsS b c).any (meetE i)) = false) : threeR b a c = (⟨(madeE b (editsS b a ++ editsS b c)).toArray⟩, 0) ∧ (madeE b (editsS b a ++ editsS b c)).length ≤ 15000 := by
  have e1 := editsR_ok b a (by have := h.hb; omega) (by have := h.ha; omega) h.lb h.la
  have e2 := editsR_ok b c (by have := h.hb; omega) (by have := h.hc; omega) h.lb h.lc
  have hx := side_of b a (by rw [e1])
  have hy := side_of b c (by rw [e2])
  have s1 := sumS_edits2 b a
  have s2 := sumS_edits2 b c
  rw [e1] at hx s1
  rw [e2] at hy s2
  have hf : fineE b.size (editsS b a ++ editsS b c) = 0 := fine_sides (by have := h.hb; omega) hx hy hm
  have hl := made_len hf
  rw [sumS_app] at hl
  have hz : (madeE b (editsS b a ++ editsS b c)).length ≤ 15000 := by have := h.hb; have := h.ha; have := h.hc; simp only at s1 s2; omega
  refine ⟨?_, hz⟩
  rw [three_ok b a c (by rw [e1]) (by rw [e2]), e1, e2, if_neg (by rw [hm]; decide)]
  show applyR b (editsS b a ++ editsS b c) = _
  unfold applyR
  rw [if_neg (fun q => q hf), if_neg (by omega)]
theorem three_250 {b a c : ByteArray} (h : Okay2 b a c) (hm : (editsS b a).any (fun i => (editsS b c).any (meetE i)) = true) : threeR b a c = (⟨#[]⟩, 250) := by
  have e1 := editsR_ok b a (by have := h.hb; omega) (by have := h.ha; omega) h.lb h.la
  have e2 := editsR_ok b c (by have := h.hb; omega) (by have := h.hc; omega) h.lb h.lc
  rw [three_ok b a c (by rw [e1]) (by rw [e2]), e1, e2, if_pos hm]
theorem three_left {b a c : ByteArray} (h : Okay2 b a c) : threeR b b c = (c, 0) := by
  have h' : Okay2 b b c := ⟨h.hb, h.hb, h.hc, h.lb, h.lb, h.lc⟩
  have := (three_val h' (by rw [edits_self']; rfl)).1
  rw [this, edits_self', List.nil_append, made_edits, bL_eta]
theorem three_same {b a c : ByteArray} (h : Okay2 b a c) : threeR b a a = (a, 0) := by
  have h' : Okay2 b a a := ⟨h.hb, h.ha, h.ha, h.lb, h.la, h.la⟩
  have := (three_val h' (side_meet b a)).1
  rw [this, madeE_congr b (l := editsS b a ++ editsS b a) (m := editsS b a) (fun e => by rw [List.mem_append, or_self]), made_edits, bL_eta]
/-- the lines of a merge are those of the base and of the sides -/
theorem merge_lines {b a c : ByteArray} (h : Okay2 b a c) (hm : (editsS b a).any (fun i => (editsS b c).any (meetE i)) = false) : ∀ x ∈ linesB ⟨(madeE b (editsS b a ++ editsS b c)).toArray⟩, x ∈ linesB b ∨ x ∈ linesB a ++ linesB c := by
  have e1 := editsR_ok b a (by have := h.hb; omega) (by have := h.ha; omega) h.lb h.la
  have e2 := editsR_ok b c (by have := h.hb; omega) (by have := h.hc; omega) h.lb h.lc
  have hx := side_of b a (by rw [e1])
  have hy := side_of b c (by rw [e2])
  rw [e1] at hx
  rw [e2] at hy
  have fx := apart_far (Tx.edits_apart (bL b) (bL a))
  have fy := apart_far (Tx.edits_apart (bL b) (bL c))
  have px := Tx.edits_ep (bL b) (bL a)
  have py := Tx.edits_ep (bL b) (bL c)
  rw [← editsS_toE] at fx fy px py
  have hn : b.size = (bL b).length := bL_size b
  have hmem : ∀ u ∈ (Tx.ord eltS (editsS b a ++ editsS b c)).map toE, ∃ d, u = toE d ∧ (d ∈ editsS b a ∨ d ∈ editsS b c) := fun u hu => by
    obtain ⟨d, hd, rfl⟩ := List.mem_map.1 hu
    exact ⟨d, rfl, List.mem_append.1 ((Tx.mem_ord eltS_lin).1 hd)⟩
  have cross : ∀ u ∈ editsS b a, ∀ v ∈ editsS b c, u ≠ v → ¬ (u.f0 ≤ v.f1 ∧ v.f0 ≤ u.f1) := fun u hu v hv hne => by
    have q : meetE u v = false := by
      cases q : meetE u v with
      | false => rfl
      | true => exact absurd (List.any_eq_true.2 ⟨u, hu, List.any_eq_true.2 ⟨v, hv, q⟩⟩) (by rw [hm]; decide)
    unfold meetE at q
    rw [decide_eq_true hne, Bool.true_and, Bool.and_eq_false_iff, decide_eq_false_iff_not, decide_eq_false_iff_not] at q
    omega
  have hok : ∀ u ∈ (Tx.ord eltS (editsS b a ++ editsS b c)).map toE, 0 ≤ u.f ∧ u.f ≤ u.t ∧ u.t ≤ ((bL b).length : Int) := fun u hu => by
    obtain ⟨d, rfl, hd⟩ := hmem u hu
    rw [← hn]
    rcases hd with hd | hd
    · exact hx.okay d hd
    · exact hy.okay d hd
  have hA : Tx.Apart ((bL b).length : Int) 0 ((Tx.ord eltS (editsS b a ++ editsS b c)).map toE) := by
    refine Tx.apart_of (List.pairwise_map.2 (Tx.asc_ord eltS_lin)) hok (fun u hu v hv hne => ?_) (fun u hu => (hok u hu).1) (by omega)
    obtain ⟨d, rfl, hd⟩ := hmem u hu
    obtain ⟨g, rfl, hg⟩ := hmem v hv
    have hdg : d ≠ g := fun q => hne (by rw [q])
    rcases hd with hd | hd <;> rcases hg with hg | hg
    · exact fx _ (List.mem_map_of_mem hd) _ (List.mem_map_of_mem hg) hne
    · exact cross d hd g hg hdg
    · have := cross g hg d hd (fun q => hdg q.symm)
      exact fun q => this ⟨q.2, q.1⟩
    · exact fy _ (List.mem_map_of_mem hd) _ (List.mem_map_of_mem hg) hne
  obtain ⟨L, l1, l2, l3⟩ := Tx.ap_lines (Tx.lines (bL b)) (Tx.lines_lns _) (fun x => x ∈ Tx.lines (bL b) ∨ x ∈ Tx.lines (bL a) ∨ x ∈ Tx.lines (bL c)) (fun x m => .inl m) _ [] (Tx.lines (bL b)) rfl (by rw [Tx.lines_flat]; exact hA) (fun u hu => by
    obtain ⟨d, rfl, hd⟩ := hmem u hu
    rcases hd with hd | hd
    · exact ⟨_, px _ (List.mem_map_of_mem hd), fun x m => .inr (.inl m)⟩
    · exact ⟨_, py _ (List.mem_map_of_mem hd), fun x m => .inr (.inr m)⟩)
  rw [Tx.lines_flat] at l2
  have e : Tx.lines (madeE b (editsS b a ++ editsS b c)) = L := by
    rw [← Tx.lines_of_lns l1]
    congr 1
    exact l2.symm
  intro x hx
  have hx' : x ∈ (Tx.lines (madeE b (editsS b a ++ editsS b c))).map fun l => (⟨l.toArray⟩ : ByteArray) := hx
  rw [e] at hx'
  obtain ⟨y, hy2, rfl⟩ := List.mem_map.1 hx'
  rcases l3 y hy2 with q | q | q
  · exact .inl (List.mem_map_of_mem q)
  · exact .inr (List.mem_append_left _ (List.mem_map_of_mem q))
  · exact .inr (List.mem_append_right _ (List.mem_map_of_mem q))
theorem has_l0 (l : List ByteArray) (x : ByteArray) (hl : l.length ≤ 1000000) : ∀ (m i k : Nat), l.length - i = m → i ≤ l.length → m + 1 ≤ k → ∃ r, rf0_Has.l0 k l x (i : Int) = some r ∧ (x ∈ l.drop i → 0 ≤ r)
  | 0, i, k, hm, hi, hk => by
    obtain ⟨k, rfl⟩ : ∃ q, k = q + 1 := ⟨k - 1, by omega⟩
    rw [rf0_Has.l0, if_neg (by omega)]
    exact ⟨_, rfl, fun q => by rw [List.drop_eq_nil_of_le (by omega)] at q; cases q⟩
  | m + 1, i, k, hm, hi, hk => by
    obtain ⟨k, rfl⟩ : ∃ q, k = q + 1 := ⟨k - 1, by omega⟩
    have hil : i < l.length := by omega
    rw [rf0_Has.l0, if_pos (by omega), if_pos (by omega), rdB l i hil]
    by_cases e : l[i].toList = x.toList
    · rw [if_pos e]; exact ⟨_, rfl, fun _ => by omega⟩
    · rw [if_neg e, nx i (by omega)]
      obtain ⟨r, h1, h2⟩ := has_l0 l x hl m (i + 1) k (by omega) (by omega) (by omega)
      refine ⟨r, h1, fun q => h2 ?_⟩
      rw [List.drop_eq_getElem_cons hil] at q
      rcases List.mem_cons.1 q with q | q
      · exact absurd (by rw [q]) e
      · exact q
theorem has_f (l : List ByteArray) (x : ByteArray) (hl : l.length ≤ 1000000) (k : Nat) (hk : l.length + 1 ≤ k) : ∃ r, rf0_Has.f k l x = some r ∧ (x ∈ l → 0 ≤ r) := by
  obtain ⟨r, h1, h2⟩ := has_l0 l x hl l.length 0 k (by omega) (by omega) hk
  exact ⟨r, h1, fun q => h2 (by rwa [List.drop_zero])⟩
theorem sides_l0 (old own hv : List ByteArray) (h1 : old.length ≤ 100000) (h2 : own.length ≤ 100000) (h3 : hv.length ≤ 100000) (h : ∀ x ∈ hv, x ∈ old ∨ x ∈ own) : ∀ (m i k : Nat), hv.length - i = m → i ≤ hv.length → m + old.length + own.length + 5 ≤ k → smockinglaw25_PastSides.l0 k old own hv (i : Int) = some true
  | 0, i, k, hm, hi, hk => by
    obtain ⟨k, rfl⟩ : ∃ q, k = q + 1 := ⟨k - 1, by omega⟩
    rw [smockinglaw25_PastSides.l0, if_neg (by omega)]
    rfl
  | m + 1, i, k, hm, hi, hk => by
    obtain ⟨k, rfl⟩ : ∃ q, k = q + 1 := ⟨k - 1, by omega⟩
    have hil : i < hv.length := by omega
    obtain ⟨r1, q1, q2⟩ := has_f old hv[i] (by omega) k (by omega)
    obtain ⟨r2, q3, q4⟩ := has_f own hv[i] (by omega) k (by omega)
    rw [smockinglaw25_PastSides.l0, if_pos (by omega), if_pos (by omega), rdB hv i hil, q1, Option.bind_some]
    by_cases c : r1 < 0
    · have hx : 0 ≤ r2 := by
        rcases h hv[i] (List.getElem_mem hil) with z | z
        · have := q2 z; omega
        · exact q4 z
      rw [if_pos c, q3, Option.bind_some, if_neg (by omega), nx i (by omega)]
      exact sides_l0 old own hv h1 h2 h3 h m (i + 1) k (by omega) (by omega) (by omega)
    · rw [if_neg c, nx i (by omega)]
      exact sides_l0 old own hv h1 h2 h3 h m (i + 1) k (by omega) (by omega) (by omega)
theorem many_f (b a c : ByteArray) (hb : b.size ≤ 3000) (ha : a.size ≤ 3000) (hc : c.size ≤ 3000) (k : Nat) (hk : 4000 ≤ k) :
    (smockinglaw25_many.f k [b, a, c] = some true) ∨ (smockinglaw25_many.f k [b, a, c] = some false ∧ (linesB b).length ≤ 2000 ∧ (linesB a).length ≤ 2000 ∧ (linesB c).length ≤ 2000) := by
  obtain ⟨k, rfl⟩ : ∃ q, k = q + 1 + 1 + 1 + 1 := ⟨k - 4, by omega⟩
  have w0 : wrap64 ((0 : Int) + 1) = 1 := by rw [w64 (by omega) (by omega)]; rfl
  have w1 : wrap64 ((1 : Int) + 1) = 2 := by rw [w64 (by omega) (by omega)]; rfl
  have w2 : wrap64 ((2 : Int) + 1) = 3 := by rw [w64 (by omega) (by omega)]; rfl
  have r0 : rdOf ByteArray.empty [b, a, c] 0 = b := rfl
  have r1 : rdOf ByteArray.empty [b, a, c] 1 = a := rfl
  have r2 : rdOf ByteArray.empty [b, a, c] 2 = c := rfl
  unfold smockinglaw25_many.f
  rw [smockinglaw25_many.l0, if_pos (by simp), if_pos (by omega), r0, rlines_f b (by omega) _ (by omega), Option.bind_some]
  by_cases c0 : ((linesB b).length : Int) > 2000
  · rw [if_pos c0]; exact .inl rfl
  · rw [if_neg c0, w0, smockinglaw25_many.l0, if_pos (by simp), if_pos (by omega), r1, rlines_f a (by omega) _ (by omega), Option.bind_some]
    by_cases c1 : ((linesB a).length : Int) > 2000
    · rw [if_pos c1]; exact .inl rfl
    · rw [if_neg c1, w1, smockinglaw25_many.l0, if_pos (by simp), if_pos (by omega), r2, rlines_f c (by omega) _ (by omega), Option.bind_some]
      by_cases c2 : ((linesB c).length : Int) > 2000
      · rw [if_pos c2]; exact .inl rfl
      · rw [if_neg c2, w2, smockinglaw25_many.l0, if_neg (by simp)]
        exact .inr ⟨rfl, by omega, by omega, by omega⟩
theorem sides_j2 {b a c : ByteArray} (h : Okay2 b a c) (k : Nat) (hk : 400000 ≤ k) : smockinglaw25_PastSides.j2 k b a c (threeR b a c).1 (threeR b a c).2 false = some true := by
  obtain ⟨k, rfl⟩ : ∃ q, k = q + 1 := ⟨k - 1, by omega⟩
  rw [smockinglaw25_PastSides.j2, if_neg (by decide)]
  by_cases hm : (editsS b a).any (fun i => (editsS b c).any (meetE i)) = true
  · rw [three_250 h hm, if_neg (by decide), if_pos rfl, if_pos (show (⟨#[]⟩ : ByteArray).toList = [] by kernel_rfl)]
    rfl
  · have hm' : (editsS b a).any (fun i => (editsS b c).any (meetE i)) = false := by simpa using hm
    obtain ⟨e, hl⟩ := three_val h hm'
    have hml := merge_lines h hm'
    have hb := h.hb
    have ha := h.ha
    have hc := h.hc
    have lb := h.lb
    have la := h.la
    have lc := h.lc
    have hsz : (⟨(madeE b (editsS b a ++ editsS b c)).toArray⟩ : ByteArray).size ≤ 15000 := by rw [mk_size]; exact hl
    rw [e]
    generalize (⟨(madeE b (editsS b a ++ editsS b c)).toArray⟩ : ByteArray) = s at *
    have ls := linesB_len s
    show (if (0 : Int) = 0 then _ else _) = _
    rw [if_pos rfl, rlines_f b (by omega) k (by omega), Option.bind_some, rlines_f a (by omega) k (by omega), Option.bind_some, rlines_f c (by omega) k (by omega), Option.bind_some, if_pos (by omega)]
    rw [show smockingref01_Lines.f k s = some (linesB s) from rlines_f s (by omega) k (by omega), Option.bind_some]
    exact sides_l0 _ _ _ (by omega) (by rw [List.length_append]; omega) (by omega) hml (linesB s).length 0 k (by omega) (by omega) (by rw [List.length_append]; omega)
theorem pastSides_eq (b a c : ByteArray) : ∃ k, smockinglaw25_PastSides.f k b a c = some true := by
  refine ⟨400000002, ?_⟩
  generalize hk : (400000002 : Nat) = k
  obtain ⟨k, rfl⟩ : ∃ q, k = q + 1 + 1 := ⟨k - 2, by omega⟩
  have hk2 : 400000000 ≤ k := by omega
  clear hk
  have hT : smockinglaw25_PastSides.j0 (k + 1 + 1) b a c true = some true := by rw [smockinglaw25_PastSides.j0, if_pos rfl]
  unfold smockinglaw25_PastSides.f
  by_cases h1 : (b.size : Int) > 3000
  · rw [if_pos h1, hT]
  · rw [if_neg h1]
    by_cases h2 : (a.size : Int) > 3000
    · rw [if_pos h2, hT]
    · rw [if_neg h2]
      by_cases h3 : (c.size : Int) > 3000
      · rw [if_pos h3, hT]
      · rw [if_neg h3]
        rcases many_f b a c (by omega) (by omega) (by omega) (k + 1 + 1) (by omega) with hm | ⟨hm, lb, la, lc⟩
        · rw [hm, Option.bind_some, hT]
        · have h : Okay2 b a c := ⟨by omega, by omega, by omega, lb, la, lc⟩
          have e1 := editsR_ok b a (by have := h.hb; omega) (by have := h.ha; omega) h.lb h.la
          have e2 := editsR_ok b c (by have := h.hb; omega) (by have := h.hc; omega) h.lb h.lc
          rw [hm, Option.bind_some, smockinglaw25_PastSides.j0, if_neg (by decide), three_f b a c (by omega) (by omega) (by omega), Option.bind_some, three_f b c a (by omega) (by omega) (by omega), Option.bind_some,
            three_f b b c (by omega) (by omega) (by omega), Option.bind_some, three_f b a a (by omega) (by omega) (by omega), Option.bind_some, ← three_symm b a c (by rw [e1]) (by rw [e2]), three_left h, three_same h,
            if_pos rfl, if_pos rfl, if_pos rfl, if_pos rfl, if_pos rfl, show ((a, (0 : Int)).1.toList != a.toList) = false by simp]
          rw [smockinglaw25_PastSides.j1, if_neg (by decide), pconf_f b a c (by omega) (by omega) (by omega) k (by omega), Option.bind_some]
          have hcf : confR b a c = (conC (editsS b c) 0 (editsS b a), 0) := by
            unfold confR
            rw [e1, e2, if_neg (fun q => q rfl), if_neg (fun q => q rfl)]
          have hn := conC_nil (editsS b c) (editsS b a) 0
          have hdec : ((threeR b a c).2 == 250) = decide (((conC (editsS b c) 0 (editsS b a)).length : Int) > 0) := by
            by_cases q : (editsS b a).any (fun i => (editsS b c).any (meetE i)) = true
            · have hp : conC (editsS b c) 0 (editsS b a) ≠ [] := fun z => by rw [hn.1 z] at q; cases q
              have := List.length_pos_iff.2 hp
              rw [three_250 h q, decide_eq_true (by omega)]
              rfl
            · have hp := hn.2 (by simpa using q)
              rw [(three_val h (by simpa using q)).1, hp]
              rfl
          rw [hcf, if_pos rfl, hdec, show ∀ x : Bool, (x != x) = false from fun x => by cases x <;> rfl]
          exact sides_j2 h k (by omega)
end Go.Proofs.Ythimblhfjfngiaa.PText

namespace Go.Proofs.Ythimblhfjfngiaa.pastSides
open Go.ChangeShapes Go.WideShapes Go.ChangeAt Go.RowKit
open Go.ChangeMaps (open_string shut_string)
theorem own : ownKnob Try.prog.godebug = none := by kernel_rfl
theorem no_laid (P : Program) (w : World) : laidMet P [] w := ⟨[], rfl, List.nodup_nil, fun _ _ h => by cases h⟩
set_option maxRecDepth 100000 in
theorem contract (H : Type) (enc : TypeId × Value → H) (W : World) (base : Nat) (args : Array Value) (ds gs : List (DataW H)) (before : List MemPlace)
    (hval : ∀ (j : Nat) t v, Try.f4.params[j]? = some t → args[j]? = some v → Value.okWide Try.prog W .any base t v)
    (hW : DataW.Whole enc Try.prog Try.f4.params.toList Rows.pastSidesSpec.vars false W args.toList ds gs before) :
    Calls Try.prog 4 args W fun e W' => ∃ v, e = .returned v ∧ Rows.pastSidesSpec.post enc Try.prog Try.f4 false true false false W args v W' := by
  have hW' := hW
  obtain ⟨p, q, hA0, hV, rfl, hfz, hnd⟩ := hW
  have hA : DataW.TrodAll enc Try.prog W 0 (fun _ => true) true Try.f4.params.toList args.toList ds p := hA0
  rw [Try.params4] at hA hval
  obtain ⟨v0, vs0, d0, ds0, p0, q0, hargs, rfl, rfl, h0, r0⟩ := trodAll_cons hA
  obtain ⟨v1, vs1, d1, ds1, p1, q1, rfl, rfl, rfl, h1, r1⟩ := trodAll_cons r0
  obtain ⟨v2, vs2, d2, ds2, p2, q2, rfl, rfl, rfl, h2, r2⟩ := trodAll_cons r1
  obtain ⟨rfl, rfl, rfl⟩ := trodAll_nil r2
  obtain rfl : args = #[v0, v1, v2] := by cases args; simp_all
  obtain ⟨rfl, rfl⟩ := trodVars_none hV
  obtain ⟨a0, rfl, rfl, rfl, y0⟩ := open_string Try.underlying9 (hval 0 9 v0 rfl rfl) h0
  obtain ⟨a1, rfl, rfl, rfl, y1⟩ := open_string Try.underlying9 (hval 1 9 v1 rfl rfl) h1
  obtain ⟨a2, rfl, rfl, rfl, y2⟩ := open_string Try.underlying9 (hval 2 9 v2 rfl rfl) h2
  clear hA0
  obtain ⟨k, hk⟩ := PText.pastSides_eq a0 a1 a2
  refine (PText.smockinglaw25_PastSides.calls k a0 a1 a2 true W hk).mono fun e W' ⟨he, bel⟩ => ?_
  subst he
  exact ⟨_, rfl, _, _, _, [], _, [], hW', trodAll_mk1 (shut_bool Try.underlying4 _), (trodAll_cons_mk (shut_string Try.underlying9 y0) (trodAll_cons_mk (shut_string Try.underlying9 y1) (trodAll_cons_mk (shut_string Try.underlying9 y2) trodAll_mk0))), rfl, bel.frame _, fun h => by cases h⟩
theorem reads (os : Os) {H : Type} (enc : TypeId × Value → H) : ∃ places, DataW.whole enc Try.prog ((World.holding Try.prog os ⟨#[], #[], []⟩).forCall (fun _ _ => 0) ⟨#[], #[.string ⟨#[]⟩, .string ⟨#[]⟩, .string ⟨#[]⟩], []⟩).memory Try.f4.params.toList Rows.pastSidesSpec.vars false #[Value.string ⟨#[]⟩, Value.string ⟨#[]⟩, Value.string ⟨#[]⟩].toList 8 = some ([.lit (.string []), .lit (.string []), .lit (.string [])], [], places) :=
  ⟨[], by kernel_rfl⟩
set_option maxRecDepth 100000 in
theorem lifted (os : Os) (started : os.Started) (H : Type) (enc : TypeId × Value → H) (F : Stop.Interp) :
    ReturnsInHanded {} Try.checked os 4 .any ((OpenSpec.ofChange Rows.pastSidesSpec).preRow enc Try.prog Try.f4 Rows.pastSidesRow.domain false Rows.pastSidesRow.laid) (((OpenSpec.ofChange Rows.pastSidesSpec).at F).post enc Try.prog Try.f4 false true false false) := by
  obtain ⟨places, hx⟩ := reads os enc
  refine returnsInHanded_of_row (C := Try.checked) (s := OpenSpec.ofChange Rows.pastSidesSpec) own started (by kernel_rfl) Try.func4
    (witness_row_atRef (enc := enc) (C := Try.checked) false (World.holding Try.prog os ⟨#[], #[], []⟩) #[.string ⟨#[]⟩, .string ⟨#[]⟩, .string ⟨#[]⟩] rfl (by kernel_rfl) (by kernel_rfl) (by kernel_rfl)
      (OpenSpec.preRow_of_cond 8 hx (by kernel_rfl) (fun k hk => by cases hk) (by kernel_rfl) (no_laid _ _))) ?_
  intro W base args ds gs before hval hW _ _ hsz hL _ _
  exact contract H enc W base args ds gs before hval hW
theorem said : Rows.PastSidesSaid :=
  OpenClaim.holds_of_cond 4 Try.f4 rfl rfl rfl rfl rfl rfl rfl ⟨rfl, rfl, rfl, rfl, rfl⟩ rfl rfl rfl rfl rfl (by kernel_rfl) Try.func4 (by kernel_rfl)
    (of_decide_eq_true (by kernel_rfl)) (by unfold Func.isWrapper; first | (rw [if_pos (by decide +kernel)]; kernel_rfl) | (rw [if_neg (by decide +kernel)]; exact ⟨rfl, rfl⟩))
    (fun os started H enc _ F => by rw [OpenClaim.pre_eq_preRow]; exact lifted os started H enc F)
end Go.Proofs.Ythimblhfjfngiaa.pastSides
namespace Go.Proofs.Ythimblhfjfngiaa
theorem pastSides_said : Rows.PastSidesSaid := pastSides.said
end Go.Proofs.Ythimblhfjfngiaa

namespace Go.Proofs.Ythimblhfjfngiaa
#print axioms pastSides_said
end Go.Proofs.Ythimblhfjfngiaa
