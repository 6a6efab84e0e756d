/- PastKeeps holds: for all steps and every file's name the statement answers true. Part 7 of 20. -/
import Derived.Test.YthimblhfjfngiaaBKeepsF
import Derived.Sort.Grow
import Derived.Lib.SliceRun
import Derived.Lib.SlicesCompact
import Derived.Shelf.SlSortCmp.WholeK
import Derived.Lib.Strings
namespace Go.Proofs.Ythimblhfjfngiaa.PText
open Go.RowKit Go.Proofs.YthimblhfjfngiaaW.PrintWords Go.Proofs.YthimblhfjfngiaaW.PrintLast Go.Proofs.YthimblhfjfngiaaW.PrintMore
attribute [local go_sem] max2_int min2_int max_two min_two max_three min_three max_four min_four
set_option linter.unusedVariables false
set_option linter.unusedSimpArgs false
theorem grow_of_below {w w' : World} (h : Below w.heap.size w w') (hd : w.drawn ≤ w'.drawn) : ∃ q os', w' = Sort.grow (w.drewN q) os' := by
  refine ⟨w'.drawn - w.drawn, w'.heap.extract w.heap.size w'.heap.size, ?_⟩
  obtain ⟨h1, h2, h3, h4, h5⟩ := h
  have e : w'.heap = w.heap ++ w'.heap.extract w.heap.size w'.heap.size := by
    apply Array.ext_getElem?
    intro i
    rcases Nat.lt_or_ge i w.heap.size with hi | hi
    · rw [h5 i hi, Array.getElem?_append_left hi]
    · rw [Array.getElem?_append_right hi, Array.getElem?_extract]
      by_cases hk : i < w'.heap.size
      · rw [if_pos (by omega)]; congr 1; omega
      · rw [if_neg (by omega), Array.getElem?_eq_none (by omega)]
  cases w' with
  | mk heap tape drawn os output =>
    simp only [Sort.grow, World.drewN] at *
    subst h1 h2 h3
    rw [World.mk.injEq]
    exact ⟨e, rfl, by omega, rfl, rfl⟩
section
variable {P : Program} {o : Oper} {ops : Array Oper} {rest : List Oper} {a : Act} {Q : Exit → Act → World → Prop} {Kc : Act → World → Prop}
theorem box_eventD {W : World} (hgd : o.guard = none) {N : Tmp} (_hd : o.dst = some N) {cs : Array Value} {t : TypeId}
    (hrun : (execOp a.eval o).run P W = .ok (.value (.pointer (some ⟨W.heap.size, 0, none⟩))) (W.alloc (.cells cs t (0, 0))))
    (h : ∀ g, g = W.heap.size → ∀ w1, w1.heap[g]? = some (.cells cs t (0, 0)) → Below W.heap.size W w1 → w1.drawn = W.drawn → wpList P ops Q rest (a.put o.dst (.pointer (some ⟨g, 0, none⟩))) w1) : wpList P ops Q (o :: rest) a W :=
  Kd.event_run hgd hrun (h _ rfl _ (blk_new W _) (below_alloc (Below.refl _ _) _) rfl)
theorem Kd.R_lit_stepD {α : Type} (d : Kd α) {w0 W : World} (base e : Nat) (hw : Region.wanted o (yielded ops a.tmps) = true) {N : Tmp} (hd : o.dst = some N) {xs : List α} {inner : List Value} {ok okp : Nat → Prop}
    (hrun : (execOp a.eval o).run P W = .ok (.value (.slice (some ⟨W.heap.size, 0, none⟩) xs.length xs.length)) (W.alloc (.cells inner.toArray e)))
    (hrep : Reps (d.M W base okp) d.sz xs inner) (hok : ∀ k, okp k → ok k) (hfresh : ok W.heap.size) (HB : Below base w0 W) (hbase : base ≤ W.heap.size) (hm : xs.length ≤ 9223372036854775807)
    (h : ∀ v1 w1, d.R e w1 base ok v1 xs → Below base w0 w1 → W.grownBy w1 none → (∃ b, v1.ownBlock = some b ∧ W.heap.size ≤ b) → w1.drawn = W.drawn → Kc (a.put o.dst v1) w1) : if Region.wanted o (yielded ops a.tmps) = true then Oper.wp P o a W Kc Q else Kc (a.put o.dst undef) W := by
  have q := Kd.R_lit_step (Kc := fun a' w' => w'.drawn = W.drawn → Kc a' w') (Q := Q) d base e hw hd hrun hrep hok hfresh HB hbase hm (fun v1 w1 p1 p2 p3 p4 p5 => h v1 w1 p1 p2 p3 p4 p5)
  rw [if_pos hw] at q ⊢
  unfold Oper.wp at q ⊢
  rw [hrun] at q ⊢
  exact q rfl
end
set_option maxHeartbeats 8000000 in
set_option maxRecDepth 100000 in
theorem text_order.grows (k : Nat) (a0_0 : Int) (a0_1 : Int) (a0_2 : ByteArray) (a1_0 : Int) (a1_1 : Int) (a1_2 : ByteArray) (r : Int) (w : World) (h : text_order.f k a0_0 a0_1 a0_2 a1_0 a1_1 a1_2 = some r) :
    Calls Try.prog 66 #[.agg #[.int .i64 a0_0, .int .i64 a0_1, .string a0_2], .agg #[.int .i64 a1_0, .int .i64 a1_1, .string a1_2]] w fun e w' => e = .returned (.int .i64 r) ∧ ∃ q os', w' = Sort.grow (w.drewN q) os' := by
  have hu59 := Try.underlying59
  have HB := Aside0.mk (Below.refl w.heap.size w)
  have HD := Aside0.mk (Nat.le_refl w.drawn)
  have H : ((cmp_Compare_int.f a0_0 a1_0).bind fun t173 => ((cmp_Compare_int.f a0_1 a1_1).bind fun t174 => ((cmp_Compare_string.f a0_2 a1_2).bind fun t175 => ((cmp_Or_int.f k (([t173, t174, t175] : List Int))).bind fun t179 => (some t179))))) = some r := h
  clear h
  replace H := Option.bind_eq_some_iff.mp H
  obtain ⟨t173, A30, H⟩ := H
  replace H : ((cmp_Compare_int.f a0_1 a1_1).bind fun t174 => ((cmp_Compare_string.f a0_2 a1_2).bind fun t175 => ((cmp_Or_int.f k (([t173, t174, t175] : List Int))).bind fun t179 => (some t179)))) = some r := H
  have A3 := Aside0.mk A30
  clear A30
  replace H := Option.bind_eq_some_iff.mp H
  obtain ⟨t174, A40, H⟩ := H
  replace H : ((cmp_Compare_string.f a0_2 a1_2).bind fun t175 => ((cmp_Or_int.f k (([t173, t174, t175] : List Int))).bind fun t179 => (some t179))) = some r := H
  have A4 := Aside0.mk A40
  clear A40
  replace H := Option.bind_eq_some_iff.mp H
  obtain ⟨t175, A50, H⟩ := H
  replace H : ((cmp_Or_int.f k (([t173, t174, t175] : List Int))).bind fun t179 => (some t179)) = some r := H
  have A5 := Aside0.mk A50
  clear A50
  obtain ⟨y176, hy176⟩ : ∃ y_ : List Int, y_ = (([t173, t174, t175] : List Int)) := ⟨_, rfl⟩
  replace H : ((cmp_Or_int.f k y176).bind fun t179 => (some t179)) = some r := by first | (rw [hy176]; with_reducible exact H) | (have H2_ := (Option.bind_some _ _).symm.trans H; rw [hy176]; with_reducible exact H2_) | (have H2_ := (Option.bind_some _ _).symm.trans H; with_reducible exact H2_) | with_reducible exact H | (rw [hy176]; exact H) | exact H
  have Ny176 := Aside0.mk hy176
  clear hy176
  replace H := Option.bind_eq_some_iff.mp H
  obtain ⟨t179, A60, H⟩ := H
  replace H : (some t179) = some r := H
  have A6 := Aside0.mk A60
  clear A60
  obtain rfl := Option.some.inj H
  go_enter Try.func66, Try.ntmps66
  try go_wp2_with (first | ((with_reducible refine gate_dst (N := 2) rfl ?_); refine box_eventD ?hg (N := 2) ?hd (cs := #[.int .i64 a0_0, .int .i64 a0_1, .string a0_2]) (t := 59) ?hr ?_; (case hd => rfl); (case hg => rfl); (case hr => first | (go_simp; done) | (go_simp; rfl)); intro gb171 hg w7 hbox hb hd_; have m_ := Aside0.mk (show w.drawn ≤ w7.drawn from by have h_ := HD.out; first | omega | (simp only [World.drewN, World.drew] at hd_; omega)); clear HD; have HD := m_; clear m_ hd_; have n0_ := Aside0.mk (below_step (by repeat (first | (with_reducible first | exact HB.out | apply below_alloc | apply pw_below_drewN | apply below_drew1) | exact HB.out)) hb); have n1_ := Aside0.mk (hbox); have n2_ := Aside0.mk ((by rw [hg]; exact (below_size (by repeat (first | (with_reducible first | exact HB.out | apply below_alloc | apply pw_below_drewN | apply below_drew1) | exact HB.out))) : w.heap.size ≤ gb171)); have n3_ := Aside0.mk ((by rw [hg]; exact (below_size (by repeat (first | (with_reducible first | exact HB.out | apply below_alloc | apply pw_below_drewN | apply below_drew1) | exact HB.out))) : w.heap.size ≤ gb171)); clear HB; have HB := n0_; have BK171 := n1_; have GW171 := n2_; have GE171 := n3_; clear n0_ n1_ n2_ n3_; clear hb hbox hg) | ((with_reducible refine gate_dst (N := 3) rfl ?_); refine box_eventD ?hg (N := 3) ?hd (cs := #[.int .i64 a1_0, .int .i64 a1_1, .string a1_2]) (t := 59) ?hr ?_; (case hd => rfl); (case hg => rfl); (case hr => first | (go_simp; done) | (go_simp; rfl)); intro gb172 hg w8 hbox hb hd_; have m_ := Aside0.mk (show w.drawn ≤ w8.drawn from by have h_ := HD.out; first | omega | (simp only [World.drewN, World.drew] at hd_; omega)); clear HD; have HD := m_; clear m_ hd_; have n0_ := Aside0.mk (blk_below (g := gb171) (o := .cells #[.int .i64 a0_0, .int .i64 a0_1, .string a0_2] 59 (0, 0)) (by (with_reducible repeat (first | refine blk_drewN ?_ _ | refine blk_drew ?_ | refine blk_alloc ?_ _)); exact BK171.out) hb); have n1_ := Aside0.mk (below_step (by repeat (first | (with_reducible first | exact HB.out | apply below_alloc | apply pw_below_drewN | apply below_drew1 | refine below_set ?_ GE171.out) | exact HB.out)) hb); have n2_ := Aside0.mk (hbox); have n3_ := Aside0.mk ((by rw [hg]; exact (below_size (by repeat (first | (with_reducible first | exact HB.out | apply below_alloc | apply pw_below_drewN | apply below_drew1 | refine below_set ?_ GE171.out) | exact HB.out))) : w.heap.size ≤ gb172)); have n4_ := Aside0.mk ((by rw [hg]; exact (below_size (by repeat (first | (with_reducible first | exact HB.out | apply below_alloc | apply pw_below_drewN | apply below_drew1 | refine below_set ?_ GE171.out) | exact HB.out))) : w.heap.size ≤ gb172)); have n5_ := Aside0.mk ((by rw [hg]; exact Nat.ne_of_lt (blk_lt (g := gb171) (o := .cells #[.int .i64 a0_0, .int .i64 a0_1, .string a0_2] 59 (0, 0)) (by (with_reducible repeat (first | refine blk_drewN ?_ _ | refine blk_drew ?_ | refine blk_alloc ?_ _)); exact BK171.out)) : gb171 ≠ gb172)); have n6_ := Aside0.mk ((by rw [hg]; exact Nat.ne_of_gt (blk_lt (g := gb171) (o := .cells #[.int .i64 a0_0, .int .i64 a0_1, .string a0_2] 59 (0, 0)) (by (with_reducible repeat (first | refine blk_drewN ?_ _ | refine blk_drew ?_ | refine blk_alloc ?_ _)); exact BK171.out)) : gb172 ≠ gb171)); clear BK171; clear HB; have BK171 := n0_; have HB := n1_; have BK172 := n2_; have GW172 := n3_; have GE172 := n4_; have NB171_172 := n5_; have NB172_171 := n6_; clear n0_ n1_ n2_ n3_ n4_ n5_ n6_; clear hb hbox hg))
  have n0_ := Aside0.mk (blk_drew BK171.out)
  have n1_ := Aside0.mk (blk_drew BK172.out)
  have n2_ := Aside0.mk (below_drew1 HB.out)
  clear BK171
  clear BK172
  clear HB
  have BK171 := n0_
  have BK172 := n1_
  have HB := n2_
  clear n0_ n1_ n2_
  refine start_ (n := 18) (S := fun w' => w'.cell? ⟨gb171, 0, none⟩ = some (.int .i64 a0_0) ∧ w'.cell? ⟨gb171, 1, none⟩ = some (.int .i64 a0_1) ∧ w'.cell? ⟨gb171, 2, none⟩ = some (.string a0_2) ∧ w'.cell? ⟨gb172, 0, none⟩ = some (.int .i64 a1_0) ∧ w'.cell? ⟨gb172, 1, none⟩ = some (.int .i64 a1_1) ∧ w'.cell? ⟨gb172, 2, none⟩ = some (.string a1_2)) (ds := []) #[false, false, false, false, false, false, false, false, false, false, false, false, false, false, false, false, false, false] (by kernel_rfl) rfl rfl ⟨(blk_cell BK171.out 0).trans rfl, (blk_cell BK171.out 1).trans rfl, (blk_cell BK171.out 2).trans rfl, (blk_cell BK172.out 0).trans rfl, (blk_cell BK172.out 1).trans rfl, (blk_cell BK172.out 2).trans rfl⟩ (fun hHeld => ?_); refine with_tabW text_order.tab1 text_order.bits1 (fun HT_ HW_ => ?_)
  have m_ := Aside0.mk (show w.drawn ≤ w8.drew.drawn from Nat.le_trans HD.out (Nat.le_succ _))
  clear HD
  have HD := m_
  clear m_
  generalize w8.drew = w9 at BK171 BK172 HB hHeld HD ⊢
  refine pure_ (i := 0) (N := some 5) (v := ?_) (a' := ?_) #[true, false, false, false, false, false, false, false, false, false, false, false, false, false, false, false, false, false] rfl rfl (any_of HT_.out (by kernel_rfl)) (fun _ _ _ h => h) (Or.inl ⟨by rfl, ?_⟩) ?_ ?_
  rotate_left
  · intro w'
    go_simp
    with_reducible rfl
  rotate_left
  · simp only [Act.put, List.setIfInBounds_toArray, List.set_cons_zero, List.set_cons_succ, i64_w, i32_w]
    rfl
  refine pure_ (i := 2) (N := some 7) (v := ?_) (a' := ?_) #[true, false, true, false, false, false, false, false, false, false, false, false, false, false, false, false, false, false] rfl rfl (any_of HT_.out (by kernel_rfl)) (fun _ _ _ h => h) (Or.inl ⟨by rfl, ?_⟩) ?_ ?_
  rotate_left
  · intro w'
    go_simp
    with_reducible rfl
  rotate_left
  · simp only [Act.put, List.setIfInBounds_toArray, List.set_cons_zero, List.set_cons_succ, i64_w, i32_w]
    rfl
  refine pure_ (i := 5) (N := some 10) (v := ?_) (a' := ?_) #[true, false, true, false, false, true, false, false, false, false, false, false, false, false, false, false, false, false] rfl rfl (any_of HT_.out (by kernel_rfl)) (fun _ _ _ h => h) (Or.inl ⟨by rfl, ?_⟩) ?_ ?_
  rotate_left
  · intro w'
    go_simp
    with_reducible rfl
  rotate_left
  · simp only [Act.put, List.setIfInBounds_toArray, List.set_cons_zero, List.set_cons_succ, i64_w, i32_w]
    rfl
  refine pure_ (i := 7) (N := some 12) (v := ?_) (a' := ?_) #[true, false, true, false, false, true, false, true, false, false, false, false, false, false, false, false, false, false] rfl rfl (any_of HT_.out (by kernel_rfl)) (fun _ _ _ h => h) (Or.inl ⟨by rfl, ?_⟩) ?_ ?_
  rotate_left
  · intro w'
    go_simp
    with_reducible rfl
  rotate_left
  · simp only [Act.put, List.setIfInBounds_toArray, List.set_cons_zero, List.set_cons_succ, i64_w, i32_w]
    rfl
  refine pure_ (i := 10) (N := some 15) (v := ?_) (a' := ?_) #[true, false, true, false, false, true, false, true, false, false, true, false, false, false, false, false, false, false] rfl rfl (any_of HT_.out (by kernel_rfl)) (fun _ _ _ h => h) (Or.inl ⟨by rfl, ?_⟩) ?_ ?_
  rotate_left
  · intro w'
    go_simp
    with_reducible rfl
  rotate_left
  · simp only [Act.put, List.setIfInBounds_toArray, List.set_cons_zero, List.set_cons_succ, i64_w, i32_w]
    rfl
  refine pure_ (i := 12) (N := some 17) (v := ?_) (a' := ?_) #[true, false, true, false, false, true, false, true, false, false, true, false, true, false, false, false, false, false] rfl rfl (any_of HT_.out (by kernel_rfl)) (fun _ _ _ h => h) (Or.inl ⟨by rfl, ?_⟩) ?_ ?_
  rotate_left
  · intro w'
    go_simp
    with_reducible rfl
  rotate_left
  · simp only [Act.put, List.setIfInBounds_toArray, List.set_cons_zero, List.set_cons_succ, i64_w, i32_w]
    rfl
  refine take_ (i := 1) (N := some 6) (v := ?_) (a' := ?_) #[true, true, true, false, false, true, false, true, false, false, true, false, true, false, false, false, false, false] rfl rfl (take_ofW HT_.out HW_.out (by kernel_rfl)) (fun _ _ _ h => h) (Or.inl ⟨by rfl, ?_⟩) hHeld ?_ ?_
  rotate_left
  · rintro w' ⟨s0, s1, s2, s3, s4, s5⟩
    go_simp
    with_reducible rfl
  rotate_left
  · simp only [Act.put, List.setIfInBounds_toArray, List.set_cons_zero, List.set_cons_succ, i64_w, i32_w]
    rfl
  refine take_ (i := 3) (N := some 8) (v := ?_) (a' := ?_) #[true, true, true, true, false, true, false, true, false, false, true, false, true, false, false, false, false, false] rfl rfl (take_ofW HT_.out HW_.out (by kernel_rfl)) (fun _ _ _ h => h) (Or.inl ⟨by rfl, ?_⟩) hHeld ?_ ?_
  rotate_left
  · rintro w' ⟨s0, s1, s2, s3, s4, s5⟩
    go_simp
    with_reducible rfl
  rotate_left
  · simp only [Act.put, List.setIfInBounds_toArray, List.set_cons_zero, List.set_cons_succ, i64_w, i32_w]
    rfl
  refine take_ (i := 6) (N := some 11) (v := ?_) (a' := ?_) #[true, true, true, true, false, true, true, true, false, false, true, false, true, false, false, false, false, false] rfl rfl (take_ofW HT_.out HW_.out (by kernel_rfl)) (fun _ _ _ h => h) (Or.inl ⟨by rfl, ?_⟩) hHeld ?_ ?_
  rotate_left
  · rintro w' ⟨s0, s1, s2, s3, s4, s5⟩
    go_simp
    with_reducible rfl
  rotate_left
  · simp only [Act.put, List.setIfInBounds_toArray, List.set_cons_zero, List.set_cons_succ, i64_w, i32_w]
    rfl
  refine take_ (i := 8) (N := some 13) (v := ?_) (a' := ?_) #[true, true, true, true, false, true, true, true, true, false, true, false, true, false, false, false, false, false] rfl rfl (take_ofW HT_.out HW_.out (by kernel_rfl)) (fun _ _ _ h => h) (Or.inl ⟨by rfl, ?_⟩) hHeld ?_ ?_
  rotate_left
  · rintro w' ⟨s0, s1, s2, s3, s4, s5⟩
    go_simp
    with_reducible rfl
  rotate_left
  · simp only [Act.put, List.setIfInBounds_toArray, List.set_cons_zero, List.set_cons_succ, i64_w, i32_w]
    rfl
  refine take_ (i := 11) (N := some 16) (v := ?_) (a' := ?_) #[true, true, true, true, false, true, true, true, true, false, true, true, true, false, false, false, false, false] rfl rfl (take_ofW HT_.out HW_.out (by kernel_rfl)) (fun _ _ _ h => h) (Or.inl ⟨by rfl, ?_⟩) hHeld ?_ ?_
  rotate_left
  · rintro w' ⟨s0, s1, s2, s3, s4, s5⟩
    go_simp
    with_reducible rfl
  rotate_left
  · simp only [Act.put, List.setIfInBounds_toArray, List.set_cons_zero, List.set_cons_succ, i64_w, i32_w]
    rfl
  refine take_ (i := 13) (N := some 18) (v := ?_) (a' := ?_) #[true, true, true, true, false, true, true, true, true, false, true, true, true, true, false, false, false, false] rfl rfl (take_ofW HT_.out HW_.out (by kernel_rfl)) (fun _ _ _ h => h) (Or.inl ⟨by rfl, ?_⟩) hHeld ?_ ?_
  rotate_left
  · rintro w' ⟨s0, s1, s2, s3, s4, s5⟩
    go_simp
    with_reducible rfl
  rotate_left
  · simp only [Act.put, List.setIfInBounds_toArray, List.set_cons_zero, List.set_cons_succ, i64_w, i32_w]
    rfl
  refine one_ (i := 4) (N := some 9) #[true, true, true, true, true, true, true, true, true, false, true, true, true, true, false, false, false, false] rfl rfl (one_of HT_.out (by kernel_rfl)) (by decide) (fun K hK => ?_)
  refine goes_ Try.func85 (by kernel_rfl) rfl #[.int .i64 a0_0, .int .i64 a1_0] (by rfl) rfl rfl (by (try simp only [List.map_toArray, List.map_cons, List.map_nil]); first | done | rfl | (simp only [List.length_drop, List.length_take]; rfl)) ?_
  with_reducible refine (cmp_Compare_int.calls a0_0 a1_0 t173 _ A3.out).mono ?_
  rintro e w' ⟨rfl, ⟨nd, rfl⟩⟩
  refine ⟨_, rfl, ?_⟩
  refine hK.out _ _ ⟨(blk_cell BK171.out 0).trans rfl, (blk_cell BK171.out 1).trans rfl, (blk_cell BK171.out 2).trans rfl, (blk_cell BK172.out 0).trans rfl, (blk_cell BK172.out 1).trans rfl, (blk_cell BK172.out 2).trans rfl⟩ (fun hHeld => ?_)
  clear hK K
  refine norm_ (a' := ?_) ?_ ?_
  rotate_left
  · show Act.put _ (some 9) _ = _
    simp only [Act.put, List.setIfInBounds_toArray, List.set_cons_zero, List.set_cons_succ, i64_w, i32_w]
    rfl
  refine one_ (i := 9) (N := some 14) #[true, true, true, true, true, true, true, true, true, true, true, true, true, true, false, false, false, false] rfl rfl (one_of HT_.out (by kernel_rfl)) (by decide) (fun K hK => ?_)
  refine goes_ Try.func85 (by kernel_rfl) rfl #[.int .i64 a0_1, .int .i64 a1_1] (by rfl) rfl rfl (by (try simp only [List.map_toArray, List.map_cons, List.map_nil]); first | done | rfl | (simp only [List.length_drop, List.length_take]; rfl)) ?_
  with_reducible refine (cmp_Compare_int.calls a0_1 a1_1 t174 _ A4.out).mono ?_
  rintro e w' ⟨rfl, ⟨nd, rfl⟩⟩
  refine ⟨_, rfl, ?_⟩
  refine hK.out _ _ ⟨(blk_cell BK171.out 0).trans rfl, (blk_cell BK171.out 1).trans rfl, (blk_cell BK171.out 2).trans rfl, (blk_cell BK172.out 0).trans rfl, (blk_cell BK172.out 1).trans rfl, (blk_cell BK172.out 2).trans rfl⟩ (fun hHeld => ?_)
  clear hK K
  refine norm_ (a' := ?_) ?_ ?_
  rotate_left
  · show Act.put _ (some 14) _ = _
    simp only [Act.put, List.setIfInBounds_toArray, List.set_cons_zero, List.set_cons_succ, i64_w, i32_w]
    rfl
  refine one_ (i := 14) (N := some 19) #[true, true, true, true, true, true, true, true, true, true, true, true, true, true, true, false, false, false] rfl rfl (one_of HT_.out (by kernel_rfl)) (by decide) (fun K hK => ?_)
  refine goes_ Try.func40 (by kernel_rfl) rfl #[.string a0_2, .string a1_2] (by rfl) rfl rfl (by (try simp only [List.map_toArray, List.map_cons, List.map_nil]); first | done | rfl | (simp only [List.length_drop, List.length_take]; rfl)) ?_
  with_reducible refine (cmp_Compare_string.calls a0_2 a1_2 t175 _ A5.out).mono ?_
  rintro e w' ⟨rfl, ⟨nd, rfl⟩⟩
  refine ⟨_, rfl, ?_⟩
  refine hK.out _ _ ⟨(blk_cell BK171.out 0).trans rfl, (blk_cell BK171.out 1).trans rfl, (blk_cell BK171.out 2).trans rfl, (blk_cell BK172.out 0).trans rfl, (blk_cell BK172.out 1).trans rfl, (blk_cell BK172.out 2).trans rfl⟩ (fun hHeld => ?_)
  clear hK K
  refine norm_ (a' := ?_) ?_ ?_
  rotate_left
  · show Act.put _ (some 19) _ = _
    simp only [Act.put, List.setIfInBounds_toArray, List.set_cons_zero, List.set_cons_succ, i64_w, i32_w]
    rfl
  refine one_ (i := 15) (N := some 20) #[true, true, true, true, true, true, true, true, true, true, true, true, true, true, true, true, false, false] rfl rfl (one_of HT_.out (by kernel_rfl)) (by decide) (fun K hK => ?_)
  refine Kd.R_lit_stepD (Kd.int .i64) _ 3 ?hg (N := 20) ?hd (xs := ([t173, t174, t175] : List Int)) (inner := [.int .i64 t173, .int .i64 t174, .int .i64 t175]) (ok := fun _ => True) (okp := fun _ => True) ?hr ?hp (fun _ hk => hk) trivial (Below.refl _ _) (Nat.le_refl _) (by simp) ?_; (case hd => rfl); (case hg => rfl); (case hr => first | (go_simp; done) | (go_simp; rfl)); (case hp => exact (Reps.one (show Kd.M (Kd.int .i64) _ _ _ t173 [.int .i64 t173] from rfl) (Reps.one (show Kd.M (Kd.int .i64) _ _ _ t174 [.int .i64 t174] from rfl) (Reps.one (show Kd.M (Kd.int .i64) _ _ _ t175 [.int .i64 t175] from rfl) (Reps.none _ _)))))
  intro v177 w10 ho11 hb hg_ hnew_ hd_
  have m_ := Aside0.mk (show w.drawn ≤ w10.drawn from by have h_ := HD.out; rw [hd_]; first | omega | (simp only [World.drewN]; omega))
  clear HD
  have HD := m_
  clear m_ hd_
  clear hg_ hnew_
  (first | rw [← Ny176.out] at ho11 | (simp only [Int.reduceToNat] at ho11; rw [← Ny176.out] at ho11))
  have n0_ := Aside0.mk (Kd.R_lower ho11 (below_size (by repeat (first | (with_reducible first | exact HB.out | apply below_alloc | apply pw_below_drewN | apply below_drew1 | refine below_set ?_ GE171.out | refine below_set ?_ GE172.out) | exact HB.out))))
  have n1_ := Aside0.mk (blk_below (g := gb171) (o := .cells #[.int .i64 a0_0, .int .i64 a0_1, .string a0_2] 59 (0, 0)) (by (with_reducible repeat (first | refine blk_drewN ?_ _ | refine blk_drew ?_ | refine blk_alloc ?_ _)); exact BK171.out) hb)
  have n2_ := Aside0.mk (blk_below (g := gb172) (o := .cells #[.int .i64 a1_0, .int .i64 a1_1, .string a1_2] 59 (0, 0)) (by (with_reducible repeat (first | refine blk_drewN ?_ _ | refine blk_drew ?_ | refine blk_alloc ?_ _)); exact BK172.out) hb)
  have n3_ := Aside0.mk (below_step (by repeat (first | (with_reducible first | exact HB.out | apply below_alloc | apply pw_below_drewN | apply below_drew1 | refine below_set ?_ GE171.out | refine below_set ?_ GE172.out) | exact HB.out)) hb)
  clear BK171
  clear BK172
  clear HB
  have HO178 := n0_
  have BK171 := n1_
  have BK172 := n2_
  have HB := n3_
  clear n0_ n1_ n2_ n3_
  clear hb ho11
  obtain ⟨Ao12, co12, eo12⟩ := Kd.R_slice HO178.out
  (first | subst eo12 | (injection eo12 with f1_ f2_ f3_; have f4_ := f1_.symm; have f5_ := f3_.symm; clear f1_ f2_ f3_; subst f4_; subst f5_))
  refine hK.out _ _ ⟨(blk_cell BK171.out 0).trans rfl, (blk_cell BK171.out 1).trans rfl, (blk_cell BK171.out 2).trans rfl, (blk_cell BK172.out 0).trans rfl, (blk_cell BK172.out 1).trans rfl, (blk_cell BK172.out 2).trans rfl⟩ (fun hHeld => ?_)
  clear hK K
  refine norm_ (a' := ?_) ?_ ?_
  rotate_left
  · show Act.put _ (some 20) _ = _
    simp only [Act.put, List.setIfInBounds_toArray, List.set_cons_zero, List.set_cons_succ, i64_w, i32_w]
    rfl
  refine one_ (i := 16) (N := some 21) #[true, true, true, true, true, true, true, true, true, true, true, true, true, true, true, true, true, false] rfl rfl (one_of HT_.out (by kernel_rfl)) (by decide) (fun K hK => ?_)
  refine goes_ Try.func84 (by kernel_rfl) rfl #[.slice Ao12 y176.length co12] (by rfl) rfl rfl (by (try simp only [List.map_toArray, List.map_cons, List.map_nil]); first | done | rfl | (simp only [List.length_drop, List.length_take]; rfl)) ?_
  with_reducible refine (cmp_Or_int.calls k _ _ y176 t179 _ ?side1 ?side2 A6.out).mono ?_
  (case side1 => repeat (first | exact (Kd.R_reads' HO178.out).2.2 | (with_reducible refine Kd.C_alloc ?_ _) | (with_reducible refine Kd.C_drewN ?_ _) | (with_reducible refine Kd.C_drew ?_)))
  (case side2 => exact (Kd.R_reads' HO178.out).2.1)
  rintro e w' ⟨rfl, ⟨nd, rfl⟩⟩
  refine ⟨_, rfl, ?_⟩
  refine hK.out _ _ ⟨(blk_cell BK171.out 0).trans rfl, (blk_cell BK171.out 1).trans rfl, (blk_cell BK171.out 2).trans rfl, (blk_cell BK172.out 0).trans rfl, (blk_cell BK172.out 1).trans rfl, (blk_cell BK172.out 2).trans rfl⟩ (fun hHeld => ?_)
  clear hK K
  refine norm_ (a' := ?_) ?_ ?_
  rotate_left
  · show Act.put _ (some 21) _ = _
    simp only [Act.put, List.setIfInBounds_toArray, List.set_cons_zero, List.set_cons_succ, i64_w, i32_w]
    rfl
  refine pure_ (i := 17) (N := some 4) (v := ?_) (a' := ?_) #[true, true, true, true, true, true, true, true, true, true, true, true, true, true, true, true, true, true] rfl rfl (any_of HT_.out (by kernel_rfl)) (fun _ _ _ h => h) (Or.inl ⟨by rfl, ?_⟩) ?_ ?_
  rotate_left
  · intro w'
    go_simp
    with_reducible rfl
  rotate_left
  · simp only [Act.put, List.setIfInBounds_toArray, List.set_cons_zero, List.set_cons_succ, i64_w, i32_w]
    rfl
  refine done_ (done_of HT_.out (by kernel_rfl)) ?_
  try go_wp2
  go_ret
  exact ⟨by first | rfl | (simp [errW_none, errW_some] <;> rfl) | (simp [*, errW_none, errW_some] <;> rfl), grow_of_below (by repeat (first | (with_reducible first | exact HB.out | apply below_alloc | apply pw_below_drewN | apply below_drew1 | refine below_set ?_ GE171.out | refine below_set ?_ GE172.out) | exact HB.out)) (by have h_ := HD.out; first | omega | (simp only [World.drewN]; omega))⟩
end Go.Proofs.Ythimblhfjfngiaa.PText

namespace Go.Proofs.Ythimblhfjfngiaa.PText
open Go.RowKit Go.Proofs.YthimblhfjfngiaaW.PrintWords Go.Proofs.YthimblhfjfngiaaW.PrintLast Go.Proofs.YthimblhfjfngiaaW.PrintMore
set_option linter.unusedVariables false
set_option linter.unusedSimpArgs false
theorem C_none34 {w : World} {l : List S59} (h : Kd.C k59 w none l.length l) : l = [] := by
  cases l with
  | nil => rfl
  | cons x r =>
    obtain ⟨ad, _, q, _⟩ := Kd.C_get h z59 0 (Int.le_refl _) (by rw [List.length_cons]; omega)
    cases q
set_option maxHeartbeats 8000000 in
set_option maxRecDepth 100000 in
theorem clone_calls (A0 : Option Addr) (c0 : Nat) (l0 : List S59) (w : World) (hr0 : Kd.C k59 w A0 l0.length l0) (hl : l0.length ≤ 10000) :
    Calls Try.prog 64 #[.slice A0 l0.length c0] w fun e w' => ∃ v0_ : Value, e = .returned v0_ ∧ Kd.R k59 59 w' w.heap.size (fun _ => True) v0_ l0 ∧ Below w.heap.size w w' := by
  have hnil : ∀ w', Sem.run Try.prog (binOp .eql 55 (.slice A0 l0.length c0) (.slice none 0 0)) w' = .ok (.bool A0.isNone) w' := fun w' => Go.Lib.run_eql_slice_nil w' 55 59 A0 l0.length c0 0 0 Try.underlying55
  have HR1 := Aside0.mk hr0
  clear hr0
  cases hA : A0.isNone with
  | true =>
    obtain rfl : A0 = none := by cases A0 with | none => rfl | some a => cases hA
    obtain rfl := C_none34 HR1.out
    rw [hA] at hnil
    simp only [List.length_nil] at hnil ⊢
    go_enter Try.func64, Try.ntmps64
    go_wp2
    go_ret
    exact ⟨_, rfl, Kd.R_nil _ _ _ _ _, Below.refl _ _⟩
  | false =>
    rw [hA] at hnil
    have HB := Aside0.mk (Below.refl w.heap.size w)
    obtain ⟨y467, hy467⟩ : ∃ y_ : List (S59), y_ = (([] : List (S59))) := ⟨_, rfl⟩
    have Ny467 := Aside0.mk hy467
    have LMc8 := Aside0.mk (show y467.length + l0.length < 4398046511104 by rw [hy467]; simp; omega)
    clear hy467
    obtain ⟨y470, hy470⟩ : ∃ y_ : List (S59), y_ = (y467 ++ l0) := ⟨_, rfl⟩
    have Ny470 := Aside0.mk hy470
    clear hy470
    go_enter Try.func64, Try.ntmps64
    go_wp2_with (first | ((with_reducible refine gate_dst (N := 5) rfl ?_); refine Kd.R_lit k59 _ 59 ?hg (N := 5) ?hd (xs := ([] : List (S59))) (inner := []) (ok := fun _ => True) (okp := fun _ => True) ?hr ?hp (fun _ hk => hk) trivial (Below.refl _ _) (Nat.le_refl _) (by simp) ?_; (case hd => rfl); (case hg => rfl); (case hr => first | (go_simp; done) | (go_simp; rfl)); (case hp => exact (Reps.none _ _)); intro v468 w13 ho14 hb hg_ hnew_; clear hg_ hnew_; (first | rw [← Ny467.out] at ho14 | (simp only [Int.reduceToNat] at ho14; rw [← Ny467.out] at ho14)); have n0_ := Aside0.mk (Kd.R_lower ho14 (below_size (by repeat (first | (with_reducible first | exact HB.out | apply below_alloc | apply pw_below_drewN | apply below_drew1) | exact HB.out)))); have n1_ := Aside0.mk (below_step (by repeat (first | (with_reducible first | exact HB.out | apply below_alloc | apply pw_below_drewN | apply below_drew1) | exact HB.out)) hb); clear HB; have HO469 := n0_; have HB := n1_; clear n0_ n1_; clear hb ho14) | ((with_reducible refine gate_builtin (b := .append) (xs := #[.tmp 5, .tmp 6]) rfl ?_); at_builtin; refine Kd.R_append_rows k59 (w0 := w) w.heap.size rfl (.tmp 5) (.tmp 6) 55 59 (.agg #[(.int .i64 0), (.int .i64 0), (.string ⟨#[]⟩)]) 32 rfl Try.underlying55 info59 rfl (by decide) (by omega) v468 y467 l0 _ _ _ (fun _ => True) (fun _ => False) rfl rfl ?aO ?aR (fun _ _ h => h) (fun _ h => h.elim) ?aF ?aB ?aS ?aL ?_; (case aR => repeat (first | exact (Kd.C_below HR1.out HB.out) | (with_reducible refine Kd.C_alloc ?_ _) | (with_reducible refine Kd.C_drewN ?_ _) | (with_reducible refine Kd.C_drew ?_))); (case aB => exact (by repeat (first | (with_reducible first | exact HB.out | apply below_alloc | apply pw_below_drewN | apply below_drew1) | exact HB.out))); (case aF => exact (fun _ _ => trivial)); (case aO => exact (by (with_reducible repeat (first | apply Kd.R_alloc | apply Kd.R_drewN | apply Kd.R_drew)); exact HO469.out)); (case aS => exact (below_size (by repeat (first | (with_reducible first | exact HB.out | apply below_alloc | apply pw_below_drewN | apply below_drew1) | exact HB.out)))); (case aL => have := LMc8.out; omega); intro v471 w15 ho hb hg hat; rw [← Ny470.out] at ho; have n0_ := Aside0.mk (hb); have n1_ := Aside0.mk (ho); clear HB; clear HO469; have HB := n0_; have HO472 := n1_; clear n0_ n1_; clear ho hb hg hat))
    go_ret
    have e : y470 = l0 := by rw [Ny470.out, Ny467.out]; rfl
    rw [e] at HO472
    exact ⟨_, rfl, HO472.out, HB.out⟩
end Go.Proofs.Ythimblhfjfngiaa.PText

namespace Go.Proofs.Ythimblhfjfngiaa.Tx
open Go.Lib
section
variable {α : Type} [DecidableEq α] [Inhabited α] {lt : α → α → Bool}
theorem compact_mem (d : Array α) (m : Nat) (a : α) : a ∈ compactUpTo d m ↔ ∃ j, j < m ∧ keeps d j = true ∧ d[j]! = a := by
  unfold compactUpTo
  simp only [List.mem_map, List.mem_filter, List.mem_range]
  constructor
  · rintro ⟨j, ⟨h1, h2⟩, h3⟩; exact ⟨j, h1, h2, h3⟩
  · rintro ⟨j, h1, h2, h3⟩; exact ⟨j, ⟨h1, h2⟩, h3⟩
theorem compact_kept (d : Array α) : ∀ j, ∃ i, i ≤ j ∧ keeps d i = true ∧ d[i]! = d[j]! := by
  intro j
  induction j with
  | zero => exact ⟨0, Nat.le_refl _, by simp [keeps], rfl⟩
  | succ j ih =>
    by_cases h : d[j + 1]! = d[j]!
    · obtain ⟨i, h1, h2, h3⟩ := ih
      exact ⟨i, by omega, h2, by rw [h, h3]⟩
    · exact ⟨j + 1, Nat.le_refl _, keeps_pos (by simpa using h), rfl⟩
theorem compact_asc (h : Lin lt) (d : Array α) (hs : ∀ i j, i < j → j < d.size → lt d[j]! d[i]! = false) : ∀ m, m ≤ d.size → Asc lt (compactUpTo d m)
  | 0, _ => by unfold compactUpTo; exact List.Pairwise.nil
  | m + 1, hm => by
    rw [compactUpTo_succ]
    have ih := compact_asc h d hs m (by omega)
    by_cases hk : keeps d m = true
    · rw [if_pos hk]
      refine asc_append.2 ⟨ih, List.pairwise_singleton _ _, fun a ha b hb => ?_⟩
      rw [List.mem_singleton.1 hb]
      obtain ⟨j, hj, _, rfl⟩ := (compact_mem d m a).1 ha
      have hne : d[m]! ≠ d[m - 1]! := by
        intro e
        rw [keeps_neg (by omega) e] at hk; cases hk
      cases q : lt d[j]! d[m]! with
      | true => rfl
      | false =>
        have e := h.tri q (hs j m hj (by omega))
        exfalso
        rcases Nat.lt_or_ge j (m - 1) with c | c
        · have h1 := hs j (m - 1) c (by omega)
          rw [e] at h1
          exact hne (h.tri (hs (m - 1) m (by omega) (by omega)) h1)
        · have : j = m - 1 := by omega
          subst this
          exact hne e.symm
    · rw [if_neg hk, List.append_nil]; exact ih
theorem compact_ord (h : Lin lt) (d : Array α) (l : List α) (hs : ∀ i j, i < j → j < d.size → lt d[j]! d[i]! = false) (hm : ∀ a, a ∈ d.toList ↔ a ∈ l) : compactUpTo d d.size = ord lt l := by
  refine ord_of_asc h (compact_asc h d hs d.size (Nat.le_refl _)) fun a => ?_
  rw [← hm, compact_mem]
  constructor
  · rintro ⟨j, h1, _, rfl⟩
    rw [getElem!_pos d j h1]
    exact Array.mem_toList_iff.2 (Array.getElem_mem h1)
  · intro ha
    obtain ⟨j, h1, rfl⟩ := List.getElem_of_mem ha
    obtain ⟨i, h2, h3, h4⟩ := compact_kept d j
    have h1' : j < d.size := by simpa using h1
    refine ⟨i, by omega, h3, ?_⟩
    rw [h4, getElem!_pos d j h1', Array.getElem_toList]
end
end Go.Proofs.Ythimblhfjfngiaa.Tx

namespace Go.Proofs.Ythimblhfjfngiaa.PText
open Go.RowKit Go.Lib Go.Sort Go.Proofs.YthimblhfjfngiaaW.PrintWords Go.Proofs.YthimblhfjfngiaaW.PrintLast Go.Proofs.YthimblhfjfngiaaW.PrintMore
set_option linter.unusedVariables false
set_option linter.unusedSimpArgs false
instance : Inhabited S59 := ⟨z59⟩
theorem S59.ext' {a b : S59} (h0 : a.f0 = b.f0) (h1 : a.f1 = b.f1) (h2 : a.f2 = b.f2) : a = b := by cases a; cases b; simp_all
instance : DecidableEq S59 := fun a b => decidable_of_iff (a.f0 = b.f0 ∧ a.f1 = b.f1 ∧ a.f2 = b.f2) ⟨fun h => S59.ext' h.1 h.2.1 h.2.2, fun h => by subst h; exact ⟨rfl, rfl, rfl⟩⟩
def enc34 (x : S59) : List Value := [.int .i64 x.f0, .int .i64 x.f1, .string x.f2]
theorem enc34_len (x : S59) : (enc34 x).length = 3 := rfl
theorem enc34_one (x : S59) : ∀ v ∈ enc34 x, v.oneCell' = true := by
  intro v hv
  simp [enc34] at hv
  rcases hv with rfl | rfl | rfl <;> rfl
theorem holds34 {w : World} {blk : Nat} {d : Array S59} (h : HoldsK enc34 3 w blk 0 d) {i : Nat} (hi : i < d.size) :
    w.cell? ⟨blk, i * 3, none⟩ = some (.int .i64 d[i]!.f0) ∧ w.cell? ⟨blk, i * 3 + 1, none⟩ = some (.int .i64 d[i]!.f1) ∧ w.cell? ⟨blk, i * 3 + 2, none⟩ = some (.string d[i]!.f2) := by
  have h0 := (h.cell hi (c := 0) (by omega)).1
  have h1 := (h.cell hi (c := 1) (by omega)).1
  have h2 := (h.cell hi (c := 2) (by omega)).1
  simp only [Nat.zero_add, Nat.add_zero] at h0 h1 h2
  exact ⟨h0, h1, h2⟩
theorem frozen34 {w : World} {blk : Nat} {d : Array S59} (h : HoldsK enc34 3 w blk 0 d) {i : Nat} (hi : i < d.size) :
    w.frozen? ⟨blk, i * 3, none⟩ = false ∧ w.frozen? ⟨blk, i * 3 + 1, none⟩ = false ∧ w.frozen? ⟨blk, i * 3 + 2, none⟩ = false := by
  have h0 := (h.cell hi (c := 0) (by omega)).2
  have h1 := (h.cell hi (c := 1) (by omega)).2
  have h2 := (h.cell hi (c := 2) (by omega)).2
  simp only [Nat.zero_add, Nat.add_zero] at h0 h1 h2
  exact ⟨h0, h1, h2⟩
theorem eqb34 (x y : S59) : (x.f0 == y.f0 && (x.f1 == y.f1 && (x.f2.toList == y.f2.toList))) = decide (x = y) := by
  rw [Bool.eq_iff_iff]
  simp only [Bool.and_eq_true, beq_iff_eq, decide_eq_true_eq]
  constructor
  · rintro ⟨h0, h1, h2⟩
    refine S59.ext' h0 h1 ?_
    rw [Lib.toList_data, Lib.toList_data] at h2
    exact ByteArray.ext (Array.toList_inj.1 h2)
  · intro h; subst h; exact ⟨rfl, rfl, rfl⟩
theorem eq34 (x y : S59) (w : World) : Sem.run Try.prog (binOp .eql 59 (.agg #[.int .i64 x.f0, .int .i64 x.f1, .string x.f2]) (.agg #[.int .i64 y.f0, .int .i64 y.f1, .string y.f2])) w = .ok (.bool (decide (x = y))) w := by
  rw [← eqb34]
  simp [binOp, Op.equal, Op.maxDepth, eqA59]
theorem ne34 (x y : S59) (w : World) : Sem.run Try.prog (binOp .neq 59 (.agg #[.int .i64 x.f0, .int .i64 x.f1, .string x.f2]) (.agg #[.int .i64 y.f0, .int .i64 y.f1, .string y.f2])) w = .ok (.bool (!decide (x = y))) w := by
  rw [← eqb34]
  simp [binOp, Op.equal, Op.maxDepth, eqA59]
theorem gd34 (op : BinOp) (a b : Operand) (xs ys : Array Value) (w : World) : Sem.run Try.prog (eqGuard op 59 a b (.agg xs) (.agg ys)) w = .ok () w := run_eqGuard_agg w op 59 a b xs ys (by kernel_rfl)
theorem setMany34 (dk : Array S59) (kk : Nat) (u : S59) (hk : kk < dk.size) : setMany (flatK enc34 3 dk) (kk * 3) (enc34 u) = flatK enc34 3 (dk.setIfInBounds kk u) := by
  refine ext_get! (by simp) fun t ht => ?_
  have ht' : t < dk.size * 3 := by simpa using ht
  rw [get_setMany _ _ _ t (by simpa using ht'), get_flatK _ _ _ t ht', get_flatK _ _ _ t (by simpa using ht')]
  have hb := blk_iff 3 kk t (by omega)
  rw [show (enc34 u).length = 3 from rfl]
  by_cases h : kk * 3 ≤ t ∧ t < kk * 3 + 3
  · rw [if_pos h, hb.1 h, getElem!_set_same dk kk u hk]
    congr 1
    have := hb.1 h; omega
  · rw [if_neg h, getElem!_set_other dk kk (t / 3) u fun e => h (hb.2 e)]
theorem store34 {w wr : World} {q n blk kk : Nat} {dk : Array S59} (u : S59) (hwr : wr = putRowK enc34 3 (Sort.ahead w q) blk 0 dk) (hk : kk < dk.size) :
    (((wr.drewN n).setCell ⟨blk, kk * 3, none⟩ (.int .i64 u.f0)).setCell ⟨blk, kk * 3 + 1, none⟩ (.int .i64 u.f1)).setCell ⟨blk, kk * 3 + 2, none⟩ (.string u.f2) = putRowK enc34 3 (Sort.ahead w (q + n)) blk 0 (dk.setIfInBounds kk u) := by
  subst hwr
  rw [putRowK_drewN]
  have h := setCells_putRow (Sort.ahead w (q + n)) blk 0 (enc34 u) (kk * 3) (flatK enc34 3 dk) (by rw [size_flatK, show (enc34 u).length = 3 from rfl]; omega)
  rw [setMany34 dk kk u hk, Nat.zero_add] at h
  exact h
theorem clear34 (W : World) (ty b o n c : Nat) (hn : 0 < n) (hc : ∀ j, j < n * 3 → (W.cell? ⟨b, o + j, none⟩).isSome = true) (hf : ∀ j, j < n * 3 → W.frozen? ⟨b, o + j, none⟩ = false) :
    ∃ zs : List Value, zs.length = n * 3 ∧ (Builtin.clear_ #[55] ty #[.slice (some ⟨b, o, none⟩) n c]).run Try.prog W = .ok (.tuple #[]) (W.setCells b o zs) := by
  refine ⟨(Builtin.zeroCells #[.int .i64 0, .int .i64 0, .string ⟨#[]⟩] n).toList, by simp [Builtin.zeroCells], ?_⟩
  obtain ⟨i0, hi, hz0, hz1, hz2⟩ := info_parts info59
  have hv : ∀ w, (zeroValue 59).run Try.prog w = .ok (.agg #[.int .i64 0, .int .i64 0, .string ⟨#[]⟩]) w := fun w => by simp [zeroValue, typeInfo, hi, hz0]
  have hlen : (Builtin.zeroCells #[.int .i64 0, .int .i64 0, .string ⟨#[]⟩] n).toList.length = n * 3 := by simp [Builtin.zeroCells]
  have hst := run_storeCells_cells (P := Try.prog) b o (Builtin.zeroCells #[.int .i64 0, .int .i64 0, .string ⟨#[]⟩] n).toList 0 W (by rw [hlen]; simpa using hc) (by rw [hlen]; simpa using hf) (by
    intro v hv'
    simp only [Builtin.zeroCells, Array.toList_map, List.mem_map] at hv'
    obtain ⟨a, _, rfl⟩ := hv'
    have : a % 3 = 0 ∨ a % 3 = 1 ∨ a % 3 = 2 := by omega
    rcases this with h | h | h <;> simp [h] <;> rfl)
  simp only [Nat.add_zero] at hst
  obtain ⟨m, rfl⟩ : ∃ m, n = m + 1 := ⟨n - 1, by omega⟩
  simp [Builtin.clear_, run_underlying Try.underlying55, hv, hst, Value.cells]
set_option maxHeartbeats 4000000 in
set_option maxRecDepth 1000000 in
theorem compact_calls (blk cap : Nat) (d : Array S59) (w : World) (hH : HoldsK enc34 3 w blk 0 d) (hsz : d.size ≤ 100000) (hcap : d.size ≤ cap) :
    Calls Try.prog 67 #[.slice (some ⟨blk, 0, none⟩) d.size cap] w fun e w' => e = .returned (.slice (some ⟨blk, 0, none⟩) (compactUpTo d d.size).length cap) ∧
      ∃ q F, F.size = d.size * 3 ∧ (∀ t, t < (compactUpTo d d.size).length * 3 → F[t]! = (flatK enc34 3 (compactUpTo d d.size).toArray)[t]!) ∧ w' = putRow id (Sort.ahead w q) blk 0 F := by
  have hu34 := Try.underlying59
  have same : ∀ q, (∀ j, j < d.size → keeps d j = true) → (compactUpTo d d.size).length = d.size ∧ ∃ F : Array Value, F.size = d.size * 3 ∧ (∀ t, t < (compactUpTo d d.size).length * 3 → F[t]! = (flatK enc34 3 (compactUpTo d d.size).toArray)[t]!) ∧ w.drewN q = putRow id (Sort.ahead w q) blk 0 F := by
    intro q hall
    have e : compactUpTo d d.size = d.toList := by rw [compactUpTo_all d _ hall, range_map_get]
    rw [e]
    refine ⟨by simp, flatK enc34 3 d, size_flatK _ _ _, fun t _ => ?_, ?_⟩
    · rw [Array.toArray_toList]
    · exact (putRowK_self enc34 3 (Sort.ahead w q) blk 0 d (holdsK_ahead enc34 3 w q blk 0 d hH)).symm
  have HS := Aside0.mk same
  clear same
  by_cases h2 : d.size < 2
  · have HH := Aside0.mk hH
    clear hH
    go_enter Try.func67, Try.ntmps67
    go_wp2
    go_ret
    obtain ⟨e1, F, e2, e3, e4⟩ := HS.out 0 (fun j hj => keeps_lt_one d j (by omega))
    exact ⟨by rw [e1]; rfl, 0, F, e2, e3, e4⟩
  · go_enter Try.func67, Try.ntmps67
    go_wp2
    go_loopg [3] d.size (fun g s3 wr => ∃ k q : Nat, 1 ≤ k ∧ k ≤ d.size ∧ d.size - k ≤ g ∧ s3 = .int .i64 k ∧ wr = w.drewN q ∧ ∀ j, j < k → keeps d j = true)
    case atStart => exact ⟨1, 0, Nat.le_refl _, by omega, by omega, rfl, rfl, keeps_lt_one d⟩
    case round =>
      obtain ⟨k, q, hk1, hk, hg, rfl, rfl, hall⟩ := hrel
      by_cases hlt : k < d.size
      · obtain ⟨c0, c1, c2⟩ := holds34 hH hlt
        obtain ⟨i, hi⟩ : ∃ i, i = k - 1 := ⟨_, rfl⟩
        have hid : i < d.size := by omega
        obtain ⟨p0, p1, p2⟩ := holds34 hH (i := i) hid
        have A := Aside0.mk hall
        have HH := Aside0.mk hH
        clear hall hH
        generalize hx : d[k]! = x at c0 c1 c2
        generalize hy : d[i]! = y at p0 p1 p2
        have B := Aside0.mk (show d[k]! = x ∧ d[i]! = y from ⟨hx, hy⟩)
        clear hx hy
        generalize hwq : w.drewN q = wq
        have D : ∀ a, wq.cell? a = w.cell? a := fun a => by rw [← hwq]; rfl
        rw [← D] at c0 c1 c2 p0 p1 p2
        clear D
        have HW := Aside0.mk hwq
        clear hwq
        have hw : IntKind.i64.wrap ((k : Int) - 1) = (i : Int) := by
          have e : (k : Int) - 1 = (i : Int) := by omega
          rw [e]; simp [IntKind.wrap, IntKind.bits, IntKind.signed]; omega
        have HI := Aside0.mk hi
        clear hi
        have heq := eq34 x y
        have hgd := gd34
        by_cases hdup : x = y
        · rw [decide_eq_true hdup] at heq
          have HD := Aside0.mk hdup
          clear hdup
          go_wp2_with fail
          go_quiet (fail)
          go_wp2
          clear c0 c1 c2 p0 p1 p2 heq hw
          go_loopg [3, 5] d.size (fun g s3 s5 wr => ∃ (kk k2 q2 : Nat) (dk : Array S59), s3 = .int .i64 kk ∧ s5 = .int .i64 k2 ∧ 1 ≤ k2 ∧ k + k2 ≤ d.size ∧ d.size - (k + k2) ≤ g ∧ wr = putRowK enc34 3 (Sort.ahead w q2) blk 0 dk ∧ CompInv d (k + k2) kk dk)
          case atStart =>
            refine ⟨k, 1, q + nq, d, rfl, rfl, Nat.le_refl _, by omega, by omega, ?_, CompInv.start A.out (keeps_neg (by omega) (by rw [B.out.1, ← HI.out, B.out.2, HD.out]))⟩
            rw [← HW.out, World.drewN_drewN]
            exact (putRowK_self enc34 3 (Sort.ahead w (q + nq)) blk 0 d (holdsK_ahead enc34 3 w (q + nq) blk 0 d HH.out)).symm
          case round =>
            obtain ⟨kk, k2, q2, dk, rfl, rfl, h1, hle, hg2, hwr, hI⟩ := hrel
            have hkk := hI.lt
            have hds := hI.size
            have hHk : HoldsK enc34 3 wr blk 0 dk := by rw [hwr]; exact holdsK_putRowK enc34 3 _ blk 0 d dk (holdsK_ahead enc34 3 w q2 blk 0 d HH.out) hds
            have W2 := Aside0.mk hwr
            have I2 := Aside0.mk hI
            have H2 := Aside0.mk hHk
            clear hwr
            by_cases hlt2 : k + k2 < d.size
            · obtain ⟨m0, m1, m2⟩ := holds34 hHk (i := k + k2) (by omega)
              obtain ⟨i2, hi2⟩ : ∃ i, i = k2 - 1 := ⟨_, rfl⟩
              have hid2 : k + i2 < d.size := by omega
              have hid3 : i2 < d.size - k := by omega
              obtain ⟨n0, n1, n2⟩ := holds34 hHk (i := k + i2) (by omega)
              obtain ⟨o0, o1, o2⟩ := holds34 hHk (i := kk) (by omega)
              obtain ⟨f0, f1, f2⟩ := frozen34 hHk (i := kk) (by omega)
              rw [hI.high (k + k2) (by omega), Nat.add_mul] at m0 m1 m2
              rw [hI.high (k + i2) (by omega), Nat.add_mul] at n0 n1 n2
              clear hHk hI
              generalize hu : d[k + k2]! = u at m0 m1 m2
              generalize hv : d[k + i2]! = v at n0 n1 n2
              generalize dk[kk]! = old at o0 o1 o2
              have C := Aside0.mk (show d[k + k2]! = u ∧ d[k + i2]! = v from ⟨hu, hv⟩)
              clear hu hv
              have hw2 : IntKind.i64.wrap ((k2 : Int) - 1) = (i2 : Int) := by
                have e : (k2 : Int) - 1 = (i2 : Int) := by omega
                rw [e]; simp [IntKind.wrap, IntKind.bits, IntKind.signed]; omega
              have HI2 := Aside0.mk hi2
              clear hi2
              have hne := ne34 u v
              have key : d[k + k2 - 1]! = d[k + i2]! := by rw [HI2.out]; congr 1; omega
              have K2 := Aside0.mk key
              clear key
              by_cases huv : u = v
              · rw [decide_eq_true huv] at hne
                have HU := Aside0.mk huv
                clear huv
                go_wp2_with fail
                go_quiet (fail)
                go_wp2
                go_roundg (d.size - (k + (k2 + 1)))
                case measure => omega
                case rel => exact ⟨kk, k2 + 1, q2 + nq, dk, rfl, by go_num, by omega, by omega, Nat.le_refl _, by rw [W2.out]; exact putRowK_drewN enc34 3 w q2 nq blk 0 dk, I2.out.skip (keeps_neg (by omega) (by rw [C.out.1, K2.out, C.out.2, HU.out]))⟩
              · rw [decide_eq_false huv] at hne
                have HU := Aside0.mk huv
                clear huv
                go_wp2_with fail
                go_quiet (fail)
                go_wp2
                go_roundg (d.size - (k + (k2 + 1)))
                case measure => omega
                case rel => exact ⟨kk + 1, k2 + 1, q2 + nq, dk.setIfInBounds kk u, by go_num, by go_num, by omega, by omega, Nat.le_refl _, store34 u W2.out (by omega), by have h_ := I2.out.keep hlt2 (keeps_pos (by rw [C.out.1, K2.out, C.out.2]; exact HU.out)); rwa [C.out.1] at h_⟩
            · have hend : k + k2 = d.size := by omega
              have hcl := fun ty => clear34 wr ty blk (kk * 3) (d.size - kk) (cap - kk) (by omega) (fun j hj => by
                have h_ := (hHk (kk * 3 + j) (by rw [size_flatK]; omega)).1
                rw [Nat.zero_add] at h_; rw [h_]; rfl) (fun j hj => by
                have h_ := (hHk (kk * 3 + j) (by rw [size_flatK]; omega)).2
                rwa [Nat.zero_add] at h_)
              obtain ⟨zs, hzl, hrun⟩ := hcl 0
              clear hHk hI
              go_wp2
              go_ret
              have hI := I2.out
              rw [hend] at hI
              refine ⟨by rw [hI.len]; rfl, q2, setMany (flatK enc34 3 dk) (kk * 3) zs, by rw [size_setMany, size_flatK, hds], fun t ht => ?_, ?_⟩
              · have ht' : t < kk * 3 := by rw [hI.len] at ht; exact ht
                rw [get_setMany _ _ _ t (by rw [size_flatK]; omega), if_neg (by omega), get_flatK _ _ _ t (by omega), get_flatK _ _ _ t (by rw [List.size_toArray]; exact ht)]
                have h_ := hI.low (t / 3) (by omega)
                have e_ : (compactUpTo d d.size).toArray[t / 3]! = dk[t / 3]! := by
                  rw [getElem!_pos _ (t / 3) (by rw [List.size_toArray, hI.len]; omega), List.getElem_toArray]
                  exact (List.getElem?_eq_some_iff.1 h_).2
                rw [e_]
              · rw [W2.out]
                have h_ := setCells_putRow (Sort.ahead w q2) blk 0 zs (kk * 3) (flatK enc34 3 dk) (by rw [size_flatK, hzl]; omega)
                rw [Nat.zero_add] at h_
                exact h_
        · rw [decide_eq_false hdup] at heq
          have HD := Aside0.mk hdup
          clear hdup
          go_wp2_with fail
          go_quiet (fail)
          go_wp2
          go_roundg (d.size - (k + 1))
          case measure => omega
          case rel =>
            refine ⟨k + 1, q + nq, by omega, by omega, Nat.le_refl _, by go_num, by rw [← HW.out, World.drewN_drewN], fun j hj => ?_⟩
            by_cases e : j = k
            · subst e
              exact keeps_pos (by rw [B.out.1, ← HI.out, B.out.2]; exact HD.out)
            · exact A.out j (by omega)
      · have : k = d.size := by omega
        subst this
        go_wp2
        go_ret
        obtain ⟨e1, F, e2, e3, e4⟩ := HS.out q hall
        exact ⟨by rw [e1]; rfl, q, F, e2, e3, e4⟩
end Go.Proofs.Ythimblhfjfngiaa.PText

namespace Go.Proofs.Ythimblhfjfngiaa.PText
open Go.RowKit Go.Lib Go.Proofs.YthimblhfjfngiaaW.PrintWords Go.Proofs.YthimblhfjfngiaaW.PrintLast Go.Proofs.YthimblhfjfngiaaW.PrintMore
set_option linter.unusedVariables false
set_option linter.unusedSimpArgs false
theorem below_ahead (B : Nat) (w : World) (n : Nat) : Below B w (Sort.ahead w n) := ⟨rfl, rfl, rfl, Nat.le_refl _, fun _ _ => rfl⟩
theorem below_grow {B : Nat} {w : World} (h : B ≤ w.heap.size) (os : Array Obj) : Below B w (Sort.grow w os) :=
  ⟨rfl, rfl, rfl, by show w.heap.size ≤ (w.heap ++ os).size; rw [Array.size_append]; omega, fun k hk => by
    show (w.heap ++ os)[k]? = _
    rw [Array.getElem?_append_left (by omega)]⟩
theorem below_putRow {B blk : Nat} {α : Type} [Inhabited α] (enc : α → Value) (w : World) (off : Nat) (F : Array α) (h : B ≤ blk) : Below B w (Sort.putRow enc w blk off F) :=
  ⟨rfl, rfl, rfl, by show w.heap.size ≤ (w.heap.modify blk _).size; rw [Array.size_modify]; exact Nat.le_refl _, fun k hk => by
    show (w.heap.modify blk _)[k]? = _
    rw [Array.getElem?_modify, if_neg (by omega)]⟩
theorem putRow_heap {α : Type} [Inhabited α] (enc : α → Value) {w : World} {blk off : Nat} {F : Array α} {cur : Array Value} {e : TypeId} {fr : Nat × Nat} (h : w.heap[blk]? = some (.cells cur e fr)) :
    ∃ cur', (Sort.putRow enc w blk off F).heap[blk]? = some (.cells cur' e fr) ∧ cur'.size = cur.size := by
  refine ⟨Sort.putCells enc off F cur, ?_, by simp [Sort.putCells]⟩
  show (w.heap.modify blk _)[blk]? = _
  rw [Array.getElem?_modify, if_pos rfl, h]
  rfl
theorem grow_heap {w : World} {blk : Nat} {o : Obj} (os : Array Obj) (h : w.heap[blk]? = some o) : (Sort.grow w os).heap[blk]? = some o := by
  show (w.heap ++ os)[blk]? = _
  rw [Array.getElem?_append_left (Array.getElem?_eq_some_iff.1 h).1, h]
/-- a row of one's own, out of its cells -/
theorem row34 {W : World} {base g cap : Nat} {cur : Array Value} {r : List S59} (hh : W.heap[g]? = some (.cells cur 59 (0, 0))) (hb : base ≤ g) (hl : r.length ≤ cap) (hm : cap ≤ maxLen) (hs : cur.size = cap * 3)
    (hc : ∀ t, t < r.length * 3 → cur[t]! = (Sort.flatK enc34 3 r.toArray)[t]!) : Kd.R k59 59 W base (fun _ => True) (.slice (some ⟨g, 0, none⟩) r.length cap) r := by
  have hle : r.length * 3 ≤ cur.size := by omega
  refine ⟨fun _ _ => trivial, cur.toList.take (r.length * 3), ⟨by rw [List.length_take, Nat.min_eq_left (by rw [Array.length_toList]; exact hle)]; rfl, Or.inr ⟨g, cap, cur, rfl, hb, hh, hl, hm, hs, rfl⟩⟩, by rw [List.length_take, Nat.min_eq_left (by rw [Array.length_toList]; exact hle)]; rfl, fun j p hp => ?_⟩
  obtain ⟨hj, rfl⟩ := List.getElem?_eq_some_iff.1 hp
  have key : ((cur.toList.take (r.length * 3)).drop (j * 3)).take 3 = [.int .i64 r[j].f0, .int .i64 r[j].f1, .string r[j].f2] := by
    have one : ∀ c, c < 3 → cur[j * 3 + c]? = some (enc34 r[j])[c]! := by
      intro c hcc
      have h1 := hc (j * 3 + c) (by omega)
      rw [Sort.get_flatK _ _ _ _ (by rw [List.size_toArray]; omega), show (j * 3 + c) / 3 = j by omega, show (j * 3 + c) % 3 = c by omega] at h1
      rw [Array.getElem?_eq_getElem (by omega), ← getElem!_pos cur (j * 3 + c) (by omega), h1, getElem!_pos r.toArray j (by rw [List.size_toArray]; exact hj), List.getElem_toArray]
    have z0 := one 0 (by omega)
    have z1 := one 1 (by omega)
    have z2 := one 2 (by omega)
    apply List.ext_getElem?
    intro c
    rw [List.getElem?_take]
    by_cases h3 : c < 3
    · rw [if_pos h3, List.getElem?_drop, List.getElem?_take, if_pos (by omega), Array.getElem?_toList]
      have : c = 0 ∨ c = 1 ∨ c = 2 := by omega
      rcases this with rfl | rfl | rfl
      · rw [z0]; rfl
      · rw [z1]; rfl
      · rw [z2]; rfl
    · rw [if_neg h3, List.getElem?_eq_none (by simp; omega)]
  show k59.M W base _ r[j] (((cur.toList.take (r.length * 3)).drop (j * 3)).take 3)
  rw [key]
  exact k59_mkM _ _ _ _
/-- the cells of a row of one's own -/
theorem holds_of_row {W : World} {base g cap : Nat} {ok : Nat → Prop} {l : List S59} (h : Kd.R k59 59 W base ok (.slice (some ⟨g, 0, none⟩) l.length cap) l) (hg : ∃ cur, W.heap[g]? = some (.cells cur 59 (0, 0))) : Sort.HoldsK enc34 3 W g 0 l.toArray := by
  intro t ht
  rw [Sort.size_flatK, List.size_toArray] at ht
  have hC := (Kd.R_reads' h).2.2
  obtain ⟨ad, e, h0, h1, h2⟩ := at_T59 hC ((t / 3 : Nat) : Int) (by omega) (by omega)
  cases e
  obtain ⟨cur, hcur⟩ := hg
  refine ⟨?_, by simp [World.frozen?, hcur]⟩
  rw [Sort.get_flatK _ _ _ _ (by rw [List.size_toArray]; exact ht)]
  have hx : (l.toArray)[t / 3]! = rd_T59 l ((t / 3 : Nat) : Int) := by
    unfold rd_T59
    rw [Int.toNat_natCast, getElem!_pos l.toArray (t / 3) (by rw [List.size_toArray]; omega), List.getElem_toArray, List.getD_eq_getElem?_getD, List.getElem?_eq_getElem (by omega)]
    rfl
  rw [hx]
  simp only [Int.toNat_natCast, add_plain] at h0 h1 h2
  have : t % 3 = 0 ∨ t % 3 = 1 ∨ t % 3 = 2 := by omega
  rcases this with c | c | c
  · rw [c, show 0 + t = t / 3 * 3 by omega]; exact h0
  · rw [c, show 0 + t = t / 3 * 3 + 1 by omega]; exact h1
  · rw [c, show 0 + t = t / 3 * 3 + 2 by omega]; exact h2
end Go.Proofs.Ythimblhfjfngiaa.PText

namespace Go.Proofs.Ythimblhfjfngiaa.PText
open Go.RowKit Go.Lib Go.Proofs.YthimblhfjfngiaaW.PrintWords Go.Proofs.YthimblhfjfngiaaW.PrintLast Go.Proofs.YthimblhfjfngiaaW.PrintMore
def toE (x : S59) : Tx.Ed := ⟨x.f0, x.f1, x.f2.toList⟩
theorem toE_inj {x y : S59} (h : toE x = toE y) : x = y := by
  have h0 := congrArg Tx.Ed.f h
  have h1 := congrArg Tx.Ed.t h
  have h2 := congrArg Tx.Ed.x h
  refine S59.ext' h0 h1 ?_
  simp only [toE] at h2
  rw [Lib.toList_data, Lib.toList_data] at h2
  exact ByteArray.ext (Array.toList_inj.1 h2)
def eltS (x y : S59) : Bool := Tx.elt (toE x) (toE y)
theorem eltS_lin : Tx.Lin eltS where
  irr _ := Tx.elt_lin.irr _
  tr := fun h1 h2 => Tx.elt_lin.tr h1 h2
  tri := fun h1 h2 => toE_inj (Tx.elt_lin.tri h1 h2)
def cI (a b : Int) : Int := if a < b then -1 else if b < a then 1 else 0
def cS (a b : List UInt8) : Int := if a < b then -1 else if b < a then 1 else 0
def cfE (x y : S59) : Int := if cI x.f0 y.f0 ≠ 0 then cI x.f0 y.f0 else if cI x.f1 y.f1 ≠ 0 then cI x.f1 y.f1 else cS x.f2.toList y.f2.toList
theorem cmpI_f (a b : Int) : cmp_Compare_int.f a b = some (cI a b) := by
  unfold cmp_Compare_int.f cmp_isNaN_int.f cI
  simp only [bne_self_eq_false, Option.bind_some, Bool.false_eq_true, if_false]
  by_cases h : a < b
  · rw [if_pos h, if_pos h]
  · rw [if_neg h, if_neg h]
    by_cases h' : b < a
    · rw [if_pos h', if_pos h']
    · rw [if_neg h', if_neg h']
theorem cmpS_f (a b : ByteArray) : cmp_Compare_string.f a b = some (cS a.toList b.toList) := by
  unfold cmp_Compare_string.f cmp_isNaN_string.f cS
  simp only [bne_self_eq_false, Option.bind_some, Bool.false_eq_true, if_false, bl_lt, decide_eq_true_eq]
  by_cases h : a.toList < b.toList
  · rw [if_pos h, if_pos h]
  · rw [if_neg h, if_neg h]
    by_cases h' : b.toList < a.toList
    · rw [if_pos h', if_pos h']
    · rw [if_neg h', if_neg h']
theorem or_f (a b c : Int) : cmp_Or_int.f 8 [a, b, c] = some (if a ≠ 0 then a else if b ≠ 0 then b else c) := by
  have w1 : wrap64 1 = 1 := by unfold wrap64; omega
  have w2 : wrap64 2 = 2 := by unfold wrap64; omega
  have w3 : wrap64 3 = 3 := by unfold wrap64; omega
  unfold cmp_Or_int.f
  by_cases ha : a = 0
  · by_cases hb : b = 0
    · by_cases hc : c = 0
      · simp [cmp_Or_int.l0, rd, ha, hb, hc, w1, w2, w3]
      · simp [cmp_Or_int.l0, rd, ha, hb, hc, w1, w2]
    · simp [cmp_Or_int.l0, rd, ha, hb, w1]
  · simp [cmp_Or_int.l0, rd, ha]
theorem order_f (x y : S59) : text_order.f 8 x.f0 x.f1 x.f2 y.f0 y.f1 y.f2 = some (cfE x y) := by
  unfold text_order.f
  rw [cmpI_f, Option.bind_some, cmpI_f, Option.bind_some, cmpS_f, Option.bind_some, or_f]
  rfl
theorem ltOf_cfE (x y : S59) : decide (cfE x y < 0) = eltS x y := by
  rw [Bool.eq_iff_iff, decide_eq_true_eq]
  unfold eltS
  rw [Tx.elt_iff]
  unfold cfE cI cS toE
  by_cases h0 : x.f0 < y.f0
  · rw [if_pos h0]; simp [h0]
  · rw [if_neg h0]
    by_cases h1 : y.f0 < x.f0
    · rw [if_pos h1]; simp; omega
    · have e0 : x.f0 = y.f0 := by omega
      rw [if_neg h1]
      by_cases h2 : x.f1 < y.f1
      · rw [if_pos h2]; simp [e0, h2]
      · rw [if_neg h2]
        by_cases h3 : y.f1 < x.f1
        · rw [if_pos h3]; simp [e0]; omega
        · have e1 : x.f1 = y.f1 := by omega
          rw [if_neg h3]
          by_cases h4 : x.f2.toList < y.f2.toList
          · rw [if_pos h4]; simp [e0, e1, h4]
          · rw [if_neg h4]
            by_cases h5 : y.f2.toList < x.f2.toList
            · rw [if_pos h5]; simp [e0, e1, h4]
            · rw [if_neg h5]; simp [e0, e1, h4]
end Go.Proofs.Ythimblhfjfngiaa.PText

namespace Go.Proofs.Ythimblhfjfngiaa.PText
open Go.RowKit Go.Lib Go.Proofs.YthimblhfjfngiaaW.PrintWords Go.Proofs.YthimblhfjfngiaaW.PrintLast Go.Proofs.YthimblhfjfngiaaW.PrintMore
def badE (n : Nat) (x : S59) : Bool := decide (x.f0 < 0) || decide ((n : Int) < x.f1) || decide (x.f1 < x.f0)
def fineE (n : Nat) (l : List S59) : Int := if 200000 < n ∨ 10000 < l.length then 2 else if l.any (badE n) = true then 1 else if Tx.clash 0 (-1) ((Tx.ord eltS l).map toE) = true then 10 else 0
end Go.Proofs.Ythimblhfjfngiaa.PText

namespace Go.Proofs.Ythimblhfjfngiaa.PText
open Go.RowKit Go.Lib Go.Proofs.YthimblhfjfngiaaW.PrintWords Go.Proofs.YthimblhfjfngiaaW.PrintLast Go.Proofs.YthimblhfjfngiaaW.PrintMore
theorem neS34 (x y : S59) : (!(x.f0 == y.f0) || (!(x.f1 == y.f1) || !(x.f2.toList == y.f2.toList))) = decide (x ≠ y) := by
  rw [show decide (x ≠ y) = !decide (x = y) by simp, ← eqb34]
  simp only [Bool.not_and]
end Go.Proofs.Ythimblhfjfngiaa.PText

namespace Go.Proofs.Ythimblhfjfngiaa.PText
open Go.RowKit Go.Lib Go.Proofs.YthimblhfjfngiaaW.PrintWords Go.Proofs.YthimblhfjfngiaaW.PrintLast Go.Proofs.YthimblhfjfngiaaW.PrintMore
end Go.Proofs.Ythimblhfjfngiaa.PText

namespace Go.Proofs.Ythimblhfjfngiaa.PText
open Go.RowKit Go.Lib Go.Proofs.YthimblhfjfngiaaW.PrintWords Go.Proofs.YthimblhfjfngiaaW.PrintLast Go.Proofs.YthimblhfjfngiaaW.PrintMore
theorem w64 {x : Int} (h0 : -9223372036854775808 ≤ x) (h1 : x ≤ 9223372036854775807) : wrap64 x = x := by unfold wrap64; omega
theorem nx (i : Nat) (h : i ≤ 1000000) : wrap64 ((i : Int) + 1) = ((i + 1 : Nat) : Int) := by rw [w64 (by omega) (by omega)]; omega
theorem mx_max (a b : Int) : mx a b = max a b := by
  unfold mx; split <;> omega
theorem rdB (l : List ByteArray) (i : Nat) (h : i < l.length) : rdOf ByteArray.empty l (i : Int) = l[i] := by
  unfold rdOf
  rw [Int.toNat_natCast, List.getD_eq_getElem?_getD, List.getElem?_eq_getElem h]; rfl
theorem rdI (x : List Int) (i : Nat) (h : i < x.length) : rd x (i : Int) = x[i] := by
  unfold rd
  rw [Int.toNat_natCast, List.getD_eq_getElem?_getD, List.getElem?_eq_getElem h]; rfl
def bL (x : ByteArray) : List UInt8 := x.data.toList
theorem bL_eta (x : ByteArray) : (⟨(bL x).toArray⟩ : ByteArray) = x := by cases x; simp [bL]
theorem bL_mk (l : List UInt8) : bL ⟨l.toArray⟩ = l := rfl
theorem bL_inj {x y : ByteArray} : x.toList = y.toList ↔ bL x = bL y := by rw [Lib.toList_data, Lib.toList_data]; exact Iff.rfl
theorem bL_size (x : ByteArray) : x.size = (bL x).length := by unfold bL; rw [Array.length_toList]; rfl
theorem bL_ext {x y : ByteArray} (h : bL x = bL y) : x = y := by rw [← bL_eta x, ← bL_eta y, h]
theorem bL_append (x y : ByteArray) : bL (x ++ y) = bL x ++ bL y := by unfold bL; rw [ByteArray.data_append, Array.toList_append]
end Go.Proofs.Ythimblhfjfngiaa.PText

