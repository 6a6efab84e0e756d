/- PastThree holds: for every three texts the statement answers true. Part 12 of 25. -/
import Derived.Test.YthimblhfjfngiaaBThreeK
import Derived.Sort.Grow
namespace Go.Proofs.Ythimblhfjfngiaa.PText
open Go.RowKit Go.Proofs.YthimblhfjfngiaaW.PrintWords Go.Proofs.YthimblhfjfngiaaW.PrintLast Go.Proofs.YthimblhfjfngiaaW.PrintMore
attribute [local go_sem] y2_ y3_ yfb_ ygb_ yS_ yT_ y4_ y5_
set_option linter.unusedVariables false
set_option linter.unusedSimpArgs false
theorem grow_of_below {w w':World} (h:Below w.heap.size w w') (hd:w.drawn≤w'.drawn):∃ q os',w'=Sort.grow (w.drewN q) os':=by
  refine ⟨w'.drawn - w.drawn,w'.heap.extract w.heap.size w'.heap.size,?_⟩
  obtain ⟨h1,h2,h3,h4,h5⟩:=h
  have e:w'.heap=w.heap++w'.heap.extract w.heap.size w'.heap.size:=by
    apply Array.ext_getElem?
    intro i
    rcases Nat.lt_or_ge i w.heap.size with hi|hi
    · rw [h5 i hi,Array.getElem?_append_left hi]
    · rw [Array.getElem?_append_right hi,Array.getElem?_extract]
      by_cases hk:i < w'.heap.size
      · rw [if_pos (by omega)];congr 1;omega
      rw [if_neg (by omega),Array.getElem?_eq_none (by omega)]
  cases w' with
  | mk heap tape drawn os output =>
    simp only [Sort.grow,World.drewN] at *
    subst h1 h2 h3
    rw [World.mk.injEq]
    exact ⟨e,rfl,by omega,rfl,rfl⟩
section
variable {P : Program} {o : Oper} {ops : Array Oper} {rest : List Oper} {a : Act} {Q : Exit → Act → World → Prop} {Kc : Act → World → Prop}
theorem box_eventD {W:World} (hgd:o.guard=none) {N:Tmp} (_hd:o.dst=some N) {cs:Array Value} {t:TypeId}
    (hrun:(execOp a.eval o).run P W=.ok (.value (.pointer (some ⟨W.heap.size,0,none⟩))) (W.alloc (.cells cs t (0,0))))
    (h:∀ g,g=W.heap.size→∀ w1,w1.heap[g]?=some (.cells cs t (0,0))→Below W.heap.size W w1→w1.drawn=W.drawn→wpList P ops Q rest (a.put o.dst (.pointer (some ⟨g,0,none⟩))) w1):wpList P ops Q (o :: rest) a W :=
  Kd.event_run hgd hrun (h _ rfl _ (blk_new W _) (yc_ (Below.refl _ _) _) rfl)
theorem Kd.R_lit_stepD {α:Type} (d:Kd α) {w0 W:World} (base e:Nat) (hw:Region.wanted o (yielded ops a.tmps)=true) {N:Tmp} (hd:o.dst=some N) {xs:List α} {inner:List Value} {ok okp:Nat→Prop}
    (hrun:(execOp a.eval o).run P W=.ok (.value (.slice (some ⟨W.heap.size,0,none⟩) xs.length xs.length)) (W.alloc (.cells inner.toArray e)))
    (hrep:Reps (d.M W base okp) d.sz xs inner) (hok:∀ k,okp k→ok k) (hfresh:ok W.heap.size) (HB:Below base w0 W) (hbase:base≤W.heap.size) (hm:xs.length≤9223372036854775807)
    (h:∀ v1 w1,d.R e w1 base ok v1 xs→Below base w0 w1→W.grownBy w1 none→(∃ b,v1.ownBlock=some b∧W.heap.size≤b)→w1.drawn=W.drawn→Kc (a.put o.dst v1) w1):if Region.wanted o (yielded ops a.tmps)=true then Oper.wp P o a W Kc Q else Kc (a.put o.dst undef) W:=by
  have q:=Kd.R_lit_step (Kc:=fun a' w'=>w'.drawn=W.drawn→Kc a' w') (Q:=Q) d base e hw hd hrun hrep hok hfresh HB hbase hm (fun v1 w1 p1 p2 p3 p4 p5=>h v1 w1 p1 p2 p3 p4 p5)
  rw [if_pos hw] at q ⊢
  unfold Oper.wp at q ⊢
  rw [hrun] at q ⊢
  exact q rfl
end
set_option maxHeartbeats 8000000 in
set_option maxRecDepth 100000 in
theorem yeb_.grows (k:Nat) (a0_0:Int) (a0_1:Int) (a0_2:ByteArray) (a1_0:Int) (a1_1:Int) (a1_2:ByteArray) (r:Int) (w:World) (h:yeb_.f k a0_0 a0_1 a0_2 a1_0 a1_1 a1_2=some r) :
    Calls Try.prog 66 #[.agg #[.int .i64 a0_0,.int .i64 a0_1,.string a0_2],.agg #[.int .i64 a1_0,.int .i64 a1_1,.string a1_2]] w fun e w'=>e=.returned (.int .i64 r)∧∃ q os',w'=Sort.grow (w.drewN q) os':=by
  have hu59:=Try.underlying59
  have HB:=Aside0.mk (Below.refl w.heap.size w)
  have HD:=Aside0.mk (Nat.le_refl w.drawn)
  have H:((cmp_Compare_int.f a0_0 a1_0).bind fun t173=>((cmp_Compare_int.f a0_1 a1_1).bind fun t174=>((yI_.f a0_2 a1_2).bind fun t175=>((yQ_.f k (([t173,t174,t175]:List Int))).bind fun t179=>(some t179)))))=some r:=h
  clear h
  replace H:=Option.bind_eq_some_iff.mp H
  obtain ⟨t173,A30,H⟩:=H
  replace H:((cmp_Compare_int.f a0_1 a1_1).bind fun t174=>((yI_.f a0_2 a1_2).bind fun t175=>((yQ_.f k (([t173,t174,t175]:List Int))).bind fun t179=>(some t179))))=some r:=H
  have A3:=Aside0.mk A30
  clear A30
  replace H:=Option.bind_eq_some_iff.mp H
  obtain ⟨t174,A40,H⟩:=H
  replace H:((yI_.f a0_2 a1_2).bind fun t175=>((yQ_.f k (([t173,t174,t175]:List Int))).bind fun t179=>(some t179)))=some r:=H
  have A4:=Aside0.mk A40
  clear A40
  replace H:=Option.bind_eq_some_iff.mp H
  obtain ⟨t175,A50,H⟩:=H
  replace H:((yQ_.f k (([t173,t174,t175]:List Int))).bind fun t179=>(some t179))=some r:=H
  have A5:=Aside0.mk A50
  clear A50
  obtain ⟨y176,hy176⟩:∃ y_:List Int,y_=(([t173,t174,t175]:List Int)):=⟨_,rfl⟩
  replace H:((yQ_.f k y176).bind fun t179=>(some t179))=some r:=by first|(rw [hy176];with_reducible exact H)|(have H2_:=(Option.bind_some _ _).symm.trans H;rw [hy176];with_reducible exact H2_)|(have H2_:=(Option.bind_some _ _).symm.trans H;with_reducible exact H2_)|with_reducible exact H|(rw [hy176];exact H)|exact H
  have Ny176:=Aside0.mk hy176
  clear hy176
  replace H:=Option.bind_eq_some_iff.mp H
  obtain ⟨t179,A60,H⟩:=H
  replace H:(some t179)=some r:=H
  have A6:=Aside0.mk A60
  clear A60
  obtain rfl:=Option.some.inj H
  go_enter Try.func66,Try.ntmps66
  try go_wp2_with (first|((with_reducible refine yL_ (N:=2) rfl ?_);refine box_eventD ?hg (N:=2) ?hd (cs:=#[.int .i64 a0_0,.int .i64 a0_1,.string a0_2]) (t:=59) ?hr ?_;(case hd=>rfl);(case hg=>rfl);(case hr=>first|(go_simp;done)|(go_simp;rfl));intro gb171 hg w7 hbox hb hd_;have m_:=Aside0.mk (show w.drawn≤w7.drawn from by have h_:=HD.out;first|omega|(simp only [World.drewN,World.drew] at hd_;omega));clear HD;have HD:=m_;clear m_ hd_;have n0_:=Aside0.mk (yp_ (by repeat (first|(with_reducible first|exact HB.out|apply yc_|apply ya_|apply yb_)|exact HB.out)) hb);have n1_:=Aside0.mk (hbox);have n2_:=Aside0.mk ((by rw [hg];exact (yn_ (by repeat (first|(with_reducible first|exact HB.out|apply yc_|apply ya_|apply yb_)|exact HB.out))):w.heap.size≤gb171));have n3_:=Aside0.mk ((by rw [hg];exact (yn_ (by repeat (first|(with_reducible first|exact HB.out|apply yc_|apply ya_|apply yb_)|exact HB.out))):w.heap.size≤gb171));clear HB;have HB:=n0_;have BK171:=n1_;have GW171:=n2_;have GE171:=n3_;clear n0_ n1_ n2_ n3_;clear hb hbox hg)|((with_reducible refine yL_ (N:=3) rfl ?_);refine box_eventD ?hg (N:=3) ?hd (cs:=#[.int .i64 a1_0,.int .i64 a1_1,.string a1_2]) (t:=59) ?hr ?_;(case hd=>rfl);(case hg=>rfl);(case hr=>first|(go_simp;done)|(go_simp;rfl));intro gb172 hg w8 hbox hb hd_;have m_:=Aside0.mk (show w.drawn≤w8.drawn from by have h_:=HD.out;first|omega|(simp only [World.drewN,World.drew] at hd_;omega));clear HD;have HD:=m_;clear m_ hd_;have n0_:=Aside0.mk (yrb_ (g:=gb171) (o:=.cells #[.int .i64 a0_0,.int .i64 a0_1,.string a0_2] 59 (0,0)) (by (with_reducible repeat (first|refine yx_ ?_ _|refine yA_ ?_|refine yw_ ?_ _));exact BK171.out) hb);have n1_:=Aside0.mk (yp_ (by repeat (first|(with_reducible first|exact HB.out|apply yc_|apply ya_|apply yb_|refine yo_ ?_ GE171.out)|exact HB.out)) hb);have n2_:=Aside0.mk (hbox);have n3_:=Aside0.mk ((by rw [hg];exact (yn_ (by repeat (first|(with_reducible first|exact HB.out|apply yc_|apply ya_|apply yb_|refine yo_ ?_ GE171.out)|exact HB.out))):w.heap.size≤gb172));have n4_:=Aside0.mk ((by rw [hg];exact (yn_ (by repeat (first|(with_reducible first|exact HB.out|apply yc_|apply ya_|apply yb_|refine yo_ ?_ GE171.out)|exact HB.out))):w.heap.size≤gb172));have n5_:=Aside0.mk ((by rw [hg];exact Nat.ne_of_lt (blk_lt (g:=gb171) (o:=.cells #[.int .i64 a0_0,.int .i64 a0_1,.string a0_2] 59 (0,0)) (by (with_reducible repeat (first|refine yx_ ?_ _|refine yA_ ?_|refine yw_ ?_ _));exact BK171.out)):gb171 ≠ gb172));have n6_:=Aside0.mk ((by rw [hg];exact Nat.ne_of_gt (blk_lt (g:=gb171) (o:=.cells #[.int .i64 a0_0,.int .i64 a0_1,.string a0_2] 59 (0,0)) (by (with_reducible repeat (first|refine yx_ ?_ _|refine yA_ ?_|refine yw_ ?_ _));exact BK171.out)):gb172 ≠ gb171));clear BK171;clear HB;have BK171:=n0_;have HB:=n1_;have BK172:=n2_;have GW172:=n3_;have GE172:=n4_;have NB171_172:=n5_;have NB172_171:=n6_;clear n0_ n1_ n2_ n3_ n4_ n5_ n6_;clear hb hbox hg))
  have n0_:=Aside0.mk (yA_ BK171.out)
  have n1_:=Aside0.mk (yA_ BK172.out)
  have n2_:=Aside0.mk (yb_ HB.out)
  clear BK171
  clear BK172
  clear HB
  have BK171:=n0_
  have BK172:=n1_
  have HB:=n2_
  clear n0_ n1_ n2_
  refine start_ (n:=18) (S:=fun w'=>w'.cell? ⟨gb171,0,none⟩=some (.int .i64 a0_0)∧w'.cell? ⟨gb171,1,none⟩=some (.int .i64 a0_1)∧w'.cell? ⟨gb171,2,none⟩=some (.string a0_2)∧w'.cell? ⟨gb172,0,none⟩=some (.int .i64 a1_0)∧w'.cell? ⟨gb172,1,none⟩=some (.int .i64 a1_1)∧w'.cell? ⟨gb172,2,none⟩=some (.string a1_2)) (ds:=[]) #[false,false,false,false,false,false,false,false,false,false,false,false,false,false,false,false,false,false] (by kernel_rfl) rfl rfl ⟨(yk_ BK171.out 0).trans rfl,(yk_ BK171.out 1).trans rfl,(yk_ BK171.out 2).trans rfl,(yk_ BK172.out 0).trans rfl,(yk_ BK172.out 1).trans rfl,(yk_ BK172.out 2).trans rfl⟩ (fun hHeld=>?_);refine yP_ yeb_.tab1 yeb_.bits1 (fun HT_ HW_=>?_)
  have m_:=Aside0.mk (show w.drawn≤w8.drew.drawn from Nat.le_trans HD.out (Nat.le_succ _))
  clear HD
  have HD:=m_
  clear m_
  generalize w8.drew=w9 at BK171 BK172 HB hHeld HD ⊢
  refine pure_ (i:=0) (N:=some 5) (v:=?_) (a':=?_) #[true,false,false,false,false,false,false,false,false,false,false,false,false,false,false,false,false,false] rfl rfl (any_of HT_.out (by kernel_rfl)) (fun _ _ _ h=>h) (Or.inl ⟨by rfl,?_⟩) ?_ ?_
  rotate_left
  · intro w'
    go_simp
    with_reducible rfl
  rotate_left
  · simp only [Act.put,List.setIfInBounds_toArray,List.set_cons_zero,List.set_cons_succ,i64_w,i32_w]
    rfl
  refine pure_ (i:=2) (N:=some 7) (v:=?_) (a':=?_) #[true,false,true,false,false,false,false,false,false,false,false,false,false,false,false,false,false,false] rfl rfl (any_of HT_.out (by kernel_rfl)) (fun _ _ _ h=>h) (Or.inl ⟨by rfl,?_⟩) ?_ ?_
  rotate_left
  · intro w'
    go_simp
    with_reducible rfl
  rotate_left
  · simp only [Act.put,List.setIfInBounds_toArray,List.set_cons_zero,List.set_cons_succ,i64_w,i32_w]
    rfl
  refine pure_ (i:=5) (N:=some 10) (v:=?_) (a':=?_) #[true,false,true,false,false,true,false,false,false,false,false,false,false,false,false,false,false,false] rfl rfl (any_of HT_.out (by kernel_rfl)) (fun _ _ _ h=>h) (Or.inl ⟨by rfl,?_⟩) ?_ ?_
  rotate_left
  · intro w'
    go_simp
    with_reducible rfl
  rotate_left
  · simp only [Act.put,List.setIfInBounds_toArray,List.set_cons_zero,List.set_cons_succ,i64_w,i32_w]
    rfl
  refine pure_ (i:=7) (N:=some 12) (v:=?_) (a':=?_) #[true,false,true,false,false,true,false,true,false,false,false,false,false,false,false,false,false,false] rfl rfl (any_of HT_.out (by kernel_rfl)) (fun _ _ _ h=>h) (Or.inl ⟨by rfl,?_⟩) ?_ ?_
  rotate_left
  · intro w'
    go_simp
    with_reducible rfl
  rotate_left
  · simp only [Act.put,List.setIfInBounds_toArray,List.set_cons_zero,List.set_cons_succ,i64_w,i32_w]
    rfl
  refine pure_ (i:=10) (N:=some 15) (v:=?_) (a':=?_) #[true,false,true,false,false,true,false,true,false,false,true,false,false,false,false,false,false,false] rfl rfl (any_of HT_.out (by kernel_rfl)) (fun _ _ _ h=>h) (Or.inl ⟨by rfl,?_⟩) ?_ ?_
  rotate_left
  · intro w'
    go_simp
    with_reducible rfl
  rotate_left
  · simp only [Act.put,List.setIfInBounds_toArray,List.set_cons_zero,List.set_cons_succ,i64_w,i32_w]
    rfl
  refine pure_ (i:=12) (N:=some 17) (v:=?_) (a':=?_) #[true,false,true,false,false,true,false,true,false,false,true,false,true,false,false,false,false,false] rfl rfl (any_of HT_.out (by kernel_rfl)) (fun _ _ _ h=>h) (Or.inl ⟨by rfl,?_⟩) ?_ ?_
  rotate_left
  · intro w'
    go_simp
    with_reducible rfl
  rotate_left
  · simp only [Act.put,List.setIfInBounds_toArray,List.set_cons_zero,List.set_cons_succ,i64_w,i32_w]
    rfl
  refine take_ (i:=1) (N:=some 6) (v:=?_) (a':=?_) #[true,true,true,false,false,true,false,true,false,false,true,false,true,false,false,false,false,false] rfl rfl (yac_ HT_.out HW_.out (by kernel_rfl)) (fun _ _ _ h=>h) (Or.inl ⟨by rfl,?_⟩) hHeld ?_ ?_
  rotate_left
  · rintro w' ⟨s0,s1,s2,s3,s4,s5⟩
    go_simp
    with_reducible rfl
  rotate_left
  · simp only [Act.put,List.setIfInBounds_toArray,List.set_cons_zero,List.set_cons_succ,i64_w,i32_w]
    rfl
  refine take_ (i:=3) (N:=some 8) (v:=?_) (a':=?_) #[true,true,true,true,false,true,false,true,false,false,true,false,true,false,false,false,false,false] rfl rfl (yac_ HT_.out HW_.out (by kernel_rfl)) (fun _ _ _ h=>h) (Or.inl ⟨by rfl,?_⟩) hHeld ?_ ?_
  rotate_left
  · rintro w' ⟨s0,s1,s2,s3,s4,s5⟩
    go_simp
    with_reducible rfl
  rotate_left
  · simp only [Act.put,List.setIfInBounds_toArray,List.set_cons_zero,List.set_cons_succ,i64_w,i32_w]
    rfl
  refine take_ (i:=6) (N:=some 11) (v:=?_) (a':=?_) #[true,true,true,true,false,true,true,true,false,false,true,false,true,false,false,false,false,false] rfl rfl (yac_ HT_.out HW_.out (by kernel_rfl)) (fun _ _ _ h=>h) (Or.inl ⟨by rfl,?_⟩) hHeld ?_ ?_
  rotate_left
  · rintro w' ⟨s0,s1,s2,s3,s4,s5⟩
    go_simp
    with_reducible rfl
  rotate_left
  · simp only [Act.put,List.setIfInBounds_toArray,List.set_cons_zero,List.set_cons_succ,i64_w,i32_w]
    rfl
  refine take_ (i:=8) (N:=some 13) (v:=?_) (a':=?_) #[true,true,true,true,false,true,true,true,true,false,true,false,true,false,false,false,false,false] rfl rfl (yac_ HT_.out HW_.out (by kernel_rfl)) (fun _ _ _ h=>h) (Or.inl ⟨by rfl,?_⟩) hHeld ?_ ?_
  rotate_left
  · rintro w' ⟨s0,s1,s2,s3,s4,s5⟩
    go_simp
    with_reducible rfl
  rotate_left
  · simp only [Act.put,List.setIfInBounds_toArray,List.set_cons_zero,List.set_cons_succ,i64_w,i32_w]
    rfl
  refine take_ (i:=11) (N:=some 16) (v:=?_) (a':=?_) #[true,true,true,true,false,true,true,true,true,false,true,true,true,false,false,false,false,false] rfl rfl (yac_ HT_.out HW_.out (by kernel_rfl)) (fun _ _ _ h=>h) (Or.inl ⟨by rfl,?_⟩) hHeld ?_ ?_
  rotate_left
  · rintro w' ⟨s0,s1,s2,s3,s4,s5⟩
    go_simp
    with_reducible rfl
  rotate_left
  · simp only [Act.put,List.setIfInBounds_toArray,List.set_cons_zero,List.set_cons_succ,i64_w,i32_w]
    rfl
  refine take_ (i:=13) (N:=some 18) (v:=?_) (a':=?_) #[true,true,true,true,false,true,true,true,true,false,true,true,true,true,false,false,false,false] rfl rfl (yac_ HT_.out HW_.out (by kernel_rfl)) (fun _ _ _ h=>h) (Or.inl ⟨by rfl,?_⟩) hHeld ?_ ?_
  rotate_left
  · rintro w' ⟨s0,s1,s2,s3,s4,s5⟩
    go_simp
    with_reducible rfl
  rotate_left
  · simp only [Act.put,List.setIfInBounds_toArray,List.set_cons_zero,List.set_cons_succ,i64_w,i32_w]
    rfl
  refine one_ (i:=4) (N:=some 9) #[true,true,true,true,true,true,true,true,true,false,true,true,true,true,false,false,false,false] rfl rfl (one_of HT_.out (by kernel_rfl)) (by decide) (fun K hK=>?_)
  refine goes_ Try.func85 (by kernel_rfl) rfl #[.int .i64 a0_0,.int .i64 a1_0] (by rfl) rfl rfl (by (try simp only [List.map_toArray,List.map_cons,List.map_nil]);first|done|rfl|(simp only [List.length_drop,List.length_take];rfl)) ?_
  with_reducible refine (cmp_Compare_int.calls a0_0 a1_0 t173 _ A3.out).mono ?_
  rintro e w' ⟨rfl,⟨nd,rfl⟩⟩
  refine ⟨_,rfl,?_⟩
  refine hK.out _ _ ⟨(yk_ BK171.out 0).trans rfl,(yk_ BK171.out 1).trans rfl,(yk_ BK171.out 2).trans rfl,(yk_ BK172.out 0).trans rfl,(yk_ BK172.out 1).trans rfl,(yk_ BK172.out 2).trans rfl⟩ (fun hHeld=>?_)
  clear hK K
  refine norm_ (a':=?_) ?_ ?_
  rotate_left
  · show Act.put _ (some 9) _=_
    simp only [Act.put,List.setIfInBounds_toArray,List.set_cons_zero,List.set_cons_succ,i64_w,i32_w]
    rfl
  refine one_ (i:=9) (N:=some 14) #[true,true,true,true,true,true,true,true,true,true,true,true,true,true,false,false,false,false] rfl rfl (one_of HT_.out (by kernel_rfl)) (by decide) (fun K hK=>?_)
  refine goes_ Try.func85 (by kernel_rfl) rfl #[.int .i64 a0_1,.int .i64 a1_1] (by rfl) rfl rfl (by (try simp only [List.map_toArray,List.map_cons,List.map_nil]);first|done|rfl|(simp only [List.length_drop,List.length_take];rfl)) ?_
  with_reducible refine (cmp_Compare_int.calls a0_1 a1_1 t174 _ A4.out).mono ?_
  rintro e w' ⟨rfl,⟨nd,rfl⟩⟩
  refine ⟨_,rfl,?_⟩
  refine hK.out _ _ ⟨(yk_ BK171.out 0).trans rfl,(yk_ BK171.out 1).trans rfl,(yk_ BK171.out 2).trans rfl,(yk_ BK172.out 0).trans rfl,(yk_ BK172.out 1).trans rfl,(yk_ BK172.out 2).trans rfl⟩ (fun hHeld=>?_)
  clear hK K
  refine norm_ (a':=?_) ?_ ?_
  rotate_left
  · show Act.put _ (some 14) _=_
    simp only [Act.put,List.setIfInBounds_toArray,List.set_cons_zero,List.set_cons_succ,i64_w,i32_w]
    rfl
  refine one_ (i:=14) (N:=some 19) #[true,true,true,true,true,true,true,true,true,true,true,true,true,true,true,false,false,false] rfl rfl (one_of HT_.out (by kernel_rfl)) (by decide) (fun K hK=>?_)
  refine goes_ Try.func40 (by kernel_rfl) rfl #[.string a0_2,.string a1_2] (by rfl) rfl rfl (by (try simp only [List.map_toArray,List.map_cons,List.map_nil]);first|done|rfl|(simp only [List.length_drop,List.length_take];rfl)) ?_
  with_reducible refine (yI_.calls a0_2 a1_2 t175 _ A5.out).mono ?_
  rintro e w' ⟨rfl,⟨nd,rfl⟩⟩
  refine ⟨_,rfl,?_⟩
  refine hK.out _ _ ⟨(yk_ BK171.out 0).trans rfl,(yk_ BK171.out 1).trans rfl,(yk_ BK171.out 2).trans rfl,(yk_ BK172.out 0).trans rfl,(yk_ BK172.out 1).trans rfl,(yk_ BK172.out 2).trans rfl⟩ (fun hHeld=>?_)
  clear hK K
  refine norm_ (a':=?_) ?_ ?_
  rotate_left
  · show Act.put _ (some 19) _=_
    simp only [Act.put,List.setIfInBounds_toArray,List.set_cons_zero,List.set_cons_succ,i64_w,i32_w]
    rfl
  refine one_ (i:=15) (N:=some 20) #[true,true,true,true,true,true,true,true,true,true,true,true,true,true,true,true,false,false] rfl rfl (one_of HT_.out (by kernel_rfl)) (by decide) (fun K hK=>?_)
  refine Kd.R_lit_stepD (Kd.int .i64) _ 3 ?hg (N:=20) ?hd (xs:=([t173,t174,t175]:List Int)) (inner:=[.int .i64 t173,.int .i64 t174,.int .i64 t175]) (ok:=fun _=>True) (okp:=fun _=>True) ?hr ?hp (fun _ hk=>hk) trivial (Below.refl _ _) (Nat.le_refl _) (by simp) ?_;(case hd=>rfl);(case hg=>rfl);(case hr=>first|(go_simp;done)|(go_simp;rfl));(case hp=>exact (Reps.one (show Kd.M (Kd.int .i64) _ _ _ t173 [.int .i64 t173] from rfl) (Reps.one (show Kd.M (Kd.int .i64) _ _ _ t174 [.int .i64 t174] from rfl) (Reps.one (show Kd.M (Kd.int .i64) _ _ _ t175 [.int .i64 t175] from rfl) (Reps.none _ _)))))
  intro v177 w10 ho11 hb hg_ hnew_ hd_
  have m_:=Aside0.mk (show w.drawn≤w10.drawn from by have h_:=HD.out;rw [hd_];first|omega|(simp only [World.drewN];omega))
  clear HD
  have HD:=m_
  clear m_ hd_
  clear hg_ hnew_
  (first|rw [← Ny176.out] at ho11|(simp only [Int.reduceToNat] at ho11;rw [← Ny176.out] at ho11))
  have n0_:=Aside0.mk (Kd.yJ_ ho11 (yn_ (by repeat (first|(with_reducible first|exact HB.out|apply yc_|apply ya_|apply yb_|refine yo_ ?_ GE171.out|refine yo_ ?_ GE172.out)|exact HB.out))))
  have n1_:=Aside0.mk (yrb_ (g:=gb171) (o:=.cells #[.int .i64 a0_0,.int .i64 a0_1,.string a0_2] 59 (0,0)) (by (with_reducible repeat (first|refine yx_ ?_ _|refine yA_ ?_|refine yw_ ?_ _));exact BK171.out) hb)
  have n2_:=Aside0.mk (yrb_ (g:=gb172) (o:=.cells #[.int .i64 a1_0,.int .i64 a1_1,.string a1_2] 59 (0,0)) (by (with_reducible repeat (first|refine yx_ ?_ _|refine yA_ ?_|refine yw_ ?_ _));exact BK172.out) hb)
  have n3_:=Aside0.mk (yp_ (by repeat (first|(with_reducible first|exact HB.out|apply yc_|apply ya_|apply yb_|refine yo_ ?_ GE171.out|refine yo_ ?_ GE172.out)|exact HB.out)) hb)
  clear BK171
  clear BK172
  clear HB
  have HO178:=n0_
  have BK171:=n1_
  have BK172:=n2_
  have HB:=n3_
  clear n0_ n1_ n2_ n3_
  clear hb ho11
  obtain ⟨Ao12,co12,eo12⟩:=Kd.yC_ HO178.out
  (first|subst eo12|(injection eo12 with f1_ f2_ f3_;have f4_:=f1_.symm;have f5_:=f3_.symm;clear f1_ f2_ f3_;subst f4_;subst f5_))
  refine hK.out _ _ ⟨(yk_ BK171.out 0).trans rfl,(yk_ BK171.out 1).trans rfl,(yk_ BK171.out 2).trans rfl,(yk_ BK172.out 0).trans rfl,(yk_ BK172.out 1).trans rfl,(yk_ BK172.out 2).trans rfl⟩ (fun hHeld=>?_)
  clear hK K
  refine norm_ (a':=?_) ?_ ?_
  rotate_left
  · show Act.put _ (some 20) _=_
    simp only [Act.put,List.setIfInBounds_toArray,List.set_cons_zero,List.set_cons_succ,i64_w,i32_w]
    rfl
  refine one_ (i:=16) (N:=some 21) #[true,true,true,true,true,true,true,true,true,true,true,true,true,true,true,true,true,false] rfl rfl (one_of HT_.out (by kernel_rfl)) (by decide) (fun K hK=>?_)
  refine goes_ Try.func84 (by kernel_rfl) rfl #[.slice Ao12 y176.length co12] (by rfl) rfl rfl (by (try simp only [List.map_toArray,List.map_cons,List.map_nil]);first|done|rfl|(simp only [List.length_drop,List.length_take];rfl)) ?_
  with_reducible refine (yQ_.calls k _ _ y176 t179 _ ?side1 ?side2 A6.out).mono ?_
  (case side1=>repeat (first|exact (Kd.ys_ HO178.out).2.2|(with_reducible refine Kd.yK_ ?_ _)|(with_reducible refine Kd.y1_ ?_ _)|(with_reducible refine Kd.C_drew ?_)))
  (case side2=>exact (Kd.ys_ HO178.out).2.1)
  rintro e w' ⟨rfl,⟨nd,rfl⟩⟩
  refine ⟨_,rfl,?_⟩
  refine hK.out _ _ ⟨(yk_ BK171.out 0).trans rfl,(yk_ BK171.out 1).trans rfl,(yk_ BK171.out 2).trans rfl,(yk_ BK172.out 0).trans rfl,(yk_ BK172.out 1).trans rfl,(yk_ BK172.out 2).trans rfl⟩ (fun hHeld=>?_)
  clear hK K
  refine norm_ (a':=?_) ?_ ?_
  rotate_left
  · show Act.put _ (some 21) _=_
    simp only [Act.put,List.setIfInBounds_toArray,List.set_cons_zero,List.set_cons_succ,i64_w,i32_w]
    rfl
  refine pure_ (i:=17) (N:=some 4) (v:=?_) (a':=?_) #[true,true,true,true,true,true,true,true,true,true,true,true,true,true,true,true,true,true] rfl rfl (any_of HT_.out (by kernel_rfl)) (fun _ _ _ h=>h) (Or.inl ⟨by rfl,?_⟩) ?_ ?_
  rotate_left
  · intro w'
    go_simp
    with_reducible rfl
  rotate_left
  · simp only [Act.put,List.setIfInBounds_toArray,List.set_cons_zero,List.set_cons_succ,i64_w,i32_w]
    rfl
  refine done_ (ydb_ HT_.out (by kernel_rfl)) ?_
  try go_wp2
  go_ret
  exact ⟨by first|rfl|(simp [yq_,yr_] <;> rfl)|(simp [*,yq_,yr_] <;> rfl),grow_of_below (by repeat (first|(with_reducible first|exact HB.out|apply yc_|apply ya_|apply yb_|refine yo_ ?_ GE171.out|refine yo_ ?_ GE172.out)|exact HB.out)) (by have h_:=HD.out;first|omega|(simp only [World.drewN];omega))⟩
end Go.Proofs.Ythimblhfjfngiaa.PText

