/- PastRebases holds: for all steps, every number and all results the statement answers true. Part 10 of 24. -/
import Derived.Test.YthimblhfjfngiaaGreatBRebasesI
import Derived.Sort.Grow
import Derived.Lib.SliceRun
namespace Go.Proofs.YthimblhfjfngiaaGreat.PText
open Go.RowKit Go.Proofs.YthimblhfjfngiaaGreatW.PrintWords Go.Proofs.YthimblhfjfngiaaGreatW.PrintLast Go.Proofs.YthimblhfjfngiaaGreatW.PrintMore
attribute [local go_sem] yT_ yU_ y5_ y6_ yI_ yJ_ yV_ yW_   -- for this text's walks alone
set_option linter.unusedVariables false
set_option linter.unusedSimpArgs false

def ygb_.f (k:Nat) (a0_0:Int) (a0_1:Int) (a0_2:ByteArray) (a1_0:Int) (a1_1:Int) (a1_2:ByteArray):Option (Int):=(cmp_Compare_int.f a0_0 a1_0).bind fun t349=>((cmp_Compare_int.f a0_1 a1_1).bind fun t350=>((yX_.f a0_2 a1_2).bind fun t351=>((yZ_.f k (([t349,t350,t351]:List Int))).bind fun t355=>(some t355))))
def ygb_.T1:Bool × List (List Nat × List Nat):=(true,[([],[]),([0],[0]),([],[]),([2],[2]),([1,3],[1,3]),([],[]),([5],[5]),([],[]),([7],[7]),([6,8,4],[6,8]),([],[]),([10],[10]),([],[]),([12],[12]),([11,13,9],[11,13]),([4,9,14],[4,9,14]),([15,14],[15]),([16,16,0,1,2,3,4,5,6,7,8,9,10,11,12,13,14,15,16],[16])])
def ygb_.B1:List Nat:=[0,1,0,4,15,0,32,0,128,511,0,1024,0,4096,16383,32767,65535,131071]
theorem ygb_.tab1:rtab .any (opsOf Tryz.f108 1)=ygb_.T1:=by kernel_rfl
theorem ygb_.bits1:waitsOk ygb_.T1.2 ygb_.B1=true:=by kernel_rfl
end Go.Proofs.YthimblhfjfngiaaGreat.PText

namespace Go.Proofs.YthimblhfjfngiaaGreat.PText
open Go.RowKit Go.Proofs.YthimblhfjfngiaaGreatW.PrintWords Go.Proofs.YthimblhfjfngiaaGreatW.PrintLast Go.Proofs.YthimblhfjfngiaaGreatW.PrintMore
attribute [local go_sem] yT_ yU_ y5_ y6_ yI_ yJ_ yV_ yW_
set_option linter.unusedVariables false
set_option linter.unusedSimpArgs false
theorem grow_of_below {w w':World} (h:Below w.heap.size w w') (hd:w.drawn≤w'.drawn):∃ q os',w'=Sort.grow (w.drewN q) os':=by
  refine⟨w'.drawn - w.drawn,w'.heap.extract w.heap.size w'.heap.size,?_⟩
  obtain⟨h1,h2,h3,h4,h5⟩:=h
  have e:w'.heap=w.heap++w'.heap.extract w.heap.size w'.heap.size:=by
    apply Array.ext_getElem?
    intro i
    rcases Nat.lt_or_ge i w.heap.size with hi|hi
    · rw[h5 i hi,Array.getElem?_append_left hi]
    · rw[Array.getElem?_append_right hi,Array.getElem?_extract]
      by_cases hk:i < w'.heap.size
      · rw[if_pos (by omega)];congr 1;omega
      rw[if_neg (by omega),Array.getElem?_eq_none (by omega)]
  cases w' with
  | mk heap tape drawn os output =>
    simp only[Sort.grow,World.drewN] at *
    subst h1 h2 h3
    rw[World.mk.injEq]
    exact⟨e,rfl,by omega,rfl,rfl⟩
section
variable {P : Program} {o : Oper} {ops : Array Oper} {rest : List Oper} {a : Act} {Q : Exit → Act → World → Prop} {Kc : Act → World → Prop}
theorem box_eventD {W:World} (hgd:o.guard=none) {N:Tmp} (_hd:o.dst=some N) {cs:Array Value} {t:TypeId}
    (hrun:(execOp a.eval o).run P W=.ok (.value (.pointer (some ⟨W.heap.size,0,none⟩))) (W.alloc (.cells cs t (0,0))))
    (h:∀ g,g=W.heap.size→∀ w1,w1.heap[g]?=some (.cells cs t (0,0))→Below W.heap.size W w1→w1.drawn=W.drawn→wpList P ops Q rest (a.put o.dst (.pointer (some ⟨g,0,none⟩))) w1):wpList P ops Q (o :: rest) a W :=
  Kd.event_run hgd hrun (h _ rfl _ (blk_new W _) (yc_ (Below.refl _ _) _) rfl)
theorem Kd.R_lit_stepD {α:Type} (d:Kd α) {w0 W:World} (base e:Nat) (hw:Region.wanted o (yielded ops a.tmps)=true) {N:Tmp} (hd:o.dst=some N) {xs:List α} {inner:List Value} {ok okp:Nat→Prop}
    (hrun:(execOp a.eval o).run P W=.ok (.value (.slice (some ⟨W.heap.size,0,none⟩) xs.length xs.length)) (W.alloc (.cells inner.toArray e)))
    (hrep:Reps (d.M W base okp) d.sz xs inner) (hok:∀ k,okp k→ok k) (hfresh:ok W.heap.size) (HB:Below base w0 W) (hbase:base≤W.heap.size) (hm:xs.length≤9223372036854775807)
    (h:∀ v1 w1,d.R e w1 base ok v1 xs→Below base w0 w1→W.grownBy w1 none→(∃ b,v1.ownBlock=some b∧W.heap.size≤b)→w1.drawn=W.drawn→Kc (a.put o.dst v1) w1):if Region.wanted o (yielded ops a.tmps)=true then Oper.wp P o a W Kc Q else Kc (a.put o.dst undef) W:=by
  have q:=Kd.R_lit_step (Kc:=fun a' w'=>w'.drawn=W.drawn→Kc a' w') (Q:=Q) d base e hw hd hrun hrep hok hfresh HB hbase hm (fun v1 w1 p1 p2 p3 p4 p5=>h v1 w1 p1 p2 p3 p4 p5)
  rw[if_pos hw] at q ⊢
  unfold Oper.wp at q ⊢
  rw[hrun] at q ⊢
  exact q rfl
end
set_option maxHeartbeats 8000000 in
set_option maxRecDepth 100000 in
theorem ygb_.grows (k:Nat) (a0_0:Int) (a0_1:Int) (a0_2:ByteArray) (a1_0:Int) (a1_1:Int) (a1_2:ByteArray) (r:Int) (w:World) (h:ygb_.f k a0_0 a0_1 a0_2 a1_0 a1_1 a1_2=some r) :
    Calls Tryz.prog 108 #[.agg #[.int .i64 a0_0,.int .i64 a0_1,.string a0_2],.agg #[.int .i64 a1_0,.int .i64 a1_1,.string a1_2]] w fun e w'=>e=.returned (.int .i64 r)∧∃ q os',w'=Sort.grow (w.drewN q) os':=by
  have hu91:=Tryz.underlying91
  have HB:=Aside0.mk (Below.refl w.heap.size w)
  have HD:=Aside0.mk (Nat.le_refl w.drawn)
  have H:((cmp_Compare_int.f a0_0 a1_0).bind fun t349=>((cmp_Compare_int.f a0_1 a1_1).bind fun t350=>((yX_.f a0_2 a1_2).bind fun t351=>((yZ_.f k (([t349,t350,t351]:List Int))).bind fun t355=>(some t355)))))=some r:=h
  clear h
  replace H:=Option.bind_eq_some_iff.mp H
  obtain⟨t349,A30,H⟩:=H
  replace H:((cmp_Compare_int.f a0_1 a1_1).bind fun t350=>((yX_.f a0_2 a1_2).bind fun t351=>((yZ_.f k (([t349,t350,t351]:List Int))).bind fun t355=>(some t355))))=some r:=H
  have A3:=Aside0.mk A30
  clear A30
  replace H:=Option.bind_eq_some_iff.mp H
  obtain⟨t350,A40,H⟩:=H
  replace H:((yX_.f a0_2 a1_2).bind fun t351=>((yZ_.f k (([t349,t350,t351]:List Int))).bind fun t355=>(some t355)))=some r:=H
  have A4:=Aside0.mk A40
  clear A40
  replace H:=Option.bind_eq_some_iff.mp H
  obtain⟨t351,A50,H⟩:=H
  replace H:((yZ_.f k (([t349,t350,t351]:List Int))).bind fun t355=>(some t355))=some r:=H
  have A5:=Aside0.mk A50
  clear A50
  obtain⟨y352,hy352⟩:∃ y_:List Int,y_=(([t349,t350,t351]:List Int)):=⟨_,rfl⟩
  replace H:((yZ_.f k y352).bind fun t355=>(some t355))=some r:=by first|(rw[hy352];with_reducible exact H)|(have H2_:=(Option.bind_some _ _).symm.trans H;rw[hy352];with_reducible exact H2_)|(have H2_:=(Option.bind_some _ _).symm.trans H;with_reducible exact H2_)|with_reducible exact H|(rw[hy352];exact H)|exact H
  have Ny352:=Aside0.mk hy352
  clear hy352
  replace H:=Option.bind_eq_some_iff.mp H
  obtain⟨t355,A60,H⟩:=H
  replace H:(some t355)=some r:=H
  have A6:=Aside0.mk A60
  clear A60
  obtain rfl:=Option.some.inj H
  go_enter Tryz.func108,Tryz.ntmps108
  try go_wp2_with (first|((with_reducible refine yO_ (N:=2) rfl ?_);refine box_eventD ?hg (N:=2) ?hd (cs:=#[.int .i64 a0_0,.int .i64 a0_1,.string a0_2]) (t:=91) ?hr ?_;(case hd=>rfl);(case hg=>rfl);(case hr=>first|(go_simp;done)|(go_simp;rfl));intro gb347 hg w7 hbox hb hd_;have m_:=Aside0.mk (show w.drawn≤w7.drawn from by have h_:=HD.out;first|omega|(simp only[World.drewN,World.drew] at hd_;omega));clear HD;have HD:=m_;clear m_ hd_;have n0_:=Aside0.mk (yn_ zf_ hb);have n1_:=Aside0.mk (hbox);have n2_:=Aside0.mk ((by rw[hg];exact (yp_ zf_):w.heap.size≤gb347));have n3_:=Aside0.mk ((by rw[hg];exact (yp_ zf_):w.heap.size≤gb347));clear HB;have HB:=n0_;have BK347:=n1_;have GW347:=n2_;have GE347:=n3_;clear n0_ n1_ n2_ n3_;clear hb hbox hg)|((with_reducible refine yO_ (N:=3) rfl ?_);refine box_eventD ?hg (N:=3) ?hd (cs:=#[.int .i64 a1_0,.int .i64 a1_1,.string a1_2]) (t:=91) ?hr ?_;(case hd=>rfl);(case hg=>rfl);(case hr=>first|(go_simp;done)|(go_simp;rfl));intro gb348 hg w8 hbox hb hd_;have m_:=Aside0.mk (show w.drawn≤w8.drawn from by have h_:=HD.out;first|omega|(simp only[World.drewN,World.drew] at hd_;omega));clear HD;have HD:=m_;clear m_ hd_;have n0_:=Aside0.mk (ylb_ (g:=gb347) (o:=.cells #[.int .i64 a0_0,.int .i64 a0_1,.string a0_2] 91 (0,0)) (by (with_reducible repeat (first|refine yw_ ?_ _|refine yz_ ?_|refine yv_ ?_ _));exact BK347.out) hb);have n1_:=Aside0.mk (yn_ (by repeat (first|(with_reducible first|exact HB.out|apply yc_|apply ya_|apply yb_|refine yq_ ?_ GE347.out)|exact HB.out)) hb);have n2_:=Aside0.mk (hbox);have n3_:=Aside0.mk ((by rw[hg];exact (yp_ (by repeat (first|(with_reducible first|exact HB.out|apply yc_|apply ya_|apply yb_|refine yq_ ?_ GE347.out)|exact HB.out))):w.heap.size≤gb348));have n4_:=Aside0.mk ((by rw[hg];exact (yp_ (by repeat (first|(with_reducible first|exact HB.out|apply yc_|apply ya_|apply yb_|refine yq_ ?_ GE347.out)|exact HB.out))):w.heap.size≤gb348));have n5_:=Aside0.mk ((by rw[hg];exact Nat.ne_of_lt (blk_lt (g:=gb347) (o:=.cells #[.int .i64 a0_0,.int .i64 a0_1,.string a0_2] 91 (0,0)) (by (with_reducible repeat (first|refine yw_ ?_ _|refine yz_ ?_|refine yv_ ?_ _));exact BK347.out)):gb347≠gb348));have n6_:=Aside0.mk ((by rw[hg];exact Nat.ne_of_gt (blk_lt (g:=gb347) (o:=.cells #[.int .i64 a0_0,.int .i64 a0_1,.string a0_2] 91 (0,0)) (by (with_reducible repeat (first|refine yw_ ?_ _|refine yz_ ?_|refine yv_ ?_ _));exact BK347.out)):gb348≠gb347));clear BK347;clear HB;have BK347:=n0_;have HB:=n1_;have BK348:=n2_;have GW348:=n3_;have GE348:=n4_;have NB347_348:=n5_;have NB348_347:=n6_;clear n0_ n1_ n2_ n3_ n4_ n5_ n6_;clear hb hbox hg))
  have n0_:=Aside0.mk (yz_ BK347.out)
  have n1_:=Aside0.mk (yz_ BK348.out)
  have n2_:=Aside0.mk (yb_ HB.out)
  clear BK347
  clear BK348
  clear HB
  have BK347:=n0_
  have BK348:=n1_
  have HB:=n2_
  clear n0_ n1_ n2_
  refine start_ (n:=18) (S:=fun w'=>w'.cell? ⟨gb347,0,none⟩=some (.int .i64 a0_0)∧w'.cell? ⟨gb347,1,none⟩=some (.int .i64 a0_1)∧w'.cell? ⟨gb347,2,none⟩=some (.string a0_2)∧w'.cell? ⟨gb348,0,none⟩=some (.int .i64 a1_0)∧w'.cell? ⟨gb348,1,none⟩=some (.int .i64 a1_1)∧w'.cell? ⟨gb348,2,none⟩=some (.string a1_2)) (ds:=[]) #[false,false,false,false,false,false,false,false,false,false,false,false,false,false,false,false,false,false] ze_ rfl rfl ⟨(yl_ BK347.out 0).trans rfl,(yl_ BK347.out 1).trans rfl,(yl_ BK347.out 2).trans rfl,(yl_ BK348.out 0).trans rfl,(yl_ BK348.out 1).trans rfl,(yl_ BK348.out 2).trans rfl⟩ (fun hHeld=>?_);refine yQ_ ygb_.tab1 ygb_.bits1 (fun HT_ HW_=>?_)
  have m_:=Aside0.mk (show w.drawn≤w8.drew.drawn from Nat.le_trans HD.out (Nat.le_succ _))
  clear HD
  have HD:=m_
  clear m_
  generalize w8.drew=w9 at BK347 BK348 HB hHeld HD ⊢
  refine pure_ (i:=0) (N:=some 5) (v:=?_) (a':=?_) #[true,false,false,false,false,false,false,false,false,false,false,false,false,false,false,false,false,false] rfl rfl (any_of HT_.out ze_) (fun _ _ _ h=>h) (Or.inl ⟨by rfl,?_⟩) ?_ ?_
  rotate_left
  · intro w'
    go_simp
    with_reducible rfl
  rotate_left
  · simp only[Act.put,List.setIfInBounds_toArray,List.set_cons_zero,List.set_cons_succ,i64_w,i32_w]
    rfl
  refine pure_ (i:=2) (N:=some 7) (v:=?_) (a':=?_) #[true,false,true,false,false,false,false,false,false,false,false,false,false,false,false,false,false,false] rfl rfl (any_of HT_.out ze_) (fun _ _ _ h=>h) (Or.inl ⟨by rfl,?_⟩) ?_ ?_
  rotate_left
  · intro w'
    go_simp
    with_reducible rfl
  rotate_left
  · simp only[Act.put,List.setIfInBounds_toArray,List.set_cons_zero,List.set_cons_succ,i64_w,i32_w]
    rfl
  refine pure_ (i:=5) (N:=some 10) (v:=?_) (a':=?_) #[true,false,true,false,false,true,false,false,false,false,false,false,false,false,false,false,false,false] rfl rfl (any_of HT_.out ze_) (fun _ _ _ h=>h) (Or.inl ⟨by rfl,?_⟩) ?_ ?_
  rotate_left
  · intro w'
    go_simp
    with_reducible rfl
  rotate_left
  · simp only[Act.put,List.setIfInBounds_toArray,List.set_cons_zero,List.set_cons_succ,i64_w,i32_w]
    rfl
  refine pure_ (i:=7) (N:=some 12) (v:=?_) (a':=?_) #[true,false,true,false,false,true,false,true,false,false,false,false,false,false,false,false,false,false] rfl rfl (any_of HT_.out ze_) (fun _ _ _ h=>h) (Or.inl ⟨by rfl,?_⟩) ?_ ?_
  rotate_left
  · intro w'
    go_simp
    with_reducible rfl
  rotate_left
  · simp only[Act.put,List.setIfInBounds_toArray,List.set_cons_zero,List.set_cons_succ,i64_w,i32_w]
    rfl
  refine pure_ (i:=10) (N:=some 15) (v:=?_) (a':=?_) #[true,false,true,false,false,true,false,true,false,false,true,false,false,false,false,false,false,false] rfl rfl (any_of HT_.out ze_) (fun _ _ _ h=>h) (Or.inl ⟨by rfl,?_⟩) ?_ ?_
  rotate_left
  · intro w'
    go_simp
    with_reducible rfl
  rotate_left
  · simp only[Act.put,List.setIfInBounds_toArray,List.set_cons_zero,List.set_cons_succ,i64_w,i32_w]
    rfl
  refine pure_ (i:=12) (N:=some 17) (v:=?_) (a':=?_) #[true,false,true,false,false,true,false,true,false,false,true,false,true,false,false,false,false,false] rfl rfl (any_of HT_.out ze_) (fun _ _ _ h=>h) (Or.inl ⟨by rfl,?_⟩) ?_ ?_
  rotate_left
  · intro w'
    go_simp
    with_reducible rfl
  rotate_left
  · simp only[Act.put,List.setIfInBounds_toArray,List.set_cons_zero,List.set_cons_succ,i64_w,i32_w]
    rfl
  refine take_ (i:=1) (N:=some 6) (v:=?_) (a':=?_) #[true,true,true,false,false,true,false,true,false,false,true,false,true,false,false,false,false,false] rfl rfl (y4b_ HT_.out HW_.out ze_) (fun _ _ _ h=>h) (Or.inl ⟨by rfl,?_⟩) hHeld ?_ ?_
  rotate_left
  · rintro w' ⟨s0,s1,s2,s3,s4,s5⟩
    go_simp
    with_reducible rfl
  rotate_left
  · simp only[Act.put,List.setIfInBounds_toArray,List.set_cons_zero,List.set_cons_succ,i64_w,i32_w]
    rfl
  refine take_ (i:=3) (N:=some 8) (v:=?_) (a':=?_) #[true,true,true,true,false,true,false,true,false,false,true,false,true,false,false,false,false,false] rfl rfl (y4b_ HT_.out HW_.out ze_) (fun _ _ _ h=>h) (Or.inl ⟨by rfl,?_⟩) hHeld ?_ ?_
  rotate_left
  · rintro w' ⟨s0,s1,s2,s3,s4,s5⟩
    go_simp
    with_reducible rfl
  rotate_left
  · simp only[Act.put,List.setIfInBounds_toArray,List.set_cons_zero,List.set_cons_succ,i64_w,i32_w]
    rfl
  refine take_ (i:=6) (N:=some 11) (v:=?_) (a':=?_) #[true,true,true,true,false,true,true,true,false,false,true,false,true,false,false,false,false,false] rfl rfl (y4b_ HT_.out HW_.out ze_) (fun _ _ _ h=>h) (Or.inl ⟨by rfl,?_⟩) hHeld ?_ ?_
  rotate_left
  · rintro w' ⟨s0,s1,s2,s3,s4,s5⟩
    go_simp
    with_reducible rfl
  rotate_left
  · simp only[Act.put,List.setIfInBounds_toArray,List.set_cons_zero,List.set_cons_succ,i64_w,i32_w]
    rfl
  refine take_ (i:=8) (N:=some 13) (v:=?_) (a':=?_) #[true,true,true,true,false,true,true,true,true,false,true,false,true,false,false,false,false,false] rfl rfl (y4b_ HT_.out HW_.out ze_) (fun _ _ _ h=>h) (Or.inl ⟨by rfl,?_⟩) hHeld ?_ ?_
  rotate_left
  · rintro w' ⟨s0,s1,s2,s3,s4,s5⟩
    go_simp
    with_reducible rfl
  rotate_left
  · simp only[Act.put,List.setIfInBounds_toArray,List.set_cons_zero,List.set_cons_succ,i64_w,i32_w]
    rfl
  refine take_ (i:=11) (N:=some 16) (v:=?_) (a':=?_) #[true,true,true,true,false,true,true,true,true,false,true,true,true,false,false,false,false,false] rfl rfl (y4b_ HT_.out HW_.out ze_) (fun _ _ _ h=>h) (Or.inl ⟨by rfl,?_⟩) hHeld ?_ ?_
  rotate_left
  · rintro w' ⟨s0,s1,s2,s3,s4,s5⟩
    go_simp
    with_reducible rfl
  rotate_left
  · simp only[Act.put,List.setIfInBounds_toArray,List.set_cons_zero,List.set_cons_succ,i64_w,i32_w]
    rfl
  refine take_ (i:=13) (N:=some 18) (v:=?_) (a':=?_) #[true,true,true,true,false,true,true,true,true,false,true,true,true,true,false,false,false,false] rfl rfl (y4b_ HT_.out HW_.out ze_) (fun _ _ _ h=>h) (Or.inl ⟨by rfl,?_⟩) hHeld ?_ ?_
  rotate_left
  · rintro w' ⟨s0,s1,s2,s3,s4,s5⟩
    go_simp
    with_reducible rfl
  rotate_left
  · simp only[Act.put,List.setIfInBounds_toArray,List.set_cons_zero,List.set_cons_succ,i64_w,i32_w]
    rfl
  refine one_ (i:=4) (N:=some 9) #[true,true,true,true,true,true,true,true,true,false,true,true,true,true,false,false,false,false] rfl rfl (one_of HT_.out ze_) (by decide) (fun K hK=>?_)
  refine goes_ Tryz.func124 ze_ rfl #[.int .i64 a0_0,.int .i64 a1_0] (by rfl) rfl rfl zb_ ?_
  with_reducible refine (cmp_Compare_int.calls a0_0 a1_0 t349 _ A3.out).mono ?_
  rintro e w' ⟨rfl,⟨nd,rfl⟩⟩
  refine⟨_,rfl,?_⟩
  refine hK.out _ _ ⟨(yl_ BK347.out 0).trans rfl,(yl_ BK347.out 1).trans rfl,(yl_ BK347.out 2).trans rfl,(yl_ BK348.out 0).trans rfl,(yl_ BK348.out 1).trans rfl,(yl_ BK348.out 2).trans rfl⟩ (fun hHeld=>?_)
  clear hK K
  refine norm_ (a':=?_) ?_ ?_
  rotate_left
  · show Act.put _ (some 9) _=_
    simp only[Act.put,List.setIfInBounds_toArray,List.set_cons_zero,List.set_cons_succ,i64_w,i32_w]
    rfl
  refine one_ (i:=9) (N:=some 14) #[true,true,true,true,true,true,true,true,true,true,true,true,true,true,false,false,false,false] rfl rfl (one_of HT_.out ze_) (by decide) (fun K hK=>?_)
  refine goes_ Tryz.func124 ze_ rfl #[.int .i64 a0_1,.int .i64 a1_1] (by rfl) rfl rfl zb_ ?_
  with_reducible refine (cmp_Compare_int.calls a0_1 a1_1 t350 _ A4.out).mono ?_
  rintro e w' ⟨rfl,⟨nd,rfl⟩⟩
  refine⟨_,rfl,?_⟩
  refine hK.out _ _ ⟨(yl_ BK347.out 0).trans rfl,(yl_ BK347.out 1).trans rfl,(yl_ BK347.out 2).trans rfl,(yl_ BK348.out 0).trans rfl,(yl_ BK348.out 1).trans rfl,(yl_ BK348.out 2).trans rfl⟩ (fun hHeld=>?_)
  clear hK K
  refine norm_ (a':=?_) ?_ ?_
  rotate_left
  · show Act.put _ (some 14) _=_
    simp only[Act.put,List.setIfInBounds_toArray,List.set_cons_zero,List.set_cons_succ,i64_w,i32_w]
    rfl
  refine one_ (i:=14) (N:=some 19) #[true,true,true,true,true,true,true,true,true,true,true,true,true,true,true,false,false,false] rfl rfl (one_of HT_.out ze_) (by decide) (fun K hK=>?_)
  refine goes_ Tryz.func46 ze_ rfl #[.string a0_2,.string a1_2] (by rfl) rfl rfl zb_ ?_
  with_reducible refine (yX_.calls a0_2 a1_2 t351 _ A5.out).mono ?_
  rintro e w' ⟨rfl,⟨nd,rfl⟩⟩
  refine⟨_,rfl,?_⟩
  refine hK.out _ _ ⟨(yl_ BK347.out 0).trans rfl,(yl_ BK347.out 1).trans rfl,(yl_ BK347.out 2).trans rfl,(yl_ BK348.out 0).trans rfl,(yl_ BK348.out 1).trans rfl,(yl_ BK348.out 2).trans rfl⟩ (fun hHeld=>?_)
  clear hK K
  refine norm_ (a':=?_) ?_ ?_
  rotate_left
  · show Act.put _ (some 19) _=_
    simp only[Act.put,List.setIfInBounds_toArray,List.set_cons_zero,List.set_cons_succ,i64_w,i32_w]
    rfl
  refine one_ (i:=15) (N:=some 20) #[true,true,true,true,true,true,true,true,true,true,true,true,true,true,true,true,false,false] rfl rfl (one_of HT_.out ze_) (by decide) (fun K hK=>?_)
  refine Kd.R_lit_stepD (Kd.int .i64) _ 3 ?hg (N:=20) ?hd (xs:=([t349,t350,t351]:List Int)) (inner:=[.int .i64 t349,.int .i64 t350,.int .i64 t351]) (ok:=fun _=>True) (okp:=fun _=>True) ?hr ?hp (fun _ hk=>hk) trivial (Below.refl _ _) (Nat.le_refl _) (by simp) ?_;(case hd=>rfl);(case hg=>rfl);(case hr=>first|(go_simp;done)|(go_simp;rfl));(case hp=>exact (Reps.one (show Kd.M (Kd.int .i64) _ _ _ t349 [.int .i64 t349] from rfl) (Reps.one (show Kd.M (Kd.int .i64) _ _ _ t350 [.int .i64 t350] from rfl) (Reps.one (show Kd.M (Kd.int .i64) _ _ _ t351 [.int .i64 t351] from rfl) (Reps.none _ _)))))
  intro v353 w10 ho11 hb hg_ hnew_ hd_
  have m_:=Aside0.mk (show w.drawn≤w10.drawn from by have h_:=HD.out;rw[hd_];first|omega|(simp only[World.drewN];omega))
  clear HD
  have HD:=m_
  clear m_ hd_
  clear hg_ hnew_
  (first|rw[← Ny352.out] at ho11|(simp only[Int.reduceToNat] at ho11;rw[← Ny352.out] at ho11))
  have n0_:=Aside0.mk (Kd.y0_ ho11 (yp_ (by repeat (first|(with_reducible first|exact HB.out|apply yc_|apply ya_|apply yb_|refine yq_ ?_ GE347.out|refine yq_ ?_ GE348.out)|exact HB.out))))
  have n1_:=Aside0.mk (ylb_ (g:=gb347) (o:=.cells #[.int .i64 a0_0,.int .i64 a0_1,.string a0_2] 91 (0,0)) (by (with_reducible repeat (first|refine yw_ ?_ _|refine yz_ ?_|refine yv_ ?_ _));exact BK347.out) hb)
  have n2_:=Aside0.mk (ylb_ (g:=gb348) (o:=.cells #[.int .i64 a1_0,.int .i64 a1_1,.string a1_2] 91 (0,0)) (by (with_reducible repeat (first|refine yw_ ?_ _|refine yz_ ?_|refine yv_ ?_ _));exact BK348.out) hb)
  have n3_:=Aside0.mk (yn_ (by repeat (first|(with_reducible first|exact HB.out|apply yc_|apply ya_|apply yb_|refine yq_ ?_ GE347.out|refine yq_ ?_ GE348.out)|exact HB.out)) hb)
  clear BK347
  clear BK348
  clear HB
  have HO354:=n0_
  have BK347:=n1_
  have BK348:=n2_
  have HB:=n3_
  clear n0_ n1_ n2_ n3_
  clear hb ho11
  obtain⟨Ao12,co12,eo12⟩:=Kd.yE_ HO354.out
  (first|subst eo12|(injection eo12 with f1_ f2_ f3_;have f4_:=f1_.symm;have f5_:=f3_.symm;clear f1_ f2_ f3_;subst f4_;subst f5_))
  refine hK.out _ _ ⟨(yl_ BK347.out 0).trans rfl,(yl_ BK347.out 1).trans rfl,(yl_ BK347.out 2).trans rfl,(yl_ BK348.out 0).trans rfl,(yl_ BK348.out 1).trans rfl,(yl_ BK348.out 2).trans rfl⟩ (fun hHeld=>?_)
  clear hK K
  refine norm_ (a':=?_) ?_ ?_
  rotate_left
  · show Act.put _ (some 20) _=_
    simp only[Act.put,List.setIfInBounds_toArray,List.set_cons_zero,List.set_cons_succ,i64_w,i32_w]
    rfl
  refine one_ (i:=16) (N:=some 21) #[true,true,true,true,true,true,true,true,true,true,true,true,true,true,true,true,true,false] rfl rfl (one_of HT_.out ze_) (by decide) (fun K hK=>?_)
  refine goes_ Tryz.func123 ze_ rfl #[.slice Ao12 y352.length co12] (by rfl) rfl rfl zb_ ?_
  with_reducible refine (yZ_.calls k _ _ y352 t355 _ ?side1 ?side2 A6.out).mono ?_
  (case side1=>repeat (first|exact (Kd.yt_ HO354.out).2.2|(with_reducible refine Kd.yM_ ?_ _)|(with_reducible refine Kd.yY_ ?_ _)|(with_reducible refine Kd.C_drew ?_)))
  (case side2=>exact (Kd.yt_ HO354.out).2.1)
  rintro e w' ⟨rfl,⟨nd,rfl⟩⟩
  refine⟨_,rfl,?_⟩
  refine hK.out _ _ ⟨(yl_ BK347.out 0).trans rfl,(yl_ BK347.out 1).trans rfl,(yl_ BK347.out 2).trans rfl,(yl_ BK348.out 0).trans rfl,(yl_ BK348.out 1).trans rfl,(yl_ BK348.out 2).trans rfl⟩ (fun hHeld=>?_)
  clear hK K
  refine norm_ (a':=?_) ?_ ?_
  rotate_left
  · show Act.put _ (some 21) _=_
    simp only[Act.put,List.setIfInBounds_toArray,List.set_cons_zero,List.set_cons_succ,i64_w,i32_w]
    rfl
  refine pure_ (i:=17) (N:=some 4) (v:=?_) (a':=?_) #[true,true,true,true,true,true,true,true,true,true,true,true,true,true,true,true,true,true] rfl rfl (any_of HT_.out ze_) (fun _ _ _ h=>h) (Or.inl ⟨by rfl,?_⟩) ?_ ?_
  rotate_left
  · intro w'
    go_simp
    with_reducible rfl
  rotate_left
  · simp only[Act.put,List.setIfInBounds_toArray,List.set_cons_zero,List.set_cons_succ,i64_w,i32_w]
    rfl
  refine done_ (ycb_ HT_.out ze_) ?_
  try go_wp2
  go_ret
  exact⟨by first|rfl|(simp [yr_,ys_] <;> rfl)|(simp [*,yr_,ys_] <;> rfl),grow_of_below (by repeat (first|(with_reducible first|exact HB.out|apply yc_|apply ya_|apply yb_|refine yq_ ?_ GE347.out|refine yq_ ?_ GE348.out)|exact HB.out)) (by have h_:=HD.out;first|omega|(simp only[World.drewN];omega))⟩
end Go.Proofs.YthimblhfjfngiaaGreat.PText

namespace Go.Proofs.YthimblhfjfngiaaGreat.PText
open Go.RowKit Go.Proofs.YthimblhfjfngiaaGreatW.PrintWords Go.Proofs.YthimblhfjfngiaaGreatW.PrintLast Go.Proofs.YthimblhfjfngiaaGreatW.PrintMore
set_option linter.unusedVariables false
set_option linter.unusedSimpArgs false
theorem C_none34 {w:World} {l:List S91} (h:Kd.C k91 w none l.length l):l=[]:=by
  cases l with
  | nil=>rfl
  | cons x r =>
    obtain⟨ad,_,q,_⟩:=Kd.C_get h z91 0 (Int.le_refl _) (by rw[List.length_cons];omega)
    cases q
set_option maxHeartbeats 8000000 in
set_option maxRecDepth 100000 in
theorem clone_calls (A0:Option Addr) (c0:Nat) (l0:List S91) (w:World) (hr0:Kd.C k91 w A0 l0.length l0) (hl:l0.length≤10000) :
    Calls Tryz.prog 106 #[.slice A0 l0.length c0] w fun e w'=>∃ v0_:Value,e=.returned v0_∧Kd.R k91 91 w' w.heap.size (fun _=>True) v0_ l0∧Below w.heap.size w w':=by
  have hnil:∀ w',Sem.run Tryz.prog (binOp .eql 68 (.slice A0 l0.length c0) (.slice none 0 0)) w'=.ok (.bool A0.isNone) w':=fun w'=>Go.Lib.run_eql_slice_nil w' 68 91 A0 l0.length c0 0 0 Tryz.underlying68
  have HR1:=Aside0.mk hr0
  clear hr0
  cases hA:A0.isNone with
  | true =>
    obtain rfl:A0=none:=by cases A0 with|none=>rfl|some a=>cases hA
    obtain rfl:=C_none34 HR1.out
    rw[hA] at hnil
    simp only[List.length_nil] at hnil ⊢
    go_enter Tryz.func106,Tryz.ntmps106
    go_wp2
    go_ret
    exact⟨_,rfl,Kd.R_nil _ _ _ _ _,Below.refl _ _⟩
  | false =>
    rw[hA] at hnil
    have HB:=Aside0.mk (Below.refl w.heap.size w)
    obtain⟨y467,hy467⟩:∃ y_:List (S91),y_=(([]:List (S91))):=⟨_,rfl⟩
    have Ny467:=Aside0.mk hy467
    have LMc8:=Aside0.mk (show y467.length+l0.length < 4398046511104 by rw[hy467];simp;omega)
    clear hy467
    obtain⟨y470,hy470⟩:∃ y_:List (S91),y_=(y467++l0):=⟨_,rfl⟩
    have Ny470:=Aside0.mk hy470
    clear hy470
    go_enter Tryz.func106,Tryz.ntmps106
    go_wp2_with (first|((with_reducible refine yO_ (N:=5) rfl ?_);refine Kd.R_lit k91 _ 91 ?hg (N:=5) ?hd (xs:=([]:List (S91))) (inner:=[]) (ok:=fun _=>True) (okp:=fun _=>True) ?hr ?hp (fun _ hk=>hk) trivial (Below.refl _ _) (Nat.le_refl _) (by simp) ?_;(case hd=>rfl);(case hg=>rfl);(case hr=>first|(go_simp;done)|(go_simp;rfl));(case hp=>exact (Reps.none _ _));intro v468 w13 ho14 hb hg_ hnew_;clear hg_ hnew_;(first|rw[← Ny467.out] at ho14|(simp only[Int.reduceToNat] at ho14;rw[← Ny467.out] at ho14));have n0_:=Aside0.mk (Kd.y0_ ho14 (yp_ zf_));have n1_:=Aside0.mk (yn_ zf_ hb);clear HB;have HO469:=n0_;have HB:=n1_;clear n0_ n1_;clear hb ho14)|((with_reducible refine yL_ (b:=.append) (xs:=#[.tmp 5,.tmp 6]) rfl ?_);at_builtin;refine Kd.yxb_ k91 (w0:=w) w.heap.size rfl (.tmp 5) (.tmp 6) 68 91 (.agg #[(.int .i64 0),(.int .i64 0),(.string ⟨#[]⟩)]) 32 rfl Tryz.underlying68 info91 rfl (by decide) (by omega) v468 y467 l0 _ _ _ (fun _=>True) (fun _=>False) rfl rfl ?aO ?aR (fun _ _ h=>h) (fun _ h=>h.elim) ?aF ?aB ?aS ?aL ?_;(case aR=>repeat (first|exact (Kd.yR_ HR1.out HB.out)|(with_reducible refine Kd.yM_ ?_ _)|(with_reducible refine Kd.yY_ ?_ _)|(with_reducible refine Kd.C_drew ?_)));(case aB=>exact zf_);(case aF=>exact (fun _ _=>trivial));(case aO=>exact (by (with_reducible repeat (first|apply Kd.yj_|apply Kd.yk_|apply Kd.R_drew));exact HO469.out));(case aS=>exact (yp_ zf_));(case aL=>have:=LMc8.out;omega);intro v471 w15 ho hb hg hat;rw[← Ny470.out] at ho;have n0_:=Aside0.mk (hb);have n1_:=Aside0.mk (ho);clear HB;clear HO469;have HB:=n0_;have HO472:=n1_;clear n0_ n1_;clear ho hb hg hat))
    go_ret
    have e:y470=l0:=by rw[Ny470.out,Ny467.out];rfl
    rw[e] at HO472
    exact⟨_,rfl,HO472.out,HB.out⟩
end Go.Proofs.YthimblhfjfngiaaGreat.PText

