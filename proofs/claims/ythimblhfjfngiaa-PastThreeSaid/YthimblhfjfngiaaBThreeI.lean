/- PastThree holds: for every three texts the statement answers true. Part 9 of 25. -/
import Derived.Test.YthimblhfjfngiaaBThreeH
namespace Go.Proofs.Ythimblhfjfngiaa.PText
open Go.RowKit Go.Proofs.YthimblhfjfngiaaW.PrintWords Go.Proofs.YthimblhfjfngiaaW.PrintLast Go.Proofs.YthimblhfjfngiaaW.PrintMore
attribute [local go_sem] y2_ y3_ yfb_ ygb_ yS_ yT_ y4_ y5_   -- for this text's walks alone
set_option linter.unusedVariables false
set_option linter.unusedSimpArgs false

attribute [local go_sem high] eqA59
def yUb_.f (a0_0:Int) (a0_1:Int) (a0_2:ByteArray) (a1_0:Int) (a1_1:Int) (a1_2:ByteArray):Option (Bool):=if (!(a0_0 == a1_0) || (!(a0_1 == a1_1) || (!(a0_2.toList == a1_2.toList))))=true then (if a0_0≤a1_1 then (some (decide (a1_0≤a0_1))) else (some false)) else (some false)
set_option maxHeartbeats 8000000 in
set_option maxRecDepth 100000 in
theorem yUb_.calls (a0_0:Int) (a0_1:Int) (a0_2:ByteArray) (a1_0:Int) (a1_1:Int) (a1_2:ByteArray) (r:Bool) (w:World) (h:yUb_.f a0_0 a0_1 a0_2 a1_0 a1_1 a1_2=some r) :
  Calls Try.prog 26 #[.agg #[.int .i64 a0_0,.int .i64 a0_1,.string a0_2],.agg #[.int .i64 a1_0,.int .i64 a1_1,.string a1_2]] w fun e w'=>e=.returned (.bool r)∧Below w.heap.size w w':=by
 have hu59:=Try.underlying59
 have HB:=Aside0.mk (Below.refl w.heap.size w)
 have H:(if (!(a0_0 == a1_0) || (!(a0_1 == a1_1) || (!(a0_2.toList == a1_2.toList))))=true then (if a0_0≤a1_1 then (some (decide (a1_0≤a0_1))) else (some false)) else (some false))=some r:=h
 clear h
 by_cases c3:(!(a0_0 == a1_0) || (!(a0_1 == a1_1) || (!(a0_2.toList == a1_2.toList))))=true
 rotate_left
 ·rw [if_neg c3] at H
  have c3b0:(!(a0_0 == a1_0) || (!(a0_1 == a1_1) || (!(a0_2.toList == a1_2.toList))))=false:=by simpa using c3
  clear c3
  obtain rfl:=Option.some.inj H
  go_enter Try.func26,Try.ntmps26
  go_wp2_with (first|((with_reducible refine yL_ (N:=2) rfl ?_);refine y0_ ?hg (N:=2) ?hd (cs:=#[.int .i64 a0_0,.int .i64 a0_1,.string a0_2]) (t:=59) ?hr ?_;(case hd=>rfl);(case hg=>rfl);(case hr=>first|(go_simp;done)|(go_simp;rfl));intro gb387 hg w15 hbox hb;have n0_:=Aside0.mk (yp_ (by repeat (with_reducible first|exact HB.out|apply yc_|apply ya_|apply yb_)) hb);have n1_:=Aside0.mk (hbox);have n2_:=Aside0.mk ((by rw [hg];exact (yn_ (by repeat (with_reducible first|exact HB.out|apply yc_|apply ya_|apply yb_))):w.heap.size≤gb387));have n3_:=Aside0.mk ((by rw [hg];exact (yn_ (by repeat (with_reducible first|exact HB.out|apply yc_|apply ya_|apply yb_))):w.heap.size≤gb387));clear HB;have HB:=n0_;have BK387:=n1_;have GW387:=n2_;have GE387:=n3_;clear n0_ n1_ n2_ n3_;clear hb hbox hg)|((with_reducible refine yL_ (N:=3) rfl ?_);refine y0_ ?hg (N:=3) ?hd (cs:=#[.int .i64 a1_0,.int .i64 a1_1,.string a1_2]) (t:=59) ?hr ?_;(case hd=>rfl);(case hg=>rfl);(case hr=>first|(go_simp;done)|(go_simp;rfl));intro gb388 hg w16 hbox hb;have n0_:=Aside0.mk (yrb_ (g:=gb387) (o:=.cells #[.int .i64 a0_0,.int .i64 a0_1,.string a0_2] 59 (0,0)) (by (with_reducible repeat (first|refine yx_ ?_ _|refine yA_ ?_|refine yw_ ?_ _));exact BK387.out) hb);have n1_:=Aside0.mk (yp_ (by repeat (with_reducible first|exact HB.out|apply yc_|apply ya_|apply yb_|refine yo_ ?_ GE387.out)) hb);have n2_:=Aside0.mk (hbox);have n3_:=Aside0.mk ((by rw [hg];exact (yn_ (by repeat (with_reducible first|exact HB.out|apply yc_|apply ya_|apply yb_|refine yo_ ?_ GE387.out))):w.heap.size≤gb388));have n4_:=Aside0.mk ((by rw [hg];exact (yn_ (by repeat (with_reducible first|exact HB.out|apply yc_|apply ya_|apply yb_|refine yo_ ?_ GE387.out))):w.heap.size≤gb388));have n5_:=Aside0.mk ((by rw [hg];exact Nat.ne_of_lt (blk_lt (g:=gb387) (o:=.cells #[.int .i64 a0_0,.int .i64 a0_1,.string a0_2] 59 (0,0)) (by (with_reducible repeat (first|refine yx_ ?_ _|refine yA_ ?_|refine yw_ ?_ _));exact BK387.out)):gb387 ≠ gb388));have n6_:=Aside0.mk ((by rw [hg];exact Nat.ne_of_gt (blk_lt (g:=gb387) (o:=.cells #[.int .i64 a0_0,.int .i64 a0_1,.string a0_2] 59 (0,0)) (by (with_reducible repeat (first|refine yx_ ?_ _|refine yA_ ?_|refine yw_ ?_ _));exact BK387.out)):gb388 ≠ gb387));clear BK387;clear HB;have BK387:=n0_;have HB:=n1_;have BK388:=n2_;have GW388:=n3_;have GE388:=n4_;have NB387_388:=n5_;have NB388_387:=n6_;clear n0_ n1_ n2_ n3_ n4_ n5_ n6_;clear hb hbox hg;have hnb17:=NB387_388.out;have hnc17:=NB388_387.out;have hcz18_0:w16.cell? ⟨gb387,0,none⟩=some (.int .i64 a0_0):=(yk_ BK387.out 0).trans rfl;have hcz18_1:w16.cell? ⟨gb387,1,none⟩=some (.int .i64 a0_1):=(yk_ BK387.out 1).trans rfl;have hcz18_2:w16.cell? ⟨gb387,2,none⟩=some (.string a0_2):=(yk_ BK387.out 2).trans rfl;have hfz18_0:=ym_ BK387.out 0;have hfz18_1:=ym_ BK387.out 1;have hfz18_2:=ym_ BK387.out 2;have hcz19_0:w16.cell? ⟨gb388,0,none⟩=some (.int .i64 a1_0):=(yk_ BK388.out 0).trans rfl;have hcz19_1:w16.cell? ⟨gb388,1,none⟩=some (.int .i64 a1_1):=(yk_ BK388.out 1).trans rfl;have hcz19_2:w16.cell? ⟨gb388,2,none⟩=some (.string a1_2):=(yk_ BK388.out 2).trans rfl;have hfz19_0:=ym_ BK388.out 0;have hfz19_1:=ym_ BK388.out 1;have hfz19_2:=ym_ BK388.out 2))
  go_ret
  exact ⟨by first|rfl|(simp [yq_,yr_] <;> rfl)|(simp [*,yq_,yr_] <;> rfl),by repeat (with_reducible first|exact HB.out|apply yc_|apply ya_|apply yb_|refine yo_ ?_ GE387.out|refine yo_ ?_ GE388.out)⟩
 rw [if_pos c3] at H
 have c3b0:(!(a0_0 == a1_0) || (!(a0_1 == a1_1) || (!(a0_2.toList == a1_2.toList))))=true:=c3
 clear c3
 by_cases c4:a0_0≤a1_1
 ·rw [if_pos c4] at H
  have c4b0:decide (a0_0≤a1_1)=true:=decide_eq_true c4
  clear c4
  obtain rfl:=Option.some.inj H
  go_enter Try.func26,Try.ntmps26
  go_wp2_with (first|((with_reducible refine yL_ (N:=2) rfl ?_);refine y0_ ?hg (N:=2) ?hd (cs:=#[.int .i64 a0_0,.int .i64 a0_1,.string a0_2]) (t:=59) ?hr ?_;(case hd=>rfl);(case hg=>rfl);(case hr=>first|(go_simp;done)|(go_simp;rfl));intro gb387 hg w5 hbox hb;have n0_:=Aside0.mk (yp_ (by repeat (with_reducible first|exact HB.out|apply yc_|apply ya_|apply yb_)) hb);have n1_:=Aside0.mk (hbox);have n2_:=Aside0.mk ((by rw [hg];exact (yn_ (by repeat (with_reducible first|exact HB.out|apply yc_|apply ya_|apply yb_))):w.heap.size≤gb387));have n3_:=Aside0.mk ((by rw [hg];exact (yn_ (by repeat (with_reducible first|exact HB.out|apply yc_|apply ya_|apply yb_))):w.heap.size≤gb387));clear HB;have HB:=n0_;have BK387:=n1_;have GW387:=n2_;have GE387:=n3_;clear n0_ n1_ n2_ n3_;clear hb hbox hg)|((with_reducible refine yL_ (N:=3) rfl ?_);refine y0_ ?hg (N:=3) ?hd (cs:=#[.int .i64 a1_0,.int .i64 a1_1,.string a1_2]) (t:=59) ?hr ?_;(case hd=>rfl);(case hg=>rfl);(case hr=>first|(go_simp;done)|(go_simp;rfl));intro gb388 hg w6 hbox hb;have n0_:=Aside0.mk (yrb_ (g:=gb387) (o:=.cells #[.int .i64 a0_0,.int .i64 a0_1,.string a0_2] 59 (0,0)) (by (with_reducible repeat (first|refine yx_ ?_ _|refine yA_ ?_|refine yw_ ?_ _));exact BK387.out) hb);have n1_:=Aside0.mk (yp_ (by repeat (with_reducible first|exact HB.out|apply yc_|apply ya_|apply yb_|refine yo_ ?_ GE387.out)) hb);have n2_:=Aside0.mk (hbox);have n3_:=Aside0.mk ((by rw [hg];exact (yn_ (by repeat (with_reducible first|exact HB.out|apply yc_|apply ya_|apply yb_|refine yo_ ?_ GE387.out))):w.heap.size≤gb388));have n4_:=Aside0.mk ((by rw [hg];exact (yn_ (by repeat (with_reducible first|exact HB.out|apply yc_|apply ya_|apply yb_|refine yo_ ?_ GE387.out))):w.heap.size≤gb388));have n5_:=Aside0.mk ((by rw [hg];exact Nat.ne_of_lt (blk_lt (g:=gb387) (o:=.cells #[.int .i64 a0_0,.int .i64 a0_1,.string a0_2] 59 (0,0)) (by (with_reducible repeat (first|refine yx_ ?_ _|refine yA_ ?_|refine yw_ ?_ _));exact BK387.out)):gb387 ≠ gb388));have n6_:=Aside0.mk ((by rw [hg];exact Nat.ne_of_gt (blk_lt (g:=gb387) (o:=.cells #[.int .i64 a0_0,.int .i64 a0_1,.string a0_2] 59 (0,0)) (by (with_reducible repeat (first|refine yx_ ?_ _|refine yA_ ?_|refine yw_ ?_ _));exact BK387.out)):gb388 ≠ gb387));clear BK387;clear HB;have BK387:=n0_;have HB:=n1_;have BK388:=n2_;have GW388:=n3_;have GE388:=n4_;have NB387_388:=n5_;have NB388_387:=n6_;clear n0_ n1_ n2_ n3_ n4_ n5_ n6_;clear hb hbox hg;have hnb7:=NB387_388.out;have hnc7:=NB388_387.out;have hcz8_0:w6.cell? ⟨gb387,0,none⟩=some (.int .i64 a0_0):=(yk_ BK387.out 0).trans rfl;have hcz8_1:w6.cell? ⟨gb387,1,none⟩=some (.int .i64 a0_1):=(yk_ BK387.out 1).trans rfl;have hcz8_2:w6.cell? ⟨gb387,2,none⟩=some (.string a0_2):=(yk_ BK387.out 2).trans rfl;have hfz8_0:=ym_ BK387.out 0;have hfz8_1:=ym_ BK387.out 1;have hfz8_2:=ym_ BK387.out 2;have hcz9_0:w6.cell? ⟨gb388,0,none⟩=some (.int .i64 a1_0):=(yk_ BK388.out 0).trans rfl;have hcz9_1:w6.cell? ⟨gb388,1,none⟩=some (.int .i64 a1_1):=(yk_ BK388.out 1).trans rfl;have hcz9_2:w6.cell? ⟨gb388,2,none⟩=some (.string a1_2):=(yk_ BK388.out 2).trans rfl;have hfz9_0:=ym_ BK388.out 0;have hfz9_1:=ym_ BK388.out 1;have hfz9_2:=ym_ BK388.out 2))
  go_ret
  exact ⟨by first|rfl|(simp [yq_,yr_] <;> rfl)|(simp [*,yq_,yr_] <;> rfl),by repeat (with_reducible first|exact HB.out|apply yc_|apply ya_|apply yb_|refine yo_ ?_ GE387.out|refine yo_ ?_ GE388.out)⟩
 rw [if_neg c4] at H
 have c4b0:decide (a0_0≤a1_1)=false:=decide_eq_false c4
 clear c4
 obtain rfl:=Option.some.inj H
 go_enter Try.func26,Try.ntmps26
 go_wp2_with (first|((with_reducible refine yL_ (N:=2) rfl ?_);refine y0_ ?hg (N:=2) ?hd (cs:=#[.int .i64 a0_0,.int .i64 a0_1,.string a0_2]) (t:=59) ?hr ?_;(case hd=>rfl);(case hg=>rfl);(case hr=>first|(go_simp;done)|(go_simp;rfl));intro gb387 hg w10 hbox hb;have n0_:=Aside0.mk (yp_ (by repeat (with_reducible first|exact HB.out|apply yc_|apply ya_|apply yb_)) hb);have n1_:=Aside0.mk (hbox);have n2_:=Aside0.mk ((by rw [hg];exact (yn_ (by repeat (with_reducible first|exact HB.out|apply yc_|apply ya_|apply yb_))):w.heap.size≤gb387));have n3_:=Aside0.mk ((by rw [hg];exact (yn_ (by repeat (with_reducible first|exact HB.out|apply yc_|apply ya_|apply yb_))):w.heap.size≤gb387));clear HB;have HB:=n0_;have BK387:=n1_;have GW387:=n2_;have GE387:=n3_;clear n0_ n1_ n2_ n3_;clear hb hbox hg)|((with_reducible refine yL_ (N:=3) rfl ?_);refine y0_ ?hg (N:=3) ?hd (cs:=#[.int .i64 a1_0,.int .i64 a1_1,.string a1_2]) (t:=59) ?hr ?_;(case hd=>rfl);(case hg=>rfl);(case hr=>first|(go_simp;done)|(go_simp;rfl));intro gb388 hg w11 hbox hb;have n0_:=Aside0.mk (yrb_ (g:=gb387) (o:=.cells #[.int .i64 a0_0,.int .i64 a0_1,.string a0_2] 59 (0,0)) (by (with_reducible repeat (first|refine yx_ ?_ _|refine yA_ ?_|refine yw_ ?_ _));exact BK387.out) hb);have n1_:=Aside0.mk (yp_ (by repeat (with_reducible first|exact HB.out|apply yc_|apply ya_|apply yb_|refine yo_ ?_ GE387.out)) hb);have n2_:=Aside0.mk (hbox);have n3_:=Aside0.mk ((by rw [hg];exact (yn_ (by repeat (with_reducible first|exact HB.out|apply yc_|apply ya_|apply yb_|refine yo_ ?_ GE387.out))):w.heap.size≤gb388));have n4_:=Aside0.mk ((by rw [hg];exact (yn_ (by repeat (with_reducible first|exact HB.out|apply yc_|apply ya_|apply yb_|refine yo_ ?_ GE387.out))):w.heap.size≤gb388));have n5_:=Aside0.mk ((by rw [hg];exact Nat.ne_of_lt (blk_lt (g:=gb387) (o:=.cells #[.int .i64 a0_0,.int .i64 a0_1,.string a0_2] 59 (0,0)) (by (with_reducible repeat (first|refine yx_ ?_ _|refine yA_ ?_|refine yw_ ?_ _));exact BK387.out)):gb387 ≠ gb388));have n6_:=Aside0.mk ((by rw [hg];exact Nat.ne_of_gt (blk_lt (g:=gb387) (o:=.cells #[.int .i64 a0_0,.int .i64 a0_1,.string a0_2] 59 (0,0)) (by (with_reducible repeat (first|refine yx_ ?_ _|refine yA_ ?_|refine yw_ ?_ _));exact BK387.out)):gb388 ≠ gb387));clear BK387;clear HB;have BK387:=n0_;have HB:=n1_;have BK388:=n2_;have GW388:=n3_;have GE388:=n4_;have NB387_388:=n5_;have NB388_387:=n6_;clear n0_ n1_ n2_ n3_ n4_ n5_ n6_;clear hb hbox hg;have hnb12:=NB387_388.out;have hnc12:=NB388_387.out;have hcz13_0:w11.cell? ⟨gb387,0,none⟩=some (.int .i64 a0_0):=(yk_ BK387.out 0).trans rfl;have hcz13_1:w11.cell? ⟨gb387,1,none⟩=some (.int .i64 a0_1):=(yk_ BK387.out 1).trans rfl;have hcz13_2:w11.cell? ⟨gb387,2,none⟩=some (.string a0_2):=(yk_ BK387.out 2).trans rfl;have hfz13_0:=ym_ BK387.out 0;have hfz13_1:=ym_ BK387.out 1;have hfz13_2:=ym_ BK387.out 2;have hcz14_0:w11.cell? ⟨gb388,0,none⟩=some (.int .i64 a1_0):=(yk_ BK388.out 0).trans rfl;have hcz14_1:w11.cell? ⟨gb388,1,none⟩=some (.int .i64 a1_1):=(yk_ BK388.out 1).trans rfl;have hcz14_2:w11.cell? ⟨gb388,2,none⟩=some (.string a1_2):=(yk_ BK388.out 2).trans rfl;have hfz14_0:=ym_ BK388.out 0;have hfz14_1:=ym_ BK388.out 1;have hfz14_2:=ym_ BK388.out 2))
 go_ret
 exact ⟨by first|rfl|(simp [yq_,yr_] <;> rfl)|(simp [*,yq_,yr_] <;> rfl),by repeat (with_reducible first|exact HB.out|apply yc_|apply ya_|apply yb_|refine yo_ ?_ GE387.out|refine yo_ ?_ GE388.out)⟩

end Go.Proofs.Ythimblhfjfngiaa.PText

namespace Go.Proofs.Ythimblhfjfngiaa.PText
open Go.RowKit Go.Proofs.YthimblhfjfngiaaW.PrintWords Go.Proofs.YthimblhfjfngiaaW.PrintLast Go.Proofs.YthimblhfjfngiaaW.PrintMore
attribute [local go_sem] y2_ y3_ yfb_ ygb_ yS_ yT_ y4_ y5_   -- for this text's walks alone
set_option linter.unusedVariables false
set_option linter.unusedSimpArgs false

def yub_.l0:Nat→List Int→List Int→Int→Option (Bool)
 | 0,_,_,_=>none
 | k+1,x0,x1,x5=>if x5 < (x0.length:Int) then (if 0≤x5 then (if x5 < (x1.length:Int) then (if (rd x0 x5)=(rd x1 x5) then (yub_.l0 k x0 x1 (wrap64 (x5+1))) else (some false)) else (none)) else (none)) else (some true)
def yub_.f (k:Nat) (l0:List Int) (l1:List Int):Option (Bool):=if (l0.length:Int)=(l1.length:Int) then (yub_.l0 k l0 l1 0) else (some false)
set_option maxHeartbeats 8000000 in
set_option maxRecDepth 100000 in
theorem yub_.calls (k:Nat) (A0:Option Addr) (c0:Nat) (l0:List Int) (A1:Option Addr) (c1:Nat) (l1:List Int) (r:Bool) (w:World) (hr0:Kd.C (Kd.int .i64) w A0 l0.length l0) (hc0:l0.length≤c0) (hr1:Kd.C (Kd.int .i64) w A1 l1.length l1) (hc1:l1.length≤c1) (h:yub_.f k l0 l1=some r) :
  Calls Try.prog 22 #[.slice A0 l0.length c0,.slice A1 l1.length c1] w fun e w'=>e=.returned (.bool r)∧Drawn0 w w':=by
 have HR0:=Aside0.mk hr0
 have HC0:=Aside0.mk hc0
 clear hr0 hc0
 have HR1:=Aside0.mk hr1
 have HC1:=Aside0.mk hc1
 clear hr1 hc1
 have H:(if (l0.length:Int)=(l1.length:Int) then (yub_.l0 k l0 l1 0) else (some false))=some r:=h
 clear h
 by_cases c3:(l0.length:Int)=(l1.length:Int)
 rotate_left
 ·rw [if_neg c3] at H
  have c3b0:((l0.length:Int) == (l1.length:Int))=false:=beq_eq_false_iff_ne.mpr c3
  have c3b1:((l0.length:Int) != (l1.length:Int))=true:=bne_iff_ne.mpr c3
  have c3b2:(l0.length == l1.length)=false:=by first|simpa using c3|(simp at c3 ⊢;omega)
  obtain rfl:=Option.some.inj H
  go_enter Try.func22,Try.ntmps22
  go_wp2
  repeat (go_quiet (fail);try go_wp2)
  go_ret
  exact ⟨by first|rfl|(simp;done)|(simp [*];done),by repeat (first|exact Drawn0.refl _|apply Drawn0.step)⟩
 rw [if_pos c3] at H
 have c3b0:((l0.length:Int) == (l1.length:Int))=true:=beq_iff_eq.mpr c3
 have c3b1:((l0.length:Int) != (l1.length:Int))=false:=bne_eq_false_iff_eq.mpr c3
 have c3b2:(l0.length == l1.length)=true:=by first|simpa using c3|(simp at c3 ⊢;omega)
 clear c3
 have H':=Aside0.mk H
 clear H
 go_enter Try.func22,Try.ntmps22
 go_wp2
 repeat (go_quiet (fail);try go_wp2)
 try simp only [Act.put,List.setIfInBounds_toArray,List.set_cons_succ,List.set_cons_zero]
 go_loopg [5] k (fun kq v5 w'=>∃ (x5_1:Int),v5=.int .i64 x5_1∧Aside0 (yub_.l0 kq l0 l1 x5_1=some r)∧Aside0 (kq≤k)∧Drawn0 w w')
 case atStart=>exact ⟨(0),(by first|rfl|(simp;done)|(simp [*];done)),H',⟨Nat.le_refl _⟩,by repeat (first|exact Drawn0.refl _|apply Drawn0.step)⟩
 case round =>
  clear H'
  try clear c1
  try clear c2
  try clear p2
  try clear c3
  try clear c3b0
  try clear c3b1
  try clear c3b2
  obtain ⟨x5_1,rfl,HA,HK1,⟨m1,rfl⟩⟩:=hrel
  cases gk with
  | zero=>exact absurd HA.out (by simp [yub_.l0])
  | succ k1 =>
   have H:=HA.out
   clear HA
   simp only [yub_.l0] at H
   by_cases c4:x5_1 < (l0.length:Int)
   rotate_left
   ·rw [if_neg c4] at H
    have c4b0:decide (x5_1 < (l0.length:Int))=false:=decide_eq_false c4
    clear c4
    obtain rfl:=Option.some.inj H
    go_wp2
    repeat (go_quiet (fail);try go_wp2)
    go_ret
    exact ⟨by first|rfl|(simp;done)|(simp [*];done),by repeat (first|exact Drawn0.refl _|apply Drawn0.step)⟩
   rw [if_pos c4] at H
   have c4b0:decide (x5_1 < (l0.length:Int))=true:=decide_eq_true c4
   clear c4
   by_cases c5:0≤x5_1
   rotate_left
   ·rw [if_neg c5] at H
    exact absurd H (by simp)
   rw [if_pos c5] at H
   have c5b0:decide (0≤x5_1)=true:=decide_eq_true c5
   clear c5
   by_cases c6:x5_1 < (l1.length:Int)
   rotate_left
   ·rw [if_neg c6] at H
    exact absurd H (by simp)
   rw [if_pos c6] at H
   have c6b0:decide (x5_1 < (l1.length:Int))=true:=decide_eq_true c6
   clear c6
   by_cases c7:(rd l0 x5_1)=(rd l1 x5_1)
   rotate_left
   ·rw [if_neg c7] at H
    have c7b0:((rd l0 x5_1) == (rd l1 x5_1))=false:=beq_eq_false_iff_ne.mpr c7
    have c7b1:((rd l0 x5_1) != (rd l1 x5_1))=true:=bne_iff_ne.mpr c7
    obtain rfl:=Option.some.inj H
    have p404:0≤(x5_1:Int):=of_decide_eq_true (by assumption)
    have q404:x5_1 < (l0.length:Int):=of_decide_eq_true (by assumption)
    obtain ⟨ad404,e404,hx404_0⟩:=Kd.at_int HR0.out x5_1 p404 q404
    cases e404
    replace p404:=eq_true p404
    replace q404:=eq_true q404
    have p405:0≤(x5_1:Int):=of_decide_eq_true (by assumption)
    have q405:x5_1 < (l1.length:Int):=of_decide_eq_true (by assumption)
    obtain ⟨ad405,e405,hx405_0⟩:=Kd.at_int HR1.out x5_1 p405 q405
    cases e405
    replace p405:=eq_true p405
    replace q405:=eq_true q405
    go_wp2
    repeat (go_quiet (fail);try go_wp2)
    go_ret
    exact ⟨by first|rfl|(simp;done)|(simp [*];done),by repeat (first|exact Drawn0.refl _|apply Drawn0.step)⟩
   rw [if_pos c7] at H
   have c7b0:((rd l0 x5_1) == (rd l1 x5_1))=true:=beq_iff_eq.mpr c7
   have c7b1:((rd l0 x5_1) != (rd l1 x5_1))=false:=bne_eq_false_iff_eq.mpr c7
   clear c7
   have H':=Aside0.mk H
   clear H
   have p404:0≤(x5_1:Int):=of_decide_eq_true (by assumption)
   have q404:x5_1 < (l0.length:Int):=of_decide_eq_true (by assumption)
   obtain ⟨ad404,e404,hx404_0⟩:=Kd.at_int HR0.out x5_1 p404 q404
   cases e404
   replace p404:=eq_true p404
   replace q404:=eq_true q404
   have p405:0≤(x5_1:Int):=of_decide_eq_true (by assumption)
   have q405:x5_1 < (l1.length:Int):=of_decide_eq_true (by assumption)
   obtain ⟨ad405,e405,hx405_0⟩:=Kd.at_int HR1.out x5_1 p405 q405
   cases e405
   replace p405:=eq_true p405
   replace q405:=eq_true q405
   go_wp2
   repeat (go_quiet (fail);try go_wp2)
   go_roundg k1
   case measure=>have:=HK1.out;omega
   case rel=>exact ⟨(wrap64 (x5_1+1)),(by first|rfl|(simp;done)|(simp [*];done)),H',⟨by have:=HK1.out;omega⟩,by repeat (first|exact Drawn0.refl _|apply Drawn0.step)⟩

end Go.Proofs.Ythimblhfjfngiaa.PText

namespace Go.Proofs.Ythimblhfjfngiaa.PText
open Go.RowKit Go.Proofs.YthimblhfjfngiaaW.PrintWords Go.Proofs.YthimblhfjfngiaaW.PrintLast Go.Proofs.YthimblhfjfngiaaW.PrintMore
attribute [local go_sem] y2_ y3_ yfb_ ygb_ yS_ yT_ y4_ y5_   -- for this text's walks alone
set_option linter.unusedVariables false
set_option linter.unusedSimpArgs false

def cmp_isNaN_string.f (a0:ByteArray):Option (Bool):=some (a0.toList != a0.toList)
set_option maxHeartbeats 8000000 in
set_option maxRecDepth 100000 in
theorem cmp_isNaN_string.calls (a0:ByteArray) (r:Bool) (w:World) (h:cmp_isNaN_string.f a0=some r) :
  Calls Try.prog 59 #[.string a0] w fun e w'=>e=.returned (.bool r)∧Drawn0 w w':=by
 have H:(some (a0.toList != a0.toList))=some r:=h
 clear h
 obtain rfl:=Option.some.inj H
 go_enter Try.func59,Try.ntmps59
 go_wp2
 go_ret
 exact ⟨by first|rfl|(simp;done)|(simp [*];done),by repeat (first|exact Drawn0.refl _|apply Drawn0.step)⟩

end Go.Proofs.Ythimblhfjfngiaa.PText

namespace Go.Proofs.Ythimblhfjfngiaa.PText
open Go.RowKit Go.Proofs.YthimblhfjfngiaaW.PrintWords Go.Proofs.YthimblhfjfngiaaW.PrintLast Go.Proofs.YthimblhfjfngiaaW.PrintMore
attribute [local go_sem] y2_ y3_ yfb_ ygb_ yS_ yT_ y4_ y5_   -- for this text's walks alone
set_option linter.unusedVariables false
set_option linter.unusedSimpArgs false

def yQ_.l0:Nat→Int→List Int→Int→Int→Option (Int)
 | 0,_,_,_,_=>none
 | k+1,x3,x6,x7,x8=>if x8 < x7 then (if 0≤x8 then (if x8 < (x6.length:Int) then (if (rd x6 x8)=x3 then (yQ_.l0 k x3 x6 x7 (wrap64 (x8+1))) else (some (rd x6 x8))) else (none)) else (none)) else (some x3)
def yQ_.f (k:Nat) (l0:List Int):Option (Int):=yQ_.l0 k 0 l0 (l0.length:Int) 0
set_option maxHeartbeats 8000000 in
set_option maxRecDepth 100000 in
theorem yQ_.calls (k:Nat) (A0:Option Addr) (c0:Nat) (l0:List Int) (r:Int) (w:World) (hr0:Kd.C (Kd.int .i64) w A0 l0.length l0) (hc0:l0.length≤c0) (h:yQ_.f k l0=some r) :
  Calls Try.prog 84 #[.slice A0 l0.length c0] w fun e w'=>e=.returned (.int .i64 r)∧Drawn0 w w':=by
 have HR0:=Aside0.mk hr0
 have HC0:=Aside0.mk hc0
 clear hr0 hc0
 have H:(yQ_.l0 k 0 l0 (l0.length:Int) 0)=some r:=h
 clear h
 have H':=Aside0.mk H
 clear H
 go_enter Try.func84,Try.ntmps84
 go_wp2
 try simp only [Act.put,List.setIfInBounds_toArray,List.set_cons_succ,List.set_cons_zero]
 go_loopg [8] k (fun kq v8 w'=>∃ (x8_1:Int),v8=.int .i64 x8_1∧Aside0 (yQ_.l0 kq 0 l0 (l0.length:Int) x8_1=some r)∧Aside0 (kq≤k)∧Drawn0 w w')
 case atStart=>exact ⟨(0),(by first|rfl|(simp;done)|(simp [*];done)),H',⟨Nat.le_refl _⟩,by repeat (first|exact Drawn0.refl _|apply Drawn0.step)⟩
 case round =>
  clear H'
  obtain ⟨x8_1,rfl,HA,HK1,⟨m1,rfl⟩⟩:=hrel
  cases gk with
  | zero=>exact absurd HA.out (by simp [yQ_.l0])
  | succ k1 =>
   have H:=HA.out
   clear HA
   simp only [yQ_.l0] at H
   by_cases c2:x8_1 < (l0.length:Int)
   rotate_left
   ·rw [if_neg c2] at H
    have c2b0:decide (x8_1 < (l0.length:Int))=false:=decide_eq_false c2
    clear c2
    obtain rfl:=Option.some.inj H
    go_wp2
    go_ret
    exact ⟨by first|rfl|(simp;done)|(simp [*];done),by repeat (first|exact Drawn0.refl _|apply Drawn0.step)⟩
   rw [if_pos c2] at H
   have c2b0:decide (x8_1 < (l0.length:Int))=true:=decide_eq_true c2
   clear c2
   by_cases c3:0≤x8_1
   rotate_left
   ·rw [if_neg c3] at H
    exact absurd H (by simp)
   rw [if_pos c3] at H
   have c3b0:decide (0≤x8_1)=true:=decide_eq_true c3
   clear c3
   by_cases c4:x8_1 < (l0.length:Int)
   rotate_left
   ·rw [if_neg c4] at H
    exact absurd H (by simp)
   rw [if_pos c4] at H
   have c4b0:decide (x8_1 < (l0.length:Int))=true:=decide_eq_true c4
   clear c4
   by_cases c5:(rd l0 x8_1)=0
   rotate_left
   ·rw [if_neg c5] at H
    have c5b0:((rd l0 x8_1) == 0)=false:=beq_eq_false_iff_ne.mpr c5
    have c5b1:((rd l0 x8_1) != 0)=true:=bne_iff_ne.mpr c5
    obtain rfl:=Option.some.inj H
    have p168:0≤(x8_1:Int):=of_decide_eq_true (by assumption)
    have q168:x8_1 < (l0.length:Int):=of_decide_eq_true (by assumption)
    obtain ⟨ad168,e168,hx168_0⟩:=Kd.at_int HR0.out x8_1 p168 q168
    cases e168
    replace p168:=eq_true p168
    replace q168:=eq_true q168
    go_wp2
    go_ret
    exact ⟨by first|rfl|(simp;done)|(simp [*];done),by repeat (first|exact Drawn0.refl _|apply Drawn0.step)⟩
   rw [if_pos c5] at H
   have c5b0:((rd l0 x8_1) == 0)=true:=beq_iff_eq.mpr c5
   have c5b1:((rd l0 x8_1) != 0)=false:=bne_eq_false_iff_eq.mpr c5
   clear c5
   have H':=Aside0.mk H
   clear H
   have p168:0≤(x8_1:Int):=of_decide_eq_true (by assumption)
   have q168:x8_1 < (l0.length:Int):=of_decide_eq_true (by assumption)
   obtain ⟨ad168,e168,hx168_0⟩:=Kd.at_int HR0.out x8_1 p168 q168
   cases e168
   replace p168:=eq_true p168
   replace q168:=eq_true q168
   go_wp2
   go_roundg k1
   case measure=>have:=HK1.out;omega
   case rel=>exact ⟨(wrap64 (x8_1+1)),(by first|rfl|(simp;done)|(simp [*];done)),H',⟨by have:=HK1.out;omega⟩,by repeat (first|exact Drawn0.refl _|apply Drawn0.step)⟩

end Go.Proofs.Ythimblhfjfngiaa.PText

namespace Go.Proofs.Ythimblhfjfngiaa.PText
open Go.RowKit Go.Proofs.YthimblhfjfngiaaW.PrintWords Go.Proofs.YthimblhfjfngiaaW.PrintLast Go.Proofs.YthimblhfjfngiaaW.PrintMore
attribute [local go_sem] y2_ y3_ yfb_ ygb_ yS_ yT_ y4_ y5_   -- for this text's walks alone
set_option linter.unusedVariables false
set_option linter.unusedSimpArgs false

def cmp_isNaN_int.f (a0:Int):Option (Bool):=some (a0 != a0)
set_option maxHeartbeats 8000000 in
set_option maxRecDepth 100000 in
theorem cmp_isNaN_int.calls (a0:Int) (r:Bool) (w:World) (h:cmp_isNaN_int.f a0=some r) :
  Calls Try.prog 103 #[.int .i64 a0] w fun e w'=>e=.returned (.bool r)∧Drawn0 w w':=by
 have H:(some (a0 != a0))=some r:=h
 clear h
 obtain rfl:=Option.some.inj H
 go_enter Try.func103,Try.ntmps103
 go_wp2
 go_ret
 exact ⟨by first|rfl|(simp;done)|(simp [*];done),by repeat (first|exact Drawn0.refl _|apply Drawn0.step)⟩

end Go.Proofs.Ythimblhfjfngiaa.PText

namespace Go.Proofs.Ythimblhfjfngiaa.PText
open Go.RowKit Go.Proofs.YthimblhfjfngiaaW.PrintWords Go.Proofs.YthimblhfjfngiaaW.PrintLast Go.Proofs.YthimblhfjfngiaaW.PrintMore
attribute [local go_sem] y2_ y3_ yfb_ ygb_ yS_ yT_ y4_ y5_   -- for this text's walks alone
set_option linter.unusedVariables false
set_option linter.unusedSimpArgs false

def cmp_Compare_int.f (a0:Int) (a1:Int):Option (Int):=(cmp_isNaN_int.f a0).bind fun t169=>((cmp_isNaN_int.f a1).bind fun t170=>(if t169=true then (if t170=true then (some 0) else (some (-1))) else (if t170=true then (some 1) else (if a0 < a1 then (some (-1)) else (if a0 > a1 then (some 1) else (some 0))))))
set_option maxHeartbeats 8000000 in
set_option maxRecDepth 100000 in
theorem cmp_Compare_int.calls (a0:Int) (a1:Int) (r:Int) (w:World) (h:cmp_Compare_int.f a0 a1=some r) :
  Calls Try.prog 85 #[.int .i64 a0,.int .i64 a1] w fun e w'=>e=.returned (.int .i64 r)∧Drawn0 w w':=by
 have H:((cmp_isNaN_int.f a0).bind fun t169=>((cmp_isNaN_int.f a1).bind fun t170=>(if t169=true then (if t170=true then (some 0) else (some (-1))) else (if t170=true then (some 1) else (if a0 < a1 then (some (-1)) else (if a0 > a1 then (some 1) else (some 0)))))))=some r:=h
 clear h
 replace H:=Option.bind_eq_some_iff.mp H
 obtain ⟨t169,A30,H⟩:=H
 replace H:((cmp_isNaN_int.f a1).bind fun t170=>(if t169=true then (if t170=true then (some 0) else (some (-1))) else (if t170=true then (some 1) else (if a0 < a1 then (some (-1)) else (if a0 > a1 then (some 1) else (some 0))))))=some r:=H
 have A3:=Aside0.mk A30
 clear A30
 replace H:=Option.bind_eq_some_iff.mp H
 obtain ⟨t170,A40,H⟩:=H
 replace H:(if t169=true then (if t170=true then (some 0) else (some (-1))) else (if t170=true then (some 1) else (if a0 < a1 then (some (-1)) else (if a0 > a1 then (some 1) else (some 0)))))=some r:=H
 have A4:=Aside0.mk A40
 clear A40
 by_cases c5:t169=true
 ·subst c5
  have H1:(if t170=true then (some 0) else (some (-1)))=some r:=by rw [if_pos rfl] at H;exact H
  clear H
  have H:=H1
  clear H1
  by_cases c6:t170=true
  ·subst c6
   have H1:(some 0)=some r:=by rw [if_pos rfl] at H;exact H
   clear H
   have H:=H1
   clear H1
   obtain rfl:=Option.some.inj H
   go_enter Try.func85,Try.ntmps85
   go_wp2_with (first|((with_reducible refine yt_ (f:=103) rfl ?_);refine goesL_ (some 8) rfl rfl Try.func103 (by kernel_rfl) rfl #[.int .i64 a0] rfl (by (try simp only [List.map_toArray,List.map_cons,List.map_nil]);first|done|rfl|(simp only [List.length_drop,List.length_take];rfl)) ?_;(with_reducible refine (cmp_isNaN_int.calls a0 true _ A3.out).mono ?_);rintro e w' ⟨rfl,⟨nd,rfl⟩⟩;refine ⟨_,rfl,?_⟩)|((with_reducible refine yt_ (f:=103) rfl ?_);refine goesL_ (some 10) rfl rfl Try.func103 (by kernel_rfl) rfl #[.int .i64 a1] rfl (by (try simp only [List.map_toArray,List.map_cons,List.map_nil]);first|done|rfl|(simp only [List.length_drop,List.length_take];rfl)) ?_;(with_reducible refine (cmp_isNaN_int.calls a1 true _ A4.out).mono ?_);rintro e w' ⟨rfl,⟨nd,rfl⟩⟩;refine ⟨_,rfl,?_⟩))
   go_ret
   exact ⟨by first|rfl|(simp;done)|(simp [*];done),by repeat (first|exact Drawn0.refl _|apply Drawn0.step)⟩
  replace c6:=Bool.eq_false_iff.mpr c6
  subst c6
  have H1:(some (-1))=some r:=by rw [if_neg (show ¬ (false=true) by decide)] at H;exact H
  clear H
  have H:=H1
  clear H1
  obtain rfl:=Option.some.inj H
  go_enter Try.func85,Try.ntmps85
  go_wp2_with (first|((with_reducible refine yt_ (f:=103) rfl ?_);refine goesL_ (some 8) rfl rfl Try.func103 (by kernel_rfl) rfl #[.int .i64 a0] rfl (by (try simp only [List.map_toArray,List.map_cons,List.map_nil]);first|done|rfl|(simp only [List.length_drop,List.length_take];rfl)) ?_;(with_reducible refine (cmp_isNaN_int.calls a0 true _ A3.out).mono ?_);rintro e w' ⟨rfl,⟨nd,rfl⟩⟩;refine ⟨_,rfl,?_⟩)|((with_reducible refine yt_ (f:=103) rfl ?_);refine goesL_ (some 10) rfl rfl Try.func103 (by kernel_rfl) rfl #[.int .i64 a1] rfl (by (try simp only [List.map_toArray,List.map_cons,List.map_nil]);first|done|rfl|(simp only [List.length_drop,List.length_take];rfl)) ?_;(with_reducible refine (cmp_isNaN_int.calls a1 false _ A4.out).mono ?_);rintro e w' ⟨rfl,⟨nd,rfl⟩⟩;refine ⟨_,rfl,?_⟩))
  go_ret
  exact ⟨by first|rfl|(simp;done)|(simp [*];done),by repeat (first|exact Drawn0.refl _|apply Drawn0.step)⟩
 replace c5:=Bool.eq_false_iff.mpr c5
 subst c5
 have H1:(if t170=true then (some 1) else (if a0 < a1 then (some (-1)) else (if a0 > a1 then (some 1) else (some 0))))=some r:=by rw [if_neg (show ¬ (false=true) by decide)] at H;exact H
 clear H
 have H:=H1
 clear H1
 by_cases c7:t170=true
 ·subst c7
  have H1:(some 1)=some r:=by rw [if_pos rfl] at H;exact H
  clear H
  have H:=H1
  clear H1
  obtain rfl:=Option.some.inj H
  go_enter Try.func85,Try.ntmps85
  go_wp2_with (first|((with_reducible refine yt_ (f:=103) rfl ?_);refine goesL_ (some 8) rfl rfl Try.func103 (by kernel_rfl) rfl #[.int .i64 a0] rfl (by (try simp only [List.map_toArray,List.map_cons,List.map_nil]);first|done|rfl|(simp only [List.length_drop,List.length_take];rfl)) ?_;(with_reducible refine (cmp_isNaN_int.calls a0 false _ A3.out).mono ?_);rintro e w' ⟨rfl,⟨nd,rfl⟩⟩;refine ⟨_,rfl,?_⟩)|((with_reducible refine yt_ (f:=103) rfl ?_);refine goesL_ (some 10) rfl rfl Try.func103 (by kernel_rfl) rfl #[.int .i64 a1] rfl (by (try simp only [List.map_toArray,List.map_cons,List.map_nil]);first|done|rfl|(simp only [List.length_drop,List.length_take];rfl)) ?_;(with_reducible refine (cmp_isNaN_int.calls a1 true _ A4.out).mono ?_);rintro e w' ⟨rfl,⟨nd,rfl⟩⟩;refine ⟨_,rfl,?_⟩))
  go_ret
  exact ⟨by first|rfl|(simp;done)|(simp [*];done),by repeat (first|exact Drawn0.refl _|apply Drawn0.step)⟩
 replace c7:=Bool.eq_false_iff.mpr c7
 subst c7
 have H1:(if a0 < a1 then (some (-1)) else (if a0 > a1 then (some 1) else (some 0)))=some r:=by rw [if_neg (show ¬ (false=true) by decide)] at H;exact H
 clear H
 have H:=H1
 clear H1
 by_cases c8:a0 < a1
 ·rw [if_pos c8] at H
  have c8b0:decide (a0 < a1)=true:=decide_eq_true c8
  clear c8
  obtain rfl:=Option.some.inj H
  go_enter Try.func85,Try.ntmps85
  go_wp2_with (first|((with_reducible refine yt_ (f:=103) rfl ?_);refine goesL_ (some 8) rfl rfl Try.func103 (by kernel_rfl) rfl #[.int .i64 a0] rfl (by (try simp only [List.map_toArray,List.map_cons,List.map_nil]);first|done|rfl|(simp only [List.length_drop,List.length_take];rfl)) ?_;(with_reducible refine (cmp_isNaN_int.calls a0 false _ A3.out).mono ?_);rintro e w' ⟨rfl,⟨nd,rfl⟩⟩;refine ⟨_,rfl,?_⟩)|((with_reducible refine yt_ (f:=103) rfl ?_);refine goesL_ (some 10) rfl rfl Try.func103 (by kernel_rfl) rfl #[.int .i64 a1] rfl (by (try simp only [List.map_toArray,List.map_cons,List.map_nil]);first|done|rfl|(simp only [List.length_drop,List.length_take];rfl)) ?_;(with_reducible refine (cmp_isNaN_int.calls a1 false _ A4.out).mono ?_);rintro e w' ⟨rfl,⟨nd,rfl⟩⟩;refine ⟨_,rfl,?_⟩))
  go_ret
  exact ⟨by first|rfl|(simp;done)|(simp [*];done),by repeat (first|exact Drawn0.refl _|apply Drawn0.step)⟩
 rw [if_neg c8] at H
 have c8b0:decide (a0 < a1)=false:=decide_eq_false c8
 clear c8
 by_cases c9:a0 > a1
 ·rw [if_pos c9] at H
  have c9b0:decide (a1 < a0)=true:=decide_eq_true c9
  clear c9
  obtain rfl:=Option.some.inj H
  go_enter Try.func85,Try.ntmps85
  go_wp2_with (first|((with_reducible refine yt_ (f:=103) rfl ?_);refine goesL_ (some 8) rfl rfl Try.func103 (by kernel_rfl) rfl #[.int .i64 a0] rfl (by (try simp only [List.map_toArray,List.map_cons,List.map_nil]);first|done|rfl|(simp only [List.length_drop,List.length_take];rfl)) ?_;(with_reducible refine (cmp_isNaN_int.calls a0 false _ A3.out).mono ?_);rintro e w' ⟨rfl,⟨nd,rfl⟩⟩;refine ⟨_,rfl,?_⟩)|((with_reducible refine yt_ (f:=103) rfl ?_);refine goesL_ (some 10) rfl rfl Try.func103 (by kernel_rfl) rfl #[.int .i64 a1] rfl (by (try simp only [List.map_toArray,List.map_cons,List.map_nil]);first|done|rfl|(simp only [List.length_drop,List.length_take];rfl)) ?_;(with_reducible refine (cmp_isNaN_int.calls a1 false _ A4.out).mono ?_);rintro e w' ⟨rfl,⟨nd,rfl⟩⟩;refine ⟨_,rfl,?_⟩))
  go_ret
  exact ⟨by first|rfl|(simp;done)|(simp [*];done),by repeat (first|exact Drawn0.refl _|apply Drawn0.step)⟩
 rw [if_neg c9] at H
 have c9b0:decide (a1 < a0)=false:=decide_eq_false c9
 clear c9
 obtain rfl:=Option.some.inj H
 go_enter Try.func85,Try.ntmps85
 go_wp2_with (first|((with_reducible refine yt_ (f:=103) rfl ?_);refine goesL_ (some 8) rfl rfl Try.func103 (by kernel_rfl) rfl #[.int .i64 a0] rfl (by (try simp only [List.map_toArray,List.map_cons,List.map_nil]);first|done|rfl|(simp only [List.length_drop,List.length_take];rfl)) ?_;(with_reducible refine (cmp_isNaN_int.calls a0 false _ A3.out).mono ?_);rintro e w' ⟨rfl,⟨nd,rfl⟩⟩;refine ⟨_,rfl,?_⟩)|((with_reducible refine yt_ (f:=103) rfl ?_);refine goesL_ (some 10) rfl rfl Try.func103 (by kernel_rfl) rfl #[.int .i64 a1] rfl (by (try simp only [List.map_toArray,List.map_cons,List.map_nil]);first|done|rfl|(simp only [List.length_drop,List.length_take];rfl)) ?_;(with_reducible refine (cmp_isNaN_int.calls a1 false _ A4.out).mono ?_);rintro e w' ⟨rfl,⟨nd,rfl⟩⟩;refine ⟨_,rfl,?_⟩))
 go_ret
 exact ⟨by first|rfl|(simp;done)|(simp [*];done),by repeat (first|exact Drawn0.refl _|apply Drawn0.step)⟩

end Go.Proofs.Ythimblhfjfngiaa.PText

namespace Go.Proofs.Ythimblhfjfngiaa.PText
open Go.RowKit Go.Proofs.YthimblhfjfngiaaW.PrintWords Go.Proofs.YthimblhfjfngiaaW.PrintLast Go.Proofs.YthimblhfjfngiaaW.PrintMore
attribute [local go_sem] y2_ y3_ yfb_ ygb_ yS_ yT_ y4_ y5_   -- for this text's walks alone
set_option linter.unusedVariables false
set_option linter.unusedSimpArgs false

mutual
def yR_.l0:Nat→Int→Int→List (S59)→Int→Int→Option (Bool)
 | 0,_,_,_,_,_=>none
 | k+1,x3,x4,x7,x8,x9=>if x9 < x8 then (if 0≤x9 then (if x9 < (x7.length:Int) then (if ((rd_T59 x7 x9).f0) < x3 then (yR_.j1 k x3 x4 x7 x8 x9 true ((rd_T59 x7 x9).f0) ((rd_T59 x7 x9).f1) ((rd_T59 x7 x9).f2)) else (if ((rd_T59 x7 x9).f0)=((rd_T59 x7 x9).f1) then (yR_.j1 k x3 x4 x7 x8 x9 (((rd_T59 x7 x9).f0) == x4) ((rd_T59 x7 x9).f0) ((rd_T59 x7 x9).f1) ((rd_T59 x7 x9).f2)) else (yR_.j1 k x3 x4 x7 x8 x9 false ((rd_T59 x7 x9).f0) ((rd_T59 x7 x9).f1) ((rd_T59 x7 x9).f2)))) else (none)) else (none)) else (some false)
def yR_.j1:Nat→Int→Int→List (S59)→Int→Int→Bool→Int→Int→ByteArray→Option (Bool)
 | 0,_,_,_,_,_,_,_,_,_=>none
 | k+1,x3,x4,x7,x8,x9,x29,x196000,x196001,x196002=>if x29=true then (some true) else (if x196000=x196001 then (yR_.l0 k (mx x3 x196001) x196000 x7 x8 (wrap64 (x9+1))) else (yR_.l0 k (mx x3 x196001) x4 x7 x8 (wrap64 (x9+1))))
end
def yR_.f (k:Nat) (l0:List (S59)):Option (Bool):=yR_.l0 k 0 (-1) l0 (l0.length:Int) 0
set_option maxHeartbeats 8000000 in
set_option maxRecDepth 100000 in
theorem yR_.calls (k:Nat) (A0:Option Addr) (c0:Nat) (l0:List (S59)) (r:Bool) (w:World) (hr0:Kd.C k59 w A0 l0.length l0) (hc0:l0.length≤c0) (h:yR_.f k l0=some r) :
  Calls Try.prog 63 #[.slice A0 l0.length c0] w fun e w'=>e=.returned (.bool r)∧Below w.heap.size w w':=by
 have hu59:=Try.underlying59
 have HR0:=Aside0.mk hr0
 have HC0:=Aside0.mk hc0
 clear hr0 hc0
 have HB:=Aside0.mk (Below.refl w.heap.size w)
 have H:(yR_.l0 k 0 (-1) l0 (l0.length:Int) 0)=some r:=h
 clear h
 have H':=Aside0.mk H
 clear H
 go_enter Try.func63,Try.ntmps63
 go_wp2
 try simp only [Act.put,List.setIfInBounds_toArray,List.set_cons_succ,List.set_cons_zero]
 go_loopg [3,4,9] k (fun kq v3 v4 v9 w'=>∃ (x3_1:Int) (x4_1:Int) (x9_1:Int),v3=.int .i64 x3_1∧v4=.int .i64 x4_1∧v9=.int .i64 x9_1∧Aside0 (yR_.l0 kq x3_1 x4_1 l0 (l0.length:Int) x9_1=some r)∧Aside0 (kq≤k)∧Aside0 (Below w.heap.size w w'))
 case atStart=>exact ⟨(0),((-1)),(0),(by first|rfl|(simp;done)|(simp [*];done)),(by first|rfl|(simp;done)|(simp [*];done)),(by first|rfl|(simp;done)|(simp [*];done)),H',⟨Nat.le_refl _⟩,⟨by repeat (with_reducible first|exact HB.out|apply yc_|apply ya_|apply yb_)⟩⟩
 case round =>
  clear H'
  obtain ⟨x3_1,x4_1,x9_1,rfl,rfl,rfl,HA,HK1,HB⟩:=hrel
  cases gk with
  | zero=>exact absurd HA.out (by simp [yR_.l0])
  | succ k1 =>
   have H:=HA.out
   clear HA
   simp only [yR_.l0] at H
   by_cases c2:x9_1 < (l0.length:Int)
   rotate_left
   ·rw [if_neg c2] at H
    have c2b0:decide (x9_1 < (l0.length:Int))=false:=decide_eq_false c2
    clear c2
    obtain rfl:=Option.some.inj H
    go_wp2
    go_ret
    exact ⟨by first|rfl|(simp [yq_,yr_] <;> rfl)|(simp [*,yq_,yr_] <;> rfl),by repeat (with_reducible first|exact HB.out|apply yc_|apply ya_|apply yb_)⟩
   rw [if_pos c2] at H
   have c2b0:decide (x9_1 < (l0.length:Int))=true:=decide_eq_true c2
   clear c2
   by_cases c3:0≤x9_1
   rotate_left
   ·rw [if_neg c3] at H
    exact absurd H (by simp)
   rw [if_pos c3] at H
   have c3b0:decide (0≤x9_1)=true:=decide_eq_true c3
   clear c3
   by_cases c4:x9_1 < (l0.length:Int)
   rotate_left
   ·rw [if_neg c4] at H
    exact absurd H (by simp)
   rw [if_pos c4] at H
   have c4b0:decide (x9_1 < (l0.length:Int))=true:=decide_eq_true c4
   clear c4
   have HC5:=Aside0.mk H
   clear H
   have p194:0≤(x9_1:Int):=of_decide_eq_true (by assumption)
   have q194:x9_1 < (l0.length:Int):=of_decide_eq_true (by assumption)
   obtain ⟨ad194,e194,hx194_0,hx194_1,hx194_2⟩:=at_T59 HR0.out x9_1 p194 q194
   cases e194
   replace hx194_0:=(HB.out.cell (World.block_lt_of_cell? w _ hx194_0)).trans hx194_0
   replace hx194_1:=(HB.out.cell (World.block_lt_of_cell? w _ hx194_1)).trans hx194_1
   replace hx194_2:=(HB.out.cell (World.block_lt_of_cell? w _ hx194_2)).trans hx194_2
   replace p194:=eq_true p194
   replace q194:=eq_true q194
   go_upto_region 5 with (first|((with_reducible refine yL_ (N:=6) rfl ?_);refine y0_ ?hg (N:=6) ?hd (cs:=#[.int .i64 0,.int .i64 0,.string (⟨#[]⟩:ByteArray)]) (t:=59) ?hr ?_;(case hd=>rfl);(case hg=>rfl);(case hr=>first|(go_simp;done)|(go_simp;rfl));intro gb195 hg w6 hbox hb;have n0_:=Aside0.mk (yp_ (by repeat (with_reducible first|exact HB.out|apply yc_|apply ya_|apply yb_)) hb);have n1_:=Aside0.mk (hbox);have n2_:=Aside0.mk ((by rw [hg];exact (yn_ (by repeat (with_reducible first|exact HB.out|apply yc_|apply ya_|apply yb_))):w.heap.size≤gb195));have n3_:=Aside0.mk ((by rw [hg];exact (yn_ (by repeat (with_reducible first|exact HB.out|apply yc_|apply ya_|apply yb_))):w.heap.size≤gb195));clear HB;have HB:=n0_;have BK195:=n1_;have GW195:=n2_;have GE195:=n3_;clear n0_ n1_ n2_ n3_;clear hb hbox hg;have hcz7_0:w6.cell? ⟨gb195,0,none⟩=some (.int .i64 0):=(yk_ BK195.out 0).trans rfl;have hcz7_1:w6.cell? ⟨gb195,1,none⟩=some (.int .i64 0):=(yk_ BK195.out 1).trans rfl;have hcz7_2:w6.cell? ⟨gb195,2,none⟩=some (.string (⟨#[]⟩:ByteArray)):=(yk_ BK195.out 2).trans rfl;have hfz7_0:=ym_ BK195.out 0;have hfz7_1:=ym_ BK195.out 1;have hfz7_2:=ym_ BK195.out 2))
   (try simp only [Act.put,q1_,q2_,q3_])
   go_cut [29] (fun v29 wc=>∃ (kq:Nat) (x29_4:Bool),v29=.bool x29_4∧Aside0 (yR_.j1 kq x3_1 x4_1 l0 (l0.length:Int) x9_1 x29_4 ((rd_T59 l0 x9_1).f0) ((rd_T59 l0 x9_1).f1) ((rd_T59 l0 x9_1).f2)=some r)∧Aside0 (kq≤k1)∧Aside0 (wc.heap[gb195]?=some (.cells #[.int .i64 ((rd_T59 l0 x9_1).f0),.int .i64 ((rd_T59 l0 x9_1).f1),.string ((rd_T59 l0 x9_1).f2)] 59 (0,0)))∧Aside0 (Below w.heap.size w wc))
   case first =>
    have H:=HC5.out
    clear HC5
    by_cases c8:((rd_T59 l0 x9_1).f0) < x3_1
    ·rw [if_pos c8] at H
     have c8b0:decide (((rd_T59 l0 x9_1).f0) < x3_1)=true:=decide_eq_true c8
     clear c8
     (first|rw [c8b0]|(simp only [i64_w,i32_w];rw [c8b0])|skip)
     have H':=Aside0.mk H
     clear H
     have hcz9_0:w6.cell? ⟨gb195,0,none⟩=some (.int .i64 0):=(yk_ BK195.out 0).trans rfl
     have hcz9_1:w6.cell? ⟨gb195,1,none⟩=some (.int .i64 0):=(yk_ BK195.out 1).trans rfl
     have hcz9_2:w6.cell? ⟨gb195,2,none⟩=some (.string (⟨#[]⟩:ByteArray)):=(yk_ BK195.out 2).trans rfl
     have hfz9_0:=ym_ BK195.out 0
     have hfz9_1:=ym_ BK195.out 1
     have hfz9_2:=ym_ BK195.out 2
     go_wp2
     go_meet
     case rel=>exact ⟨_,(true),(by first|rfl|(simp;done)|(simp [*];done)),H',⟨by have:=HK1.out;first|omega|exact Nat.le_refl _⟩,⟨by (with_reducible repeat (first|refine yx_ ?_ _|refine yA_ ?_|refine yw_ ?_ _));refine yqb_ (cs:=#[.int .i64 ((rd_T59 l0 x9_1).f0),.int .i64 ((rd_T59 l0 x9_1).f1),.string (⟨#[]⟩:ByteArray)]) ?_ 2 _ rfl;(with_reducible repeat (first|refine yx_ ?_ _|refine yA_ ?_|refine yw_ ?_ _));refine yqb_ (cs:=#[.int .i64 ((rd_T59 l0 x9_1).f0),.int .i64 0,.string (⟨#[]⟩:ByteArray)]) ?_ 1 _ rfl;(with_reducible repeat (first|refine yx_ ?_ _|refine yA_ ?_|refine yw_ ?_ _));refine yqb_ (cs:=#[.int .i64 0,.int .i64 0,.string (⟨#[]⟩:ByteArray)]) ?_ 0 _ rfl;(with_reducible repeat (first|refine yx_ ?_ _|refine yA_ ?_|refine yw_ ?_ _));exact BK195.out⟩,⟨by repeat (with_reducible first|exact HB.out|apply yc_|apply ya_|apply yb_|refine yo_ ?_ GE195.out)⟩⟩
    rw [if_neg c8] at H
    have c8b0:decide (((rd_T59 l0 x9_1).f0) < x3_1)=false:=decide_eq_false c8
    clear c8
    (first|rw [c8b0]|(simp only [i64_w,i32_w];rw [c8b0])|skip)
    by_cases c10:((rd_T59 l0 x9_1).f0)=((rd_T59 l0 x9_1).f1)
    rotate_left
    ·rw [if_neg c10] at H
     have c10b0:(((rd_T59 l0 x9_1).f0) == ((rd_T59 l0 x9_1).f1))=false:=beq_eq_false_iff_ne.mpr c10
     have c10b1:(((rd_T59 l0 x9_1).f0) != ((rd_T59 l0 x9_1).f1))=true:=bne_iff_ne.mpr c10
     have H':=Aside0.mk H
     clear H
     have hcz12_0:w6.cell? ⟨gb195,0,none⟩=some (.int .i64 0):=(yk_ BK195.out 0).trans rfl
     have hcz12_1:w6.cell? ⟨gb195,1,none⟩=some (.int .i64 0):=(yk_ BK195.out 1).trans rfl
     have hcz12_2:w6.cell? ⟨gb195,2,none⟩=some (.string (⟨#[]⟩:ByteArray)):=(yk_ BK195.out 2).trans rfl
     have hfz12_0:=ym_ BK195.out 0
     have hfz12_1:=ym_ BK195.out 1
     have hfz12_2:=ym_ BK195.out 2
     go_wp2
     go_meet
     case rel=>exact ⟨_,(false),(by first|rfl|(simp;done)|(simp [*];done)),H',⟨by have:=HK1.out;first|omega|exact Nat.le_refl _⟩,⟨by (with_reducible repeat (first|refine yx_ ?_ _|refine yA_ ?_|refine yw_ ?_ _));refine yqb_ (cs:=#[.int .i64 ((rd_T59 l0 x9_1).f0),.int .i64 ((rd_T59 l0 x9_1).f1),.string (⟨#[]⟩:ByteArray)]) ?_ 2 _ rfl;(with_reducible repeat (first|refine yx_ ?_ _|refine yA_ ?_|refine yw_ ?_ _));refine yqb_ (cs:=#[.int .i64 ((rd_T59 l0 x9_1).f0),.int .i64 0,.string (⟨#[]⟩:ByteArray)]) ?_ 1 _ rfl;(with_reducible repeat (first|refine yx_ ?_ _|refine yA_ ?_|refine yw_ ?_ _));refine yqb_ (cs:=#[.int .i64 0,.int .i64 0,.string (⟨#[]⟩:ByteArray)]) ?_ 0 _ rfl;(with_reducible repeat (first|refine yx_ ?_ _|refine yA_ ?_|refine yw_ ?_ _));exact BK195.out⟩,⟨by repeat (with_reducible first|exact HB.out|apply yc_|apply ya_|apply yb_|refine yo_ ?_ GE195.out)⟩⟩
    rw [if_pos c10] at H
    have c10b0:(((rd_T59 l0 x9_1).f0) == ((rd_T59 l0 x9_1).f1))=true:=beq_iff_eq.mpr c10
    have c10b1:(((rd_T59 l0 x9_1).f0) != ((rd_T59 l0 x9_1).f1))=false:=bne_eq_false_iff_eq.mpr c10
    clear c10
    have H':=Aside0.mk H
    clear H
    have hcz11_0:w6.cell? ⟨gb195,0,none⟩=some (.int .i64 0):=(yk_ BK195.out 0).trans rfl
    have hcz11_1:w6.cell? ⟨gb195,1,none⟩=some (.int .i64 0):=(yk_ BK195.out 1).trans rfl
    have hcz11_2:w6.cell? ⟨gb195,2,none⟩=some (.string (⟨#[]⟩:ByteArray)):=(yk_ BK195.out 2).trans rfl
    have hfz11_0:=ym_ BK195.out 0
    have hfz11_1:=ym_ BK195.out 1
    have hfz11_2:=ym_ BK195.out 2
    go_wp2
    go_meet
    case rel=>exact ⟨_,((((rd_T59 l0 x9_1).f0) == x4_1)),(by first|rfl|(simp;done)|(simp [*];done)),H',⟨by have:=HK1.out;first|omega|exact Nat.le_refl _⟩,⟨by (with_reducible repeat (first|refine yx_ ?_ _|refine yA_ ?_|refine yw_ ?_ _));refine yqb_ (cs:=#[.int .i64 ((rd_T59 l0 x9_1).f0),.int .i64 ((rd_T59 l0 x9_1).f1),.string (⟨#[]⟩:ByteArray)]) ?_ 2 _ rfl;(with_reducible repeat (first|refine yx_ ?_ _|refine yA_ ?_|refine yw_ ?_ _));refine yqb_ (cs:=#[.int .i64 ((rd_T59 l0 x9_1).f0),.int .i64 0,.string (⟨#[]⟩:ByteArray)]) ?_ 1 _ rfl;(with_reducible repeat (first|refine yx_ ?_ _|refine yA_ ?_|refine yw_ ?_ _));refine yqb_ (cs:=#[.int .i64 0,.int .i64 0,.string (⟨#[]⟩:ByteArray)]) ?_ 0 _ rfl;(with_reducible repeat (first|refine yx_ ?_ _|refine yA_ ?_|refine yw_ ?_ _));exact BK195.out⟩,⟨by repeat (with_reducible first|exact HB.out|apply yc_|apply ya_|apply yb_|refine yo_ ?_ GE195.out)⟩⟩
   case rest =>
    clear HC5
    try clear c1
    try clear p1
    try clear q1
    try clear hx1
    try clear c2
    try clear c2b0
    try clear p2
    try clear c3
    try clear c3b0
    try clear c4
    try clear c4b0
    try clear c6
    try clear c8
    try clear c8b0
    try clear c10
    try clear c10b0
    try clear c10b1
    try clear hcz11_0
    try clear hcz11_1
    try clear hcz11_2
    try clear hcz12_0
    try clear hcz12_1
    try clear hcz12_2
    try clear hcz7_0
    try clear hcz7_1
    try clear hcz7_2
    try clear hcz9_0
    try clear hcz9_1
    try clear hcz9_2
    try clear hfz11_0
    try clear hfz11_1
    try clear hfz11_2
    try clear hfz12_0
    try clear hfz12_1
    try clear hfz12_2
    try clear hfz7_0
    try clear hfz7_1
    try clear hfz7_2
    try clear hfz9_0
    try clear hfz9_1
    try clear hfz9_2
    try clear hx194_0
    try clear hx194_1
    try clear hx194_2
    try clear p194
    try clear q194
    obtain ⟨kq,x29_4,rfl,HA,HJ4,BK195,HB⟩:=hcut
    cases kq with
    | zero=>exact absurd HA.out (by simp [yR_.j1])
    | succ kj4 =>
     have H:=HA.out
     clear HA
     simp only [yR_.j1] at H
     by_cases c13:x29_4=true
     ·subst c13
      have H1:(some true)=some r:=by rw [if_pos rfl] at H;exact H
      clear H
      have H:=H1
      clear H1
      obtain rfl:=Option.some.inj H
      go_wp2
      go_ret
      exact ⟨by first|rfl|(simp [yq_,yr_] <;> rfl)|(simp [*,yq_,yr_] <;> rfl),by repeat (with_reducible first|exact HB.out|apply yc_|apply ya_|apply yb_|refine yo_ ?_ GE195.out)⟩
     replace c13:=Bool.eq_false_iff.mpr c13
     subst c13
     have H1:(if ((rd_T59 l0 x9_1).f0)=((rd_T59 l0 x9_1).f1) then (yR_.l0 kj4 (mx x3_1 ((rd_T59 l0 x9_1).f1)) ((rd_T59 l0 x9_1).f0) l0 (l0.length:Int) (wrap64 (x9_1+1))) else (yR_.l0 kj4 (mx x3_1 ((rd_T59 l0 x9_1).f1)) x4_1 l0 (l0.length:Int) (wrap64 (x9_1+1))))=some r:=by rw [if_neg (show ¬ (false=true) by decide)] at H;exact H
     clear H
     have H:=H1
     clear H1
     obtain ⟨ji14,hji14⟩:∃ j_:Int,(mx x3_1 ((rd_T59 l0 x9_1).f1))=j_:=⟨_,rfl⟩
     replace H:(if ((rd_T59 l0 x9_1).f0)=((rd_T59 l0 x9_1).f1) then (yR_.l0 kj4 ji14 ((rd_T59 l0 x9_1).f0) l0 (l0.length:Int) (wrap64 (x9_1+1))) else (yR_.l0 kj4 ji14 x4_1 l0 (l0.length:Int) (wrap64 (x9_1+1))))=some r:=by first|(rw [hji14] at H;exact H)|(simp only [hji14] at H ⊢;exact H)
     have hji14_:(if x3_1 < ((rd_T59 l0 x9_1).f1) then ((rd_T59 l0 x9_1).f1) else x3_1)=ji14:=hji14
     by_cases c15:((rd_T59 l0 x9_1).f0)=((rd_T59 l0 x9_1).f1)
     rotate_left
     ·rw [if_neg c15] at H
      have c15b0:(((rd_T59 l0 x9_1).f0) == ((rd_T59 l0 x9_1).f1))=false:=beq_eq_false_iff_ne.mpr c15
      have c15b1:(((rd_T59 l0 x9_1).f0) != ((rd_T59 l0 x9_1).f1))=true:=bne_iff_ne.mpr c15
      have H':=Aside0.mk H
      clear H
      have hcz17_0:wc.cell? ⟨gb195,0,none⟩=some (.int .i64 ((rd_T59 l0 x9_1).f0)):=(yk_ BK195.out 0).trans rfl
      have hcz17_1:wc.cell? ⟨gb195,1,none⟩=some (.int .i64 ((rd_T59 l0 x9_1).f1)):=(yk_ BK195.out 1).trans rfl
      have hcz17_2:wc.cell? ⟨gb195,2,none⟩=some (.string ((rd_T59 l0 x9_1).f2)):=(yk_ BK195.out 2).trans rfl
      have hfz17_0:=ym_ BK195.out 0
      have hfz17_1:=ym_ BK195.out 1
      have hfz17_2:=ym_ BK195.out 2
      go_wp2
      go_roundg kj4
      case measure=>have:=HK1.out;have:=HJ4.out;omega
      case rel=>exact ⟨(ji14),(x4_1),(wrap64 (x9_1+1)),(by first|rfl|(simp;done)|(simp only [← hji14] <;> (first|rfl|simp))|(simp [*];done)),(by first|rfl|(simp;done)|(simp [*];done)),(by first|rfl|(simp;done)|(simp [*];done)),H',⟨by have:=HK1.out;have:=HJ4.out;omega⟩,⟨by repeat (with_reducible first|exact HB.out|apply yc_|apply ya_|apply yb_|refine yo_ ?_ GE195.out)⟩⟩
     rw [if_pos c15] at H
     have c15b0:(((rd_T59 l0 x9_1).f0) == ((rd_T59 l0 x9_1).f1))=true:=beq_iff_eq.mpr c15
     have c15b1:(((rd_T59 l0 x9_1).f0) != ((rd_T59 l0 x9_1).f1))=false:=bne_eq_false_iff_eq.mpr c15
     clear c15
     have H':=Aside0.mk H
     clear H
     have hcz16_0:wc.cell? ⟨gb195,0,none⟩=some (.int .i64 ((rd_T59 l0 x9_1).f0)):=(yk_ BK195.out 0).trans rfl
     have hcz16_1:wc.cell? ⟨gb195,1,none⟩=some (.int .i64 ((rd_T59 l0 x9_1).f1)):=(yk_ BK195.out 1).trans rfl
     have hcz16_2:wc.cell? ⟨gb195,2,none⟩=some (.string ((rd_T59 l0 x9_1).f2)):=(yk_ BK195.out 2).trans rfl
     have hfz16_0:=ym_ BK195.out 0
     have hfz16_1:=ym_ BK195.out 1
     have hfz16_2:=ym_ BK195.out 2
     go_wp2
     go_roundg kj4
     case measure=>have:=HK1.out;have:=HJ4.out;omega
     case rel=>exact ⟨(ji14),(((rd_T59 l0 x9_1).f0)),(wrap64 (x9_1+1)),(by first|rfl|(simp;done)|(simp only [← hji14] <;> (first|rfl|simp))|(simp [*];done)),(by first|rfl|(simp;done)|(simp [*];done)),(by first|rfl|(simp;done)|(simp [*];done)),H',⟨by have:=HK1.out;have:=HJ4.out;omega⟩,⟨by repeat (with_reducible first|exact HB.out|apply yc_|apply ya_|apply yb_|refine yo_ ?_ GE195.out)⟩⟩

end Go.Proofs.Ythimblhfjfngiaa.PText

