/- PastThree holds: for every three texts the statement answers true. Part 7 of 25. -/
import Derived.Test.YthimblhfjfngiaaBThreeF
namespace Go.Proofs.Ythimblhfjfngiaa.PText
open Go.RowKit Go.Proofs.YthimblhfjfngiaaW.PrintWords Go.Proofs.YthimblhfjfngiaaW.PrintLast Go.Proofs.YthimblhfjfngiaaW.PrintMore
attribute [local go_sem] y2_ y3_ yfb_ ygb_ yS_ yT_ y4_ y5_   -- for this text's walks alone
set_option linter.unusedVariables false
set_option linter.unusedSimpArgs false

def yz_.l0:Nat→ByteArray→List (S59)→List Int→List (S59)→Int→Int→Option (ByteArray × (List (S59)))
 | 0,_,_,_,_,_,_=>none
 | k+1,x0,x1,x6,x7,x8,x9=>if x9 < (x1.length:Int) then (if 0≤x9 then (if 0≤x8 then (if x8≤((rd_T59 x1 x9).f0) then (if ((rd_T59 x1 x9).f0)≤(x0.size:Int) then (if x6.length+(x0.extract (x8:Int).toNat (((rd_T59 x1 x9).f0):Int).toNat).size < 140737488355328 then ((some (x6++bytesOf (x0.extract (x8:Int).toNat (((rd_T59 x1 x9).f0):Int).toNat):List Int)).bind fun y349=>(if y349.length+((rd_T59 x1 x9).f2).size < 140737488355328 then ((some (y349++bytesOf ((rd_T59 x1 x9).f2):List Int)).bind fun y353=>(if 0≤((rd_T59 x1 x9).f0) then (if ((rd_T59 x1 x9).f0)≤((rd_T59 x1 x9).f1) then (if ((rd_T59 x1 x9).f1)≤(x0.size:Int) then (if x7.length < 4398046511104 then (yz_.l0 k x0 x1 y353 (x7++[(⟨(y349.length:Int),(y353.length:Int),x0.extract (((rd_T59 x1 x9).f0):Int).toNat (((rd_T59 x1 x9).f1):Int).toNat⟩:S59)]) ((rd_T59 x1 x9).f1) (wrap64 (x9+1))) else (none)) else (none)) else (none)) else (none))) else (none))) else (none)) else (none)) else (none)) else (none)) else (none)) else (if 0≤x8 then (if x8≤(x0.size:Int) then (if x6.length+(x0.extract (x8:Int).toNat x0.size).size < 140737488355328 then (some (strOfNums (x6++bytesOf (x0.extract (x8:Int).toNat x0.size)),x7)) else (none)) else (none)) else (none))
def yz_.f (k:Nat) (a0:ByteArray) (l1:List (S59)):Option (ByteArray × (List (S59))):=(yf_.f k l1).bind fun t345=>(yz_.l0 k a0 t345 ([]:List Int) ([]:List (S59)) 0 0)
def yz_.T11:Bool × List (List Nat × List Nat):=(true,[([],[]),([],[]),([],[]),([2],[2]),([],[]),([],[]),([],[]),([5,6],[5,6]),([7],[7]),([8],[8]),([],[]),([],[]),([10,11],[10,11]),([12],[12]),([13],[13]),([4,9,14],[4,9,14]),([1,3,15],[1,3,15]),([16],[16]),([0,17],[0,17]),([18,18,0,1,2,3,4,5,6,7,8,9,10,11,12,13,14,15,16,17,18],[0,18])])
def yz_.B11:List Nat:=[0,0,0,4,0,0,0,96,224,480,0,0,3072,7168,15360,32752,65534,131070,262143,524287]
theorem yz_.tab11:rtab .any (opsOf Try.f51 11)=yz_.T11:=by kernel_rfl
theorem yz_.bits11:waitsOk yz_.T11.2 yz_.B11=true:=by kernel_rfl
set_option maxHeartbeats 8000000 in
set_option maxRecDepth 100000 in
theorem yz_.calls (k:Nat) (a0:ByteArray) (A1:Option Addr) (c1:Nat) (l1:List (S59)) (r1:ByteArray) (r2:List (S59)) (w:World) (hr1:Kd.C k59 w A1 l1.length l1) (hc1:l1.length≤c1) (h:yz_.f k a0 l1=some (r1,r2)) :
  Calls Try.prog 51 #[.string a0,.slice A1 l1.length c1] w fun e w'=>∃ v1_:Value,e=.returned (.tuple #[.string r1,v1_])∧Kd.R k59 59 w' w.heap.size (fun _=>True) v1_ r2∧Below w.heap.size w w':=by
 have hu59:=Try.underlying59
 have HR1:=Aside0.mk hr1
 have HC1:=Aside0.mk hc1
 clear hr1 hc1
 have HB:=Aside0.mk (Below.refl w.heap.size w)
 have H:((yf_.f k l1).bind fun t345=>(yz_.l0 k a0 t345 ([]:List Int) ([]:List (S59)) 0 0))=some (r1,r2):=h
 clear h
 replace H:=Option.bind_eq_some_iff.mp H
 obtain ⟨t345,A30,H⟩:=H
 replace H:(yz_.l0 k a0 t345 ([]:List Int) ([]:List (S59)) 0 0)=some (r1,r2):=H
 have A3:=Aside0.mk A30
 clear A30
 have H':=Aside0.mk H
 clear H
 go_enter Try.func51,Try.ntmps51
 go_wp2_with (first|((with_reducible refine yt_ (f:=70) rfl ?_);refine goesL_ (some 12) rfl rfl Try.func70 (by kernel_rfl) rfl #[.slice A1 l1.length c1] rfl (by (try simp only [List.map_toArray,List.map_cons,List.map_nil]);first|done|rfl|(simp only [List.length_drop,List.length_take];rfl)) ?_;(with_reducible refine (yf_.calls k _ _ l1 t345 _ ?side1 ?side2 A3.out).mono ?_);(case side1=>repeat (first|exact HR1.out|(with_reducible refine Kd.yK_ ?_ _)|(with_reducible refine Kd.y1_ ?_ _)|(with_reducible refine Kd.C_drew ?_)));(case side2=>exact HC1.out);rintro e w4 ⟨v346,rfl,ho0,hb⟩;refine ⟨_,rfl,?_⟩;have n0_:=Aside0.mk (Kd.yJ_ ho0 (yn_ (by repeat (with_reducible first|exact HB.out|apply yc_|apply ya_|apply yb_))));have n1_:=Aside0.mk (yp_ (by repeat (with_reducible first|exact HB.out|apply yc_|apply ya_|apply yb_)) hb);clear HB;have HO347:=n0_;have HB:=n1_;clear n0_ n1_;(try clear hb);(try clear hb2);(try clear hk);(try clear hi);(try clear ho0)))
 try simp only [Act.put,List.setIfInBounds_toArray,List.set_cons_succ,List.set_cons_zero]
 go_loopg [6,7,8,9] k (fun kq v6 v7 v8 v9 w'=>∃ (x6_1:List Int) (x7_1:List (S59)) (x8_1:Int) (x9_1:Int),v8=.int .i64 x8_1∧v9=.int .i64 x9_1∧Aside0 (yz_.l0 kq a0 t345 x6_1 x7_1 x8_1 x9_1=some (r1,r2))∧Aside0 (kq≤k)∧Aside0 (Kd.R k59 59 w' w.heap.size (fun k_=>some k_ ≠ (v7:Value).ownBlock) v346 t345)∧Aside0 (Kd.R (Kd.int .u8) 5 w' w.heap.size (fun _=>True) v6 x6_1)∧Aside0 (Kd.R k59 59 w' w.heap.size (fun k_=>some k_ ≠ (v346:Value).ownBlock) v7 x7_1)∧Aside0 (Below w.heap.size w w'))
 case atStart=>exact ⟨(([]:List Int)),(([]:List (S59))),(0),(0),(by first|rfl|(simp;done)|(simp [*];done)),(by first|rfl|(simp;done)|(simp [*];done)),H',⟨Nat.le_refl _⟩,⟨by (with_reducible repeat (first|apply Kd.yg_|apply Kd.yh_|apply Kd.R_drew));exact Kd.R_mono HO347.out (fun _ hk=>(by simp [Value.ownBlock]))⟩,⟨by first|exact Kd.R_nil _ _ _ _ _|exact Kd.N_nil _ _ _ _ _|exact Kd.V_nil _ _ _ _ _|exact Kd.Q_nil _ _ _ _ _|exact Kd.S_nil _ _ _ _ _⟩,⟨by first|exact Kd.R_nil _ _ _ _ _|exact Kd.N_nil _ _ _ _ _|exact Kd.V_nil _ _ _ _ _|exact Kd.Q_nil _ _ _ _ _|exact Kd.S_nil _ _ _ _ _⟩,⟨by repeat (with_reducible first|exact HB.out|apply yc_|apply ya_|apply yb_)⟩⟩
 case round =>
  clear H'
  try clear c1
  try clear p2
  obtain ⟨x6_1,x7_1,x8_1,x9_1,rfl,rfl,HA,HK1,HO_1,HO_6,HO_7,HB⟩:=hrel
  cases gk with
  | zero=>exact absurd HA.out (by simp [yz_.l0])
  | succ k1 =>
   have H:=HA.out
   clear HA
   simp only [yz_.l0] at H
   by_cases c5:x9_1 < (t345.length:Int)
   rotate_left
   ·rw [if_neg c5] at H
    have c5b0:decide (x9_1 < (t345.length:Int))=false:=decide_eq_false c5
    clear c5
    by_cases c23:0≤x8_1
    rotate_left
    ·rw [if_neg c23] at H
     exact absurd H (by simp)
    rw [if_pos c23] at H
    have c23b0:=eq_true c23
    have c23b1:decide (0≤x8_1)=true:=decide_eq_true c23
    clear c23
    by_cases c24:x8_1≤(a0.size:Int)
    rotate_left
    ·rw [if_neg c24] at H
     exact absurd H (by simp)
    rw [if_pos c24] at H
    have c24b0:=eq_true c24
    have c24b1:decide (x8_1≤(a0.size:Int))=true:=decide_eq_true c24
    clear c24
    by_cases c25:x6_1.length+(a0.extract (x8_1:Int).toNat a0.size).size < 140737488355328
    rotate_left
    ·rw [if_neg c25] at H
     exact absurd H (by simp)
    rw [if_pos c25] at H
    have LMc25:=Aside0.mk c25
    clear c25
    obtain ⟨y362,hy362⟩:∃ y_:List Int,y_=(x6_1++bytesOf (a0.extract (x8_1:Int).toNat a0.size)):=⟨_,rfl⟩
    replace H:(some (strOfNums y362,x7_1))=some (r1,r2):=by first|(rw [hy362];with_reducible exact H)|(have H2_:=(Option.bind_some _ _).symm.trans H;rw [hy362];with_reducible exact H2_)|(have H2_:=(Option.bind_some _ _).symm.trans H;with_reducible exact H2_)|with_reducible exact H|(rw [hy362];exact H)|exact H
    have Ny362:=Aside0.mk hy362
    clear hy362
    simp only [Option.some.injEq,Prod.mk.injEq] at H
    obtain ⟨rfl,rfl⟩:=H
    obtain ⟨Ao26,co26,eo26⟩:=Kd.yC_ HO_1.out
    subst eo26
    go_wp2_with (first|(at_builtin;refine print_append_str (w0:=w) w.heap.size rfl (.tmp 62) _ 94 9 5 rfl Try.underlying94 Try.underlying9 info5 u6 x6_1 (a0.extract (x8_1:Int).toNat a0.size) rfl rfl ?aO ?aB ?aS ?aL ?_;(case aB=>exact (by repeat (with_reducible first|exact HB.out|apply yc_|apply ya_|apply yb_)));(case aO=>exact (Kd.own_of_R (by (with_reducible repeat (first|apply Kd.yg_|apply Kd.yh_|apply Kd.R_drew));exact HO_6.out)));(case aS=>exact (yn_ (by repeat (with_reducible first|exact HB.out|apply yc_|apply ya_|apply yb_))));(case aL=>have:=LMc25.out;omega);intro v363 w27 ho0 hb hg;have ho:=Kd.R_of_own (h1:=fun _=>rfl) (ok:=fun _=>True) ho0 (fun _ _=>trivial);clear ho0;have hat:=True.intro;rw [← Ny362.out] at ho;change Kd.R (Kd.int .u8) 5 w27 w.heap.size (fun _=>True) v363 y362 at ho;have n0_:=Aside0.mk (Kd.ybb_ (by (with_reducible repeat (first|apply Kd.yg_|apply Kd.yh_|apply Kd.R_drew));exact HO_1.out) (Kd.yO_ (by (with_reducible repeat (first|apply Kd.yg_|apply Kd.yh_|apply Kd.R_drew));exact HO_6.out)) (by decide) hg);have n1_:=Aside0.mk (Kd.ybb_ (by (with_reducible repeat (first|apply Kd.yg_|apply Kd.yh_|apply Kd.R_drew));exact HO_7.out) (Kd.yO_ (by (with_reducible repeat (first|apply Kd.yg_|apply Kd.yh_|apply Kd.R_drew));exact HO_6.out)) (by decide) hg);have n2_:=Aside0.mk (hb);have n3_:=Aside0.mk (ho);clear HO_1;clear HO_7;clear HB;clear HO_6;have HO_1:=n0_;have HO_7:=n1_;have HB:=n2_;have HO364:=n3_;clear n0_ n1_ n2_ n3_;clear ho hb hg hat;have hcv28:=own_string (P:=Try.prog) Try.underlying94 Try.underlying5 Try.underlying9 (Kd.own_of_R HO364.out)))
    go_ret2
    exact ⟨_,by first|rfl|(simp [yq_,yr_] <;> rfl)|(simp [*,yq_,yr_] <;> rfl),by (with_reducible repeat (first|apply Kd.yg_|apply Kd.yh_|apply Kd.R_drew));exact Kd.R_mono HO_7.out (fun _ hk=>trivial),by repeat (with_reducible first|exact HB.out|apply yc_|apply ya_|apply yb_)⟩
   rw [if_pos c5] at H
   have c5b0:decide (x9_1 < (t345.length:Int))=true:=decide_eq_true c5
   clear c5
   by_cases c6:0≤x9_1
   rotate_left
   ·rw [if_neg c6] at H
    exact absurd H (by simp)
   rw [if_pos c6] at H
   have c6b0:decide (0≤x9_1)=true:=decide_eq_true c6
   clear c6
   by_cases c7:0≤x8_1
   rotate_left
   ·rw [if_neg c7] at H
    exact absurd H (by simp)
   rw [if_pos c7] at H
   have c7b0:=eq_true c7
   have c7b1:decide (0≤x8_1)=true:=decide_eq_true c7
   clear c7
   by_cases c8:x8_1≤((rd_T59 t345 x9_1).f0)
   rotate_left
   ·rw [if_neg c8] at H
    exact absurd H (by simp)
   rw [if_pos c8] at H
   have c8b0:=eq_true c8
   have c8b1:decide (x8_1≤((rd_T59 t345 x9_1).f0))=true:=decide_eq_true c8
   clear c8
   by_cases c9:((rd_T59 t345 x9_1).f0)≤(a0.size:Int)
   rotate_left
   ·rw [if_neg c9] at H
    exact absurd H (by simp)
   rw [if_pos c9] at H
   have c9b0:=eq_true c9
   have c9b1:decide (((rd_T59 t345 x9_1).f0)≤(a0.size:Int))=true:=decide_eq_true c9
   clear c9
   by_cases c10:x6_1.length+(a0.extract (x8_1:Int).toNat (((rd_T59 t345 x9_1).f0):Int).toNat).size < 140737488355328
   rotate_left
   ·rw [if_neg c10] at H
    exact absurd H (by simp)
   rw [if_pos c10] at H
   have LMc10:=Aside0.mk c10
   clear c10
   obtain ⟨y349,hy349⟩:∃ y_:List Int,y_=(x6_1++bytesOf (a0.extract (x8_1:Int).toNat (((rd_T59 t345 x9_1).f0):Int).toNat)):=⟨_,rfl⟩
   replace H:(if y349.length+((rd_T59 t345 x9_1).f2).size < 140737488355328 then ((some (y349++bytesOf ((rd_T59 t345 x9_1).f2):List Int)).bind fun y353=>(if 0≤((rd_T59 t345 x9_1).f0) then (if ((rd_T59 t345 x9_1).f0)≤((rd_T59 t345 x9_1).f1) then (if ((rd_T59 t345 x9_1).f1)≤(a0.size:Int) then (if x7_1.length < 4398046511104 then (yz_.l0 k1 a0 t345 y353 (x7_1++[(⟨(y349.length:Int),(y353.length:Int),a0.extract (((rd_T59 t345 x9_1).f0):Int).toNat (((rd_T59 t345 x9_1).f1):Int).toNat⟩:S59)]) ((rd_T59 t345 x9_1).f1) (wrap64 (x9_1+1))) else (none)) else (none)) else (none)) else (none))) else (none))=some (r1,r2):=by first|(rw [hy349];with_reducible exact H)|(have H2_:=(Option.bind_some _ _).symm.trans H;rw [hy349];with_reducible exact H2_)|(have H2_:=(Option.bind_some _ _).symm.trans H;with_reducible exact H2_)|with_reducible exact H|(rw [hy349];exact H)|exact H
   have Ny349:=Aside0.mk hy349
   clear hy349
   by_cases c11:y349.length+((rd_T59 t345 x9_1).f2).size < 140737488355328
   rotate_left
   ·rw [if_neg c11] at H
    exact absurd H (by simp)
   rw [if_pos c11] at H
   have LMc11:=Aside0.mk c11
   clear c11
   obtain ⟨y353,hy353⟩:∃ y_:List Int,y_=(y349++bytesOf ((rd_T59 t345 x9_1).f2)):=⟨_,rfl⟩
   replace H:(if 0≤((rd_T59 t345 x9_1).f0) then (if ((rd_T59 t345 x9_1).f0)≤((rd_T59 t345 x9_1).f1) then (if ((rd_T59 t345 x9_1).f1)≤(a0.size:Int) then (if x7_1.length < 4398046511104 then (yz_.l0 k1 a0 t345 y353 (x7_1++[(⟨(y349.length:Int),(y353.length:Int),a0.extract (((rd_T59 t345 x9_1).f0):Int).toNat (((rd_T59 t345 x9_1).f1):Int).toNat⟩:S59)]) ((rd_T59 t345 x9_1).f1) (wrap64 (x9_1+1))) else (none)) else (none)) else (none)) else (none))=some (r1,r2):=by first|(rw [hy353];with_reducible exact H)|(have H2_:=(Option.bind_some _ _).symm.trans H;rw [hy353];with_reducible exact H2_)|(have H2_:=(Option.bind_some _ _).symm.trans H;with_reducible exact H2_)|with_reducible exact H|(rw [hy353];exact H)|exact H
   have Ny353:=Aside0.mk hy353
   clear hy353
   by_cases c12:0≤((rd_T59 t345 x9_1).f0)
   rotate_left
   ·rw [if_neg c12] at H
    exact absurd H (by simp)
   rw [if_pos c12] at H
   have c12b0:=eq_true c12
   have c12b1:decide (0≤((rd_T59 t345 x9_1).f0))=true:=decide_eq_true c12
   clear c12
   by_cases c13:((rd_T59 t345 x9_1).f0)≤((rd_T59 t345 x9_1).f1)
   rotate_left
   ·rw [if_neg c13] at H
    exact absurd H (by simp)
   rw [if_pos c13] at H
   have c13b0:=eq_true c13
   have c13b1:decide (((rd_T59 t345 x9_1).f0)≤((rd_T59 t345 x9_1).f1))=true:=decide_eq_true c13
   clear c13
   by_cases c14:((rd_T59 t345 x9_1).f1)≤(a0.size:Int)
   rotate_left
   ·rw [if_neg c14] at H
    exact absurd H (by simp)
   rw [if_pos c14] at H
   have c14b0:=eq_true c14
   have c14b1:decide (((rd_T59 t345 x9_1).f1)≤(a0.size:Int))=true:=decide_eq_true c14
   clear c14
   by_cases c15:x7_1.length < 4398046511104
   rotate_left
   ·rw [if_neg c15] at H
    exact absurd H (by simp)
   rw [if_pos c15] at H
   have LMc15:=Aside0.mk c15
   clear c15
   obtain ⟨y358,hy358⟩:∃ y_:List (S59),y_=(x7_1++[(⟨(y349.length:Int),(y353.length:Int),a0.extract (((rd_T59 t345 x9_1).f0):Int).toNat (((rd_T59 t345 x9_1).f1):Int).toNat⟩:S59)]):=⟨_,rfl⟩
   replace H:(yz_.l0 k1 a0 t345 y353 y358 ((rd_T59 t345 x9_1).f1) (wrap64 (x9_1+1)))=some (r1,r2):=by first|(rw [hy358];with_reducible exact H)|(have H2_:=(Option.bind_some _ _).symm.trans H;rw [hy358];with_reducible exact H2_)|(have H2_:=(Option.bind_some _ _).symm.trans H;with_reducible exact H2_)|with_reducible exact H|(rw [hy358];exact H)|exact H
   have Ny358:=Aside0.mk hy358
   clear hy358
   have H':=Aside0.mk H
   clear H
   obtain ⟨Ao16,co16,eo16⟩:=Kd.yC_ HO_1.out
   subst eo16
   have p348:0≤(x9_1:Int):=of_decide_eq_true (by assumption)
   have q348:x9_1 < (t345.length:Int):=of_decide_eq_true (by assumption)
   obtain ⟨ad348,e348,hx348_0,hx348_1,hx348_2⟩:=at_T59 (Kd.ys_ HO_1.out).2.2 x9_1 p348 q348
   cases e348
   replace p348:=eq_true p348
   replace q348:=eq_true q348
   try go_wp2_with (first|(at_builtin;refine print_append_str (w0:=w) w.heap.size rfl (.tmp 19) _ 94 9 5 rfl Try.underlying94 Try.underlying9 info5 u6 x6_1 (a0.extract (x8_1:Int).toNat (((rd_T59 t345 x9_1).f0):Int).toNat) rfl rfl ?aO ?aB ?aS ?aL ?_;(case aB=>exact (by repeat (with_reducible first|exact HB.out|apply yc_|apply ya_|apply yb_)));(case aO=>exact (Kd.own_of_R (by (with_reducible repeat (first|apply Kd.yg_|apply Kd.yh_|apply Kd.R_drew));exact HO_6.out)));(case aS=>exact (yn_ (by repeat (with_reducible first|exact HB.out|apply yc_|apply ya_|apply yb_))));(case aL=>have:=LMc10.out;omega);intro v350 w17 ho0 hb hg;have ho:=Kd.R_of_own (h1:=fun _=>rfl) (ok:=fun _=>True) ho0 (fun _ _=>trivial);clear ho0;have hat:=True.intro;rw [← Ny349.out] at ho;change Kd.R (Kd.int .u8) 5 w17 w.heap.size (fun _=>True) v350 y349 at ho;have n0_:=Aside0.mk (Kd.ybb_ (by (with_reducible repeat (first|apply Kd.yg_|apply Kd.yh_|apply Kd.R_drew));exact HO_1.out) (Kd.yO_ (by (with_reducible repeat (first|apply Kd.yg_|apply Kd.yh_|apply Kd.R_drew));exact HO_6.out)) (by decide) hg);have n1_:=Aside0.mk (Kd.ybb_ (by (with_reducible repeat (first|apply Kd.yg_|apply Kd.yh_|apply Kd.R_drew));exact HO_7.out) (Kd.yO_ (by (with_reducible repeat (first|apply Kd.yg_|apply Kd.yh_|apply Kd.R_drew));exact HO_6.out)) (by decide) hg);have n2_:=Aside0.mk (hb);have n3_:=Aside0.mk (ho);clear HO_1;clear HO_7;clear HB;clear HO_6;have HO_1:=n0_;have HO_7:=n1_;have HB:=n2_;have HO351:=n3_;clear n0_ n1_ n2_ n3_;clear ho hb hg hat;obtain ⟨Ao18,co18,eo18⟩:=Kd.yC_ HO351.out;subst eo18;have p352:0≤(x9_1:Int):=of_decide_eq_true (by assumption);have q352:x9_1 < (t345.length:Int):=of_decide_eq_true (by assumption);obtain ⟨ad352,e352,hx352_0,hx352_1,hx352_2⟩:=at_T59 (Kd.ys_ HO_1.out).2.2 x9_1 p352 q352;obtain rfl:ad348=ad352:=(by injection e352);replace p352:=eq_true p352;replace q352:=eq_true q352)|(at_builtin;refine print_append_str (w0:=w) w.heap.size rfl (.tmp 31) _ 94 9 5 rfl Try.underlying94 Try.underlying9 info5 (.slice Ao18 y349.length co18) y349 ((rd_T59 t345 x9_1).f2) rfl rfl ?aO ?aB ?aS ?aL ?_;(case aB=>exact (by repeat (with_reducible first|exact HB.out|apply yc_|apply ya_|apply yb_)));(case aO=>exact (Kd.own_of_R (by (with_reducible repeat (first|apply Kd.yg_|apply Kd.yh_|apply Kd.R_drew));exact HO351.out)));(case aS=>exact (yn_ (by repeat (with_reducible first|exact HB.out|apply yc_|apply ya_|apply yb_))));(case aL=>have:=LMc11.out;omega);intro v354 w19 ho0 hb hg;have ho:=Kd.R_of_own (h1:=fun _=>rfl) (ok:=fun _=>True) ho0 (fun _ _=>trivial);clear ho0;have hat:=True.intro;rw [← Ny353.out] at ho;change Kd.R (Kd.int .u8) 5 w19 w.heap.size (fun _=>True) v354 y353 at ho;have n0_:=Aside0.mk (Kd.ybb_ (by (with_reducible repeat (first|apply Kd.yg_|apply Kd.yh_|apply Kd.R_drew));exact HO_1.out) (Kd.yO_ (by (with_reducible repeat (first|apply Kd.yg_|apply Kd.yh_|apply Kd.R_drew));exact HO351.out)) (by decide) hg);have n1_:=Aside0.mk (Kd.ybb_ (by (with_reducible repeat (first|apply Kd.yg_|apply Kd.yh_|apply Kd.R_drew));exact HO_7.out) (Kd.yO_ (by (with_reducible repeat (first|apply Kd.yg_|apply Kd.yh_|apply Kd.R_drew));exact HO351.out)) (by decide) hg);have n2_:=Aside0.mk (hb);have n3_:=Aside0.mk (ho);clear HO_1;clear HO_7;clear HB;clear HO351;have HO_1:=n0_;have HO_7:=n1_;have HB:=n2_;have HO355:=n3_;clear n0_ n1_ n2_ n3_;clear ho hb hg hat))
   have n0_:=Aside0.mk (Kd.R_drew HO_1.out)
   have n1_:=Aside0.mk (Kd.R_drew HO_7.out)
   have n2_:=Aside0.mk (Kd.R_drew HO355.out)
   have n3_:=Aside0.mk (yb_ HB.out)
   clear HO_1
   clear HO_7
   clear HO355
   clear HB
   have HO_1:=n0_
   have HO_7:=n1_
   have HO355:=n2_
   have HB:=n3_
   clear n0_ n1_ n2_ n3_
   obtain ⟨Ao21,co21,eo21⟩:=Kd.yC_ HO355.out
   (first|subst eo21|(injection eo21 with f1_ f2_ f3_;have f4_:=f1_.symm;have f5_:=f3_.symm;clear f1_ f2_ f3_;subst f4_;subst f5_))
   have p356:0≤(x9_1:Int):=of_decide_eq_true (by assumption)
   have q356:x9_1 < (t345.length:Int):=of_decide_eq_true (by assumption)
   obtain ⟨ad356,e356,hx356_0,hx356_1,hx356_2⟩:=at_T59 (Kd.ys_ HO_1.out).2.2 x9_1 p356 q356
   obtain rfl:ad348=ad356:=(by injection e356)
   replace p356:=eq_true p356
   replace q356:=eq_true q356
   have p357:0≤(x9_1:Int):=of_decide_eq_true (by assumption)
   have q357:x9_1 < (t345.length:Int):=of_decide_eq_true (by assumption)
   obtain ⟨ad357,e357,hx357_0,hx357_1,hx357_2⟩:=at_T59 (Kd.ys_ HO_1.out).2.2 x9_1 p357 q357
   obtain rfl:ad348=ad357:=(by injection e357)
   replace p357:=eq_true p357
   replace q357:=eq_true q357
   refine start_ (n:=20) (S:=fun w'=>w'.cell? (ad348.add ((x9_1).toNat * 3))=some (.int .i64 ((rd_T59 t345 x9_1).f0))∧w'.cell? ⟨(ad348.add ((x9_1).toNat * 3)).block,(ad348.add ((x9_1).toNat * 3)).off+1,none⟩=some (.int .i64 ((rd_T59 t345 x9_1).f1))∧w'.cell? ⟨(ad348.add ((x9_1).toNat * 3)).block,(ad348.add ((x9_1).toNat * 3)).off+2,none⟩=some (.string ((rd_T59 t345 x9_1).f2))∧w'.cell? (ad348.add ((x9_1).toNat * 3))=some (.int .i64 ((rd_T59 t345 x9_1).f0))∧w'.cell? ⟨(ad348.add ((x9_1).toNat * 3)).block,(ad348.add ((x9_1).toNat * 3)).off+1,none⟩=some (.int .i64 ((rd_T59 t345 x9_1).f1))∧w'.cell? ⟨(ad348.add ((x9_1).toNat * 3)).block,(ad348.add ((x9_1).toNat * 3)).off+2,none⟩=some (.string ((rd_T59 t345 x9_1).f2))) (ds:=[17,18]) (bA 20 0) (by kernel_rfl) rfl rfl ⟨hx356_0,hx356_1,hx356_2,hx357_0,hx357_1,hx357_2⟩ (fun hHeld=>?_);refine yP_ yz_.tab11 yz_.bits11 (fun HT_ HW_=>?_)
   generalize w19.drew=w20 at HO_1 HO_7 HO355 HB hx356_0 hx356_1 hx356_2 hx357_0 hx357_1 hx357_2 hHeld ⊢
   refine pu_ 0 38 (bA 20 1) HT_ ?_
   refine pu_ 1 39 (bA 20 3) HT_ ?_
   refine pu_ 2 40 (bA 20 7) HT_ ?_
   refine pu_ 3 41 (bA 20 15) HT_ ?_
   refine pu_ 4 42 (bA 20 31) HT_ ?_
   refine pu_ 5 43 (bA 20 63) HT_ ?_
   refine pu_ 6 44 (bA 20 127) HT_ ?_
   refine pu_ 7 45 (bA 20 255) HT_ ?_
   refine pu_ 8 46 (bA 20 511) HT_ ?_
   refine pu_ 10 48 (bA 20 1535) HT_ ?_
   refine pu_ 11 49 (bA 20 3583) HT_ ?_
   refine pu_ 12 50 (bA 20 7679) HT_ ?_
   refine pu_ 13 51 (bA 20 15871) HT_ ?_
   refine tk_ 9 47 (bA 20 16383) rfl HT_ HW_ hHeld (by rintro w' ⟨s0,s1,s2,s3,s4,s5⟩;go_simp;with_reducible rfl) ?_
   refine tk_ 14 52 (bA 20 32767) rfl HT_ HW_ hHeld (by rintro w' ⟨s0,s1,s2,s3,s4,s5⟩;go_simp;with_reducible rfl) ?_
   refine pu_ 15 53 (bA 20 65535) HT_ ?_
   refine pu_ 16 54 (bA 20 131071) HT_ ?_
   refine last_ (i:=17) (N:=some 55) (bA 20 262143) rfl rfl (one_of HT_.out (by kernel_rfl)) (by decide) (fun K hK=>?_)
   refine value_ (w1:=?_) (v:=?_) (by rfl) rfl ?_ ?_
   rotate_left 2
   ·go_simp
    constructor
    ·rfl
    ·rfl
   refine hK.out _ _ ?_
   clear hK K
   refine norm_ (a':=?_) ?_ ?_
   rotate_left
   ·show Act.put _ (some 55) _=_
    simp only [Act.put,q1_,q2_,q3_,i64_w,i32_w]
    rfl
   refine last_ (i:=18) (N:=some 56) (bA 20 524287) rfl rfl (one_of HT_.out (by kernel_rfl)) (by decide) (fun K hK=>?_)
   refine Kd.R_append_step k59 (w0:=w) w.heap.size (by rfl) (.tmp 38) (.tmp 55) 55 59 (.agg #[(.int .i64 0),(.int .i64 0),(.string ⟨#[]⟩)]) 32 rfl Try.underlying55 info59 rfl (by decide) (by omega) u7 x7_1 (⟨(y349.length:Int),(y353.length:Int),a0.extract (((rd_T59 t345 x9_1).f0):Int).toNat (((rd_T59 t345 x9_1).f1):Int).toNat⟩:S59) [.int .i64 (y349.length:Int),.int .i64 (y353.length:Int),.string (a0.extract (((rd_T59 t345 x9_1).f0):Int).toNat (((rd_T59 t345 x9_1).f1):Int).toNat)] (fun k_=>some k_ ≠ (.slice (some ad348) t345.length co16:Value).ownBlock) (fun _=>False) rfl rfl ?aP (fun _ hk=>hk.elim) ?aF ?aO ?aB ?aS ?aL ?_
   (case aP=>exact yXb_ _ _ _ (⟨(y349.length:Int),(y353.length:Int),a0.extract (((rd_T59 t345 x9_1).f0):Int).toNat (((rd_T59 t345 x9_1).f1):Int).toNat⟩:S59))
   (case aB=>exact (by repeat (with_reducible first|exact HB.out|apply yc_|apply ya_|apply yb_)))
   (case aF=>exact (fun k_ hk=>Kd.fresh' (Kd.R_lt (by (with_reducible repeat (first|apply Kd.yg_|apply Kd.yh_|apply Kd.R_drew));exact HO_1.out)) k_ hk))
   (case aO=>exact (by (with_reducible repeat (first|apply Kd.yg_|apply Kd.yh_|apply Kd.R_drew));exact HO_7.out))
   (case aS=>exact (yn_ (by repeat (with_reducible first|exact HB.out|apply yc_|apply ya_|apply yb_))))
   (case aL=>have:=LMc15.out;omega)
   intro v359 w22 ho hb hg hat
   rw [← Ny358.out] at ho
   have n0_:=Aside0.mk (Kd.R_after (ok:=(fun _=>True)) (by (with_reducible repeat (first|apply Kd.yg_|apply Kd.yh_|apply Kd.R_drew));exact Kd.R_mono HO_1.out (fun _ hk=>⟨trivial,hk⟩)) hg hat)
   have n1_:=Aside0.mk (Kd.ybb_ (by (with_reducible repeat (first|apply Kd.yg_|apply Kd.yh_|apply Kd.R_drew));exact HO355.out) (Kd.yO_ (by (with_reducible repeat (first|apply Kd.yg_|apply Kd.yh_|apply Kd.R_drew));exact HO_7.out)) (by decide) hg)
   have n2_:=Aside0.mk (hb)
   have n3_:=Aside0.mk (ho)
   clear HO_1
   clear HO355
   clear HB
   clear HO_7
   have HO_1:=n0_
   have HO355:=n1_
   have HB:=n2_
   have HO360:=n3_
   clear n0_ n1_ n2_ n3_
   clear ho hb hg hat
   refine hK.out _ _ ?_
   clear hK K
   refine norm_ (a':=?_) ?_ ?_
   rotate_left
   ·show Act.put _ (some 56) _=_
    simp only [Act.put,q1_,q2_,q3_,i64_w,i32_w]
    rfl
   refine pu_ 19 7 (bA 20 1048575) HT_ ?_
   refine done_ (ydb_ HT_.out (by kernel_rfl)) ?_
   have p361:0≤(x9_1:Int):=of_decide_eq_true (by assumption)
   have q361:x9_1 < (t345.length:Int):=of_decide_eq_true (by assumption)
   obtain ⟨ad361,e361,hx361_0,hx361_1,hx361_2⟩:=at_T59 (Kd.ys_ HO_1.out).2.2 x9_1 p361 q361
   obtain rfl:ad348=ad361:=(by injection e361)
   replace p361:=eq_true p361
   replace q361:=eq_true q361
   try go_wp2
   go_roundg k1
   case measure=>have:=HK1.out;omega
   case rel=>exact ⟨(y353),(y358),((rd_T59 t345 x9_1).f1),(wrap64 (x9_1+1)),(by first|rfl|(simp;done)|(simp [*];done)),(by first|rfl|(simp;done)|(simp [*];done)),H',⟨by have:=HK1.out;omega⟩,⟨by (with_reducible repeat (first|apply Kd.yg_|apply Kd.yh_|apply Kd.R_drew));exact Kd.R_mono HO_1.out (fun _ hk=>hk.2)⟩,⟨by (with_reducible repeat (first|apply Kd.yg_|apply Kd.yh_|apply Kd.R_drew));exact HO355.out⟩,⟨by (with_reducible repeat (first|apply Kd.yg_|apply Kd.yh_|apply Kd.R_drew));exact HO360.out⟩,⟨by repeat (with_reducible first|exact HB.out|apply yc_|apply ya_|apply yb_)⟩⟩

end Go.Proofs.Ythimblhfjfngiaa.PText

namespace Go.Proofs.Ythimblhfjfngiaa.PText
open Go.RowKit Go.Proofs.YthimblhfjfngiaaW.PrintWords Go.Proofs.YthimblhfjfngiaaW.PrintLast Go.Proofs.YthimblhfjfngiaaW.PrintMore
attribute [local go_sem] y2_ y3_ yfb_ ygb_ yS_ yT_ y4_ y5_   -- for this text's walks alone
set_option linter.unusedVariables false
set_option linter.unusedSimpArgs false

def yX_.f (k:Nat) (a0:ByteArray) (l1:List (S59)):Option (ByteArray × Int):=(yi_.f k a0 l1).bind fun t365=>(if t365=0 then ((yz_.f k a0 l1).bind fun bt366=>(if (bt366.1.size:Int) > 200000 then (some ((⟨#[]⟩:ByteArray),2)) else (some (bt366.1,0)))) else (some ((⟨#[]⟩:ByteArray),t365)))
set_option maxHeartbeats 8000000 in
set_option maxRecDepth 100000 in
theorem yX_.calls (k:Nat) (a0:ByteArray) (A1:Option Addr) (c1:Nat) (l1:List (S59)) (r1:ByteArray) (r2:Int) (w:World) (hr1:Kd.C k59 w A1 l1.length l1) (hc1:l1.length≤c1) (h:yX_.f k a0 l1=some (r1,r2)) :
  Calls Try.prog 30 #[.string a0,.slice A1 l1.length c1] w fun e w'=>e=.returned (.tuple #[.string r1,.int .i64 r2])∧Below w.heap.size w w':=by
 have HR1:=Aside0.mk hr1
 have HC1:=Aside0.mk hc1
 clear hr1 hc1
 have HB:=Aside0.mk (Below.refl w.heap.size w)
 have H:((yi_.f k a0 l1).bind fun t365=>(if t365=0 then ((yz_.f k a0 l1).bind fun bt366=>(if (bt366.1.size:Int) > 200000 then (some ((⟨#[]⟩:ByteArray),2)) else (some (bt366.1,0)))) else (some ((⟨#[]⟩:ByteArray),t365))))=some (r1,r2):=h
 clear h
 replace H:=Option.bind_eq_some_iff.mp H
 obtain ⟨t365,A30,H⟩:=H
 replace H:(if t365=0 then ((yz_.f k a0 l1).bind fun bt366=>(if (bt366.1.size:Int) > 200000 then (some ((⟨#[]⟩:ByteArray),2)) else (some (bt366.1,0)))) else (some ((⟨#[]⟩:ByteArray),t365)))=some (r1,r2):=H
 have A3:=Aside0.mk A30
 clear A30
 by_cases c4:t365=0
 rotate_left
 ·rw [if_neg c4] at H
  have c4b0:(t365 == 0)=false:=beq_eq_false_iff_ne.mpr c4
  have c4b1:(t365 != 0)=true:=bne_iff_ne.mpr c4
  simp only [Option.some.injEq,Prod.mk.injEq] at H
  obtain ⟨rfl,rfl⟩:=H
  go_enter Try.func30,Try.ntmps30
  go_wp2_with (first|((with_reducible refine yt_ (f:=50) rfl ?_);refine goesL_ (some 11) rfl rfl Try.func50 (by kernel_rfl) rfl #[.string a0,.slice A1 l1.length c1] rfl (by (try simp only [List.map_toArray,List.map_cons,List.map_nil]);first|done|rfl|(simp only [List.length_drop,List.length_take];rfl)) ?_;(with_reducible refine (yi_.calls k a0 _ _ l1 t365 _ ?side1 ?side2 A3.out).mono ?_);(case side1=>repeat (first|exact HR1.out|(with_reducible refine Kd.yK_ ?_ _)|(with_reducible refine Kd.y1_ ?_ _)|(with_reducible refine Kd.C_drew ?_)));(case side2=>exact HC1.out);rintro e w11 ⟨rfl,hb⟩;refine ⟨_,rfl,?_⟩;have n0_:=Aside0.mk (yp_ (by repeat (with_reducible first|exact HB.out|apply yc_|apply ya_|apply yb_)) hb);clear HB;have HB:=n0_;clear n0_;(try clear hb);(try clear hb2);(try clear hk);(try clear hi)))
  go_ret2
  exact ⟨by first|rfl|(simp [yq_,yr_] <;> rfl)|(simp [*,yq_,yr_] <;> rfl),by repeat (with_reducible first|exact HB.out|apply yc_|apply ya_|apply yb_)⟩
 rw [if_pos c4] at H
 have c4b0:(t365 == 0)=true:=beq_iff_eq.mpr c4
 have c4b1:(t365 != 0)=false:=bne_eq_false_iff_eq.mpr c4
 clear c4
 replace H:=Option.bind_eq_some_iff.mp H
 obtain ⟨⟨t366,t367⟩,A50,H⟩:=H
 replace H:(if (t366.size:Int) > 200000 then (some ((⟨#[]⟩:ByteArray),2)) else (some (t366,0)))=some (r1,r2):=H
 have A5:=Aside0.mk A50
 clear A50
 by_cases c6:(t366.size:Int) > 200000
 ·rw [if_pos c6] at H
  have c6b0:decide (200000 < (t366.size:Int))=true:=decide_eq_true c6
  have c6b1:decide (200000 < t366.size)=true:=decide_eq_true (by omega)
  clear c6
  simp only [Option.some.injEq,Prod.mk.injEq] at H
  obtain ⟨rfl,rfl⟩:=H
  go_enter Try.func30,Try.ntmps30
  go_wp2_with (first|((with_reducible refine yt_ (f:=50) rfl ?_);refine goesL_ (some 11) rfl rfl Try.func50 (by kernel_rfl) rfl #[.string a0,.slice A1 l1.length c1] rfl (by (try simp only [List.map_toArray,List.map_cons,List.map_nil]);first|done|rfl|(simp only [List.length_drop,List.length_take];rfl)) ?_;(with_reducible refine (yi_.calls k a0 _ _ l1 t365 _ ?side1 ?side2 A3.out).mono ?_);(case side1=>repeat (first|exact HR1.out|(with_reducible refine Kd.yK_ ?_ _)|(with_reducible refine Kd.y1_ ?_ _)|(with_reducible refine Kd.C_drew ?_)));(case side2=>exact HC1.out);rintro e w7 ⟨rfl,hb⟩;refine ⟨_,rfl,?_⟩;have n0_:=Aside0.mk (yp_ (by repeat (with_reducible first|exact HB.out|apply yc_|apply ya_|apply yb_)) hb);clear HB;have HB:=n0_;clear n0_;(try clear hb);(try clear hb2);(try clear hk);(try clear hi))|((with_reducible refine yt_ (f:=51) rfl ?_);refine goesL_ (some 18) rfl rfl Try.func51 (by kernel_rfl) rfl #[.string a0,.slice A1 l1.length c1] rfl (by (try simp only [List.map_toArray,List.map_cons,List.map_nil]);first|done|rfl|(simp only [List.length_drop,List.length_take];rfl)) ?_;(with_reducible refine (yz_.calls k a0 _ _ l1 t366 t367 _ ?side1 ?side2 A5.out).mono ?_);(case side1=>repeat (first|exact (Kd.ynb_ HR1.out HB.out)|(with_reducible refine Kd.yK_ ?_ _)|(with_reducible refine Kd.y1_ ?_ _)|(with_reducible refine Kd.C_drew ?_)));(case side2=>exact HC1.out);rintro e w8 ⟨v368,rfl,ho0,hb⟩;refine ⟨_,rfl,?_⟩;have n0_:=Aside0.mk (Kd.yJ_ ho0 (yn_ (by repeat (with_reducible first|exact HB.out|apply yc_|apply ya_|apply yb_))));have n1_:=Aside0.mk (yp_ (by repeat (with_reducible first|exact HB.out|apply yc_|apply ya_|apply yb_)) hb);clear HB;have HO369:=n0_;have HB:=n1_;clear n0_ n1_;(try clear hb);(try clear hb2);(try clear hk);(try clear hi);(try clear ho0)))
  go_ret2
  exact ⟨by first|rfl|(simp [yq_,yr_] <;> rfl)|(simp [*,yq_,yr_] <;> rfl),by repeat (with_reducible first|exact HB.out|apply yc_|apply ya_|apply yb_)⟩
 rw [if_neg c6] at H
 have c6b0:decide (200000 < (t366.size:Int))=false:=decide_eq_false c6
 have c6b1:decide (200000 < t366.size)=false:=decide_eq_false (by omega)
 clear c6
 simp only [Option.some.injEq,Prod.mk.injEq] at H
 obtain ⟨rfl,rfl⟩:=H
 go_enter Try.func30,Try.ntmps30
 go_wp2_with (first|((with_reducible refine yt_ (f:=50) rfl ?_);refine goesL_ (some 11) rfl rfl Try.func50 (by kernel_rfl) rfl #[.string a0,.slice A1 l1.length c1] rfl (by (try simp only [List.map_toArray,List.map_cons,List.map_nil]);first|done|rfl|(simp only [List.length_drop,List.length_take];rfl)) ?_;(with_reducible refine (yi_.calls k a0 _ _ l1 t365 _ ?side1 ?side2 A3.out).mono ?_);(case side1=>repeat (first|exact HR1.out|(with_reducible refine Kd.yK_ ?_ _)|(with_reducible refine Kd.y1_ ?_ _)|(with_reducible refine Kd.C_drew ?_)));(case side2=>exact HC1.out);rintro e w9 ⟨rfl,hb⟩;refine ⟨_,rfl,?_⟩;have n0_:=Aside0.mk (yp_ (by repeat (with_reducible first|exact HB.out|apply yc_|apply ya_|apply yb_)) hb);clear HB;have HB:=n0_;clear n0_;(try clear hb);(try clear hb2);(try clear hk);(try clear hi))|((with_reducible refine yt_ (f:=51) rfl ?_);refine goesL_ (some 18) rfl rfl Try.func51 (by kernel_rfl) rfl #[.string a0,.slice A1 l1.length c1] rfl (by (try simp only [List.map_toArray,List.map_cons,List.map_nil]);first|done|rfl|(simp only [List.length_drop,List.length_take];rfl)) ?_;(with_reducible refine (yz_.calls k a0 _ _ l1 t366 t367 _ ?side1 ?side2 A5.out).mono ?_);(case side1=>repeat (first|exact (Kd.ynb_ HR1.out HB.out)|(with_reducible refine Kd.yK_ ?_ _)|(with_reducible refine Kd.y1_ ?_ _)|(with_reducible refine Kd.C_drew ?_)));(case side2=>exact HC1.out);rintro e w10 ⟨v368,rfl,ho0,hb⟩;refine ⟨_,rfl,?_⟩;have n0_:=Aside0.mk (Kd.yJ_ ho0 (yn_ (by repeat (with_reducible first|exact HB.out|apply yc_|apply ya_|apply yb_))));have n1_:=Aside0.mk (yp_ (by repeat (with_reducible first|exact HB.out|apply yc_|apply ya_|apply yb_)) hb);clear HB;have HO369:=n0_;have HB:=n1_;clear n0_ n1_;(try clear hb);(try clear hb2);(try clear hk);(try clear hi);(try clear ho0)))
 go_ret2
 exact ⟨by first|rfl|(simp [yq_,yr_] <;> rfl)|(simp [*,yq_,yr_] <;> rfl),by repeat (with_reducible first|exact HB.out|apply yc_|apply ya_|apply yb_)⟩

end Go.Proofs.Ythimblhfjfngiaa.PText

namespace Go.Proofs.Ythimblhfjfngiaa.PText
open Go.RowKit Go.Proofs.YthimblhfjfngiaaW.PrintWords Go.Proofs.YthimblhfjfngiaaW.PrintLast Go.Proofs.YthimblhfjfngiaaW.PrintMore
attribute [local go_sem] y2_ y3_ yfb_ ygb_ yS_ yT_ y4_ y5_   -- for this text's walks alone
set_option linter.unusedVariables false
set_option linter.unusedSimpArgs false

def yN_.f (k:Nat) (a0:ByteArray) (a1:ByteArray) (a2:ByteArray):Option (ByteArray × Int):=(yj_.f k a0 a1 a2).bind fun bt370=>(if bt370.2=0 then (if (bt370.1.length:Int) > 0 then (some ((⟨#[]⟩:ByteArray),250)) else ((ye_.f k a0 a1).bind fun bt374=>((ye_.f k a0 a2).bind fun bt378=>(if bt374.1.length+bt378.1.length < 4398046511104 then ((yX_.f k a0 (bt374.1++bt378.1)).bind fun bt385=>(some (bt385.1,bt385.2))) else (none))))) else (some ((⟨#[]⟩:ByteArray),bt370.2)))
set_option maxHeartbeats 8000000 in
set_option maxRecDepth 100000 in
theorem yN_.calls (k:Nat) (a0:ByteArray) (a1:ByteArray) (a2:ByteArray) (r1:ByteArray) (r2:Int) (w:World) (h:yN_.f k a0 a1 a2=some (r1,r2)) :
  Calls Try.prog 7 #[.string a0,.string a1,.string a2] w fun e w'=>e=.returned (.tuple #[.string r1,.int .i64 r2])∧Below w.heap.size w w':=by
 have HB:=Aside0.mk (Below.refl w.heap.size w)
 have H:((yj_.f k a0 a1 a2).bind fun bt370=>(if bt370.2=0 then (if (bt370.1.length:Int) > 0 then (some ((⟨#[]⟩:ByteArray),250)) else ((ye_.f k a0 a1).bind fun bt374=>((ye_.f k a0 a2).bind fun bt378=>(if bt374.1.length+bt378.1.length < 4398046511104 then ((yX_.f k a0 (bt374.1++bt378.1)).bind fun bt385=>(some (bt385.1,bt385.2))) else (none))))) else (some ((⟨#[]⟩:ByteArray),bt370.2))))=some (r1,r2):=h
 clear h
 replace H:=Option.bind_eq_some_iff.mp H
 obtain ⟨⟨t370,t371⟩,A40,H⟩:=H
 replace H:(if t371=0 then (if (t370.length:Int) > 0 then (some ((⟨#[]⟩:ByteArray),250)) else ((ye_.f k a0 a1).bind fun bt374=>((ye_.f k a0 a2).bind fun bt378=>(if bt374.1.length+bt378.1.length < 4398046511104 then ((yX_.f k a0 (bt374.1++bt378.1)).bind fun bt385=>(some (bt385.1,bt385.2))) else (none))))) else (some ((⟨#[]⟩:ByteArray),t371)))=some (r1,r2):=H
 have A4:=Aside0.mk A40
 clear A40
 by_cases c5:t371=0
 rotate_left
 ·rw [if_neg c5] at H
  have c5b0:(t371 == 0)=false:=beq_eq_false_iff_ne.mpr c5
  have c5b1:(t371 != 0)=true:=bne_iff_ne.mpr c5
  simp only [Option.some.injEq,Prod.mk.injEq] at H
  obtain ⟨rfl,rfl⟩:=H
  go_enter Try.func7,Try.ntmps7
  go_wp2_with (first|((with_reducible refine yt_ (f:=9) rfl ?_);refine goesL_ (some 18) rfl rfl Try.func9 (by kernel_rfl) rfl #[.string a0,.string a1,.string a2] rfl (by (try simp only [List.map_toArray,List.map_cons,List.map_nil]);first|done|rfl|(simp only [List.length_drop,List.length_take];rfl)) ?_;(with_reducible refine (yj_.calls k a0 a1 a2 t370 t371 _ A4.out).mono ?_);rintro e w21 ⟨v372,rfl,ho0,hb⟩;refine ⟨_,rfl,?_⟩;have n0_:=Aside0.mk (Kd.yJ_ ho0 (yn_ (by repeat (with_reducible first|exact HB.out|apply yc_|apply ya_|apply yb_))));have n1_:=Aside0.mk (yp_ (by repeat (with_reducible first|exact HB.out|apply yc_|apply ya_|apply yb_)) hb);clear HB;have HO373:=n0_;have HB:=n1_;clear n0_ n1_;(try clear hb);(try clear hb2);(try clear hk);(try clear hi);(try clear ho0)))
  go_ret2
  exact ⟨by first|rfl|(simp [yq_,yr_] <;> rfl)|(simp [*,yq_,yr_] <;> rfl),by repeat (with_reducible first|exact HB.out|apply yc_|apply ya_|apply yb_)⟩
 rw [if_pos c5] at H
 have c5b0:(t371 == 0)=true:=beq_iff_eq.mpr c5
 have c5b1:(t371 != 0)=false:=bne_eq_false_iff_eq.mpr c5
 clear c5
 by_cases c6:(t370.length:Int) > 0
 ·rw [if_pos c6] at H
  have c6b0:decide (0 < (t370.length:Int))=true:=decide_eq_true c6
  have c6b1:decide (0 < t370.length)=true:=decide_eq_true (by omega)
  clear c6
  simp only [Option.some.injEq,Prod.mk.injEq] at H
  obtain ⟨rfl,rfl⟩:=H
  go_enter Try.func7,Try.ntmps7
  go_wp2_with (first|((with_reducible refine yt_ (f:=9) rfl ?_);refine goesL_ (some 18) rfl rfl Try.func9 (by kernel_rfl) rfl #[.string a0,.string a1,.string a2] rfl (by (try simp only [List.map_toArray,List.map_cons,List.map_nil]);first|done|rfl|(simp only [List.length_drop,List.length_take];rfl)) ?_;(with_reducible refine (yj_.calls k a0 a1 a2 t370 t371 _ A4.out).mono ?_);rintro e w7 ⟨v372,rfl,ho0,hb⟩;refine ⟨_,rfl,?_⟩;have n0_:=Aside0.mk (Kd.yJ_ ho0 (yn_ (by repeat (with_reducible first|exact HB.out|apply yc_|apply ya_|apply yb_))));have n1_:=Aside0.mk (yp_ (by repeat (with_reducible first|exact HB.out|apply yc_|apply ya_|apply yb_)) hb);clear HB;have HO373:=n0_;have HB:=n1_;clear n0_ n1_;(try clear hb);(try clear hb2);(try clear hk);(try clear hi);(try clear ho0);obtain ⟨Ao8,co8,eo8⟩:=Kd.yC_ HO373.out;subst eo8))
  go_ret2
  exact ⟨by first|rfl|(simp [yq_,yr_] <;> rfl)|(simp [*,yq_,yr_] <;> rfl),by repeat (with_reducible first|exact HB.out|apply yc_|apply ya_|apply yb_)⟩
 rw [if_neg c6] at H
 have c6b0:decide (0 < (t370.length:Int))=false:=decide_eq_false c6
 have c6b1:decide (0 < t370.length)=false:=decide_eq_false (by omega)
 clear c6
 replace H:=Option.bind_eq_some_iff.mp H
 obtain ⟨⟨t374,t375⟩,A90,H⟩:=H
 replace H:((ye_.f k a0 a2).bind fun bt378=>(if t374.length+bt378.1.length < 4398046511104 then ((yX_.f k a0 (t374++bt378.1)).bind fun bt385=>(some (bt385.1,bt385.2))) else (none)))=some (r1,r2):=H
 have A9:=Aside0.mk A90
 clear A90
 replace H:=Option.bind_eq_some_iff.mp H
 obtain ⟨⟨t378,t379⟩,A100,H⟩:=H
 replace H:(if t374.length+t378.length < 4398046511104 then ((yX_.f k a0 (t374++t378)).bind fun bt385=>(some (bt385.1,bt385.2))) else (none))=some (r1,r2):=H
 have A10:=Aside0.mk A100
 clear A100
 by_cases c11:t374.length+t378.length < 4398046511104
 rotate_left
 ·rw [if_neg c11] at H
  exact absurd H (by simp)
 rw [if_pos c11] at H
 have LMc11:=Aside0.mk c11
 clear c11
 obtain ⟨y382,hy382⟩:∃ y_:List (S59),y_=(t374++t378):=⟨_,rfl⟩
 replace H:((yX_.f k a0 y382).bind fun bt385=>(some (bt385.1,bt385.2)))=some (r1,r2):=by first|(rw [hy382];with_reducible exact H)|(have H2_:=(Option.bind_some _ _).symm.trans H;rw [hy382];with_reducible exact H2_)|(have H2_:=(Option.bind_some _ _).symm.trans H;with_reducible exact H2_)|with_reducible exact H|(rw [hy382];exact H)|exact H
 have Ny382:=Aside0.mk hy382
 clear hy382
 replace H:=Option.bind_eq_some_iff.mp H
 obtain ⟨⟨t385,t386⟩,A120,H⟩:=H
 replace H:(some (t385,t386))=some (r1,r2):=H
 have A12:=Aside0.mk A120
 clear A120
 simp only [Option.some.injEq,Prod.mk.injEq] at H
 obtain ⟨rfl,rfl⟩:=H
 go_enter Try.func7,Try.ntmps7
 go_wp2_with (first|((with_reducible refine yt_ (f:=9) rfl ?_);refine goesL_ (some 18) rfl rfl Try.func9 (by kernel_rfl) rfl #[.string a0,.string a1,.string a2] rfl (by (try simp only [List.map_toArray,List.map_cons,List.map_nil]);first|done|rfl|(simp only [List.length_drop,List.length_take];rfl)) ?_;(with_reducible refine (yj_.calls k a0 a1 a2 t370 t371 _ A4.out).mono ?_);rintro e w13 ⟨v372,rfl,ho0,hb⟩;refine ⟨_,rfl,?_⟩;have n0_:=Aside0.mk (Kd.yJ_ ho0 (yn_ (by repeat (with_reducible first|exact HB.out|apply yc_|apply ya_|apply yb_))));have n1_:=Aside0.mk (yp_ (by repeat (with_reducible first|exact HB.out|apply yc_|apply ya_|apply yb_)) hb);clear HB;have HO373:=n0_;have HB:=n1_;clear n0_ n1_;(try clear hb);(try clear hb2);(try clear hk);(try clear hi);(try clear ho0);obtain ⟨Ao14,co14,eo14⟩:=Kd.yC_ HO373.out;subst eo14)|((with_reducible refine yt_ (f:=29) rfl ?_);refine goesL_ (some 30) rfl rfl Try.func29 (by kernel_rfl) rfl #[.string a0,.string a1] rfl (by (try simp only [List.map_toArray,List.map_cons,List.map_nil]);first|done|rfl|(simp only [List.length_drop,List.length_take];rfl)) ?_;(with_reducible refine (ye_.calls k a0 a1 t374 t375 _ A9.out).mono ?_);rintro e w15 ⟨v376,rfl,ho0,hb⟩;refine ⟨_,rfl,?_⟩;have n0_:=Aside0.mk (Kd.yV_ (by (with_reducible repeat (first|apply Kd.yg_|apply Kd.yh_|apply Kd.R_drew));exact HO373.out) hb);have n1_:=Aside0.mk (Kd.yJ_ ho0 (yn_ (by repeat (with_reducible first|exact HB.out|apply yc_|apply ya_|apply yb_))));have n2_:=Aside0.mk (yp_ (by repeat (with_reducible first|exact HB.out|apply yc_|apply ya_|apply yb_)) hb);clear HO373;clear HB;have HO373:=n0_;have HO377:=n1_;have HB:=n2_;clear n0_ n1_ n2_;(try clear hb);(try clear hb2);(try clear hk);(try clear hi);(try clear ho0))|((with_reducible refine yt_ (f:=29) rfl ?_);refine goesL_ (some 36) rfl rfl Try.func29 (by kernel_rfl) rfl #[.string a0,.string a2] rfl (by (try simp only [List.map_toArray,List.map_cons,List.map_nil]);first|done|rfl|(simp only [List.length_drop,List.length_take];rfl)) ?_;(with_reducible refine (ye_.calls k a0 a2 t378 t379 _ A10.out).mono ?_);rintro e w16 ⟨v380,rfl,ho0,hb⟩;refine ⟨_,rfl,?_⟩;have n0_:=Aside0.mk (Kd.yV_ (by (with_reducible repeat (first|apply Kd.yg_|apply Kd.yh_|apply Kd.R_drew));exact HO373.out) hb);have n1_:=Aside0.mk (Kd.yFb_ (by (with_reducible repeat (first|apply Kd.yg_|apply Kd.yh_|apply Kd.R_drew));exact HO377.out) (Kd.R_base ho0) hb);have n2_:=Aside0.mk (Kd.yJ_ (Kd.R_new' ho0 (Kd.R_lt (by (with_reducible repeat (first|apply Kd.yg_|apply Kd.yh_|apply Kd.R_drew));exact HO377.out))) (yn_ (by repeat (with_reducible first|exact HB.out|apply yc_|apply ya_|apply yb_))));have n3_:=Aside0.mk (yp_ (by repeat (with_reducible first|exact HB.out|apply yc_|apply ya_|apply yb_)) hb);clear HO373;clear HO377;clear HB;have HO373:=n0_;have HO377:=n1_;have HO381:=n2_;have HB:=n3_;clear n0_ n1_ n2_ n3_;(try clear hb);(try clear hb2);(try clear hk);(try clear hi);(try clear ho0);obtain ⟨Ao18,co18,eo18⟩:=Kd.yC_ HO381.out;subst eo18)|((with_reducible refine yF_ (b:=.append) (xs:=#[.tmp 40,.tmp 41]) rfl ?_);at_builtin;refine Kd.yOb_ k59 (w0:=w) w.heap.size rfl (.tmp 40) (.tmp 41) 55 59 (.agg #[(.int .i64 0),(.int .i64 0),(.string ⟨#[]⟩)]) 32 rfl Try.underlying55 info59 rfl (by decide) (by omega) v376 t374 t378 _ _ _ (fun k_=>some k_ ≠ (.slice Ao18 t378.length co18:Value).ownBlock) (fun _=>False) rfl rfl ?aO ?aR (fun _ _ h=>h) (fun _ h=>h.elim) ?aF ?aB ?aS ?aL ?_;(case aR=>repeat (first|exact (Kd.ys_ HO381.out).2.2|(with_reducible refine Kd.yK_ ?_ _)|(with_reducible refine Kd.y1_ ?_ _)|(with_reducible refine Kd.C_drew ?_)));(case aB=>exact (by repeat (with_reducible first|exact HB.out|apply yc_|apply ya_|apply yb_)));(case aF=>exact (fun k_ hk=>Kd.fresh' (Kd.R_lt (by (with_reducible repeat (first|apply Kd.yg_|apply Kd.yh_|apply Kd.R_drew));exact HO381.out)) k_ hk));(case aO=>exact (by (with_reducible repeat (first|apply Kd.yg_|apply Kd.yh_|apply Kd.R_drew));exact Kd.R_mono HO377.out (fun _ hk=>hk.2)));(case aS=>exact (yn_ (by repeat (with_reducible first|exact HB.out|apply yc_|apply ya_|apply yb_))));(case aL=>have:=LMc11.out;omega);intro v383 w17 ho hb hg hat;rw [← Ny382.out] at ho;have n0_:=Aside0.mk (Kd.ybb_ (by (with_reducible repeat (first|apply Kd.yg_|apply Kd.yh_|apply Kd.R_drew));exact HO373.out) (Kd.yO_ (by (with_reducible repeat (first|apply Kd.yg_|apply Kd.yh_|apply Kd.R_drew));exact HO377.out)) (by decide) hg);have n1_:=Aside0.mk (Kd.R_after (ok:=(fun _=>True)) (by (with_reducible repeat (first|apply Kd.yg_|apply Kd.yh_|apply Kd.R_drew));exact HO381.out) hg hat);have n2_:=Aside0.mk (hb);have n3_:=Aside0.mk (ho);clear HO373;clear HO381;clear HB;clear HO377;have HO373:=n0_;have HO381:=n1_;have HB:=n2_;have HO384:=n3_;clear n0_ n1_ n2_ n3_;clear ho hb hg hat;obtain ⟨Ao19,co19,eo19⟩:=Kd.yC_ HO384.out;subst eo19)|((with_reducible refine yt_ (f:=30) rfl ?_);refine goesL_ (some 43) rfl rfl Try.func30 (by kernel_rfl) rfl #[.string a0,.slice Ao19 y382.length co19] rfl (by (try simp only [List.map_toArray,List.map_cons,List.map_nil]);first|done|rfl|(simp only [List.length_drop,List.length_take];rfl)) ?_;(with_reducible refine (yX_.calls k a0 _ _ y382 t385 t386 _ ?side1 ?side2 A12.out).mono ?_);(case side1=>repeat (first|exact (Kd.ys_ HO384.out).2.2|(with_reducible refine Kd.yK_ ?_ _)|(with_reducible refine Kd.y1_ ?_ _)|(with_reducible refine Kd.C_drew ?_)));(case side2=>exact (Kd.ys_ HO384.out).2.1);rintro e w20 ⟨rfl,hb⟩;refine ⟨_,rfl,?_⟩;have n0_:=Aside0.mk (Kd.yV_ (by (with_reducible repeat (first|apply Kd.yg_|apply Kd.yh_|apply Kd.R_drew));exact HO373.out) hb);have n1_:=Aside0.mk (Kd.yV_ (by (with_reducible repeat (first|apply Kd.yg_|apply Kd.yh_|apply Kd.R_drew));exact HO381.out) hb);have n2_:=Aside0.mk (Kd.yV_ (by (with_reducible repeat (first|apply Kd.yg_|apply Kd.yh_|apply Kd.R_drew));exact HO384.out) hb);have n3_:=Aside0.mk (yp_ (by repeat (with_reducible first|exact HB.out|apply yc_|apply ya_|apply yb_)) hb);clear HO373;clear HO381;clear HO384;clear HB;have HO373:=n0_;have HO381:=n1_;have HO384:=n2_;have HB:=n3_;clear n0_ n1_ n2_ n3_;(try clear hb);(try clear hb2);(try clear hk);(try clear hi)))
 go_ret2
 exact ⟨by first|rfl|(simp [yq_,yr_] <;> rfl)|(simp [*,yq_,yr_] <;> rfl),by repeat (with_reducible first|exact HB.out|apply yc_|apply ya_|apply yb_)⟩

end Go.Proofs.Ythimblhfjfngiaa.PText

