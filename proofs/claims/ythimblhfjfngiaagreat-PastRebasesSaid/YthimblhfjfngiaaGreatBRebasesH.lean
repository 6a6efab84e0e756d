/- PastRebases holds: for all steps, every number and all results the statement answers true. Part 8 of 24. -/
import Derived.Test.YthimblhfjfngiaaGreatBRebasesG
namespace Go.Proofs.YthimblhfjfngiaaGreat.PText
open Go.RowKit Go.Proofs.YthimblhfjfngiaaGreatW.PrintWords Go.Proofs.YthimblhfjfngiaaGreatW.PrintLast Go.Proofs.YthimblhfjfngiaaGreatW.PrintMore
attribute [local go_sem] yT_ yU_ y5_ y6_ yI_ yJ_ yV_ yW_   -- for this text's walks alone
set_option linter.unusedVariables false
set_option linter.unusedSimpArgs false

mutual
def ye_.j0:Nat→List ByteArray→List ByteArray→Bool→Option ((List (S91)) × Int)
 | 0,_,_,_=>none
 | k+1,x6,x7,x34=>if x34=true then (some (([]:List (S91)),2)) else ((yd_.f k x6 x7).bind fun t274=>(ye_.l0 k t274 ([]:List (S91)) 0 0))
def ye_.l0:Nat→List (S95)→List (S91)→Int→Int→Option ((List (S91)) × Int)
 | 0,_,_,_,_=>none
 | k+1,x8,x9,x10,x11=>if x11 < (x8.length:Int) then (if 0≤x11 then (if ((rd_T95 x8 x11).f0)=32 then (ye_.l0 k x8 x9 (wrap64 (x10+(((rd_T95 x8 x11).f1).size:Int))) (wrap64 (x11+1))) else (ye_.l1 k x8 x9 x11 x10 x10 (⟨#[]⟩:ByteArray))) else (none)) else (some (x9,0))
def ye_.l1:Nat→List (S95)→List (S91)→Int→Int→Int→ByteArray→Option ((List (S91)) × Int)
 | 0,_,_,_,_,_,_=>none
 | k+1,x8,x9,x11,x280000,x280001,x280002=>if x11 < (x8.length:Int) then (if 0≤x11 then (ye_.j3 k x8 x9 x11 (((rd_T95 x8 x11).f0) != 32) x280000 x280001 x280002) else (none)) else (ye_.j3 k x8 x9 x11 false x280000 x280001 x280002)
def ye_.j3:Nat→List (S95)→List (S91)→Int→Bool→Int→Int→ByteArray→Option ((List (S91)) × Int)
 | 0,_,_,_,_,_,_,_=>none
 | k+1,x8,x9,x11,x72,x280000,x280001,x280002=>if x72=true then (if 0≤x11 then (if x11 < (x8.length:Int) then (if ((rd_T95 x8 x11).f0)=45 then (ye_.l1 k x8 x9 (wrap64 (x11+1)) x280000 (wrap64 (x280001+(((rd_T95 x8 x11).f1).size:Int))) x280002) else (if x280002.size+((rd_T95 x8 x11).f1).size≤9223372036854775807 then (ye_.l1 k x8 x9 (wrap64 (x11+1)) x280000 x280001 (x280002++((rd_T95 x8 x11).f1))) else (none))) else (none)) else (none)) else (if x9.length < 4398046511104 then (ye_.l0 k x8 (x9++[(⟨x280000,x280001,x280002⟩:S91)]) x280001 x11) else (none))
end
def ye_.f (k:Nat) (a0:ByteArray) (a1:ByteArray):Option ((List (S91)) × Int):=(yC_.f k a0).bind fun t268=>((yC_.f k a1).bind fun t271=>(if (a0.size:Int) > 200000 then (ye_.j0 k t268 t271 true) else (if (a1.size:Int) > 200000 then (ye_.j0 k t268 t271 true) else (if (t268.length:Int) > 2000 then (ye_.j0 k t268 t271 true) else (ye_.j0 k t268 t271 (decide ((t271.length:Int) > 2000)))))))
def ye_.T15:Bool × List (List Nat × List Nat):=(true,[([],[]),([0],[0]),([],[]),([],[]),([2,3],[2,3]),([4],[4]),([5],[5]),([6],[6]),([1,7],[1,7]),([0,1,2,3,4,5,6,7,8],[]),([9,8,0,1,2,3,4,5,6,7,8],[8,9])])
def ye_.B15:List Nat:=[0,1,0,0,12,28,60,124,255,511,1023]
theorem ye_.tab15:rtab .any (opsOf Tryz.f32 15)=ye_.T15:=by kernel_rfl
theorem ye_.bits15:waitsOk ye_.T15.2 ye_.B15=true:=by kernel_rfl
def ye_.T16:Bool × List (List Nat × List Nat):=(true,[([],[]),([0],[0]),([],[]),([],[]),([2,3],[2,3]),([4],[4]),([5],[5]),([1,6],[1,6]),([0,1,2,3,4,5,6,7],[]),([8,7,0,1,2,3,4,5,6,7],[7,8])])
def ye_.B16:List Nat:=[0,1,0,0,12,28,60,127,255,511]
theorem ye_.tab16:rtab .any (opsOf Tryz.f32 16)=ye_.T16:=by kernel_rfl
theorem ye_.bits16:waitsOk ye_.T16.2 ye_.B16=true:=by kernel_rfl
set_option maxHeartbeats 8000000 in
set_option maxRecDepth 100000 in
theorem ye_.calls (k:Nat) (a0:ByteArray) (a1:ByteArray) (r1:List (S91)) (r2:Int) (w:World) (h:ye_.f k a0 a1=some (r1,r2)) :
  Calls Tryz.prog 32 #[.string a0,.string a1] w fun e w'=>∃ v0_:Value,e=.returned (.tuple #[v0_,.int .i64 r2])∧Kd.R k91 91 w' w.heap.size (fun _=>True) v0_ r1∧Below w.heap.size w w':=by
 have hu91:=Tryz.underlying91
 have HB:=Aside0.mk (Below.refl w.heap.size w)
 have H:((yC_.f k a0).bind fun t268=>((yC_.f k a1).bind fun t271=>(if (a0.size:Int) > 200000 then (ye_.j0 k t268 t271 true) else (if (a1.size:Int) > 200000 then (ye_.j0 k t268 t271 true) else (if (t268.length:Int) > 2000 then (ye_.j0 k t268 t271 true) else (ye_.j0 k t268 t271 (decide ((t271.length:Int) > 2000))))))))=some (r1,r2):=h
 clear h
 replace H:=Option.bind_eq_some_iff.mp H
 obtain⟨t268,A30,H⟩:=H
 replace H:((yC_.f k a1).bind fun t271=>(if (a0.size:Int) > 200000 then (ye_.j0 k t268 t271 true) else (if (a1.size:Int) > 200000 then (ye_.j0 k t268 t271 true) else (if (t268.length:Int) > 2000 then (ye_.j0 k t268 t271 true) else (ye_.j0 k t268 t271 (decide ((t271.length:Int) > 2000)))))))=some (r1,r2):=H
 have A3:=Aside0.mk A30
 clear A30
 replace H:=Option.bind_eq_some_iff.mp H
 obtain⟨t271,A40,H⟩:=H
 replace H:(if (a0.size:Int) > 200000 then (ye_.j0 k t268 t271 true) else (if (a1.size:Int) > 200000 then (ye_.j0 k t268 t271 true) else (if (t268.length:Int) > 2000 then (ye_.j0 k t268 t271 true) else (ye_.j0 k t268 t271 (decide ((t271.length:Int) > 2000))))))=some (r1,r2):=H
 have A4:=Aside0.mk A40
 clear A40
 have HC5:=Aside0.mk H
 clear H
 go_enter Tryz.func32,Tryz.ntmps32
 go_upto_region 2 with (first|((with_reducible refine yA_ (f:=52) rfl ?_);refine goesL_ (some 14) rfl rfl Tryz.func52 ze_ rfl #[.string a0] rfl zb_ ?_;(with_reducible refine (yC_.calls k a0 t268 _ A3.out).mono ?_);rintro e w6 ⟨v269,rfl,ho0,hb⟩;refine⟨_,rfl,?_⟩;have n0_:=Aside0.mk (Kd.y0_ ho0 (yp_ za_));have n1_:=Aside0.mk (yn_ za_ hb);clear HB;have HO270:=n0_;have HB:=n1_;clear n0_ n1_;(try clear hb);(try clear hb2);(try clear hk);(try clear hi);(try clear ho0))|((with_reducible refine yA_ (f:=52) rfl ?_);refine goesL_ (some 16) rfl rfl Tryz.func52 ze_ rfl #[.string a1] rfl zb_ ?_;(with_reducible refine (yC_.calls k a1 t271 _ A4.out).mono ?_);rintro e w7 ⟨v272,rfl,ho0,hb⟩;refine⟨_,rfl,?_⟩;have n0_:=Aside0.mk (Kd.yVb_ (by (with_reducible repeat (first|apply Kd.yj_|apply Kd.yk_|apply Kd.R_drew));exact HO270.out) (Kd.R_base ho0) hb);have n1_:=Aside0.mk (Kd.y0_ (Kd.R_new' ho0 (Kd.R_lt (by (with_reducible repeat (first|apply Kd.yj_|apply Kd.yk_|apply Kd.R_drew));exact HO270.out))) (yp_ za_));have n2_:=Aside0.mk (yn_ za_ hb);clear HO270;clear HB;have HO270:=n0_;have HO273:=n1_;have HB:=n2_;clear n0_ n1_ n2_;(try clear hb);(try clear hb2);(try clear hk);(try clear hi);(try clear ho0)))
 (try simp only[Act.put,q1_,q2_,q3_])
 go_cut [34] (fun v34 wc=>∃ (kq:Nat) (x34_4:Bool),v34=.bool x34_4∧Aside0 (ye_.j0 kq t268 t271 x34_4=some (r1,r2))∧Aside0 (kq≤k)∧Aside0 (Kd.R Kd.string 9 wc w.heap.size (fun k_=>some k_≠(v272:Value).ownBlock) v269 t268)∧Aside0 (Kd.R Kd.string 9 wc w.heap.size (fun k_=>some k_≠(v269:Value).ownBlock) v272 t271)∧Aside0 (Below w.heap.size w wc))
 case first =>
  have H:=HC5.out
  clear HC5
  by_cases c8:(a0.size:Int) > 200000
  ·rw[if_pos c8] at H
   have c8b0:decide (200000 < (a0.size:Int))=true:=decide_eq_true c8
   have c8b1:decide (200000 < a0.size)=true:=decide_eq_true (by omega)
   clear c8
   (first|rw[c8b0]|(simp only[i64_w,i32_w];rw[c8b0])|skip)
   have H':=Aside0.mk H
   clear H
   go_wp2
   go_meet
   case rel=>exact⟨_,(true),zc_,H',⟨by first|omega|exact Nat.le_refl _⟩,⟨by (with_reducible repeat (first|apply Kd.yj_|apply Kd.yk_|apply Kd.R_drew));exact Kd.R_mono HO270.out (fun _ hk=>hk.2)⟩,⟨by (with_reducible repeat (first|apply Kd.yj_|apply Kd.yk_|apply Kd.R_drew));exact Kd.R_mono HO273.out (fun _ hk=>hk.2)⟩,⟨by repeat (with_reducible first|exact HB.out|apply yc_|apply ya_|apply yb_)⟩⟩
  rw[if_neg c8] at H
  have c8b0:decide (200000 < (a0.size:Int))=false:=decide_eq_false c8
  have c8b1:decide (200000 < a0.size)=false:=decide_eq_false (by omega)
  clear c8
  (first|rw[c8b0]|(simp only[i64_w,i32_w];rw[c8b0])|skip)
  by_cases c9:(a1.size:Int) > 200000
  ·rw[if_pos c9] at H
   have c9b0:decide (200000 < (a1.size:Int))=true:=decide_eq_true c9
   have c9b1:decide (200000 < a1.size)=true:=decide_eq_true (by omega)
   clear c9
   have H':=Aside0.mk H
   clear H
   go_wp2
   go_meet
   case rel=>exact⟨_,(true),zc_,H',⟨by first|omega|exact Nat.le_refl _⟩,⟨by (with_reducible repeat (first|apply Kd.yj_|apply Kd.yk_|apply Kd.R_drew));exact Kd.R_mono HO270.out (fun _ hk=>hk.2)⟩,⟨by (with_reducible repeat (first|apply Kd.yj_|apply Kd.yk_|apply Kd.R_drew));exact Kd.R_mono HO273.out (fun _ hk=>hk.2)⟩,⟨by repeat (with_reducible first|exact HB.out|apply yc_|apply ya_|apply yb_)⟩⟩
  rw[if_neg c9] at H
  have c9b0:decide (200000 < (a1.size:Int))=false:=decide_eq_false c9
  have c9b1:decide (200000 < a1.size)=false:=decide_eq_false (by omega)
  clear c9
  by_cases c10:(t268.length:Int) > 2000
  ·rw[if_pos c10] at H
   have c10b0:decide (2000 < (t268.length:Int))=true:=decide_eq_true c10
   have c10b1:decide (2000 < t268.length)=true:=decide_eq_true (by omega)
   clear c10
   have H':=Aside0.mk H
   clear H
   obtain⟨Ao11,co11,eo11⟩:=Kd.yE_ HO270.out
   subst eo11
   go_wp2
   go_meet
   case rel=>exact⟨_,(true),zc_,H',⟨by first|omega|exact Nat.le_refl _⟩,⟨by (with_reducible repeat (first|apply Kd.yj_|apply Kd.yk_|apply Kd.R_drew));exact Kd.R_mono HO270.out (fun _ hk=>hk.2)⟩,⟨by (with_reducible repeat (first|apply Kd.yj_|apply Kd.yk_|apply Kd.R_drew));exact Kd.R_mono HO273.out (fun _ hk=>hk.2)⟩,⟨by repeat (with_reducible first|exact HB.out|apply yc_|apply ya_|apply yb_)⟩⟩
  rw[if_neg c10] at H
  have c10b0:decide (2000 < (t268.length:Int))=false:=decide_eq_false c10
  have c10b1:decide (2000 < t268.length)=false:=decide_eq_false (by omega)
  clear c10
  have H':=Aside0.mk H
  clear H
  obtain⟨Ao12,co12,eo12⟩:=Kd.yE_ HO270.out
  subst eo12
  obtain⟨Ao13,co13,eo13⟩:=Kd.yE_ HO273.out
  subst eo13
  go_wp2
  go_meet
  case rel=>exact⟨_,(decide ((t271.length:Int) > 2000)),zc_,H',⟨by first|omega|exact Nat.le_refl _⟩,⟨by (with_reducible repeat (first|apply Kd.yj_|apply Kd.yk_|apply Kd.R_drew));exact Kd.R_mono HO270.out (fun _ hk=>hk.2)⟩,⟨by (with_reducible repeat (first|apply Kd.yj_|apply Kd.yk_|apply Kd.R_drew));exact Kd.R_mono HO273.out (fun _ hk=>hk.2)⟩,⟨by repeat (with_reducible first|exact HB.out|apply yc_|apply ya_|apply yb_)⟩⟩
 case rest =>
  clear HC5
  try clear c1
  try clear p2
  try clear c3
  try clear c5
  try clear c8
  try clear c8b0
  try clear c8b1
  try clear c9
  try clear c9b0
  try clear c9b1
  try clear c10
  try clear c10b0
  try clear c10b1
  obtain⟨kq,x34_4,rfl,HA,HJ4,HO_6,HO_7,HB⟩:=hcut
  cases kq with
  | zero=>exact absurd HA.out (by simp [ye_.j0])
  | succ kj4 =>
   have H:=HA.out
   clear HA
   simp only[ye_.j0] at H
   by_cases c14:x34_4=true
   ·subst c14
    have H1:(some (([]:List (S91)),2))=some (r1,r2):=by rw[if_pos rfl] at H;exact H
    clear H
    have H:=H1
    clear H1
    simp only[Option.some.injEq,Prod.mk.injEq] at H
    obtain⟨rfl,rfl⟩:=H
    go_wp2
    go_ret2
    exact⟨_,by first|rfl|(simp [yr_,ys_] <;> rfl)|(simp [*,yr_,ys_] <;> rfl),by first|exact Kd.R_nil _ _ _ _ _|exact Kd.N_nil _ _ _ _ _|exact Kd.V_nil _ _ _ _ _|exact Kd.Q_nil _ _ _ _ _|exact Kd.S_nil _ _ _ _ _,by repeat (with_reducible first|exact HB.out|apply yc_|apply ya_|apply yb_)⟩
   replace c14:=Bool.eq_false_iff.mpr c14
   subst c14
   have H1:((yd_.f kj4 t268 t271).bind fun t274=>(ye_.l0 kj4 t274 ([]:List (S91)) 0 0))=some (r1,r2):=by rw[if_neg (show ¬ (false=true) by decide)] at H;exact H
   clear H
   have H:=H1
   clear H1
   replace H:=Option.bind_eq_some_iff.mp H
   obtain⟨t274,A150,H⟩:=H
   replace H:(ye_.l0 kj4 t274 ([]:List (S91)) 0 0)=some (r1,r2):=H
   have A15:=Aside0.mk A150
   clear A150
   have H':=Aside0.mk H
   clear H
   obtain⟨Ao16,co16,eo16⟩:=Kd.yE_ HO_6.out
   subst eo16
   obtain⟨Ao17,co17,eo17⟩:=Kd.yE_ HO_7.out
   subst eo17
   go_wp2_with (first|((with_reducible refine yA_ (f:=53) rfl ?_);refine goesL_ (some 37) rfl rfl Tryz.func53 ze_ rfl #[.slice Ao16 t268.length co16,.slice Ao17 t271.length co17] rfl zb_ ?_;(with_reducible refine (yd_.calls kj4 _ _ t268 _ _ t271 t274 _ ?side1 ?side2 ?side3 ?side4 A15.out).mono ?_);(case side1=>repeat (first|exact (Kd.yt_ HO_6.out).2.2|(with_reducible refine Kd.yM_ ?_ _)|(with_reducible refine Kd.yY_ ?_ _)|(with_reducible refine Kd.C_drew ?_)));(case side2=>exact (Kd.yt_ HO_6.out).2.1);(case side3=>repeat (first|exact (Kd.yt_ HO_7.out).2.2|(with_reducible refine Kd.yM_ ?_ _)|(with_reducible refine Kd.yY_ ?_ _)|(with_reducible refine Kd.C_drew ?_)));(case side4=>exact (Kd.yt_ HO_7.out).2.1);rintro e w18 ⟨v275,rfl,ho0,hb⟩;refine⟨_,rfl,?_⟩;have n0_:=Aside0.mk (Kd.yH_ (by (with_reducible repeat (first|apply Kd.yj_|apply Kd.yk_|apply Kd.R_drew));exact HO_6.out) hb);have n1_:=Aside0.mk (Kd.yH_ (by (with_reducible repeat (first|apply Kd.yj_|apply Kd.yk_|apply Kd.R_drew));exact HO_7.out) hb);have n2_:=Aside0.mk (Kd.y0_ ho0 (yp_ za_));have n3_:=Aside0.mk (yn_ za_ hb);clear HO_6;clear HO_7;clear HB;have HO_6:=n0_;have HO_7:=n1_;have HO276:=n2_;have HB:=n3_;clear n0_ n1_ n2_ n3_;(try clear hb);(try clear hb2);(try clear hk);(try clear hi);(try clear ho0)))
   try simp only[Act.put,List.setIfInBounds_toArray,List.set_cons_succ,List.set_cons_zero]
   go_loopg [9,10,11] kj4 (fun kq v9 v10 v11 w'=>∃ (x9_2:List (S91)) (x10_2:Int) (x11_2:Int),v10=.int .i64 x10_2∧v11=.int .i64 x11_2∧Aside0 (ye_.l0 kq t274 x9_2 x10_2 x11_2=some (r1,r2))∧Aside0 (kq≤kj4)∧Aside0 (Kd.R k95 95 w' w.heap.size (fun _=>True) v275 t274)∧Aside0 (Kd.R k91 91 w' w.heap.size (fun _=>True) v9 x9_2)∧Aside0 (Below w.heap.size w w'))
   case atStart=>exact⟨(([]:List (S91))),(0),(0),zc_,zc_,H',⟨Nat.le_refl _⟩,⟨by (with_reducible repeat (first|apply Kd.yj_|apply Kd.yk_|apply Kd.R_drew));exact HO276.out⟩,⟨by first|exact Kd.R_nil _ _ _ _ _|exact Kd.N_nil _ _ _ _ _|exact Kd.V_nil _ _ _ _ _|exact Kd.Q_nil _ _ _ _ _|exact Kd.S_nil _ _ _ _ _⟩,⟨by repeat (with_reducible first|exact HB.out|apply yc_|apply ya_|apply yb_)⟩⟩
   case round =>
    clear H'
    try clear c1
    try clear p2
    try clear c3
    try clear c5
    try clear c8
    try clear c8b0
    try clear c8b1
    try clear c9
    try clear c9b0
    try clear c9b1
    try clear c10
    try clear c10b0
    try clear c10b1
    try clear c14
    try clear p2
    obtain⟨x9_2,x10_2,x11_2,rfl,rfl,HA,HK2,HO_8,HO_9,HB⟩:=hrel
    cases gk with
    | zero=>exact absurd HA.out (by simp [ye_.l0])
    | succ k2 =>
     have H:=HA.out
     clear HA
     simp only[ye_.l0] at H
     by_cases c19:x11_2 < (t274.length:Int)
     rotate_left
     ·rw[if_neg c19] at H
      have c19b0:decide (x11_2 < (t274.length:Int))=false:=decide_eq_false c19
      clear c19
      simp only[Option.some.injEq,Prod.mk.injEq] at H
      obtain⟨rfl,rfl⟩:=H
      obtain⟨Ao41,co41,eo41⟩:=Kd.yE_ HO_8.out
      subst eo41
      go_wp2
      go_ret2
      exact⟨_,by first|rfl|(simp [yr_,ys_] <;> rfl)|(simp [*,yr_,ys_] <;> rfl),by (with_reducible repeat (first|apply Kd.yj_|apply Kd.yk_|apply Kd.R_drew));exact HO_9.out,by repeat (with_reducible first|exact HB.out|apply yc_|apply ya_|apply yb_)⟩
     rw[if_pos c19] at H
     have c19b0:decide (x11_2 < (t274.length:Int))=true:=decide_eq_true c19
     clear c19
     by_cases c20:0≤x11_2
     rotate_left
     ·rw[if_neg c20] at H
      exact absurd H (by simp)
     rw[if_pos c20] at H
     have c20b0:decide (0≤x11_2)=true:=decide_eq_true c20
     clear c20
     by_cases c21:((rd_T95 t274 x11_2).f0)=32
     ·rw[if_pos c21] at H
      have c21b0:(((rd_T95 t274 x11_2).f0) == 32)=true:=beq_iff_eq.mpr c21
      have c21b1:(((rd_T95 t274 x11_2).f0) != 32)=false:=bne_eq_false_iff_eq.mpr c21
      clear c21
      have H':=Aside0.mk H
      clear H
      obtain⟨Ao22,co22,eo22⟩:=Kd.yE_ HO_8.out
      subst eo22
      have p277:0≤(x11_2:Int):=of_decide_eq_true zd_
      have q277:x11_2 < (t274.length:Int):=of_decide_eq_true zd_
      obtain⟨ad277,e277,hx277_0,hx277_1⟩:=at_T95 (Kd.yt_ HO_8.out).2.2 x11_2 p277 q277
      cases e277
      replace p277:=eq_true p277
      replace q277:=eq_true q277
      have p278:0≤(x11_2:Int):=of_decide_eq_true zd_
      have q278:x11_2 < (t274.length:Int):=of_decide_eq_true zd_
      obtain⟨ad278,e278,hx278_0,hx278_1⟩:=at_T95 (Kd.yt_ HO_8.out).2.2 x11_2 p278 q278
      obtain rfl:ad277=ad278:=(by injection e278)
      replace p278:=eq_true p278
      replace q278:=eq_true q278
      go_wp2
      go_roundg k2
      case measure=>have:=HJ4.out;have:=HK2.out;omega
      case rel=>exact⟨(x9_2),(wrap64 (x10_2+(((rd_T95 t274 x11_2).f1).size:Int))),(wrap64 (x11_2+1)),zc_,zc_,H',⟨by have:=HJ4.out;have:=HK2.out;omega⟩,⟨by (with_reducible repeat (first|apply Kd.yj_|apply Kd.yk_|apply Kd.R_drew));exact HO_8.out⟩,⟨by (with_reducible repeat (first|apply Kd.yj_|apply Kd.yk_|apply Kd.R_drew));exact HO_9.out⟩,⟨by repeat (with_reducible first|exact HB.out|apply yc_|apply ya_|apply yb_)⟩⟩
     rw[if_neg c21] at H
     have c21b0:(((rd_T95 t274 x11_2).f0) == 32)=false:=beq_eq_false_iff_ne.mpr c21
     have c21b1:(((rd_T95 t274 x11_2).f0) != 32)=true:=bne_iff_ne.mpr c21
     have H':=Aside0.mk H
     clear H
     obtain⟨Ao23,co23,eo23⟩:=Kd.yE_ HO_8.out
     subst eo23
     have p277:0≤(x11_2:Int):=of_decide_eq_true zd_
     have q277:x11_2 < (t274.length:Int):=of_decide_eq_true zd_
     obtain⟨ad277,e277,hx277_0,hx277_1⟩:=at_T95 (Kd.yt_ HO_8.out).2.2 x11_2 p277 q277
     cases e277
     replace p277:=eq_true p277
     replace q277:=eq_true q277
     go_wp2_with (first|((with_reducible refine yO_ (N:=12) rfl ?_);(try (refine yHb_ (by rfl) ?_;dsimp only));refine yS_ ?hg (N:=12) ?hd (cs:=#[.int .i64 0,.int .i64 0,.string (⟨#[]⟩:ByteArray)]) (t:=91) ?hr ?_;(case hd=>rfl);(case hg=>rfl);(case hr=>first|(go_simp;done)|(go_simp;rfl));intro gb279 hg w24 hbox hb;have n0_:=Aside0.mk (Kd.yH_ (by (with_reducible repeat (first|apply Kd.yj_|apply Kd.yk_|apply Kd.R_drew));exact HO_8.out) hb);have n1_:=Aside0.mk (Kd.yH_ (Kd.yWb_ zk_ gb279 (Nat.le_of_eq hg.symm)) hb);have n2_:=Aside0.mk (yn_ za_ hb);have n3_:=Aside0.mk (hbox);have n4_:=Aside0.mk ((by rw[hg];exact (yp_ za_):w.heap.size≤gb279));have n5_:=Aside0.mk ((by rw[hg];exact (yp_ za_):w.heap.size≤gb279));clear HO_8;clear HO_9;clear HB;have HO_8:=n0_;have HO_9:=n1_;have HB:=n2_;have BK279:=n3_;have GW279:=n4_;have GE279:=n5_;clear n0_ n1_ n2_ n3_ n4_ n5_;clear hb hbox hg;have hcz25_0:w24.cell? ⟨gb279,0,none⟩=some (.int .i64 0):=(yl_ BK279.out 0).trans rfl;have hcz25_1:w24.cell? ⟨gb279,1,none⟩=some (.int .i64 0):=(yl_ BK279.out 1).trans rfl;have hcz25_2:w24.cell? ⟨gb279,2,none⟩=some (.string (⟨#[]⟩:ByteArray)):=(yl_ BK279.out 2).trans rfl;have hfz25_0:=yi_ BK279.out 0;have hfz25_1:=yi_ BK279.out 1;have hfz25_2:=yi_ BK279.out 2))
     try simp only[Act.put,List.setIfInBounds_toArray,List.set_cons_succ,List.set_cons_zero]
     go_loopg [11] k2 (fun kq v11 w'=>∃ (x11_3:Int) (x280001_3:Int) (x280002_3:ByteArray),v11=.int .i64 x11_3∧Aside0 (ye_.l1 kq t274 x9_2 x11_3 x10_2 x280001_3 x280002_3=some (r1,r2))∧Aside0 (kq≤k2)∧Aside0 (Kd.R k95 95 w' w.heap.size (fun _=>True) (.slice (some ad277) t274.length co23) t274)∧Aside0 (Kd.R k91 91 w' w.heap.size (fun k_=>k_≠gb279) u9 x9_2)∧Aside0 (w'.heap[gb279]?=some (.cells #[.int .i64 x10_2,.int .i64 x280001_3,.string x280002_3] 91 (0,0)))∧Aside0 (Below w.heap.size w w'))
     case atStart=>exact⟨(x11_2),(x10_2),((⟨#[]⟩:ByteArray)),zc_,H',⟨Nat.le_refl _⟩,⟨by (with_reducible repeat (first|apply Kd.yj_|apply Kd.yk_|apply Kd.R_drew));exact Kd.R_mono (Kd.R_far (p:=⟨gb279,2,none⟩) (Kd.R_far (p:=⟨gb279,1,none⟩) (Kd.R_far (p:=⟨gb279,0,none⟩) (Kd.yJb_ HO_8.out BK279.out (by decide)) (fun _ hk=>hk.2) (.int .i64 x10_2)) (fun _ hk=>hk.2) (.int .i64 x10_2)) (fun _ hk=>hk.2) (.string (⟨#[]⟩:ByteArray))) (fun _ hk=>trivial)⟩,⟨by (with_reducible repeat (first|apply Kd.yj_|apply Kd.yk_|apply Kd.R_drew));exact Kd.R_mono (Kd.R_far (p:=⟨gb279,2,none⟩) (Kd.R_far (p:=⟨gb279,1,none⟩) (Kd.R_far (p:=⟨gb279,0,none⟩) (Kd.R_mono HO_9.out (fun k_ hk=>(⟨hk,hk.2⟩:_∧k_≠gb279))) (fun _ hk=>hk.2) (.int .i64 x10_2)) (fun _ hk=>hk.2) (.int .i64 x10_2)) (fun _ hk=>hk.2) (.string (⟨#[]⟩:ByteArray))) (fun _ hk=>hk.1.2)⟩,⟨by (with_reducible repeat (first|refine yw_ ?_ _|refine yz_ ?_|refine yv_ ?_ _));refine yeb_ (cs:=#[.int .i64 x10_2,.int .i64 x10_2,.string (⟨#[]⟩:ByteArray)]) ?_ 2 _ rfl;(with_reducible repeat (first|refine yw_ ?_ _|refine yz_ ?_|refine yv_ ?_ _));refine yeb_ (cs:=#[.int .i64 x10_2,.int .i64 0,.string (⟨#[]⟩:ByteArray)]) ?_ 1 _ rfl;(with_reducible repeat (first|refine yw_ ?_ _|refine yz_ ?_|refine yv_ ?_ _));refine yeb_ (cs:=#[.int .i64 0,.int .i64 0,.string (⟨#[]⟩:ByteArray)]) ?_ 0 _ rfl;(with_reducible repeat (first|refine yw_ ?_ _|refine yz_ ?_|refine yv_ ?_ _));exact BK279.out⟩,⟨by repeat (with_reducible first|exact HB.out|apply yc_|apply ya_|apply yb_|refine yq_ ?_ GE279.out)⟩⟩
     case round =>
      clear H'
      try clear c1
      try clear c2
      try clear p2
      try clear q2
      try clear hx2
      try clear c3
      try clear c5
      try clear p6
      try clear c8
      try clear c8b0
      try clear c8b1
      try clear c9
      try clear c9b0
      try clear c9b1
      try clear c10
      try clear c10b0
      try clear c10b1
      try clear c14
      try clear c19
      try clear c19b0
      try clear c20
      try clear c20b0
      try clear c21
      try clear c21b0
      try clear c21b1
      try clear hcz25_0
      try clear hcz25_1
      try clear hcz25_2
      try clear hfz25_0
      try clear hfz25_1
      try clear hfz25_2
      try clear hx277_0
      try clear hx277_1
      try clear hx278_0
      try clear hx278_1
      try clear p2
      try clear p277
      try clear p278
      try clear q277
      try clear q278
      obtain⟨x11_3,x280001_3,x280002_3,rfl,HA,HK3,HO_8,HO_9,BK279,HB⟩:=hrel
      cases gk with
      | zero=>exact absurd HA.out (by simp [ye_.l1])
      | succ k3 =>
       have H:=HA.out
       clear HA
       simp only[ye_.l1] at H
       have HC26:=Aside0.mk H
       clear H
       go_upto_region 13 with (fail)
       go_cut [72] (fun v72 wc=>∃ (kq:Nat) (x72_25:Bool),v72=.bool x72_25∧Aside0 (ye_.j3 kq t274 x9_2 x11_3 x72_25 x10_2 x280001_3 x280002_3=some (r1,r2))∧Aside0 (kq≤k3)∧Aside0 (Kd.R k95 95 wc w.heap.size (fun _=>True) (.slice (some ad277) t274.length co23) t274)∧Aside0 (Kd.R k91 91 wc w.heap.size (fun k_=>k_≠gb279) u9 x9_2)∧Aside0 (wc.heap[gb279]?=some (.cells #[.int .i64 x10_2,.int .i64 x280001_3,.string x280002_3] 91 (0,0)))∧Aside0 (Below w.heap.size w wc))
       case first =>
        have H:=HC26.out
        clear HC26
        by_cases c27:x11_3 < (t274.length:Int)
        rotate_left
        ·rw[if_neg c27] at H
         have c27b0:decide (x11_3 < (t274.length:Int))=false:=decide_eq_false c27
         clear c27
         (first|rw[c27b0]|(simp only[i64_w,i32_w];rw[c27b0])|skip)
         have H':=Aside0.mk H
         clear H
         go_wp2
         go_meet
         case rel=>exact⟨_,(false),zc_,H',⟨by have:=HJ4.out;have:=HK2.out;have:=HK3.out;first|omega|exact Nat.le_refl _⟩,⟨by (with_reducible repeat (first|apply Kd.yj_|apply Kd.yk_|apply Kd.R_drew));exact HO_8.out⟩,⟨by (with_reducible repeat (first|apply Kd.yj_|apply Kd.yk_|apply Kd.R_drew));exact HO_9.out⟩,⟨by (with_reducible repeat (first|refine yw_ ?_ _|refine yz_ ?_|refine yv_ ?_ _));exact BK279.out⟩,⟨by repeat (with_reducible first|exact HB.out|apply yc_|apply ya_|apply yb_|refine yq_ ?_ GE279.out)⟩⟩
        rw[if_pos c27] at H
        have c27b0:decide (x11_3 < (t274.length:Int))=true:=decide_eq_true c27
        clear c27
        (first|rw[c27b0]|(simp only[i64_w,i32_w];rw[c27b0])|skip)
        by_cases c28:0≤x11_3
        rotate_left
        ·rw[if_neg c28] at H
         exact absurd H (by simp)
        rw[if_pos c28] at H
        have c28b0:decide (0≤x11_3)=true:=decide_eq_true c28
        clear c28
        have H':=Aside0.mk H
        clear H
        have p280:0≤(x11_3:Int):=of_decide_eq_true zd_
        have q280:x11_3 < (t274.length:Int):=of_decide_eq_true zd_
        obtain⟨ad280,e280,hx280_0,hx280_1⟩:=at_T95 (Kd.yt_ HO_8.out).2.2 x11_3 p280 q280
        obtain rfl:ad277=ad280:=(by injection e280)
        replace p280:=eq_true p280
        replace q280:=eq_true q280
        go_wp2
        go_meet
        case rel=>exact⟨_,((((rd_T95 t274 x11_3).f0) != 32)),zc_,H',⟨by have:=HJ4.out;have:=HK2.out;have:=HK3.out;first|omega|exact Nat.le_refl _⟩,⟨by (with_reducible repeat (first|apply Kd.yj_|apply Kd.yk_|apply Kd.R_drew));exact HO_8.out⟩,⟨by (with_reducible repeat (first|apply Kd.yj_|apply Kd.yk_|apply Kd.R_drew));exact HO_9.out⟩,⟨by (with_reducible repeat (first|refine yw_ ?_ _|refine yz_ ?_|refine yv_ ?_ _));exact BK279.out⟩,⟨by repeat (with_reducible first|exact HB.out|apply yc_|apply ya_|apply yb_|refine yq_ ?_ GE279.out)⟩⟩
       case rest =>
        clear HC26
        try clear c1
        try clear c2
        try clear p2
        try clear q2
        try clear hx2
        try clear c3
        try clear c5
        try clear p6
        try clear c8
        try clear c8b0
        try clear c8b1
        try clear c9
        try clear c9b0
        try clear c9b1
        try clear c10
        try clear c10b0
        try clear c10b1
        try clear c14
        try clear c19
        try clear c19b0
        try clear c20
        try clear c20b0
        try clear c21
        try clear c21b0
        try clear c21b1
        try clear c27
        try clear c27b0
        try clear p27
        try clear q27
        try clear hx27
        try clear c28
        try clear c28b0
        try clear p28
        try clear q28
        try clear hx28
        try clear hcz25_0
        try clear hcz25_1
        try clear hcz25_2
        try clear hfz25_0
        try clear hfz25_1
        try clear hfz25_2
        try clear hx277_0
        try clear hx277_1
        try clear hx278_0
        try clear hx278_1
        try clear hx280_0
        try clear hx280_1
        try clear p2
        try clear p277
        try clear p278
        try clear p280
        try clear p6
        try clear q2
        try clear q277
        try clear q278
        try clear q280
        obtain⟨kq,x72_25,rfl,HA,HJ25,HO_8,HO_9,BK279,HB⟩:=hcut
        cases kq with
        | zero=>exact absurd HA.out (by simp [ye_.j3])
        | succ kj25 =>
         have H:=HA.out
         clear HA
         simp only[ye_.j3] at H
         by_cases c29:x72_25=true
         rotate_left
         ·replace c29:=Bool.eq_false_iff.mpr c29
          subst c29
          have H1:(if x9_2.length < 4398046511104 then (ye_.l0 kj25 t274 (x9_2++[(⟨x10_2,x280001_3,x280002_3⟩:S91)]) x280001_3 x11_3) else (none))=some (r1,r2):=by rw[if_neg (show ¬ (false=true) by decide)] at H;exact H
          clear H
          have H:=H1
          clear H1
          by_cases c38:x9_2.length < 4398046511104
          rotate_left
          ·rw[if_neg c38] at H
           exact absurd H (by simp)
          rw[if_pos c38] at H
          have LMc38:=Aside0.mk c38
          clear c38
          obtain⟨y284,hy284⟩:∃ y_:List (S91),y_=(x9_2++[(⟨x10_2,x280001_3,x280002_3⟩:S91)]):=⟨_,rfl⟩
          replace H:(ye_.l0 kj25 t274 y284 x280001_3 x11_3)=some (r1,r2):=by first|(rw[hy284];with_reducible exact H)|(have H2_:=(Option.bind_some _ _).symm.trans H;rw[hy284];with_reducible exact H2_)|(have H2_:=(Option.bind_some _ _).symm.trans H;with_reducible exact H2_)|with_reducible exact H|(rw[hy284];exact H)|exact H
          have Ny284:=Aside0.mk hy284
          clear hy284
          have H':=Aside0.mk H
          clear H
          have hcz39_0:wc.cell? ⟨gb279,0,none⟩=some (.int .i64 x10_2):=(yl_ BK279.out 0).trans rfl
          have hcz39_1:wc.cell? ⟨gb279,1,none⟩=some (.int .i64 x280001_3):=(yl_ BK279.out 1).trans rfl
          have hcz39_2:wc.cell? ⟨gb279,2,none⟩=some (.string x280002_3):=(yl_ BK279.out 2).trans rfl
          have hfz39_0:=yi_ BK279.out 0
          have hfz39_1:=yi_ BK279.out 1
          have hfz39_2:=yi_ BK279.out 2
          go_wp2_with (first|((with_reducible refine yL_ (b:=.append) (xs:=#[.tmp 102,.tmp 104]) rfl ?_);(try (refine yHb_ (by rfl) ?_;dsimp only));at_builtin;refine Kd.ydb_ k91 (w0:=w) w.heap.size rfl (.tmp 102) (.tmp 104) 68 91 (.agg #[(.int .i64 0),(.int .i64 0),(.string ⟨#[]⟩)]) 32 rfl Tryz.underlying68 info91 rfl (by decide) (by omega) u9 x9_2 (⟨x10_2,x280001_3,x280002_3⟩:S91) [.int .i64 x10_2,.int .i64 x280001_3,.string x280002_3] (fun k_=>k_≠gb279) (fun _=>False) rfl rfl ?aP (fun _ hk=>hk.elim) ?aF ?aO ?aB ?aS ?aL ?_;(case aP=>exact yQb_ _ _ _ (⟨x10_2,x280001_3,x280002_3⟩:S91));(case aB=>exact (by repeat (with_reducible first|exact HB.out|apply yc_|apply ya_|apply yb_|refine yq_ ?_ GE279.out)));(case aF=>exact (fun k_ hk=>Kd.freshB (g:=gb279) (o:=.cells #[.int .i64 x10_2,.int .i64 x280001_3,.string x280002_3] 91 (0,0)) (by (with_reducible repeat (first|refine yw_ ?_ _|refine yz_ ?_|refine yv_ ?_ _));exact BK279.out) k_ hk));(case aO=>exact zk_);(case aS=>exact (yp_ (by repeat (with_reducible first|exact HB.out|apply yc_|apply ya_|apply yb_|refine yq_ ?_ GE279.out))));(case aL=>have:=LMc38.out;omega);intro v285 w40 ho hb hg hat;rw[← Ny284.out] at ho;have n0_:=Aside0.mk (Kd.yhb_ (by (with_reducible repeat (first|apply Kd.yj_|apply Kd.yk_|apply Kd.R_drew));exact HO_8.out) (Kd.ybb_ zk_) (by decide) hg);have n1_:=Aside0.mk (yCb_ (g:=gb279) (o:=.cells #[.int .i64 x10_2,.int .i64 x280001_3,.string x280002_3] 91 (0,0)) (by (with_reducible repeat (first|refine yw_ ?_ _|refine yz_ ?_|refine yv_ ?_ _));exact BK279.out) hg (Kd.R_away HO_9.out (fun _ hk=>hk)));have n2_:=Aside0.mk (hb);have n3_:=Aside0.mk (ho);clear HO_8;clear BK279;clear HB;clear HO_9;have HO_8:=n0_;have BK279:=n1_;have HB:=n2_;have HO286:=n3_;clear n0_ n1_ n2_ n3_;clear ho hb hg hat))
          go_roundg kj25
          case measure=>have:=HJ4.out;have:=HK2.out;have:=HK3.out;have:=HJ25.out;omega
          case rel=>exact⟨(y284),(x280001_3),(x11_3),zc_,zc_,H',⟨by have:=HJ4.out;have:=HK2.out;have:=HK3.out;have:=HJ25.out;omega⟩,⟨by (with_reducible repeat (first|apply Kd.yj_|apply Kd.yk_|apply Kd.R_drew));exact HO_8.out⟩,⟨by (with_reducible repeat (first|apply Kd.yj_|apply Kd.yk_|apply Kd.R_drew));exact Kd.R_mono HO286.out (fun _ hk=>trivial)⟩,⟨by repeat (with_reducible first|exact HB.out|apply yc_|apply ya_|apply yb_|refine yq_ ?_ GE279.out)⟩⟩
         subst c29
         have H1:(if 0≤x11_3 then (if x11_3 < (t274.length:Int) then (if ((rd_T95 t274 x11_3).f0)=45 then (ye_.l1 kj25 t274 x9_2 (wrap64 (x11_3+1)) x10_2 (wrap64 (x280001_3+(((rd_T95 t274 x11_3).f1).size:Int))) x280002_3) else (if x280002_3.size+((rd_T95 t274 x11_3).f1).size≤9223372036854775807 then (ye_.l1 kj25 t274 x9_2 (wrap64 (x11_3+1)) x10_2 x280001_3 (x280002_3++((rd_T95 t274 x11_3).f1))) else (none))) else (none)) else (none))=some (r1,r2):=by rw[if_pos rfl] at H;exact H
         clear H
         have H:=H1
         clear H1
         by_cases c30:0≤x11_3
         rotate_left
         ·rw[if_neg c30] at H
          exact absurd H (by simp)
         rw[if_pos c30] at H
         have c30b0:decide (0≤x11_3)=true:=decide_eq_true c30
         clear c30
         by_cases c31:x11_3 < (t274.length:Int)
         rotate_left
         ·rw[if_neg c31] at H
          exact absurd H (by simp)
         rw[if_pos c31] at H
         have c31b0:decide (x11_3 < (t274.length:Int))=true:=decide_eq_true c31
         clear c31
         by_cases c32:((rd_T95 t274 x11_3).f0)=45
         ·rw[if_pos c32] at H
          have c32b0:(((rd_T95 t274 x11_3).f0) == 45)=true:=beq_iff_eq.mpr c32
          have c32b1:(((rd_T95 t274 x11_3).f0) != 45)=false:=bne_eq_false_iff_eq.mpr c32
          clear c32
          have H':=Aside0.mk H
          clear H
          have p281:0≤(x11_3:Int):=of_decide_eq_true zd_
          have q281:x11_3 < (t274.length:Int):=of_decide_eq_true zd_
          obtain⟨ad281,e281,hx281_0,hx281_1⟩:=at_T95 (Kd.yt_ HO_8.out).2.2 x11_3 p281 q281
          obtain rfl:ad277=ad281:=(by injection e281)
          replace p281:=eq_true p281
          replace q281:=eq_true q281
          try go_wp2
          have n0_:=Aside0.mk (Kd.R_drew HO_8.out)
          have n1_:=Aside0.mk (Kd.R_drew HO_9.out)
          have n2_:=Aside0.mk (yz_ BK279.out)
          have n3_:=Aside0.mk (yb_ HB.out)
          clear HO_8
          clear HO_9
          clear BK279
          clear HB
          have HO_8:=n0_
          have HO_9:=n1_
          have BK279:=n2_
          have HB:=n3_
          clear n0_ n1_ n2_ n3_
          have p282:0≤(x11_3:Int):=of_decide_eq_true zd_
          have q282:x11_3 < (t274.length:Int):=of_decide_eq_true zd_
          obtain⟨ad282,e282,hx282_0,hx282_1⟩:=at_T95 (Kd.yt_ HO_8.out).2.2 x11_3 p282 q282
          obtain rfl:ad277=ad282:=(by injection e282)
          replace p282:=eq_true p282
          replace q282:=eq_true q282
          refine start_ (n:=11) (S:=fun w'=>w'.cell? ⟨gb279,0,none⟩=some (.int .i64 x10_2)∧w'.cell? ⟨gb279,1,none⟩=some (.int .i64 x280001_3)∧w'.cell? ⟨gb279,2,none⟩=some (.string x280002_3)∧w'.cell? (ad277.add ((x11_3).toNat * 2))=some (.int .u8 ((rd_T95 t274 x11_3).f0))∧w'.cell? ⟨(ad277.add ((x11_3).toNat * 2)).block,(ad277.add ((x11_3).toNat * 2)).off+1,none⟩=some (.string ((rd_T95 t274 x11_3).f1))) (ds:=[10]) (bA 11 0) ze_ rfl rfl ⟨(yl_ BK279.out 0).trans rfl,(yl_ BK279.out 1).trans rfl,(yl_ BK279.out 2).trans rfl,hx282_0,hx282_1⟩ (fun hHeld=>?_);refine yQ_ ye_.tab15 ye_.bits15 (fun HT_ HW_=>?_)
          generalize wc.drew=w33 at HO_8 HO_9 BK279 HB hx282_0 hx282_1 hHeld ⊢
          refine pu_ 0 79 (bA 11 1) HT_ ?_
          refine pu_ 2 81 (bA 11 5) HT_ ?_
          refine pu_ 3 82 (bA 11 13) HT_ ?_
          refine pu_ 4 83 (bA 11 29) HT_ ?_
          refine pu_ 5 84 (bA 11 61) HT_ ?_
          refine tk_ 1 80 (bA 11 63) rfl HT_ HW_ hHeld (by rintro w' ⟨s0,s1,s2,s3,s4⟩;go_simp;with_reducible rfl) ?_
          refine tk_ 6 85 (bA 11 127) rfl HT_ HW_ hHeld (by rintro w' ⟨s0,s1,s2,s3,s4⟩;go_simp;with_reducible rfl) ?_
          refine pu_ 7 86 (bA 11 255) HT_ ?_
          refine pu_ 8 87 (bA 11 511) HT_ ?_
          refine pu_ 9 88 (bA 11 1023) HT_ ?_
          refine last_ (i:=10) (N:=none) (bA 11 2047) rfl rfl (one_of HT_.out ze_) (by decide) (fun K hK=>?_)
          have hs34:w33.cell? ⟨gb279,1,none⟩=some (.int .i64 x280001_3):=(yl_ BK279.out 1).trans rfl
          have hfs34:=yi_ BK279.out 1
          refine skip_ (w1:=?_) (by rfl) rfl ?_ ?_
          rotate_left
          ·go_simp
           rfl
          refine hK.out _ _ ?_
          clear hK K
          refine done_ (ycb_ HT_.out ze_) ?_
          try go_wp2
          go_roundg kj25
          case measure=>have:=HJ4.out;have:=HK2.out;have:=HK3.out;have:=HJ25.out;omega
          case rel=>exact⟨(wrap64 (x11_3+1)),(wrap64 (x280001_3+(((rd_T95 t274 x11_3).f1).size:Int))),(x280002_3),zc_,H',⟨by have:=HJ4.out;have:=HK2.out;have:=HK3.out;have:=HJ25.out;omega⟩,⟨by (with_reducible repeat (first|apply Kd.yj_|apply Kd.yk_|apply Kd.R_drew));exact Kd.R_mono (Kd.R_far (p:=⟨gb279,1,none⟩) (Kd.yJb_ HO_8.out BK279.out (by decide)) (fun _ hk=>hk.2) (.int .i64 (wrap64 (x280001_3+(((rd_T95 t274 x11_3).f1).size:Int))))) (fun _ hk=>trivial)⟩,⟨by (with_reducible repeat (first|apply Kd.yj_|apply Kd.yk_|apply Kd.R_drew));exact Kd.R_mono (Kd.R_far (p:=⟨gb279,1,none⟩) (Kd.R_mono HO_9.out (fun k_ hk=>(⟨hk,hk⟩:_∧k_≠gb279))) (fun _ hk=>hk.2) (.int .i64 (wrap64 (x280001_3+(((rd_T95 t274 x11_3).f1).size:Int))))) (fun _ hk=>hk.1)⟩,⟨by (with_reducible repeat (first|refine yw_ ?_ _|refine yz_ ?_|refine yv_ ?_ _));refine yeb_ (cs:=#[.int .i64 x10_2,.int .i64 x280001_3,.string x280002_3]) ?_ 1 _ rfl;(with_reducible repeat (first|refine yw_ ?_ _|refine yz_ ?_|refine yv_ ?_ _));exact BK279.out⟩,⟨by repeat (with_reducible first|exact HB.out|apply yc_|apply ya_|apply yb_|refine yq_ ?_ GE279.out)⟩⟩
         rw[if_neg c32] at H
         have c32b0:(((rd_T95 t274 x11_3).f0) == 45)=false:=beq_eq_false_iff_ne.mpr c32
         have c32b1:(((rd_T95 t274 x11_3).f0) != 45)=true:=bne_iff_ne.mpr c32
         by_cases c35:x280002_3.size+((rd_T95 t274 x11_3).f1).size≤9223372036854775807
         rotate_left
         ·rw[if_neg c35] at H
          exact absurd H (by simp)
         rw[if_pos c35] at H
         have c35b0:=eq_true c35
         have c35b1:decide (x280002_3.size+((rd_T95 t274 x11_3).f1).size≤9223372036854775807)=true:=decide_eq_true c35
         try have c35b2:(9223372036854775807 < x280002_3.size+((rd_T95 t274 x11_3).f1).size)=False:=eq_false (Nat.not_lt.2 c35)
         have H':=Aside0.mk H
         clear H
         have p281:0≤(x11_3:Int):=of_decide_eq_true zd_
         have q281:x11_3 < (t274.length:Int):=of_decide_eq_true zd_
         obtain⟨ad281,e281,hx281_0,hx281_1⟩:=at_T95 (Kd.yt_ HO_8.out).2.2 x11_3 p281 q281
         obtain rfl:ad277=ad281:=(by injection e281)
         replace p281:=eq_true p281
         replace q281:=eq_true q281
         try go_wp2
         have n0_:=Aside0.mk (Kd.R_drew HO_8.out)
         have n1_:=Aside0.mk (Kd.R_drew HO_9.out)
         have n2_:=Aside0.mk (yz_ BK279.out)
         have n3_:=Aside0.mk (yb_ HB.out)
         clear HO_8
         clear HO_9
         clear BK279
         clear HB
         have HO_8:=n0_
         have HO_9:=n1_
         have BK279:=n2_
         have HB:=n3_
         clear n0_ n1_ n2_ n3_
         have p283:0≤(x11_3:Int):=of_decide_eq_true zd_
         have q283:x11_3 < (t274.length:Int):=of_decide_eq_true zd_
         obtain⟨ad283,e283,hx283_0,hx283_1⟩:=at_T95 (Kd.yt_ HO_8.out).2.2 x11_3 p283 q283
         obtain rfl:ad277=ad283:=(by injection e283)
         replace p283:=eq_true p283
         replace q283:=eq_true q283
         refine start_ (n:=10) (S:=fun w'=>w'.cell? ⟨gb279,0,none⟩=some (.int .i64 x10_2)∧w'.cell? ⟨gb279,1,none⟩=some (.int .i64 x280001_3)∧w'.cell? ⟨gb279,2,none⟩=some (.string x280002_3)∧w'.cell? (ad277.add ((x11_3).toNat * 2))=some (.int .u8 ((rd_T95 t274 x11_3).f0))∧w'.cell? ⟨(ad277.add ((x11_3).toNat * 2)).block,(ad277.add ((x11_3).toNat * 2)).off+1,none⟩=some (.string ((rd_T95 t274 x11_3).f1))) (ds:=[9]) (bA 10 0) ze_ rfl rfl ⟨(yl_ BK279.out 0).trans rfl,(yl_ BK279.out 1).trans rfl,(yl_ BK279.out 2).trans rfl,hx283_0,hx283_1⟩ (fun hHeld=>?_);refine yQ_ ye_.tab16 ye_.bits16 (fun HT_ HW_=>?_)
         generalize wc.drew=w36 at HO_8 HO_9 BK279 HB hx283_0 hx283_1 hHeld ⊢
         refine pu_ 0 89 (bA 10 1) HT_ ?_
         refine pu_ 2 91 (bA 10 5) HT_ ?_
         refine pu_ 3 92 (bA 10 13) HT_ ?_
         refine pu_ 4 93 (bA 10 29) HT_ ?_
         refine pu_ 5 94 (bA 10 61) HT_ ?_
         refine tk_ 1 90 (bA 10 63) rfl HT_ HW_ hHeld (by rintro w' ⟨s0,s1,s2,s3,s4⟩;go_simp;with_reducible rfl) ?_
         refine tk_ 6 95 (bA 10 127) rfl HT_ HW_ hHeld (by rintro w' ⟨s0,s1,s2,s3,s4⟩;go_simp;with_reducible rfl) ?_
         refine pu_ 7 96 (bA 10 255) HT_ ?_
         refine pu_ 8 97 (bA 10 511) HT_ ?_
         refine last_ (i:=9) (N:=none) (bA 10 1023) rfl rfl (one_of HT_.out ze_) (by decide) (fun K hK=>?_)
         have hs37:w36.cell? ⟨gb279,2,none⟩=some (.string x280002_3):=(yl_ BK279.out 2).trans rfl
         have hfs37:=yi_ BK279.out 2
         refine skip_ (w1:=?_) (by rfl) rfl ?_ ?_
         rotate_left
         ·go_simp
          rfl
         refine hK.out _ _ ?_
         clear hK K
         refine done_ (ycb_ HT_.out ze_) ?_
         try go_wp2
         go_roundg kj25
         case measure=>have:=HJ4.out;have:=HK2.out;have:=HK3.out;have:=HJ25.out;omega
         case rel=>exact⟨(wrap64 (x11_3+1)),(x280001_3),(x280002_3++((rd_T95 t274 x11_3).f1)),zc_,H',⟨by have:=HJ4.out;have:=HK2.out;have:=HK3.out;have:=HJ25.out;omega⟩,⟨by (with_reducible repeat (first|apply Kd.yj_|apply Kd.yk_|apply Kd.R_drew));exact Kd.R_mono (Kd.R_far (p:=⟨gb279,2,none⟩) (Kd.yJb_ HO_8.out BK279.out (by decide)) (fun _ hk=>hk.2) (.string (x280002_3++((rd_T95 t274 x11_3).f1)))) (fun _ hk=>trivial)⟩,⟨by (with_reducible repeat (first|apply Kd.yj_|apply Kd.yk_|apply Kd.R_drew));exact Kd.R_mono (Kd.R_far (p:=⟨gb279,2,none⟩) (Kd.R_mono HO_9.out (fun k_ hk=>(⟨hk,hk⟩:_∧k_≠gb279))) (fun _ hk=>hk.2) (.string (x280002_3++((rd_T95 t274 x11_3).f1)))) (fun _ hk=>hk.1)⟩,⟨by (with_reducible repeat (first|refine yw_ ?_ _|refine yz_ ?_|refine yv_ ?_ _));refine yeb_ (cs:=#[.int .i64 x10_2,.int .i64 x280001_3,.string x280002_3]) ?_ 2 _ rfl;(with_reducible repeat (first|refine yw_ ?_ _|refine yz_ ?_|refine yv_ ?_ _));exact BK279.out⟩,⟨by repeat (with_reducible first|exact HB.out|apply yc_|apply ya_|apply yb_|refine yq_ ?_ GE279.out)⟩⟩

end Go.Proofs.YthimblhfjfngiaaGreat.PText

namespace Go.Proofs.YthimblhfjfngiaaGreat.PText
open Go.RowKit Go.Proofs.YthimblhfjfngiaaGreatW.PrintWords Go.Proofs.YthimblhfjfngiaaGreatW.PrintLast Go.Proofs.YthimblhfjfngiaaGreatW.PrintMore
attribute [local go_sem] yT_ yU_ y5_ y6_ yI_ yJ_ yV_ yW_   -- for this text's walks alone
set_option linter.unusedVariables false
set_option linter.unusedSimpArgs false

theorem eqA91 (d:Nat) (w:World) (x0 y0:Int) (x1 y1:Int) (x2 y2:ByteArray) :
  (Op.equalIn (d+2) 91 (.agg #[.int .i64 x0,.int .i64 x1,.string x2]) (.agg #[.int .i64 y0,.int .i64 y1,.string y2])).run Tryz.prog w=.ok (x0 == y0 && (x1 == y1 && (x2.toList == y2.toList))) w:=by
 refine eqA_of Tryz.underlying91 ze_ ?_
 refine eqf_cons (by rfl) (by go_simp;rfl) (by go_simp;rfl) (by go_simp) ?_
 refine eqf_cons (by rfl) (by go_simp;rfl) (by go_simp;rfl) (by go_simp) ?_
 exact eqf_last (by rfl) (by go_simp;rfl) (by go_simp;rfl) (by go_simp)
end Go.Proofs.YthimblhfjfngiaaGreat.PText

namespace Go.Proofs.YthimblhfjfngiaaGreat.PText
open Go.RowKit Go.Proofs.YthimblhfjfngiaaGreatW.PrintWords Go.Proofs.YthimblhfjfngiaaGreatW.PrintLast Go.Proofs.YthimblhfjfngiaaGreatW.PrintMore
attribute [local go_sem] yT_ yU_ y5_ y6_ yI_ yJ_ yV_ yW_   -- for this text's walks alone
set_option linter.unusedVariables false
set_option linter.unusedSimpArgs false

def cmp_isNaN_string.f (a0:ByteArray):Option (Bool):=some (a0.toList != a0.toList)
set_option maxHeartbeats 8000000 in
set_option maxRecDepth 100000 in
theorem cmp_isNaN_string.calls (a0:ByteArray) (r:Bool) (w:World) (h:cmp_isNaN_string.f a0=some r) :
  Calls Tryz.prog 68 #[.string a0] w fun e w'=>e=.returned (.bool r)∧Drawn0 w w':=by
 have H:(some (a0.toList != a0.toList))=some r:=h
 clear h
 obtain rfl:=Option.some.inj H
 go_enter Tryz.func68,Tryz.ntmps68
 go_wp2
 go_ret
 exact⟨by first|rfl|(simp;done)|(simp [*];done),by repeat (first|exact Drawn0.refl _|apply Drawn0.step)⟩

end Go.Proofs.YthimblhfjfngiaaGreat.PText

namespace Go.Proofs.YthimblhfjfngiaaGreat.PText
open Go.RowKit Go.Proofs.YthimblhfjfngiaaGreatW.PrintWords Go.Proofs.YthimblhfjfngiaaGreatW.PrintLast Go.Proofs.YthimblhfjfngiaaGreatW.PrintMore
attribute [local go_sem] yT_ yU_ y5_ y6_ yI_ yJ_ yV_ yW_   -- for this text's walks alone
set_option linter.unusedVariables false
set_option linter.unusedSimpArgs false

def yZ_.l0:Nat→Int→List Int→Int→Int→Option (Int)
 | 0,_,_,_,_=>none
 | k+1,x3,x6,x7,x8=>if x8 < x7 then (if 0≤x8 then (if x8 < (x6.length:Int) then (if (rd x6 x8)=x3 then (yZ_.l0 k x3 x6 x7 (wrap64 (x8+1))) else (some (rd x6 x8))) else (none)) else (none)) else (some x3)
def yZ_.f (k:Nat) (l0:List Int):Option (Int):=yZ_.l0 k 0 l0 (l0.length:Int) 0
set_option maxHeartbeats 8000000 in
set_option maxRecDepth 100000 in
theorem yZ_.calls (k:Nat) (A0:Option Addr) (c0:Nat) (l0:List Int) (r:Int) (w:World) (hr0:Kd.C (Kd.int .i64) w A0 l0.length l0) (hc0:l0.length≤c0) (h:yZ_.f k l0=some r) :
  Calls Tryz.prog 123 #[.slice A0 l0.length c0] w fun e w'=>e=.returned (.int .i64 r)∧Drawn0 w w':=by
 have HR0:=Aside0.mk hr0
 have HC0:=Aside0.mk hc0
 clear hr0 hc0
 have H:(yZ_.l0 k 0 l0 (l0.length:Int) 0)=some r:=h
 clear h
 have H':=Aside0.mk H
 clear H
 go_enter Tryz.func123,Tryz.ntmps123
 go_wp2
 try simp only[Act.put,List.setIfInBounds_toArray,List.set_cons_succ,List.set_cons_zero]
 go_loopg [8] k (fun kq v8 w'=>∃ (x8_1:Int),v8=.int .i64 x8_1∧Aside0 (yZ_.l0 kq 0 l0 (l0.length:Int) x8_1=some r)∧Aside0 (kq≤k)∧Drawn0 w w')
 case atStart=>exact⟨(0),zc_,H',⟨Nat.le_refl _⟩,by repeat (first|exact Drawn0.refl _|apply Drawn0.step)⟩
 case round =>
  clear H'
  try clear c1
  obtain⟨x8_1,rfl,HA,HK1,⟨m1,rfl⟩⟩:=hrel
  cases gk with
  | zero=>exact absurd HA.out (by simp [yZ_.l0])
  | succ k1 =>
   have H:=HA.out
   clear HA
   simp only[yZ_.l0] at H
   by_cases c2:x8_1 < (l0.length:Int)
   rotate_left
   ·rw[if_neg c2] at H
    have c2b0:decide (x8_1 < (l0.length:Int))=false:=decide_eq_false c2
    clear c2
    obtain rfl:=Option.some.inj H
    go_wp2
    go_ret
    exact⟨by first|rfl|(simp;done)|(simp [*];done),by repeat (first|exact Drawn0.refl _|apply Drawn0.step)⟩
   rw[if_pos c2] at H
   have c2b0:decide (x8_1 < (l0.length:Int))=true:=decide_eq_true c2
   clear c2
   by_cases c3:0≤x8_1
   rotate_left
   ·rw[if_neg c3] at H
    exact absurd H (by simp)
   rw[if_pos c3] at H
   have c3b0:decide (0≤x8_1)=true:=decide_eq_true c3
   clear c3
   by_cases c4:x8_1 < (l0.length:Int)
   rotate_left
   ·rw[if_neg c4] at H
    exact absurd H (by simp)
   rw[if_pos c4] at H
   have c4b0:decide (x8_1 < (l0.length:Int))=true:=decide_eq_true c4
   clear c4
   by_cases c5:(rd l0 x8_1)=0
   rotate_left
   ·rw[if_neg c5] at H
    have c5b0:((rd l0 x8_1) == 0)=false:=beq_eq_false_iff_ne.mpr c5
    have c5b1:((rd l0 x8_1) != 0)=true:=bne_iff_ne.mpr c5
    obtain rfl:=Option.some.inj H
    have p344:0≤(x8_1:Int):=of_decide_eq_true zd_
    have q344:x8_1 < (l0.length:Int):=of_decide_eq_true zd_
    obtain⟨ad344,e344,hx344_0⟩:=Kd.at_int HR0.out x8_1 p344 q344
    cases e344
    replace p344:=eq_true p344
    replace q344:=eq_true q344
    go_wp2
    go_ret
    exact⟨by first|rfl|(simp;done)|(simp [*];done),by repeat (first|exact Drawn0.refl _|apply Drawn0.step)⟩
   rw[if_pos c5] at H
   have c5b0:((rd l0 x8_1) == 0)=true:=beq_iff_eq.mpr c5
   have c5b1:((rd l0 x8_1) != 0)=false:=bne_eq_false_iff_eq.mpr c5
   clear c5
   have H':=Aside0.mk H
   clear H
   have p344:0≤(x8_1:Int):=of_decide_eq_true zd_
   have q344:x8_1 < (l0.length:Int):=of_decide_eq_true zd_
   obtain⟨ad344,e344,hx344_0⟩:=Kd.at_int HR0.out x8_1 p344 q344
   cases e344
   replace p344:=eq_true p344
   replace q344:=eq_true q344
   go_wp2
   go_roundg k1
   case measure=>have:=HK1.out;omega
   case rel=>exact⟨(wrap64 (x8_1+1)),zc_,H',⟨by have:=HK1.out;omega⟩,by repeat (first|exact Drawn0.refl _|apply Drawn0.step)⟩

end Go.Proofs.YthimblhfjfngiaaGreat.PText

namespace Go.Proofs.YthimblhfjfngiaaGreat.PText
open Go.RowKit Go.Proofs.YthimblhfjfngiaaGreatW.PrintWords Go.Proofs.YthimblhfjfngiaaGreatW.PrintLast Go.Proofs.YthimblhfjfngiaaGreatW.PrintMore
attribute [local go_sem] yT_ yU_ y5_ y6_ yI_ yJ_ yV_ yW_   -- for this text's walks alone
set_option linter.unusedVariables false
set_option linter.unusedSimpArgs false

def cmp_isNaN_int.f (a0:Int):Option (Bool):=some (a0 != a0)
set_option maxHeartbeats 8000000 in
set_option maxRecDepth 100000 in
theorem cmp_isNaN_int.calls (a0:Int) (r:Bool) (w:World) (h:cmp_isNaN_int.f a0=some r) :
  Calls Tryz.prog 137 #[.int .i64 a0] w fun e w'=>e=.returned (.bool r)∧Drawn0 w w':=by
 have H:(some (a0 != a0))=some r:=h
 clear h
 obtain rfl:=Option.some.inj H
 go_enter Tryz.func137,Tryz.ntmps137
 go_wp2
 go_ret
 exact⟨by first|rfl|(simp;done)|(simp [*];done),by repeat (first|exact Drawn0.refl _|apply Drawn0.step)⟩

end Go.Proofs.YthimblhfjfngiaaGreat.PText

namespace Go.Proofs.YthimblhfjfngiaaGreat.PText
open Go.RowKit Go.Proofs.YthimblhfjfngiaaGreatW.PrintWords Go.Proofs.YthimblhfjfngiaaGreatW.PrintLast Go.Proofs.YthimblhfjfngiaaGreatW.PrintMore
attribute [local go_sem] yT_ yU_ y5_ y6_ yI_ yJ_ yV_ yW_   -- for this text's walks alone
set_option linter.unusedVariables false
set_option linter.unusedSimpArgs false

def cmp_Compare_int.f (a0:Int) (a1:Int):Option (Int):=(cmp_isNaN_int.f a0).bind fun t345=>((cmp_isNaN_int.f a1).bind fun t346=>(if t345=true then (if t346=true then (some 0) else (some (-1))) else (if t346=true then (some 1) else (if a0 < a1 then (some (-1)) else (if a0 > a1 then (some 1) else (some 0))))))
set_option maxHeartbeats 8000000 in
set_option maxRecDepth 100000 in
theorem cmp_Compare_int.calls (a0:Int) (a1:Int) (r:Int) (w:World) (h:cmp_Compare_int.f a0 a1=some r) :
  Calls Tryz.prog 124 #[.int .i64 a0,.int .i64 a1] w fun e w'=>e=.returned (.int .i64 r)∧Drawn0 w w':=by
 have H:((cmp_isNaN_int.f a0).bind fun t345=>((cmp_isNaN_int.f a1).bind fun t346=>(if t345=true then (if t346=true then (some 0) else (some (-1))) else (if t346=true then (some 1) else (if a0 < a1 then (some (-1)) else (if a0 > a1 then (some 1) else (some 0)))))))=some r:=h
 clear h
 replace H:=Option.bind_eq_some_iff.mp H
 obtain⟨t345,A30,H⟩:=H
 replace H:((cmp_isNaN_int.f a1).bind fun t346=>(if t345=true then (if t346=true then (some 0) else (some (-1))) else (if t346=true then (some 1) else (if a0 < a1 then (some (-1)) else (if a0 > a1 then (some 1) else (some 0))))))=some r:=H
 have A3:=Aside0.mk A30
 clear A30
 replace H:=Option.bind_eq_some_iff.mp H
 obtain⟨t346,A40,H⟩:=H
 replace H:(if t345=true then (if t346=true then (some 0) else (some (-1))) else (if t346=true then (some 1) else (if a0 < a1 then (some (-1)) else (if a0 > a1 then (some 1) else (some 0)))))=some r:=H
 have A4:=Aside0.mk A40
 clear A40
 by_cases c5:t345=true
 ·subst c5
  have H1:(if t346=true then (some 0) else (some (-1)))=some r:=by rw[if_pos rfl] at H;exact H
  clear H
  have H:=H1
  clear H1
  by_cases c6:t346=true
  ·subst c6
   have H1:(some 0)=some r:=by rw[if_pos rfl] at H;exact H
   clear H
   have H:=H1
   clear H1
   obtain rfl:=Option.some.inj H
   go_enter Tryz.func124,Tryz.ntmps124
   go_wp2_with (first|((with_reducible refine yA_ (f:=137) rfl ?_);refine goesL_ (some 8) rfl rfl Tryz.func137 ze_ rfl #[.int .i64 a0] rfl zb_ ?_;(with_reducible refine (cmp_isNaN_int.calls a0 true _ A3.out).mono ?_);rintro e w' ⟨rfl,⟨nd,rfl⟩⟩;refine⟨_,rfl,?_⟩)|((with_reducible refine yA_ (f:=137) rfl ?_);refine goesL_ (some 10) rfl rfl Tryz.func137 ze_ rfl #[.int .i64 a1] rfl zb_ ?_;(with_reducible refine (cmp_isNaN_int.calls a1 true _ A4.out).mono ?_);rintro e w' ⟨rfl,⟨nd,rfl⟩⟩;refine⟨_,rfl,?_⟩))
   go_ret
   exact⟨by first|rfl|(simp;done)|(simp [*];done),by repeat (first|exact Drawn0.refl _|apply Drawn0.step)⟩
  replace c6:=Bool.eq_false_iff.mpr c6
  subst c6
  have H1:(some (-1))=some r:=by rw[if_neg (show ¬ (false=true) by decide)] at H;exact H
  clear H
  have H:=H1
  clear H1
  obtain rfl:=Option.some.inj H
  go_enter Tryz.func124,Tryz.ntmps124
  go_wp2_with (first|((with_reducible refine yA_ (f:=137) rfl ?_);refine goesL_ (some 8) rfl rfl Tryz.func137 ze_ rfl #[.int .i64 a0] rfl zb_ ?_;(with_reducible refine (cmp_isNaN_int.calls a0 true _ A3.out).mono ?_);rintro e w' ⟨rfl,⟨nd,rfl⟩⟩;refine⟨_,rfl,?_⟩)|((with_reducible refine yA_ (f:=137) rfl ?_);refine goesL_ (some 10) rfl rfl Tryz.func137 ze_ rfl #[.int .i64 a1] rfl zb_ ?_;(with_reducible refine (cmp_isNaN_int.calls a1 false _ A4.out).mono ?_);rintro e w' ⟨rfl,⟨nd,rfl⟩⟩;refine⟨_,rfl,?_⟩))
  go_ret
  exact⟨by first|rfl|(simp;done)|(simp [*];done),by repeat (first|exact Drawn0.refl _|apply Drawn0.step)⟩
 replace c5:=Bool.eq_false_iff.mpr c5
 subst c5
 have H1:(if t346=true then (some 1) else (if a0 < a1 then (some (-1)) else (if a0 > a1 then (some 1) else (some 0))))=some r:=by rw[if_neg (show ¬ (false=true) by decide)] at H;exact H
 clear H
 have H:=H1
 clear H1
 by_cases c7:t346=true
 ·subst c7
  have H1:(some 1)=some r:=by rw[if_pos rfl] at H;exact H
  clear H
  have H:=H1
  clear H1
  obtain rfl:=Option.some.inj H
  go_enter Tryz.func124,Tryz.ntmps124
  go_wp2_with (first|((with_reducible refine yA_ (f:=137) rfl ?_);refine goesL_ (some 8) rfl rfl Tryz.func137 ze_ rfl #[.int .i64 a0] rfl zb_ ?_;(with_reducible refine (cmp_isNaN_int.calls a0 false _ A3.out).mono ?_);rintro e w' ⟨rfl,⟨nd,rfl⟩⟩;refine⟨_,rfl,?_⟩)|((with_reducible refine yA_ (f:=137) rfl ?_);refine goesL_ (some 10) rfl rfl Tryz.func137 ze_ rfl #[.int .i64 a1] rfl zb_ ?_;(with_reducible refine (cmp_isNaN_int.calls a1 true _ A4.out).mono ?_);rintro e w' ⟨rfl,⟨nd,rfl⟩⟩;refine⟨_,rfl,?_⟩))
  go_ret
  exact⟨by first|rfl|(simp;done)|(simp [*];done),by repeat (first|exact Drawn0.refl _|apply Drawn0.step)⟩
 replace c7:=Bool.eq_false_iff.mpr c7
 subst c7
 have H1:(if a0 < a1 then (some (-1)) else (if a0 > a1 then (some 1) else (some 0)))=some r:=by rw[if_neg (show ¬ (false=true) by decide)] at H;exact H
 clear H
 have H:=H1
 clear H1
 by_cases c8:a0 < a1
 ·rw[if_pos c8] at H
  have c8b0:decide (a0 < a1)=true:=decide_eq_true c8
  clear c8
  obtain rfl:=Option.some.inj H
  go_enter Tryz.func124,Tryz.ntmps124
  go_wp2_with (first|((with_reducible refine yA_ (f:=137) rfl ?_);refine goesL_ (some 8) rfl rfl Tryz.func137 ze_ rfl #[.int .i64 a0] rfl zb_ ?_;(with_reducible refine (cmp_isNaN_int.calls a0 false _ A3.out).mono ?_);rintro e w' ⟨rfl,⟨nd,rfl⟩⟩;refine⟨_,rfl,?_⟩)|((with_reducible refine yA_ (f:=137) rfl ?_);refine goesL_ (some 10) rfl rfl Tryz.func137 ze_ rfl #[.int .i64 a1] rfl zb_ ?_;(with_reducible refine (cmp_isNaN_int.calls a1 false _ A4.out).mono ?_);rintro e w' ⟨rfl,⟨nd,rfl⟩⟩;refine⟨_,rfl,?_⟩))
  go_ret
  exact⟨by first|rfl|(simp;done)|(simp [*];done),by repeat (first|exact Drawn0.refl _|apply Drawn0.step)⟩
 rw[if_neg c8] at H
 have c8b0:decide (a0 < a1)=false:=decide_eq_false c8
 clear c8
 by_cases c9:a0 > a1
 ·rw[if_pos c9] at H
  have c9b0:decide (a1 < a0)=true:=decide_eq_true c9
  clear c9
  obtain rfl:=Option.some.inj H
  go_enter Tryz.func124,Tryz.ntmps124
  go_wp2_with (first|((with_reducible refine yA_ (f:=137) rfl ?_);refine goesL_ (some 8) rfl rfl Tryz.func137 ze_ rfl #[.int .i64 a0] rfl zb_ ?_;(with_reducible refine (cmp_isNaN_int.calls a0 false _ A3.out).mono ?_);rintro e w' ⟨rfl,⟨nd,rfl⟩⟩;refine⟨_,rfl,?_⟩)|((with_reducible refine yA_ (f:=137) rfl ?_);refine goesL_ (some 10) rfl rfl Tryz.func137 ze_ rfl #[.int .i64 a1] rfl zb_ ?_;(with_reducible refine (cmp_isNaN_int.calls a1 false _ A4.out).mono ?_);rintro e w' ⟨rfl,⟨nd,rfl⟩⟩;refine⟨_,rfl,?_⟩))
  go_ret
  exact⟨by first|rfl|(simp;done)|(simp [*];done),by repeat (first|exact Drawn0.refl _|apply Drawn0.step)⟩
 rw[if_neg c9] at H
 have c9b0:decide (a1 < a0)=false:=decide_eq_false c9
 clear c9
 obtain rfl:=Option.some.inj H
 go_enter Tryz.func124,Tryz.ntmps124
 go_wp2_with (first|((with_reducible refine yA_ (f:=137) rfl ?_);refine goesL_ (some 8) rfl rfl Tryz.func137 ze_ rfl #[.int .i64 a0] rfl zb_ ?_;(with_reducible refine (cmp_isNaN_int.calls a0 false _ A3.out).mono ?_);rintro e w' ⟨rfl,⟨nd,rfl⟩⟩;refine⟨_,rfl,?_⟩)|((with_reducible refine yA_ (f:=137) rfl ?_);refine goesL_ (some 10) rfl rfl Tryz.func137 ze_ rfl #[.int .i64 a1] rfl zb_ ?_;(with_reducible refine (cmp_isNaN_int.calls a1 false _ A4.out).mono ?_);rintro e w' ⟨rfl,⟨nd,rfl⟩⟩;refine⟨_,rfl,?_⟩))
 go_ret
 exact⟨by first|rfl|(simp;done)|(simp [*];done),by repeat (first|exact Drawn0.refl _|apply Drawn0.step)⟩

end Go.Proofs.YthimblhfjfngiaaGreat.PText

namespace Go.Proofs.YthimblhfjfngiaaGreat.PText
open Go.RowKit Go.Proofs.YthimblhfjfngiaaGreatW.PrintWords Go.Proofs.YthimblhfjfngiaaGreatW.PrintLast Go.Proofs.YthimblhfjfngiaaGreatW.PrintMore
attribute [local go_sem] yT_ yU_ y5_ y6_ yI_ yJ_ yV_ yW_   -- for this text's walks alone
set_option linter.unusedVariables false
set_option linter.unusedSimpArgs false

mutual
def yK_.l0:Nat→Int→Int→List (S91)→Int→Int→Option (Bool)
 | 0,_,_,_,_,_=>none
 | k+1,x3,x4,x7,x8,x9=>if x9 < x8 then (if 0≤x9 then (if x9 < (x7.length:Int) then (if ((rd_T91 x7 x9).f0) < x3 then (yK_.j1 k x3 x4 x7 x8 x9 true ((rd_T91 x7 x9).f0) ((rd_T91 x7 x9).f1) ((rd_T91 x7 x9).f2)) else (if ((rd_T91 x7 x9).f0)=((rd_T91 x7 x9).f1) then (yK_.j1 k x3 x4 x7 x8 x9 (((rd_T91 x7 x9).f0) == x4) ((rd_T91 x7 x9).f0) ((rd_T91 x7 x9).f1) ((rd_T91 x7 x9).f2)) else (yK_.j1 k x3 x4 x7 x8 x9 false ((rd_T91 x7 x9).f0) ((rd_T91 x7 x9).f1) ((rd_T91 x7 x9).f2)))) else (none)) else (none)) else (some false)
def yK_.j1:Nat→Int→Int→List (S91)→Int→Int→Bool→Int→Int→ByteArray→Option (Bool)
 | 0,_,_,_,_,_,_,_,_,_=>none
 | k+1,x3,x4,x7,x8,x9,x29,x372000,x372001,x372002=>if x29=true then (some true) else (if x372000=x372001 then (yK_.l0 k (mx x3 x372001) x372000 x7 x8 (wrap64 (x9+1))) else (yK_.l0 k (mx x3 x372001) x4 x7 x8 (wrap64 (x9+1))))
end
def yK_.f (k:Nat) (l0:List (S91)):Option (Bool):=yK_.l0 k 0 (-1) l0 (l0.length:Int) 0
set_option maxHeartbeats 8000000 in
set_option maxRecDepth 100000 in
theorem yK_.calls (k:Nat) (A0:Option Addr) (c0:Nat) (l0:List (S91)) (r:Bool) (w:World) (hr0:Kd.C k91 w A0 l0.length l0) (hc0:l0.length≤c0) (h:yK_.f k l0=some r) :
  Calls Tryz.prog 105 #[.slice A0 l0.length c0] w fun e w'=>e=.returned (.bool r)∧Below w.heap.size w w':=by
 have hu91:=Tryz.underlying91
 have HR0:=Aside0.mk hr0
 have HC0:=Aside0.mk hc0
 clear hr0 hc0
 have HB:=Aside0.mk (Below.refl w.heap.size w)
 have H:(yK_.l0 k 0 (-1) l0 (l0.length:Int) 0)=some r:=h
 clear h
 have H':=Aside0.mk H
 clear H
 go_enter Tryz.func105,Tryz.ntmps105
 go_wp2
 try simp only[Act.put,List.setIfInBounds_toArray,List.set_cons_succ,List.set_cons_zero]
 go_loopg [3,4,9] k (fun kq v3 v4 v9 w'=>∃ (x3_1:Int) (x4_1:Int) (x9_1:Int),v3=.int .i64 x3_1∧v4=.int .i64 x4_1∧v9=.int .i64 x9_1∧Aside0 (yK_.l0 kq x3_1 x4_1 l0 (l0.length:Int) x9_1=some r)∧Aside0 (kq≤k)∧Aside0 (Below w.heap.size w w'))
 case atStart=>exact⟨(0),((-1)),(0),zc_,zc_,zc_,H',⟨Nat.le_refl _⟩,⟨by repeat (with_reducible first|exact HB.out|apply yc_|apply ya_|apply yb_)⟩⟩
 case round =>
  clear H'
  try clear c1
  obtain⟨x3_1,x4_1,x9_1,rfl,rfl,rfl,HA,HK1,HB⟩:=hrel
  cases gk with
  | zero=>exact absurd HA.out (by simp [yK_.l0])
  | succ k1 =>
   have H:=HA.out
   clear HA
   simp only[yK_.l0] at H
   by_cases c2:x9_1 < (l0.length:Int)
   rotate_left
   ·rw[if_neg c2] at H
    have c2b0:decide (x9_1 < (l0.length:Int))=false:=decide_eq_false c2
    clear c2
    obtain rfl:=Option.some.inj H
    go_wp2
    go_ret
    exact⟨by first|rfl|(simp [yr_,ys_] <;> rfl)|(simp [*,yr_,ys_] <;> rfl),by repeat (with_reducible first|exact HB.out|apply yc_|apply ya_|apply yb_)⟩
   rw[if_pos c2] at H
   have c2b0:decide (x9_1 < (l0.length:Int))=true:=decide_eq_true c2
   clear c2
   by_cases c3:0≤x9_1
   rotate_left
   ·rw[if_neg c3] at H
    exact absurd H (by simp)
   rw[if_pos c3] at H
   have c3b0:decide (0≤x9_1)=true:=decide_eq_true c3
   clear c3
   by_cases c4:x9_1 < (l0.length:Int)
   rotate_left
   ·rw[if_neg c4] at H
    exact absurd H (by simp)
   rw[if_pos c4] at H
   have c4b0:decide (x9_1 < (l0.length:Int))=true:=decide_eq_true c4
   clear c4
   have HC5:=Aside0.mk H
   clear H
   have p370:0≤(x9_1:Int):=of_decide_eq_true zd_
   have q370:x9_1 < (l0.length:Int):=of_decide_eq_true zd_
   obtain⟨ad370,e370,hx370_0,hx370_1,hx370_2⟩:=at_T91 HR0.out x9_1 p370 q370
   cases e370
   replace hx370_0:=(HB.out.cell (World.block_lt_of_cell? w _ hx370_0)).trans hx370_0
   replace hx370_1:=(HB.out.cell (World.block_lt_of_cell? w _ hx370_1)).trans hx370_1
   replace hx370_2:=(HB.out.cell (World.block_lt_of_cell? w _ hx370_2)).trans hx370_2
   replace p370:=eq_true p370
   replace q370:=eq_true q370
   go_upto_region 5 with (first|((with_reducible refine yO_ (N:=6) rfl ?_);refine yS_ ?hg (N:=6) ?hd (cs:=#[.int .i64 0,.int .i64 0,.string (⟨#[]⟩:ByteArray)]) (t:=91) ?hr ?_;(case hd=>rfl);(case hg=>rfl);(case hr=>first|(go_simp;done)|(go_simp;rfl));intro gb371 hg w6 hbox hb;have n0_:=Aside0.mk (yn_ za_ hb);have n1_:=Aside0.mk (hbox);have n2_:=Aside0.mk ((by rw[hg];exact (yp_ za_):w.heap.size≤gb371));have n3_:=Aside0.mk ((by rw[hg];exact (yp_ za_):w.heap.size≤gb371));clear HB;have HB:=n0_;have BK371:=n1_;have GW371:=n2_;have GE371:=n3_;clear n0_ n1_ n2_ n3_;clear hb hbox hg;have hcz7_0:w6.cell? ⟨gb371,0,none⟩=some (.int .i64 0):=(yl_ BK371.out 0).trans rfl;have hcz7_1:w6.cell? ⟨gb371,1,none⟩=some (.int .i64 0):=(yl_ BK371.out 1).trans rfl;have hcz7_2:w6.cell? ⟨gb371,2,none⟩=some (.string (⟨#[]⟩:ByteArray)):=(yl_ BK371.out 2).trans rfl;have hfz7_0:=yi_ BK371.out 0;have hfz7_1:=yi_ BK371.out 1;have hfz7_2:=yi_ BK371.out 2))
   (try simp only[Act.put,q1_,q2_,q3_])
   go_cut [29] (fun v29 wc=>∃ (kq:Nat) (x29_4:Bool),v29=.bool x29_4∧Aside0 (yK_.j1 kq x3_1 x4_1 l0 (l0.length:Int) x9_1 x29_4 ((rd_T91 l0 x9_1).f0) ((rd_T91 l0 x9_1).f1) ((rd_T91 l0 x9_1).f2)=some r)∧Aside0 (kq≤k1)∧Aside0 (wc.heap[gb371]?=some (.cells #[.int .i64 ((rd_T91 l0 x9_1).f0),.int .i64 ((rd_T91 l0 x9_1).f1),.string ((rd_T91 l0 x9_1).f2)] 91 (0,0)))∧Aside0 (Below w.heap.size w wc))
   case first =>
    have H:=HC5.out
    clear HC5
    by_cases c8:((rd_T91 l0 x9_1).f0) < x3_1
    ·rw[if_pos c8] at H
     have c8b0:decide (((rd_T91 l0 x9_1).f0) < x3_1)=true:=decide_eq_true c8
     clear c8
     (first|rw[c8b0]|(simp only[i64_w,i32_w];rw[c8b0])|skip)
     have H':=Aside0.mk H
     clear H
     have hcz9_0:w6.cell? ⟨gb371,0,none⟩=some (.int .i64 0):=(yl_ BK371.out 0).trans rfl
     have hcz9_1:w6.cell? ⟨gb371,1,none⟩=some (.int .i64 0):=(yl_ BK371.out 1).trans rfl
     have hcz9_2:w6.cell? ⟨gb371,2,none⟩=some (.string (⟨#[]⟩:ByteArray)):=(yl_ BK371.out 2).trans rfl
     have hfz9_0:=yi_ BK371.out 0
     have hfz9_1:=yi_ BK371.out 1
     have hfz9_2:=yi_ BK371.out 2
     go_wp2
     go_meet
     case rel=>exact⟨_,(true),zc_,H',⟨by have:=HK1.out;first|omega|exact Nat.le_refl _⟩,⟨by (with_reducible repeat (first|refine yw_ ?_ _|refine yz_ ?_|refine yv_ ?_ _));refine yeb_ (cs:=#[.int .i64 ((rd_T91 l0 x9_1).f0),.int .i64 ((rd_T91 l0 x9_1).f1),.string (⟨#[]⟩:ByteArray)]) ?_ 2 _ rfl;(with_reducible repeat (first|refine yw_ ?_ _|refine yz_ ?_|refine yv_ ?_ _));refine yeb_ (cs:=#[.int .i64 ((rd_T91 l0 x9_1).f0),.int .i64 0,.string (⟨#[]⟩:ByteArray)]) ?_ 1 _ rfl;(with_reducible repeat (first|refine yw_ ?_ _|refine yz_ ?_|refine yv_ ?_ _));refine yeb_ (cs:=#[.int .i64 0,.int .i64 0,.string (⟨#[]⟩:ByteArray)]) ?_ 0 _ rfl;(with_reducible repeat (first|refine yw_ ?_ _|refine yz_ ?_|refine yv_ ?_ _));exact BK371.out⟩,⟨by repeat (with_reducible first|exact HB.out|apply yc_|apply ya_|apply yb_|refine yq_ ?_ GE371.out)⟩⟩
    rw[if_neg c8] at H
    have c8b0:decide (((rd_T91 l0 x9_1).f0) < x3_1)=false:=decide_eq_false c8
    clear c8
    (first|rw[c8b0]|(simp only[i64_w,i32_w];rw[c8b0])|skip)
    by_cases c10:((rd_T91 l0 x9_1).f0)=((rd_T91 l0 x9_1).f1)
    rotate_left
    ·rw[if_neg c10] at H
     have c10b0:(((rd_T91 l0 x9_1).f0) == ((rd_T91 l0 x9_1).f1))=false:=beq_eq_false_iff_ne.mpr c10
     have c10b1:(((rd_T91 l0 x9_1).f0) != ((rd_T91 l0 x9_1).f1))=true:=bne_iff_ne.mpr c10
     have H':=Aside0.mk H
     clear H
     have hcz12_0:w6.cell? ⟨gb371,0,none⟩=some (.int .i64 0):=(yl_ BK371.out 0).trans rfl
     have hcz12_1:w6.cell? ⟨gb371,1,none⟩=some (.int .i64 0):=(yl_ BK371.out 1).trans rfl
     have hcz12_2:w6.cell? ⟨gb371,2,none⟩=some (.string (⟨#[]⟩:ByteArray)):=(yl_ BK371.out 2).trans rfl
     have hfz12_0:=yi_ BK371.out 0
     have hfz12_1:=yi_ BK371.out 1
     have hfz12_2:=yi_ BK371.out 2
     go_wp2
     go_meet
     case rel=>exact⟨_,(false),zc_,H',⟨by have:=HK1.out;first|omega|exact Nat.le_refl _⟩,⟨by (with_reducible repeat (first|refine yw_ ?_ _|refine yz_ ?_|refine yv_ ?_ _));refine yeb_ (cs:=#[.int .i64 ((rd_T91 l0 x9_1).f0),.int .i64 ((rd_T91 l0 x9_1).f1),.string (⟨#[]⟩:ByteArray)]) ?_ 2 _ rfl;(with_reducible repeat (first|refine yw_ ?_ _|refine yz_ ?_|refine yv_ ?_ _));refine yeb_ (cs:=#[.int .i64 ((rd_T91 l0 x9_1).f0),.int .i64 0,.string (⟨#[]⟩:ByteArray)]) ?_ 1 _ rfl;(with_reducible repeat (first|refine yw_ ?_ _|refine yz_ ?_|refine yv_ ?_ _));refine yeb_ (cs:=#[.int .i64 0,.int .i64 0,.string (⟨#[]⟩:ByteArray)]) ?_ 0 _ rfl;(with_reducible repeat (first|refine yw_ ?_ _|refine yz_ ?_|refine yv_ ?_ _));exact BK371.out⟩,⟨by repeat (with_reducible first|exact HB.out|apply yc_|apply ya_|apply yb_|refine yq_ ?_ GE371.out)⟩⟩
    rw[if_pos c10] at H
    have c10b0:(((rd_T91 l0 x9_1).f0) == ((rd_T91 l0 x9_1).f1))=true:=beq_iff_eq.mpr c10
    have c10b1:(((rd_T91 l0 x9_1).f0) != ((rd_T91 l0 x9_1).f1))=false:=bne_eq_false_iff_eq.mpr c10
    clear c10
    have H':=Aside0.mk H
    clear H
    have hcz11_0:w6.cell? ⟨gb371,0,none⟩=some (.int .i64 0):=(yl_ BK371.out 0).trans rfl
    have hcz11_1:w6.cell? ⟨gb371,1,none⟩=some (.int .i64 0):=(yl_ BK371.out 1).trans rfl
    have hcz11_2:w6.cell? ⟨gb371,2,none⟩=some (.string (⟨#[]⟩:ByteArray)):=(yl_ BK371.out 2).trans rfl
    have hfz11_0:=yi_ BK371.out 0
    have hfz11_1:=yi_ BK371.out 1
    have hfz11_2:=yi_ BK371.out 2
    go_wp2
    go_meet
    case rel=>exact⟨_,((((rd_T91 l0 x9_1).f0) == x4_1)),zc_,H',⟨by have:=HK1.out;first|omega|exact Nat.le_refl _⟩,⟨by (with_reducible repeat (first|refine yw_ ?_ _|refine yz_ ?_|refine yv_ ?_ _));refine yeb_ (cs:=#[.int .i64 ((rd_T91 l0 x9_1).f0),.int .i64 ((rd_T91 l0 x9_1).f1),.string (⟨#[]⟩:ByteArray)]) ?_ 2 _ rfl;(with_reducible repeat (first|refine yw_ ?_ _|refine yz_ ?_|refine yv_ ?_ _));refine yeb_ (cs:=#[.int .i64 ((rd_T91 l0 x9_1).f0),.int .i64 0,.string (⟨#[]⟩:ByteArray)]) ?_ 1 _ rfl;(with_reducible repeat (first|refine yw_ ?_ _|refine yz_ ?_|refine yv_ ?_ _));refine yeb_ (cs:=#[.int .i64 0,.int .i64 0,.string (⟨#[]⟩:ByteArray)]) ?_ 0 _ rfl;(with_reducible repeat (first|refine yw_ ?_ _|refine yz_ ?_|refine yv_ ?_ _));exact BK371.out⟩,⟨by repeat (with_reducible first|exact HB.out|apply yc_|apply ya_|apply yb_|refine yq_ ?_ GE371.out)⟩⟩
   case rest =>
    clear HC5
    try clear c1
    try clear c2
    try clear c2b0
    try clear p2
    try clear c3
    try clear c3b0
    try clear p3
    try clear q3
    try clear hx3
    try clear c4
    try clear c4b0
    try clear c8
    try clear c8b0
    try clear c10
    try clear c10b0
    try clear c10b1
    try clear hcz11_0
    try clear hcz11_1
    try clear hcz11_2
    try clear hcz12_0
    try clear hcz12_1
    try clear hcz12_2
    try clear hcz7_0
    try clear hcz7_1
    try clear hcz7_2
    try clear hcz9_0
    try clear hcz9_1
    try clear hcz9_2
    try clear hfz11_0
    try clear hfz11_1
    try clear hfz11_2
    try clear hfz12_0
    try clear hfz12_1
    try clear hfz12_2
    try clear hfz7_0
    try clear hfz7_1
    try clear hfz7_2
    try clear hfz9_0
    try clear hfz9_1
    try clear hfz9_2
    try clear hx370_0
    try clear hx370_1
    try clear hx370_2
    try clear p370
    try clear q370
    obtain⟨kq,x29_4,rfl,HA,HJ4,BK371,HB⟩:=hcut
    cases kq with
    | zero=>exact absurd HA.out (by simp [yK_.j1])
    | succ kj4 =>
     have H:=HA.out
     clear HA
     simp only[yK_.j1] at H
     by_cases c13:x29_4=true
     ·subst c13
      have H1:(some true)=some r:=by rw[if_pos rfl] at H;exact H
      clear H
      have H:=H1
      clear H1
      obtain rfl:=Option.some.inj H
      go_wp2
      go_ret
      exact⟨by first|rfl|(simp [yr_,ys_] <;> rfl)|(simp [*,yr_,ys_] <;> rfl),by repeat (with_reducible first|exact HB.out|apply yc_|apply ya_|apply yb_|refine yq_ ?_ GE371.out)⟩
     replace c13:=Bool.eq_false_iff.mpr c13
     subst c13
     have H1:(if ((rd_T91 l0 x9_1).f0)=((rd_T91 l0 x9_1).f1) then (yK_.l0 kj4 (mx x3_1 ((rd_T91 l0 x9_1).f1)) ((rd_T91 l0 x9_1).f0) l0 (l0.length:Int) (wrap64 (x9_1+1))) else (yK_.l0 kj4 (mx x3_1 ((rd_T91 l0 x9_1).f1)) x4_1 l0 (l0.length:Int) (wrap64 (x9_1+1))))=some r:=by rw[if_neg (show ¬ (false=true) by decide)] at H;exact H
     clear H
     have H:=H1
     clear H1
     obtain⟨ji14,hji14⟩:∃ j_:Int,(mx x3_1 ((rd_T91 l0 x9_1).f1))=j_:=⟨_,rfl⟩
     replace H:(if ((rd_T91 l0 x9_1).f0)=((rd_T91 l0 x9_1).f1) then (yK_.l0 kj4 ji14 ((rd_T91 l0 x9_1).f0) l0 (l0.length:Int) (wrap64 (x9_1+1))) else (yK_.l0 kj4 ji14 x4_1 l0 (l0.length:Int) (wrap64 (x9_1+1))))=some r:=by first|(rw[hji14] at H;exact H)|(simp only[hji14] at H ⊢;exact H)
     have hji14_:(if x3_1 < ((rd_T91 l0 x9_1).f1) then ((rd_T91 l0 x9_1).f1) else x3_1)=ji14:=hji14
     by_cases c15:((rd_T91 l0 x9_1).f0)=((rd_T91 l0 x9_1).f1)
     rotate_left
     ·rw[if_neg c15] at H
      have c15b0:(((rd_T91 l0 x9_1).f0) == ((rd_T91 l0 x9_1).f1))=false:=beq_eq_false_iff_ne.mpr c15
      have c15b1:(((rd_T91 l0 x9_1).f0) != ((rd_T91 l0 x9_1).f1))=true:=bne_iff_ne.mpr c15
      have H':=Aside0.mk H
      clear H
      have hcz17_0:wc.cell? ⟨gb371,0,none⟩=some (.int .i64 ((rd_T91 l0 x9_1).f0)):=(yl_ BK371.out 0).trans rfl
      have hcz17_1:wc.cell? ⟨gb371,1,none⟩=some (.int .i64 ((rd_T91 l0 x9_1).f1)):=(yl_ BK371.out 1).trans rfl
      have hcz17_2:wc.cell? ⟨gb371,2,none⟩=some (.string ((rd_T91 l0 x9_1).f2)):=(yl_ BK371.out 2).trans rfl
      have hfz17_0:=yi_ BK371.out 0
      have hfz17_1:=yi_ BK371.out 1
      have hfz17_2:=yi_ BK371.out 2
      go_wp2
      go_roundg kj4
      case measure=>have:=HK1.out;have:=HJ4.out;omega
      case rel=>exact⟨(ji14),(x4_1),(wrap64 (x9_1+1)),(by first|rfl|(simp;done)|(simp only[← hji14] <;> (first|rfl|simp))|(simp [*];done)),zc_,zc_,H',⟨by have:=HK1.out;have:=HJ4.out;omega⟩,⟨by repeat (with_reducible first|exact HB.out|apply yc_|apply ya_|apply yb_|refine yq_ ?_ GE371.out)⟩⟩
     rw[if_pos c15] at H
     have c15b0:(((rd_T91 l0 x9_1).f0) == ((rd_T91 l0 x9_1).f1))=true:=beq_iff_eq.mpr c15
     have c15b1:(((rd_T91 l0 x9_1).f0) != ((rd_T91 l0 x9_1).f1))=false:=bne_eq_false_iff_eq.mpr c15
     clear c15
     have H':=Aside0.mk H
     clear H
     have hcz16_0:wc.cell? ⟨gb371,0,none⟩=some (.int .i64 ((rd_T91 l0 x9_1).f0)):=(yl_ BK371.out 0).trans rfl
     have hcz16_1:wc.cell? ⟨gb371,1,none⟩=some (.int .i64 ((rd_T91 l0 x9_1).f1)):=(yl_ BK371.out 1).trans rfl
     have hcz16_2:wc.cell? ⟨gb371,2,none⟩=some (.string ((rd_T91 l0 x9_1).f2)):=(yl_ BK371.out 2).trans rfl
     have hfz16_0:=yi_ BK371.out 0
     have hfz16_1:=yi_ BK371.out 1
     have hfz16_2:=yi_ BK371.out 2
     go_wp2
     go_roundg kj4
     case measure=>have:=HK1.out;have:=HJ4.out;omega
     case rel=>exact⟨(ji14),(((rd_T91 l0 x9_1).f0)),(wrap64 (x9_1+1)),(by first|rfl|(simp;done)|(simp only[← hji14] <;> (first|rfl|simp))|(simp [*];done)),zc_,zc_,H',⟨by have:=HK1.out;have:=HJ4.out;omega⟩,⟨by repeat (with_reducible first|exact HB.out|apply yc_|apply ya_|apply yb_|refine yq_ ?_ GE371.out)⟩⟩

end Go.Proofs.YthimblhfjfngiaaGreat.PText

namespace Go.Proofs.YthimblhfjfngiaaGreat.PText
open Go.RowKit Go.Proofs.YthimblhfjfngiaaGreatW.PrintWords Go.Proofs.YthimblhfjfngiaaGreatW.PrintLast Go.Proofs.YthimblhfjfngiaaGreatW.PrintMore
attribute [local go_sem] yT_ yU_ y5_ y6_ yI_ yJ_ yV_ yW_   -- for this text's walks alone
set_option linter.unusedVariables false
set_option linter.unusedSimpArgs false

attribute [local go_sem high] eqA91
def yfb_.f (a0_0:Int) (a0_1:Int) (a0_2:ByteArray) (a1_0:Int) (a1_1:Int) (a1_2:ByteArray):Option (Bool):=if (!(a0_0 == a1_0) || (!(a0_1 == a1_1) || (!(a0_2.toList == a1_2.toList))))=true then (if a0_0≤a1_1 then (some (decide (a1_0≤a0_1))) else (some false)) else (some false)
set_option maxHeartbeats 8000000 in
set_option maxRecDepth 100000 in
theorem yfb_.calls (a0_0:Int) (a0_1:Int) (a0_2:ByteArray) (a1_0:Int) (a1_1:Int) (a1_2:ByteArray) (r:Bool) (w:World) (h:yfb_.f a0_0 a0_1 a0_2 a1_0 a1_1 a1_2=some r) :
  Calls Tryz.prog 79 #[.agg #[.int .i64 a0_0,.int .i64 a0_1,.string a0_2],.agg #[.int .i64 a1_0,.int .i64 a1_1,.string a1_2]] w fun e w'=>e=.returned (.bool r)∧Below w.heap.size w w':=by
 have hu91:=Tryz.underlying91
 have HB:=Aside0.mk (Below.refl w.heap.size w)
 have H:(if (!(a0_0 == a1_0) || (!(a0_1 == a1_1) || (!(a0_2.toList == a1_2.toList))))=true then (if a0_0≤a1_1 then (some (decide (a1_0≤a0_1))) else (some false)) else (some false))=some r:=h
 clear h
 by_cases c3:(!(a0_0 == a1_0) || (!(a0_1 == a1_1) || (!(a0_2.toList == a1_2.toList))))=true
 rotate_left
 ·rw[if_neg c3] at H
  have c3b0:(!(a0_0 == a1_0) || (!(a0_1 == a1_1) || (!(a0_2.toList == a1_2.toList))))=false:=by simpa using c3
  clear c3
  obtain rfl:=Option.some.inj H
  go_enter Tryz.func79,Tryz.ntmps79
  go_wp2_with (first|((with_reducible refine yO_ (N:=2) rfl ?_);refine yS_ ?hg (N:=2) ?hd (cs:=#[.int .i64 a0_0,.int .i64 a0_1,.string a0_2]) (t:=91) ?hr ?_;(case hd=>rfl);(case hg=>rfl);(case hr=>first|(go_simp;done)|(go_simp;rfl));intro gb373 hg w15 hbox hb;have n0_:=Aside0.mk (yn_ za_ hb);have n1_:=Aside0.mk (hbox);have n2_:=Aside0.mk ((by rw[hg];exact (yp_ za_):w.heap.size≤gb373));have n3_:=Aside0.mk ((by rw[hg];exact (yp_ za_):w.heap.size≤gb373));clear HB;have HB:=n0_;have BK373:=n1_;have GW373:=n2_;have GE373:=n3_;clear n0_ n1_ n2_ n3_;clear hb hbox hg)|((with_reducible refine yO_ (N:=3) rfl ?_);refine yS_ ?hg (N:=3) ?hd (cs:=#[.int .i64 a1_0,.int .i64 a1_1,.string a1_2]) (t:=91) ?hr ?_;(case hd=>rfl);(case hg=>rfl);(case hr=>first|(go_simp;done)|(go_simp;rfl));intro gb374 hg w16 hbox hb;have n0_:=Aside0.mk (ylb_ (g:=gb373) (o:=.cells #[.int .i64 a0_0,.int .i64 a0_1,.string a0_2] 91 (0,0)) (by (with_reducible repeat (first|refine yw_ ?_ _|refine yz_ ?_|refine yv_ ?_ _));exact BK373.out) hb);have n1_:=Aside0.mk (yn_ (by repeat (with_reducible first|exact HB.out|apply yc_|apply ya_|apply yb_|refine yq_ ?_ GE373.out)) hb);have n2_:=Aside0.mk (hbox);have n3_:=Aside0.mk ((by rw[hg];exact (yp_ (by repeat (with_reducible first|exact HB.out|apply yc_|apply ya_|apply yb_|refine yq_ ?_ GE373.out))):w.heap.size≤gb374));have n4_:=Aside0.mk ((by rw[hg];exact (yp_ (by repeat (with_reducible first|exact HB.out|apply yc_|apply ya_|apply yb_|refine yq_ ?_ GE373.out))):w.heap.size≤gb374));have n5_:=Aside0.mk ((by rw[hg];exact Nat.ne_of_lt (blk_lt (g:=gb373) (o:=.cells #[.int .i64 a0_0,.int .i64 a0_1,.string a0_2] 91 (0,0)) (by (with_reducible repeat (first|refine yw_ ?_ _|refine yz_ ?_|refine yv_ ?_ _));exact BK373.out)):gb373≠gb374));have n6_:=Aside0.mk ((by rw[hg];exact Nat.ne_of_gt (blk_lt (g:=gb373) (o:=.cells #[.int .i64 a0_0,.int .i64 a0_1,.string a0_2] 91 (0,0)) (by (with_reducible repeat (first|refine yw_ ?_ _|refine yz_ ?_|refine yv_ ?_ _));exact BK373.out)):gb374≠gb373));clear BK373;clear HB;have BK373:=n0_;have HB:=n1_;have BK374:=n2_;have GW374:=n3_;have GE374:=n4_;have NB373_374:=n5_;have NB374_373:=n6_;clear n0_ n1_ n2_ n3_ n4_ n5_ n6_;clear hb hbox hg;have hnb17:=NB373_374.out;have hnc17:=NB374_373.out;have hcz18_0:w16.cell? ⟨gb373,0,none⟩=some (.int .i64 a0_0):=(yl_ BK373.out 0).trans rfl;have hcz18_1:w16.cell? ⟨gb373,1,none⟩=some (.int .i64 a0_1):=(yl_ BK373.out 1).trans rfl;have hcz18_2:w16.cell? ⟨gb373,2,none⟩=some (.string a0_2):=(yl_ BK373.out 2).trans rfl;have hfz18_0:=yi_ BK373.out 0;have hfz18_1:=yi_ BK373.out 1;have hfz18_2:=yi_ BK373.out 2;have hcz19_0:w16.cell? ⟨gb374,0,none⟩=some (.int .i64 a1_0):=(yl_ BK374.out 0).trans rfl;have hcz19_1:w16.cell? ⟨gb374,1,none⟩=some (.int .i64 a1_1):=(yl_ BK374.out 1).trans rfl;have hcz19_2:w16.cell? ⟨gb374,2,none⟩=some (.string a1_2):=(yl_ BK374.out 2).trans rfl;have hfz19_0:=yi_ BK374.out 0;have hfz19_1:=yi_ BK374.out 1;have hfz19_2:=yi_ BK374.out 2))
  go_ret
  exact⟨by first|rfl|(simp [yr_,ys_] <;> rfl)|(simp [*,yr_,ys_] <;> rfl),by repeat (with_reducible first|exact HB.out|apply yc_|apply ya_|apply yb_|refine yq_ ?_ GE373.out|refine yq_ ?_ GE374.out)⟩
 rw[if_pos c3] at H
 have c3b0:(!(a0_0 == a1_0) || (!(a0_1 == a1_1) || (!(a0_2.toList == a1_2.toList))))=true:=c3
 clear c3
 by_cases c4:a0_0≤a1_1
 ·rw[if_pos c4] at H
  have c4b0:decide (a0_0≤a1_1)=true:=decide_eq_true c4
  clear c4
  obtain rfl:=Option.some.inj H
  go_enter Tryz.func79,Tryz.ntmps79
  go_wp2_with (first|((with_reducible refine yO_ (N:=2) rfl ?_);refine yS_ ?hg (N:=2) ?hd (cs:=#[.int .i64 a0_0,.int .i64 a0_1,.string a0_2]) (t:=91) ?hr ?_;(case hd=>rfl);(case hg=>rfl);(case hr=>first|(go_simp;done)|(go_simp;rfl));intro gb373 hg w5 hbox hb;have n0_:=Aside0.mk (yn_ za_ hb);have n1_:=Aside0.mk (hbox);have n2_:=Aside0.mk ((by rw[hg];exact (yp_ za_):w.heap.size≤gb373));have n3_:=Aside0.mk ((by rw[hg];exact (yp_ za_):w.heap.size≤gb373));clear HB;have HB:=n0_;have BK373:=n1_;have GW373:=n2_;have GE373:=n3_;clear n0_ n1_ n2_ n3_;clear hb hbox hg)|((with_reducible refine yO_ (N:=3) rfl ?_);refine yS_ ?hg (N:=3) ?hd (cs:=#[.int .i64 a1_0,.int .i64 a1_1,.string a1_2]) (t:=91) ?hr ?_;(case hd=>rfl);(case hg=>rfl);(case hr=>first|(go_simp;done)|(go_simp;rfl));intro gb374 hg w6 hbox hb;have n0_:=Aside0.mk (ylb_ (g:=gb373) (o:=.cells #[.int .i64 a0_0,.int .i64 a0_1,.string a0_2] 91 (0,0)) (by (with_reducible repeat (first|refine yw_ ?_ _|refine yz_ ?_|refine yv_ ?_ _));exact BK373.out) hb);have n1_:=Aside0.mk (yn_ (by repeat (with_reducible first|exact HB.out|apply yc_|apply ya_|apply yb_|refine yq_ ?_ GE373.out)) hb);have n2_:=Aside0.mk (hbox);have n3_:=Aside0.mk ((by rw[hg];exact (yp_ (by repeat (with_reducible first|exact HB.out|apply yc_|apply ya_|apply yb_|refine yq_ ?_ GE373.out))):w.heap.size≤gb374));have n4_:=Aside0.mk ((by rw[hg];exact (yp_ (by repeat (with_reducible first|exact HB.out|apply yc_|apply ya_|apply yb_|refine yq_ ?_ GE373.out))):w.heap.size≤gb374));have n5_:=Aside0.mk ((by rw[hg];exact Nat.ne_of_lt (blk_lt (g:=gb373) (o:=.cells #[.int .i64 a0_0,.int .i64 a0_1,.string a0_2] 91 (0,0)) (by (with_reducible repeat (first|refine yw_ ?_ _|refine yz_ ?_|refine yv_ ?_ _));exact BK373.out)):gb373≠gb374));have n6_:=Aside0.mk ((by rw[hg];exact Nat.ne_of_gt (blk_lt (g:=gb373) (o:=.cells #[.int .i64 a0_0,.int .i64 a0_1,.string a0_2] 91 (0,0)) (by (with_reducible repeat (first|refine yw_ ?_ _|refine yz_ ?_|refine yv_ ?_ _));exact BK373.out)):gb374≠gb373));clear BK373;clear HB;have BK373:=n0_;have HB:=n1_;have BK374:=n2_;have GW374:=n3_;have GE374:=n4_;have NB373_374:=n5_;have NB374_373:=n6_;clear n0_ n1_ n2_ n3_ n4_ n5_ n6_;clear hb hbox hg;have hnb7:=NB373_374.out;have hnc7:=NB374_373.out;have hcz8_0:w6.cell? ⟨gb373,0,none⟩=some (.int .i64 a0_0):=(yl_ BK373.out 0).trans rfl;have hcz8_1:w6.cell? ⟨gb373,1,none⟩=some (.int .i64 a0_1):=(yl_ BK373.out 1).trans rfl;have hcz8_2:w6.cell? ⟨gb373,2,none⟩=some (.string a0_2):=(yl_ BK373.out 2).trans rfl;have hfz8_0:=yi_ BK373.out 0;have hfz8_1:=yi_ BK373.out 1;have hfz8_2:=yi_ BK373.out 2;have hcz9_0:w6.cell? ⟨gb374,0,none⟩=some (.int .i64 a1_0):=(yl_ BK374.out 0).trans rfl;have hcz9_1:w6.cell? ⟨gb374,1,none⟩=some (.int .i64 a1_1):=(yl_ BK374.out 1).trans rfl;have hcz9_2:w6.cell? ⟨gb374,2,none⟩=some (.string a1_2):=(yl_ BK374.out 2).trans rfl;have hfz9_0:=yi_ BK374.out 0;have hfz9_1:=yi_ BK374.out 1;have hfz9_2:=yi_ BK374.out 2))
  go_ret
  exact⟨by first|rfl|(simp [yr_,ys_] <;> rfl)|(simp [*,yr_,ys_] <;> rfl),by repeat (with_reducible first|exact HB.out|apply yc_|apply ya_|apply yb_|refine yq_ ?_ GE373.out|refine yq_ ?_ GE374.out)⟩
 rw[if_neg c4] at H
 have c4b0:decide (a0_0≤a1_1)=false:=decide_eq_false c4
 clear c4
 obtain rfl:=Option.some.inj H
 go_enter Tryz.func79,Tryz.ntmps79
 go_wp2_with (first|((with_reducible refine yO_ (N:=2) rfl ?_);refine yS_ ?hg (N:=2) ?hd (cs:=#[.int .i64 a0_0,.int .i64 a0_1,.string a0_2]) (t:=91) ?hr ?_;(case hd=>rfl);(case hg=>rfl);(case hr=>first|(go_simp;done)|(go_simp;rfl));intro gb373 hg w10 hbox hb;have n0_:=Aside0.mk (yn_ za_ hb);have n1_:=Aside0.mk (hbox);have n2_:=Aside0.mk ((by rw[hg];exact (yp_ za_):w.heap.size≤gb373));have n3_:=Aside0.mk ((by rw[hg];exact (yp_ za_):w.heap.size≤gb373));clear HB;have HB:=n0_;have BK373:=n1_;have GW373:=n2_;have GE373:=n3_;clear n0_ n1_ n2_ n3_;clear hb hbox hg)|((with_reducible refine yO_ (N:=3) rfl ?_);refine yS_ ?hg (N:=3) ?hd (cs:=#[.int .i64 a1_0,.int .i64 a1_1,.string a1_2]) (t:=91) ?hr ?_;(case hd=>rfl);(case hg=>rfl);(case hr=>first|(go_simp;done)|(go_simp;rfl));intro gb374 hg w11 hbox hb;have n0_:=Aside0.mk (ylb_ (g:=gb373) (o:=.cells #[.int .i64 a0_0,.int .i64 a0_1,.string a0_2] 91 (0,0)) (by (with_reducible repeat (first|refine yw_ ?_ _|refine yz_ ?_|refine yv_ ?_ _));exact BK373.out) hb);have n1_:=Aside0.mk (yn_ (by repeat (with_reducible first|exact HB.out|apply yc_|apply ya_|apply yb_|refine yq_ ?_ GE373.out)) hb);have n2_:=Aside0.mk (hbox);have n3_:=Aside0.mk ((by rw[hg];exact (yp_ (by repeat (with_reducible first|exact HB.out|apply yc_|apply ya_|apply yb_|refine yq_ ?_ GE373.out))):w.heap.size≤gb374));have n4_:=Aside0.mk ((by rw[hg];exact (yp_ (by repeat (with_reducible first|exact HB.out|apply yc_|apply ya_|apply yb_|refine yq_ ?_ GE373.out))):w.heap.size≤gb374));have n5_:=Aside0.mk ((by rw[hg];exact Nat.ne_of_lt (blk_lt (g:=gb373) (o:=.cells #[.int .i64 a0_0,.int .i64 a0_1,.string a0_2] 91 (0,0)) (by (with_reducible repeat (first|refine yw_ ?_ _|refine yz_ ?_|refine yv_ ?_ _));exact BK373.out)):gb373≠gb374));have n6_:=Aside0.mk ((by rw[hg];exact Nat.ne_of_gt (blk_lt (g:=gb373) (o:=.cells #[.int .i64 a0_0,.int .i64 a0_1,.string a0_2] 91 (0,0)) (by (with_reducible repeat (first|refine yw_ ?_ _|refine yz_ ?_|refine yv_ ?_ _));exact BK373.out)):gb374≠gb373));clear BK373;clear HB;have BK373:=n0_;have HB:=n1_;have BK374:=n2_;have GW374:=n3_;have GE374:=n4_;have NB373_374:=n5_;have NB374_373:=n6_;clear n0_ n1_ n2_ n3_ n4_ n5_ n6_;clear hb hbox hg;have hnb12:=NB373_374.out;have hnc12:=NB374_373.out;have hcz13_0:w11.cell? ⟨gb373,0,none⟩=some (.int .i64 a0_0):=(yl_ BK373.out 0).trans rfl;have hcz13_1:w11.cell? ⟨gb373,1,none⟩=some (.int .i64 a0_1):=(yl_ BK373.out 1).trans rfl;have hcz13_2:w11.cell? ⟨gb373,2,none⟩=some (.string a0_2):=(yl_ BK373.out 2).trans rfl;have hfz13_0:=yi_ BK373.out 0;have hfz13_1:=yi_ BK373.out 1;have hfz13_2:=yi_ BK373.out 2;have hcz14_0:w11.cell? ⟨gb374,0,none⟩=some (.int .i64 a1_0):=(yl_ BK374.out 0).trans rfl;have hcz14_1:w11.cell? ⟨gb374,1,none⟩=some (.int .i64 a1_1):=(yl_ BK374.out 1).trans rfl;have hcz14_2:w11.cell? ⟨gb374,2,none⟩=some (.string a1_2):=(yl_ BK374.out 2).trans rfl;have hfz14_0:=yi_ BK374.out 0;have hfz14_1:=yi_ BK374.out 1;have hfz14_2:=yi_ BK374.out 2))
 go_ret
 exact⟨by first|rfl|(simp [yr_,ys_] <;> rfl)|(simp [*,yr_,ys_] <;> rfl),by repeat (with_reducible first|exact HB.out|apply yc_|apply ya_|apply yb_|refine yq_ ?_ GE373.out|refine yq_ ?_ GE374.out)⟩

end Go.Proofs.YthimblhfjfngiaaGreat.PText

namespace Go.Proofs.YthimblhfjfngiaaGreat.PText
open Go.RowKit Go.Proofs.YthimblhfjfngiaaGreatW.PrintWords Go.Proofs.YthimblhfjfngiaaGreatW.PrintLast Go.Proofs.YthimblhfjfngiaaGreatW.PrintMore
attribute [local go_sem] yT_ yU_ y5_ y6_ yI_ yJ_ yV_ yW_   -- for this text's walks alone
set_option linter.unusedVariables false
set_option linter.unusedSimpArgs false

mutual
def ym_.l0:Nat→List (S91)→List (S91)→List (S138)→Int→Option ((List (S138)) × Int)
 | 0,_,_,_,_=>none
 | k+1,x8,x10,x11,x12=>if x12 < (x8.length:Int) then (ym_.l1 k x8 x10 x11 x12 0) else (some (x11,0))
def ym_.l1:Nat→List (S91)→List (S91)→List (S138)→Int→Int→Option ((List (S138)) × Int)
 | 0,_,_,_,_,_=>none
 | k+1,x8,x10,x11,x12,x13=>if x13 < (x10.length:Int) then (if 0≤x12 then (if x12 < (x8.length:Int) then (if 0≤x13 then ((yfb_.f ((rd_T91 x8 x12).f0) ((rd_T91 x8 x12).f1) ((rd_T91 x8 x12).f2) ((rd_T91 x10 x13).f0) ((rd_T91 x10 x13).f1) ((rd_T91 x10 x13).f2)).bind fun t385=>(if t385=true then (if x11.length < 8796093022208 then (ym_.l1 k x8 x10 (x11++[(⟨x12,x13⟩:S138)]) x12 (wrap64 (x13+1))) else (none)) else (ym_.l1 k x8 x10 x11 x12 (wrap64 (x13+1))))) else (none)) else (none)) else (none)) else (ym_.l0 k x8 x10 x11 (wrap64 (x12+1)))
end
def ym_.f (k:Nat) (a0:ByteArray) (a1:ByteArray) (a2:ByteArray):Option ((List (S138)) × Int):=(ye_.f k a0 a1).bind fun bt375=>(if bt375.2=0 then ((ye_.f k a0 a2).bind fun bt379=>(if bt379.2=0 then (ym_.l0 k bt375.1 bt379.1 ([]:List (S138)) 0) else (some (([]:List (S138)),bt379.2)))) else (some (([]:List (S138)),bt375.2)))
def ym_.T14:Bool × List (List Nat × List Nat):=(true,[([],[]),([],[]),([0,1],[0,1]),([2],[2]),([],[]),([],[]),([4,5],[4,5]),([6],[6]),([3,7],[3,7])])
def ym_.B14:List Nat:=[0,0,3,7,0,0,48,112,255]
theorem ym_.tab14:rtab .any (opsOf Tryz.f63 14)=ym_.T14:=by kernel_rfl
theorem ym_.bits14:waitsOk ym_.T14.2 ym_.B14=true:=by kernel_rfl
set_option maxHeartbeats 8000000 in
set_option maxRecDepth 100000 in
theorem ym_.calls (k:Nat) (a0:ByteArray) (a1:ByteArray) (a2:ByteArray) (r1:List (S138)) (r2:Int) (w:World) (h:ym_.f k a0 a1 a2=some (r1,r2)) :
  Calls Tryz.prog 63 #[.string a0,.string a1,.string a2] w fun e w'=>∃ v0_:Value,e=.returned (.tuple #[v0_,.int .i64 r2])∧Kd.R k138 138 w' w.heap.size (fun _=>True) v0_ r1∧Below w.heap.size w w':=by
 have hu91:=Tryz.underlying91
 have hu138:=Tryz.underlying138
 have HB:=Aside0.mk (Below.refl w.heap.size w)
 have H:((ye_.f k a0 a1).bind fun bt375=>(if bt375.2=0 then ((ye_.f k a0 a2).bind fun bt379=>(if bt379.2=0 then (ym_.l0 k bt375.1 bt379.1 ([]:List (S138)) 0) else (some (([]:List (S138)),bt379.2)))) else (some (([]:List (S138)),bt375.2))))=some (r1,r2):=h
 clear h
 replace H:=Option.bind_eq_some_iff.mp H
 obtain⟨⟨t375,t376⟩,A40,H⟩:=H
 replace H:(if t376=0 then ((ye_.f k a0 a2).bind fun bt379=>(if bt379.2=0 then (ym_.l0 k t375 bt379.1 ([]:List (S138)) 0) else (some (([]:List (S138)),bt379.2)))) else (some (([]:List (S138)),t376)))=some (r1,r2):=H
 have A4:=Aside0.mk A40
 clear A40
 by_cases c5:t376=0
 rotate_left
 ·rw[if_neg c5] at H
  have c5b0:(t376 == 0)=false:=beq_eq_false_iff_ne.mpr c5
  have c5b1:(t376 != 0)=true:=bne_iff_ne.mpr c5
  simp only[Option.some.injEq,Prod.mk.injEq] at H
  obtain⟨rfl,rfl⟩:=H
  go_enter Tryz.func63,Tryz.ntmps63
  go_wp2_with (first|((with_reducible refine yA_ (f:=32) rfl ?_);refine goesL_ (some 17) rfl rfl Tryz.func32 ze_ rfl #[.string a0,.string a1] rfl zb_ ?_;(with_reducible refine (ye_.calls k a0 a1 t375 t376 _ A4.out).mono ?_);rintro e w30 ⟨v377,rfl,ho0,hb⟩;refine⟨_,rfl,?_⟩;have n0_:=Aside0.mk (Kd.y0_ ho0 (yp_ za_));have n1_:=Aside0.mk (yn_ za_ hb);clear HB;have HO378:=n0_;have HB:=n1_;clear n0_ n1_;(try clear hb);(try clear hb2);(try clear hk);(try clear hi);(try clear ho0)))
  go_ret2
  exact⟨_,by first|rfl|(simp [yr_,ys_] <;> rfl)|(simp [*,yr_,ys_] <;> rfl),by first|exact Kd.R_nil _ _ _ _ _|exact Kd.N_nil _ _ _ _ _|exact Kd.V_nil _ _ _ _ _|exact Kd.Q_nil _ _ _ _ _|exact Kd.S_nil _ _ _ _ _,by repeat (with_reducible first|exact HB.out|apply yc_|apply ya_|apply yb_)⟩
 rw[if_pos c5] at H
 have c5b0:(t376 == 0)=true:=beq_iff_eq.mpr c5
 have c5b1:(t376 != 0)=false:=bne_eq_false_iff_eq.mpr c5
 clear c5
 replace H:=Option.bind_eq_some_iff.mp H
 obtain⟨⟨t379,t380⟩,A60,H⟩:=H
 replace H:(if t380=0 then (ym_.l0 k t375 t379 ([]:List (S138)) 0) else (some (([]:List (S138)),t380)))=some (r1,r2):=H
 have A6:=Aside0.mk A60
 clear A60
 by_cases c7:t380=0
 rotate_left
 ·rw[if_neg c7] at H
  have c7b0:(t380 == 0)=false:=beq_eq_false_iff_ne.mpr c7
  have c7b1:(t380 != 0)=true:=bne_iff_ne.mpr c7
  simp only[Option.some.injEq,Prod.mk.injEq] at H
  obtain⟨rfl,rfl⟩:=H
  go_enter Tryz.func63,Tryz.ntmps63
  go_wp2_with (first|((with_reducible refine yA_ (f:=32) rfl ?_);refine goesL_ (some 17) rfl rfl Tryz.func32 ze_ rfl #[.string a0,.string a1] rfl zb_ ?_;(with_reducible refine (ye_.calls k a0 a1 t375 t376 _ A4.out).mono ?_);rintro e w28 ⟨v377,rfl,ho0,hb⟩;refine⟨_,rfl,?_⟩;have n0_:=Aside0.mk (Kd.y0_ ho0 (yp_ za_));have n1_:=Aside0.mk (yn_ za_ hb);clear HB;have HO378:=n0_;have HB:=n1_;clear n0_ n1_;(try clear hb);(try clear hb2);(try clear hk);(try clear hi);(try clear ho0))|((with_reducible refine yA_ (f:=32) rfl ?_);refine goesL_ (some 26) rfl rfl Tryz.func32 ze_ rfl #[.string a0,.string a2] rfl zb_ ?_;(with_reducible refine (ye_.calls k a0 a2 t379 t380 _ A6.out).mono ?_);rintro e w29 ⟨v381,rfl,ho0,hb⟩;refine⟨_,rfl,?_⟩;have n0_:=Aside0.mk (Kd.yVb_ (by (with_reducible repeat (first|apply Kd.yj_|apply Kd.yk_|apply Kd.R_drew));exact HO378.out) (Kd.R_base ho0) hb);have n1_:=Aside0.mk (Kd.y0_ (Kd.R_new' ho0 (Kd.R_lt (by (with_reducible repeat (first|apply Kd.yj_|apply Kd.yk_|apply Kd.R_drew));exact HO378.out))) (yp_ za_));have n2_:=Aside0.mk (yn_ za_ hb);clear HO378;clear HB;have HO378:=n0_;have HO382:=n1_;have HB:=n2_;clear n0_ n1_ n2_;(try clear hb);(try clear hb2);(try clear hk);(try clear hi);(try clear ho0)))
  go_ret2
  exact⟨_,by first|rfl|(simp [yr_,ys_] <;> rfl)|(simp [*,yr_,ys_] <;> rfl),by first|exact Kd.R_nil _ _ _ _ _|exact Kd.N_nil _ _ _ _ _|exact Kd.V_nil _ _ _ _ _|exact Kd.Q_nil _ _ _ _ _|exact Kd.S_nil _ _ _ _ _,by repeat (with_reducible first|exact HB.out|apply yc_|apply ya_|apply yb_)⟩
 rw[if_pos c7] at H
 have c7b0:(t380 == 0)=true:=beq_iff_eq.mpr c7
 have c7b1:(t380 != 0)=false:=bne_eq_false_iff_eq.mpr c7
 clear c7
 have H':=Aside0.mk H
 clear H
 go_enter Tryz.func63,Tryz.ntmps63
 go_wp2_with (first|((with_reducible refine yA_ (f:=32) rfl ?_);refine goesL_ (some 17) rfl rfl Tryz.func32 ze_ rfl #[.string a0,.string a1] rfl zb_ ?_;(with_reducible refine (ye_.calls k a0 a1 t375 t376 _ A4.out).mono ?_);rintro e w8 ⟨v377,rfl,ho0,hb⟩;refine⟨_,rfl,?_⟩;have n0_:=Aside0.mk (Kd.y0_ ho0 (yp_ za_));have n1_:=Aside0.mk (yn_ za_ hb);clear HB;have HO378:=n0_;have HB:=n1_;clear n0_ n1_;(try clear hb);(try clear hb2);(try clear hk);(try clear hi);(try clear ho0))|((with_reducible refine yA_ (f:=32) rfl ?_);refine goesL_ (some 26) rfl rfl Tryz.func32 ze_ rfl #[.string a0,.string a2] rfl zb_ ?_;(with_reducible refine (ye_.calls k a0 a2 t379 t380 _ A6.out).mono ?_);rintro e w9 ⟨v381,rfl,ho0,hb⟩;refine⟨_,rfl,?_⟩;have n0_:=Aside0.mk (Kd.yVb_ (by (with_reducible repeat (first|apply Kd.yj_|apply Kd.yk_|apply Kd.R_drew));exact HO378.out) (Kd.R_base ho0) hb);have n1_:=Aside0.mk (Kd.y0_ (Kd.R_new' ho0 (Kd.R_lt (by (with_reducible repeat (first|apply Kd.yj_|apply Kd.yk_|apply Kd.R_drew));exact HO378.out))) (yp_ za_));have n2_:=Aside0.mk (yn_ za_ hb);clear HO378;clear HB;have HO378:=n0_;have HO382:=n1_;have HB:=n2_;clear n0_ n1_ n2_;(try clear hb);(try clear hb2);(try clear hk);(try clear hi);(try clear ho0)))
 try simp only[Act.put,List.setIfInBounds_toArray,List.set_cons_succ,List.set_cons_zero]
 go_loopg [11,12] k (fun kq v11 v12 w'=>∃ (x11_1:List (S138)) (x12_1:Int),v12=.int .i64 x12_1∧Aside0 (ym_.l0 kq t375 t379 x11_1 x12_1=some (r1,r2))∧Aside0 (kq≤k)∧Aside0 (Kd.R k91 91 w' w.heap.size (fun k_=>some k_≠(v381:Value).ownBlock) v377 t375)∧Aside0 (Kd.R k91 91 w' w.heap.size (fun k_=>some k_≠(v377:Value).ownBlock) v381 t379)∧Aside0 (Kd.R k138 138 w' w.heap.size (fun _=>True) v11 x11_1)∧Aside0 (Below w.heap.size w w'))
 case atStart=>exact⟨(([]:List (S138))),(0),zc_,H',⟨Nat.le_refl _⟩,⟨by (with_reducible repeat (first|apply Kd.yj_|apply Kd.yk_|apply Kd.R_drew));exact Kd.R_mono HO378.out (fun _ hk=>hk.2)⟩,⟨by (with_reducible repeat (first|apply Kd.yj_|apply Kd.yk_|apply Kd.R_drew));exact Kd.R_mono HO382.out (fun _ hk=>hk.2)⟩,⟨by first|exact Kd.R_nil _ _ _ _ _|exact Kd.N_nil _ _ _ _ _|exact Kd.V_nil _ _ _ _ _|exact Kd.Q_nil _ _ _ _ _|exact Kd.S_nil _ _ _ _ _⟩,⟨by repeat (with_reducible first|exact HB.out|apply yc_|apply ya_|apply yb_)⟩⟩
 case round =>
  clear H'
  try clear p2
  try clear c3
  try clear c5
  try clear c5b0
  try clear c5b1
  try clear c6
  try clear c7
  try clear c7b0
  try clear c7b1
  obtain⟨x11_1,x12_1,rfl,HA,HK1,HO_8,HO_10,HO_11,HB⟩:=hrel
  cases gk with
  | zero=>exact absurd HA.out (by simp [ym_.l0])
  | succ k1 =>
   have H:=HA.out
   clear HA
   simp only[ym_.l0] at H
   by_cases c10:x12_1 < (t375.length:Int)
   rotate_left
   ·rw[if_neg c10] at H
    have c10b0:decide (x12_1 < (t375.length:Int))=false:=decide_eq_false c10
    clear c10
    simp only[Option.some.injEq,Prod.mk.injEq] at H
    obtain⟨rfl,rfl⟩:=H
    obtain⟨Ao27,co27,eo27⟩:=Kd.yE_ HO_8.out
    subst eo27
    go_wp2
    go_ret2
    exact⟨_,by first|rfl|(simp [yr_,ys_] <;> rfl)|(simp [*,yr_,ys_] <;> rfl),by (with_reducible repeat (first|apply Kd.yj_|apply Kd.yk_|apply Kd.R_drew));exact HO_11.out,by repeat (with_reducible first|exact HB.out|apply yc_|apply ya_|apply yb_)⟩
   rw[if_pos c10] at H
   have c10b0:decide (x12_1 < (t375.length:Int))=true:=decide_eq_true c10
   clear c10
   have H':=Aside0.mk H
   clear H
   obtain⟨Ao11,co11,eo11⟩:=Kd.yE_ HO_8.out
   subst eo11
   go_wp2
   try simp only[Act.put,List.setIfInBounds_toArray,List.set_cons_succ,List.set_cons_zero]
   go_loopg [11,13] k1 (fun kq v11 v13 w'=>∃ (x11_2:List (S138)) (x13_2:Int),v13=.int .i64 x13_2∧Aside0 (ym_.l1 kq t375 t379 x11_2 x12_1 x13_2=some (r1,r2))∧Aside0 (kq≤k1)∧Aside0 (Kd.R k91 91 w' w.heap.size (fun k_=>some k_≠(v381:Value).ownBlock) (.slice Ao11 t375.length co11) t375)∧Aside0 (Kd.R k91 91 w' w.heap.size (fun k_=>some k_≠((.slice Ao11 t375.length co11):Value).ownBlock) v381 t379)∧Aside0 (Kd.R k138 138 w' w.heap.size (fun _=>True) v11 x11_2)∧Aside0 (Below w.heap.size w w'))
   case atStart=>exact⟨(x11_1),(0),zc_,H',⟨Nat.le_refl _⟩,⟨by (with_reducible repeat (first|apply Kd.yj_|apply Kd.yk_|apply Kd.R_drew));exact HO_8.out⟩,⟨by (with_reducible repeat (first|apply Kd.yj_|apply Kd.yk_|apply Kd.R_drew));exact HO_10.out⟩,⟨by (with_reducible repeat (first|apply Kd.yj_|apply Kd.yk_|apply Kd.R_drew));exact HO_11.out⟩,⟨by repeat (with_reducible first|exact HB.out|apply yc_|apply ya_|apply yb_)⟩⟩
   case round =>
    clear H'
    try clear c1
    try clear p2
    try clear c3
    try clear c5
    try clear c5b0
    try clear c5b1
    try clear c6
    try clear c7
    try clear c7b0
    try clear c7b1
    try clear c10
    try clear c10b0
    try clear p2
    obtain⟨x11_2,x13_2,rfl,HA,HK2,HO_8,HO_10,HO_11,HB⟩:=hrel
    cases gk with
    | zero=>exact absurd HA.out (by simp [ym_.l1])
    | succ k2 =>
     have H:=HA.out
     clear HA
     simp only[ym_.l1] at H
     by_cases c12:x13_2 < (t379.length:Int)
     rotate_left
     ·rw[if_neg c12] at H
      have c12b0:decide (x13_2 < (t379.length:Int))=false:=decide_eq_false c12
      clear c12
      have H':=Aside0.mk H
      clear H
      obtain⟨Ao26,co26,eo26⟩:=Kd.yE_ HO_10.out
      subst eo26
      go_wp2
      go_roundg k2
      case measure=>have:=HK1.out;have:=HK2.out;omega
      case rel=>exact⟨(x11_2),(wrap64 (x12_1+1)),zc_,H',⟨by have:=HK1.out;have:=HK2.out;omega⟩,⟨by (with_reducible repeat (first|apply Kd.yj_|apply Kd.yk_|apply Kd.R_drew));exact HO_8.out⟩,⟨by (with_reducible repeat (first|apply Kd.yj_|apply Kd.yk_|apply Kd.R_drew));exact HO_10.out⟩,⟨by (with_reducible repeat (first|apply Kd.yj_|apply Kd.yk_|apply Kd.R_drew));exact HO_11.out⟩,⟨by repeat (with_reducible first|exact HB.out|apply yc_|apply ya_|apply yb_)⟩⟩
     rw[if_pos c12] at H
     have c12b0:decide (x13_2 < (t379.length:Int))=true:=decide_eq_true c12
     clear c12
     by_cases c13:0≤x12_1
     rotate_left
     ·rw[if_neg c13] at H
      exact absurd H (by simp)
     rw[if_pos c13] at H
     have c13b0:decide (0≤x12_1)=true:=decide_eq_true c13
     clear c13
     by_cases c14:x12_1 < (t375.length:Int)
     rotate_left
     ·rw[if_neg c14] at H
      exact absurd H (by simp)
     rw[if_pos c14] at H
     have c14b0:decide (x12_1 < (t375.length:Int))=true:=decide_eq_true c14
     clear c14
     by_cases c15:0≤x13_2
     rotate_left
     ·rw[if_neg c15] at H
      exact absurd H (by simp)
     rw[if_pos c15] at H
     have c15b0:decide (0≤x13_2)=true:=decide_eq_true c15
     clear c15
     replace H:=Option.bind_eq_some_iff.mp H
     obtain⟨t385,A160,H⟩:=H
     replace H:(if t385=true then (if x11_2.length < 8796093022208 then (ym_.l1 k2 t375 t379 (x11_2++[(⟨x12_1,x13_2⟩:S138)]) x12_1 (wrap64 (x13_2+1))) else (none)) else (ym_.l1 k2 t375 t379 x11_2 x12_1 (wrap64 (x13_2+1))))=some (r1,r2):=H
     have A16:=Aside0.mk A160
     clear A160
     by_cases c17:t385=true
     rotate_left
     ·replace c17:=Bool.eq_false_iff.mpr c17
      subst c17
      have H1:(ym_.l1 k2 t375 t379 x11_2 x12_1 (wrap64 (x13_2+1)))=some (r1,r2):=by rw[if_neg (show ¬ (false=true) by decide)] at H;exact H
      clear H
      have H:=H1
      clear H1
      have H':=Aside0.mk H
      clear H
      obtain⟨Ao23,co23,eo23⟩:=Kd.yE_ HO_10.out
      subst eo23
      try go_wp2
      have n0_:=Aside0.mk (Kd.R_drew HO_8.out)
      have n1_:=Aside0.mk (Kd.R_drew HO_10.out)
      have n2_:=Aside0.mk (Kd.R_drew HO_11.out)
      have n3_:=Aside0.mk (yb_ HB.out)
      clear HO_8
      clear HO_10
      clear HO_11
      clear HB
      have HO_8:=n0_
      have HO_10:=n1_
      have HO_11:=n2_
      have HB:=n3_
      clear n0_ n1_ n2_ n3_
      have p383:0≤(x12_1:Int):=of_decide_eq_true zd_
      have q383:x12_1 < (t375.length:Int):=of_decide_eq_true zd_
      obtain⟨ad383,e383,hx383_0,hx383_1,hx383_2⟩:=at_T91 (Kd.yt_ HO_8.out).2.2 x12_1 p383 q383
      cases e383
      replace p383:=eq_true p383
      replace q383:=eq_true q383
      have p384:0≤(x13_2:Int):=of_decide_eq_true zd_
      have q384:x13_2 < (t379.length:Int):=of_decide_eq_true zd_
      obtain⟨ad384,e384,hx384_0,hx384_1,hx384_2⟩:=at_T91 (Kd.yt_ HO_10.out).2.2 x13_2 p384 q384
      cases e384
      replace p384:=eq_true p384
      replace q384:=eq_true q384
      refine start_ (n:=9) (S:=fun w'=>w'.cell? (ad383.add ((x12_1).toNat * 3))=some (.int .i64 ((rd_T91 t375 x12_1).f0))∧w'.cell? ⟨(ad383.add ((x12_1).toNat * 3)).block,(ad383.add ((x12_1).toNat * 3)).off+1,none⟩=some (.int .i64 ((rd_T91 t375 x12_1).f1))∧w'.cell? ⟨(ad383.add ((x12_1).toNat * 3)).block,(ad383.add ((x12_1).toNat * 3)).off+2,none⟩=some (.string ((rd_T91 t375 x12_1).f2))∧w'.cell? (ad384.add ((x13_2).toNat * 3))=some (.int .i64 ((rd_T91 t379 x13_2).f0))∧w'.cell? ⟨(ad384.add ((x13_2).toNat * 3)).block,(ad384.add ((x13_2).toNat * 3)).off+1,none⟩=some (.int .i64 ((rd_T91 t379 x13_2).f1))∧w'.cell? ⟨(ad384.add ((x13_2).toNat * 3)).block,(ad384.add ((x13_2).toNat * 3)).off+2,none⟩=some (.string ((rd_T91 t379 x13_2).f2))) (ds:=[]) (bA 9 0) ze_ rfl rfl ⟨hx383_0,hx383_1,hx383_2,hx384_0,hx384_1,hx384_2⟩ (fun hHeld=>?_);refine yQ_ ym_.tab14 ym_.bits14 (fun HT_ HW_=>?_)
      generalize wr.drew=w24 at HO_8 HO_10 HO_11 HB hx383_0 hx383_1 hx383_2 hx384_0 hx384_1 hx384_2 hHeld ⊢
      refine pu_ 0 44 (bA 9 1) HT_ ?_
      refine pu_ 1 45 (bA 9 3) HT_ ?_
      refine pu_ 2 46 (bA 9 7) HT_ ?_
      refine pu_ 4 48 (bA 9 23) HT_ ?_
      refine pu_ 5 49 (bA 9 55) HT_ ?_
      refine pu_ 6 50 (bA 9 119) HT_ ?_
      refine tk_ 3 47 (bA 9 127) rfl HT_ HW_ hHeld (by rintro w' ⟨s0,s1,s2,s3,s4,s5⟩;go_simp;with_reducible rfl) ?_
      refine tk_ 7 51 (bA 9 255) rfl HT_ HW_ hHeld (by rintro w' ⟨s0,s1,s2,s3,s4,s5⟩;go_simp;with_reducible rfl) ?_
      refine one_ (i:=8) (N:=some 52) (bA 9 511) rfl rfl (one_of HT_.out ze_) (by decide) (fun K hK=>?_)
      refine goes_ Tryz.func79 ze_ rfl #[.agg #[.int .i64 ((rd_T91 t375 x12_1).f0),.int .i64 ((rd_T91 t375 x12_1).f1),.string ((rd_T91 t375 x12_1).f2)],.agg #[.int .i64 ((rd_T91 t379 x13_2).f0),.int .i64 ((rd_T91 t379 x13_2).f1),.string ((rd_T91 t379 x13_2).f2)]] (by rfl) rfl rfl zb_ ?_
      with_reducible refine (yfb_.calls ((rd_T91 t375 x12_1).f0) ((rd_T91 t375 x12_1).f1) ((rd_T91 t375 x12_1).f2) ((rd_T91 t379 x13_2).f0) ((rd_T91 t379 x13_2).f1) ((rd_T91 t379 x13_2).f2) false _ A16.out).mono ?_
      rintro e w25 ⟨rfl,hb⟩
      have HS0_:=(hb.cell (World.block_lt_of_cell? _ _ (hHeld.1))).trans (hHeld.1)
      have HS1_:=(hb.cell (World.block_lt_of_cell? _ _ (hHeld.2.1))).trans (hHeld.2.1)
      have HS2_:=(hb.cell (World.block_lt_of_cell? _ _ (hHeld.2.2.1))).trans (hHeld.2.2.1)
      have HS3_:=(hb.cell (World.block_lt_of_cell? _ _ (hHeld.2.2.2.1))).trans (hHeld.2.2.2.1)
      have HS4_:=(hb.cell (World.block_lt_of_cell? _ _ (hHeld.2.2.2.2.1))).trans (hHeld.2.2.2.2.1)
      have HS5_:=(hb.cell (World.block_lt_of_cell? _ _ (hHeld.2.2.2.2.2))).trans (hHeld.2.2.2.2.2)
      refine⟨_,rfl,?_⟩
      have n0_:=Aside0.mk (Kd.yH_ (by (with_reducible repeat (first|apply Kd.yj_|apply Kd.yk_|apply Kd.R_drew));exact HO_8.out) hb)
      have n1_:=Aside0.mk (Kd.yH_ (by (with_reducible repeat (first|apply Kd.yj_|apply Kd.yk_|apply Kd.R_drew));exact HO_10.out) hb)
      have n2_:=Aside0.mk (Kd.yH_ zh_ hb)
      have n3_:=Aside0.mk (yn_ za_ hb)
      clear HO_8
      clear HO_10
      clear HO_11
      clear HB
      have HO_8:=n0_
      have HO_10:=n1_
      have HO_11:=n2_
      have HB:=n3_
      clear n0_ n1_ n2_ n3_
      (try clear hb)
      (try clear hb2)
      (try clear hk)
      (try clear hi)
      refine hK.out _ _ ⟨HS0_,HS1_,HS2_,HS3_,HS4_,HS5_⟩ (fun hHeld=>?_)
      clear hK K
      refine norm_ (a':=?_) ?_ ?_
      rotate_left
      ·show Act.put _ (some 52) _=_
       simp only[Act.put,q1_,q2_,q3_,i64_w,i32_w]
       rfl
      refine done_ (ycb_ HT_.out ze_) ?_
      try go_wp2
      go_roundg k2
      case measure=>have:=HK1.out;have:=HK2.out;omega
      case rel=>exact⟨(x11_2),(wrap64 (x13_2+1)),zc_,H',⟨by have:=HK1.out;have:=HK2.out;omega⟩,⟨by (with_reducible repeat (first|apply Kd.yj_|apply Kd.yk_|apply Kd.R_drew));exact HO_8.out⟩,⟨by (with_reducible repeat (first|apply Kd.yj_|apply Kd.yk_|apply Kd.R_drew));exact HO_10.out⟩,⟨by (with_reducible repeat (first|apply Kd.yj_|apply Kd.yk_|apply Kd.R_drew));exact HO_11.out⟩,⟨by repeat (with_reducible first|exact HB.out|apply yc_|apply ya_|apply yb_)⟩⟩
     subst c17
     have H1:(if x11_2.length < 8796093022208 then (ym_.l1 k2 t375 t379 (x11_2++[(⟨x12_1,x13_2⟩:S138)]) x12_1 (wrap64 (x13_2+1))) else (none))=some (r1,r2):=by rw[if_pos rfl] at H;exact H
     clear H
     have H:=H1
     clear H1
     by_cases c18:x11_2.length < 8796093022208
     rotate_left
     ·rw[if_neg c18] at H
      exact absurd H (by simp)
     rw[if_pos c18] at H
     have LMc18:=Aside0.mk c18
     clear c18
     obtain⟨y386,hy386⟩:∃ y_:List (S138),y_=(x11_2++[(⟨x12_1,x13_2⟩:S138)]):=⟨_,rfl⟩
     replace H:(ym_.l1 k2 t375 t379 y386 x12_1 (wrap64 (x13_2+1)))=some (r1,r2):=by first|(rw[hy386];with_reducible exact H)|(have H2_:=(Option.bind_some _ _).symm.trans H;rw[hy386];with_reducible exact H2_)|(have H2_:=(Option.bind_some _ _).symm.trans H;with_reducible exact H2_)|with_reducible exact H|(rw[hy386];exact H)|exact H
     have Ny386:=Aside0.mk hy386
     clear hy386
     have H':=Aside0.mk H
     clear H
     obtain⟨Ao19,co19,eo19⟩:=Kd.yE_ HO_10.out
     subst eo19
     try go_wp2
     have n0_:=Aside0.mk (Kd.R_drew HO_8.out)
     have n1_:=Aside0.mk (Kd.R_drew HO_10.out)
     have n2_:=Aside0.mk (Kd.R_drew HO_11.out)
     have n3_:=Aside0.mk (yb_ HB.out)
     clear HO_8
     clear HO_10
     clear HO_11
     clear HB
     have HO_8:=n0_
     have HO_10:=n1_
     have HO_11:=n2_
     have HB:=n3_
     clear n0_ n1_ n2_ n3_
     have p383:0≤(x12_1:Int):=of_decide_eq_true zd_
     have q383:x12_1 < (t375.length:Int):=of_decide_eq_true zd_
     obtain⟨ad383,e383,hx383_0,hx383_1,hx383_2⟩:=at_T91 (Kd.yt_ HO_8.out).2.2 x12_1 p383 q383
     cases e383
     replace p383:=eq_true p383
     replace q383:=eq_true q383
     have p384:0≤(x13_2:Int):=of_decide_eq_true zd_
     have q384:x13_2 < (t379.length:Int):=of_decide_eq_true zd_
     obtain⟨ad384,e384,hx384_0,hx384_1,hx384_2⟩:=at_T91 (Kd.yt_ HO_10.out).2.2 x13_2 p384 q384
     cases e384
     replace p384:=eq_true p384
     replace q384:=eq_true q384
     refine start_ (n:=9) (S:=fun w'=>w'.cell? (ad383.add ((x12_1).toNat * 3))=some (.int .i64 ((rd_T91 t375 x12_1).f0))∧w'.cell? ⟨(ad383.add ((x12_1).toNat * 3)).block,(ad383.add ((x12_1).toNat * 3)).off+1,none⟩=some (.int .i64 ((rd_T91 t375 x12_1).f1))∧w'.cell? ⟨(ad383.add ((x12_1).toNat * 3)).block,(ad383.add ((x12_1).toNat * 3)).off+2,none⟩=some (.string ((rd_T91 t375 x12_1).f2))∧w'.cell? (ad384.add ((x13_2).toNat * 3))=some (.int .i64 ((rd_T91 t379 x13_2).f0))∧w'.cell? ⟨(ad384.add ((x13_2).toNat * 3)).block,(ad384.add ((x13_2).toNat * 3)).off+1,none⟩=some (.int .i64 ((rd_T91 t379 x13_2).f1))∧w'.cell? ⟨(ad384.add ((x13_2).toNat * 3)).block,(ad384.add ((x13_2).toNat * 3)).off+2,none⟩=some (.string ((rd_T91 t379 x13_2).f2))) (ds:=[]) (bA 9 0) ze_ rfl rfl ⟨hx383_0,hx383_1,hx383_2,hx384_0,hx384_1,hx384_2⟩ (fun hHeld=>?_);refine yQ_ ym_.tab14 ym_.bits14 (fun HT_ HW_=>?_)
     generalize wr.drew=w20 at HO_8 HO_10 HO_11 HB hx383_0 hx383_1 hx383_2 hx384_0 hx384_1 hx384_2 hHeld ⊢
     refine pu_ 0 44 (bA 9 1) HT_ ?_
     refine pu_ 1 45 (bA 9 3) HT_ ?_
     refine pu_ 2 46 (bA 9 7) HT_ ?_
     refine pu_ 4 48 (bA 9 23) HT_ ?_
     refine pu_ 5 49 (bA 9 55) HT_ ?_
     refine pu_ 6 50 (bA 9 119) HT_ ?_
     refine tk_ 3 47 (bA 9 127) rfl HT_ HW_ hHeld (by rintro w' ⟨s0,s1,s2,s3,s4,s5⟩;go_simp;with_reducible rfl) ?_
     refine tk_ 7 51 (bA 9 255) rfl HT_ HW_ hHeld (by rintro w' ⟨s0,s1,s2,s3,s4,s5⟩;go_simp;with_reducible rfl) ?_
     refine one_ (i:=8) (N:=some 52) (bA 9 511) rfl rfl (one_of HT_.out ze_) (by decide) (fun K hK=>?_)
     refine goes_ Tryz.func79 ze_ rfl #[.agg #[.int .i64 ((rd_T91 t375 x12_1).f0),.int .i64 ((rd_T91 t375 x12_1).f1),.string ((rd_T91 t375 x12_1).f2)],.agg #[.int .i64 ((rd_T91 t379 x13_2).f0),.int .i64 ((rd_T91 t379 x13_2).f1),.string ((rd_T91 t379 x13_2).f2)]] (by rfl) rfl rfl zb_ ?_
     with_reducible refine (yfb_.calls ((rd_T91 t375 x12_1).f0) ((rd_T91 t375 x12_1).f1) ((rd_T91 t375 x12_1).f2) ((rd_T91 t379 x13_2).f0) ((rd_T91 t379 x13_2).f1) ((rd_T91 t379 x13_2).f2) true _ A16.out).mono ?_
     rintro e w21 ⟨rfl,hb⟩
     have HS0_:=(hb.cell (World.block_lt_of_cell? _ _ (hHeld.1))).trans (hHeld.1)
     have HS1_:=(hb.cell (World.block_lt_of_cell? _ _ (hHeld.2.1))).trans (hHeld.2.1)
     have HS2_:=(hb.cell (World.block_lt_of_cell? _ _ (hHeld.2.2.1))).trans (hHeld.2.2.1)
     have HS3_:=(hb.cell (World.block_lt_of_cell? _ _ (hHeld.2.2.2.1))).trans (hHeld.2.2.2.1)
     have HS4_:=(hb.cell (World.block_lt_of_cell? _ _ (hHeld.2.2.2.2.1))).trans (hHeld.2.2.2.2.1)
     have HS5_:=(hb.cell (World.block_lt_of_cell? _ _ (hHeld.2.2.2.2.2))).trans (hHeld.2.2.2.2.2)
     refine⟨_,rfl,?_⟩
     have n0_:=Aside0.mk (Kd.yH_ (by (with_reducible repeat (first|apply Kd.yj_|apply Kd.yk_|apply Kd.R_drew));exact HO_8.out) hb)
     have n1_:=Aside0.mk (Kd.yH_ (by (with_reducible repeat (first|apply Kd.yj_|apply Kd.yk_|apply Kd.R_drew));exact HO_10.out) hb)
     have n2_:=Aside0.mk (Kd.yH_ zh_ hb)
     have n3_:=Aside0.mk (yn_ za_ hb)
     clear HO_8
     clear HO_10
     clear HO_11
     clear HB
     have HO_8:=n0_
     have HO_10:=n1_
     have HO_11:=n2_
     have HB:=n3_
     clear n0_ n1_ n2_ n3_
     (try clear hb)
     (try clear hb2)
     (try clear hk)
     (try clear hi)
     refine hK.out _ _ ⟨HS0_,HS1_,HS2_,HS3_,HS4_,HS5_⟩ (fun hHeld=>?_)
     clear hK K
     refine norm_ (a':=?_) ?_ ?_
     rotate_left
     ·show Act.put _ (some 52) _=_
      simp only[Act.put,q1_,q2_,q3_,i64_w,i32_w]
      rfl
     refine done_ (ycb_ HT_.out ze_) ?_
     try go_wp2_with (first|((with_reducible refine yL_ (b:=.append) (xs:=#[.tmp 53,.tmp 57]) rfl ?_);at_builtin;refine Kd.ydb_ k138 (w0:=w) w.heap.size rfl (.tmp 53) (.tmp 57) 107 138 (.agg #[(.int .i64 0),(.int .i64 0)]) 16 rfl Tryz.underlying107 info138 rfl (by decide) (by omega) u11 x11_2 (⟨x12_1,x13_2⟩:S138) [.int .i64 x12_1,.int .i64 x13_2] (fun _=>True) (fun _=>False) rfl rfl ?aP (fun _ hk=>hk.elim) ?aF ?aO ?aB ?aS ?aL ?_;(case aP=>exact k138_mkM _ _ _ (⟨x12_1,x13_2⟩:S138));(case aB=>exact za_);(case aF=>exact (fun _ _=>trivial));(case aO=>exact zh_);(case aS=>exact (yp_ za_));(case aL=>have:=LMc18.out;omega);intro v387 w22 ho hb hg hat;rw[← Ny386.out] at ho;have n0_:=Aside0.mk (Kd.yhb_ (by (with_reducible repeat (first|apply Kd.yj_|apply Kd.yk_|apply Kd.R_drew));exact HO_8.out) (Kd.ybb_ zh_) (by decide) hg);have n1_:=Aside0.mk (Kd.yhb_ (by (with_reducible repeat (first|apply Kd.yj_|apply Kd.yk_|apply Kd.R_drew));exact HO_10.out) (Kd.ybb_ zh_) (by decide) hg);have n2_:=Aside0.mk (hb);have n3_:=Aside0.mk (ho);clear HO_8;clear HO_10;clear HB;clear HO_11;have HO_8:=n0_;have HO_10:=n1_;have HB:=n2_;have HO388:=n3_;clear n0_ n1_ n2_ n3_;clear ho hb hg hat))
     go_roundg k2
     case measure=>have:=HK1.out;have:=HK2.out;omega
     case rel=>exact⟨(y386),(wrap64 (x13_2+1)),zc_,H',⟨by have:=HK1.out;have:=HK2.out;omega⟩,⟨by (with_reducible repeat (first|apply Kd.yj_|apply Kd.yk_|apply Kd.R_drew));exact HO_8.out⟩,⟨by (with_reducible repeat (first|apply Kd.yj_|apply Kd.yk_|apply Kd.R_drew));exact HO_10.out⟩,⟨by (with_reducible repeat (first|apply Kd.yj_|apply Kd.yk_|apply Kd.R_drew));exact HO388.out⟩,⟨by repeat (with_reducible first|exact HB.out|apply yc_|apply ya_|apply yb_)⟩⟩

end Go.Proofs.YthimblhfjfngiaaGreat.PText

namespace Go.Proofs.YthimblhfjfngiaaGreat.PText
open Go.RowKit Go.Proofs.YthimblhfjfngiaaGreatW.PrintWords Go.Proofs.YthimblhfjfngiaaGreatW.PrintLast Go.Proofs.YthimblhfjfngiaaGreatW.PrintMore
attribute [local go_sem] yT_ yU_ y5_ y6_ yI_ yJ_ yV_ yW_   -- for this text's walks alone
set_option linter.unusedVariables false
set_option linter.unusedSimpArgs false

attribute [local go_sem high] eqA91
def y8b_.f (a0_0:Int) (a0_1:Int) (a0_2:ByteArray) (a1_0:Int) (a1_1:Int) (a1_2:ByteArray):Option (Bool):=if (!(a0_0 == a1_0) || (!(a0_1 == a1_1) || (!(a0_2.toList == a1_2.toList))))=true then (if a0_0≤a1_1 then (some (decide (a1_0≤a0_1))) else (some false)) else (some false)
set_option maxHeartbeats 8000000 in
set_option maxRecDepth 100000 in
theorem y8b_.calls (a0_0:Int) (a0_1:Int) (a0_2:ByteArray) (a1_0:Int) (a1_1:Int) (a1_2:ByteArray) (r:Bool) (w:World) (h:y8b_.f a0_0 a0_1 a0_2 a1_0 a1_1 a1_2=some r) :
  Calls Tryz.prog 60 #[.agg #[.int .i64 a0_0,.int .i64 a0_1,.string a0_2],.agg #[.int .i64 a1_0,.int .i64 a1_1,.string a1_2]] w fun e w'=>e=.returned (.bool r)∧Below w.heap.size w w':=by
 have hu91:=Tryz.underlying91
 have HB:=Aside0.mk (Below.refl w.heap.size w)
 have H:(if (!(a0_0 == a1_0) || (!(a0_1 == a1_1) || (!(a0_2.toList == a1_2.toList))))=true then (if a0_0≤a1_1 then (some (decide (a1_0≤a0_1))) else (some false)) else (some false))=some r:=h
 clear h
 by_cases c3:(!(a0_0 == a1_0) || (!(a0_1 == a1_1) || (!(a0_2.toList == a1_2.toList))))=true
 rotate_left
 ·rw[if_neg c3] at H
  have c3b0:(!(a0_0 == a1_0) || (!(a0_1 == a1_1) || (!(a0_2.toList == a1_2.toList))))=false:=by simpa using c3
  clear c3
  obtain rfl:=Option.some.inj H
  go_enter Tryz.func60,Tryz.ntmps60
  go_wp2_with (first|((with_reducible refine yO_ (N:=2) rfl ?_);refine yS_ ?hg (N:=2) ?hd (cs:=#[.int .i64 a0_0,.int .i64 a0_1,.string a0_2]) (t:=91) ?hr ?_;(case hd=>rfl);(case hg=>rfl);(case hr=>first|(go_simp;done)|(go_simp;rfl));intro gb525 hg w15 hbox hb;have n0_:=Aside0.mk (yn_ za_ hb);have n1_:=Aside0.mk (hbox);have n2_:=Aside0.mk ((by rw[hg];exact (yp_ za_):w.heap.size≤gb525));have n3_:=Aside0.mk ((by rw[hg];exact (yp_ za_):w.heap.size≤gb525));clear HB;have HB:=n0_;have BK525:=n1_;have GW525:=n2_;have GE525:=n3_;clear n0_ n1_ n2_ n3_;clear hb hbox hg)|((with_reducible refine yO_ (N:=3) rfl ?_);refine yS_ ?hg (N:=3) ?hd (cs:=#[.int .i64 a1_0,.int .i64 a1_1,.string a1_2]) (t:=91) ?hr ?_;(case hd=>rfl);(case hg=>rfl);(case hr=>first|(go_simp;done)|(go_simp;rfl));intro gb526 hg w16 hbox hb;have n0_:=Aside0.mk (ylb_ (g:=gb525) (o:=.cells #[.int .i64 a0_0,.int .i64 a0_1,.string a0_2] 91 (0,0)) (by (with_reducible repeat (first|refine yw_ ?_ _|refine yz_ ?_|refine yv_ ?_ _));exact BK525.out) hb);have n1_:=Aside0.mk (yn_ (by repeat (with_reducible first|exact HB.out|apply yc_|apply ya_|apply yb_|refine yq_ ?_ GE525.out)) hb);have n2_:=Aside0.mk (hbox);have n3_:=Aside0.mk ((by rw[hg];exact (yp_ (by repeat (with_reducible first|exact HB.out|apply yc_|apply ya_|apply yb_|refine yq_ ?_ GE525.out))):w.heap.size≤gb526));have n4_:=Aside0.mk ((by rw[hg];exact (yp_ (by repeat (with_reducible first|exact HB.out|apply yc_|apply ya_|apply yb_|refine yq_ ?_ GE525.out))):w.heap.size≤gb526));have n5_:=Aside0.mk ((by rw[hg];exact Nat.ne_of_lt (blk_lt (g:=gb525) (o:=.cells #[.int .i64 a0_0,.int .i64 a0_1,.string a0_2] 91 (0,0)) (by (with_reducible repeat (first|refine yw_ ?_ _|refine yz_ ?_|refine yv_ ?_ _));exact BK525.out)):gb525≠gb526));have n6_:=Aside0.mk ((by rw[hg];exact Nat.ne_of_gt (blk_lt (g:=gb525) (o:=.cells #[.int .i64 a0_0,.int .i64 a0_1,.string a0_2] 91 (0,0)) (by (with_reducible repeat (first|refine yw_ ?_ _|refine yz_ ?_|refine yv_ ?_ _));exact BK525.out)):gb526≠gb525));clear BK525;clear HB;have BK525:=n0_;have HB:=n1_;have BK526:=n2_;have GW526:=n3_;have GE526:=n4_;have NB525_526:=n5_;have NB526_525:=n6_;clear n0_ n1_ n2_ n3_ n4_ n5_ n6_;clear hb hbox hg;have hnb17:=NB525_526.out;have hnc17:=NB526_525.out;have hcz18_0:w16.cell? ⟨gb525,0,none⟩=some (.int .i64 a0_0):=(yl_ BK525.out 0).trans rfl;have hcz18_1:w16.cell? ⟨gb525,1,none⟩=some (.int .i64 a0_1):=(yl_ BK525.out 1).trans rfl;have hcz18_2:w16.cell? ⟨gb525,2,none⟩=some (.string a0_2):=(yl_ BK525.out 2).trans rfl;have hfz18_0:=yi_ BK525.out 0;have hfz18_1:=yi_ BK525.out 1;have hfz18_2:=yi_ BK525.out 2;have hcz19_0:w16.cell? ⟨gb526,0,none⟩=some (.int .i64 a1_0):=(yl_ BK526.out 0).trans rfl;have hcz19_1:w16.cell? ⟨gb526,1,none⟩=some (.int .i64 a1_1):=(yl_ BK526.out 1).trans rfl;have hcz19_2:w16.cell? ⟨gb526,2,none⟩=some (.string a1_2):=(yl_ BK526.out 2).trans rfl;have hfz19_0:=yi_ BK526.out 0;have hfz19_1:=yi_ BK526.out 1;have hfz19_2:=yi_ BK526.out 2))
  go_ret
  exact⟨by first|rfl|(simp [yr_,ys_] <;> rfl)|(simp [*,yr_,ys_] <;> rfl),by repeat (with_reducible first|exact HB.out|apply yc_|apply ya_|apply yb_|refine yq_ ?_ GE525.out|refine yq_ ?_ GE526.out)⟩
 rw[if_pos c3] at H
 have c3b0:(!(a0_0 == a1_0) || (!(a0_1 == a1_1) || (!(a0_2.toList == a1_2.toList))))=true:=c3
 clear c3
 by_cases c4:a0_0≤a1_1
 ·rw[if_pos c4] at H
  have c4b0:decide (a0_0≤a1_1)=true:=decide_eq_true c4
  clear c4
  obtain rfl:=Option.some.inj H
  go_enter Tryz.func60,Tryz.ntmps60
  go_wp2_with (first|((with_reducible refine yO_ (N:=2) rfl ?_);refine yS_ ?hg (N:=2) ?hd (cs:=#[.int .i64 a0_0,.int .i64 a0_1,.string a0_2]) (t:=91) ?hr ?_;(case hd=>rfl);(case hg=>rfl);(case hr=>first|(go_simp;done)|(go_simp;rfl));intro gb525 hg w5 hbox hb;have n0_:=Aside0.mk (yn_ za_ hb);have n1_:=Aside0.mk (hbox);have n2_:=Aside0.mk ((by rw[hg];exact (yp_ za_):w.heap.size≤gb525));have n3_:=Aside0.mk ((by rw[hg];exact (yp_ za_):w.heap.size≤gb525));clear HB;have HB:=n0_;have BK525:=n1_;have GW525:=n2_;have GE525:=n3_;clear n0_ n1_ n2_ n3_;clear hb hbox hg)|((with_reducible refine yO_ (N:=3) rfl ?_);refine yS_ ?hg (N:=3) ?hd (cs:=#[.int .i64 a1_0,.int .i64 a1_1,.string a1_2]) (t:=91) ?hr ?_;(case hd=>rfl);(case hg=>rfl);(case hr=>first|(go_simp;done)|(go_simp;rfl));intro gb526 hg w6 hbox hb;have n0_:=Aside0.mk (ylb_ (g:=gb525) (o:=.cells #[.int .i64 a0_0,.int .i64 a0_1,.string a0_2] 91 (0,0)) (by (with_reducible repeat (first|refine yw_ ?_ _|refine yz_ ?_|refine yv_ ?_ _));exact BK525.out) hb);have n1_:=Aside0.mk (yn_ (by repeat (with_reducible first|exact HB.out|apply yc_|apply ya_|apply yb_|refine yq_ ?_ GE525.out)) hb);have n2_:=Aside0.mk (hbox);have n3_:=Aside0.mk ((by rw[hg];exact (yp_ (by repeat (with_reducible first|exact HB.out|apply yc_|apply ya_|apply yb_|refine yq_ ?_ GE525.out))):w.heap.size≤gb526));have n4_:=Aside0.mk ((by rw[hg];exact (yp_ (by repeat (with_reducible first|exact HB.out|apply yc_|apply ya_|apply yb_|refine yq_ ?_ GE525.out))):w.heap.size≤gb526));have n5_:=Aside0.mk ((by rw[hg];exact Nat.ne_of_lt (blk_lt (g:=gb525) (o:=.cells #[.int .i64 a0_0,.int .i64 a0_1,.string a0_2] 91 (0,0)) (by (with_reducible repeat (first|refine yw_ ?_ _|refine yz_ ?_|refine yv_ ?_ _));exact BK525.out)):gb525≠gb526));have n6_:=Aside0.mk ((by rw[hg];exact Nat.ne_of_gt (blk_lt (g:=gb525) (o:=.cells #[.int .i64 a0_0,.int .i64 a0_1,.string a0_2] 91 (0,0)) (by (with_reducible repeat (first|refine yw_ ?_ _|refine yz_ ?_|refine yv_ ?_ _));exact BK525.out)):gb526≠gb525));clear BK525;clear HB;have BK525:=n0_;have HB:=n1_;have BK526:=n2_;have GW526:=n3_;have GE526:=n4_;have NB525_526:=n5_;have NB526_525:=n6_;clear n0_ n1_ n2_ n3_ n4_ n5_ n6_;clear hb hbox hg;have hnb7:=NB525_526.out;have hnc7:=NB526_525.out;have hcz8_0:w6.cell? ⟨gb525,0,none⟩=some (.int .i64 a0_0):=(yl_ BK525.out 0).trans rfl;have hcz8_1:w6.cell? ⟨gb525,1,none⟩=some (.int .i64 a0_1):=(yl_ BK525.out 1).trans rfl;have hcz8_2:w6.cell? ⟨gb525,2,none⟩=some (.string a0_2):=(yl_ BK525.out 2).trans rfl;have hfz8_0:=yi_ BK525.out 0;have hfz8_1:=yi_ BK525.out 1;have hfz8_2:=yi_ BK525.out 2;have hcz9_0:w6.cell? ⟨gb526,0,none⟩=some (.int .i64 a1_0):=(yl_ BK526.out 0).trans rfl;have hcz9_1:w6.cell? ⟨gb526,1,none⟩=some (.int .i64 a1_1):=(yl_ BK526.out 1).trans rfl;have hcz9_2:w6.cell? ⟨gb526,2,none⟩=some (.string a1_2):=(yl_ BK526.out 2).trans rfl;have hfz9_0:=yi_ BK526.out 0;have hfz9_1:=yi_ BK526.out 1;have hfz9_2:=yi_ BK526.out 2))
  go_ret
  exact⟨by first|rfl|(simp [yr_,ys_] <;> rfl)|(simp [*,yr_,ys_] <;> rfl),by repeat (with_reducible first|exact HB.out|apply yc_|apply ya_|apply yb_|refine yq_ ?_ GE525.out|refine yq_ ?_ GE526.out)⟩
 rw[if_neg c4] at H
 have c4b0:decide (a0_0≤a1_1)=false:=decide_eq_false c4
 clear c4
 obtain rfl:=Option.some.inj H
 go_enter Tryz.func60,Tryz.ntmps60
 go_wp2_with (first|((with_reducible refine yO_ (N:=2) rfl ?_);refine yS_ ?hg (N:=2) ?hd (cs:=#[.int .i64 a0_0,.int .i64 a0_1,.string a0_2]) (t:=91) ?hr ?_;(case hd=>rfl);(case hg=>rfl);(case hr=>first|(go_simp;done)|(go_simp;rfl));intro gb525 hg w10 hbox hb;have n0_:=Aside0.mk (yn_ za_ hb);have n1_:=Aside0.mk (hbox);have n2_:=Aside0.mk ((by rw[hg];exact (yp_ za_):w.heap.size≤gb525));have n3_:=Aside0.mk ((by rw[hg];exact (yp_ za_):w.heap.size≤gb525));clear HB;have HB:=n0_;have BK525:=n1_;have GW525:=n2_;have GE525:=n3_;clear n0_ n1_ n2_ n3_;clear hb hbox hg)|((with_reducible refine yO_ (N:=3) rfl ?_);refine yS_ ?hg (N:=3) ?hd (cs:=#[.int .i64 a1_0,.int .i64 a1_1,.string a1_2]) (t:=91) ?hr ?_;(case hd=>rfl);(case hg=>rfl);(case hr=>first|(go_simp;done)|(go_simp;rfl));intro gb526 hg w11 hbox hb;have n0_:=Aside0.mk (ylb_ (g:=gb525) (o:=.cells #[.int .i64 a0_0,.int .i64 a0_1,.string a0_2] 91 (0,0)) (by (with_reducible repeat (first|refine yw_ ?_ _|refine yz_ ?_|refine yv_ ?_ _));exact BK525.out) hb);have n1_:=Aside0.mk (yn_ (by repeat (with_reducible first|exact HB.out|apply yc_|apply ya_|apply yb_|refine yq_ ?_ GE525.out)) hb);have n2_:=Aside0.mk (hbox);have n3_:=Aside0.mk ((by rw[hg];exact (yp_ (by repeat (with_reducible first|exact HB.out|apply yc_|apply ya_|apply yb_|refine yq_ ?_ GE525.out))):w.heap.size≤gb526));have n4_:=Aside0.mk ((by rw[hg];exact (yp_ (by repeat (with_reducible first|exact HB.out|apply yc_|apply ya_|apply yb_|refine yq_ ?_ GE525.out))):w.heap.size≤gb526));have n5_:=Aside0.mk ((by rw[hg];exact Nat.ne_of_lt (blk_lt (g:=gb525) (o:=.cells #[.int .i64 a0_0,.int .i64 a0_1,.string a0_2] 91 (0,0)) (by (with_reducible repeat (first|refine yw_ ?_ _|refine yz_ ?_|refine yv_ ?_ _));exact BK525.out)):gb525≠gb526));have n6_:=Aside0.mk ((by rw[hg];exact Nat.ne_of_gt (blk_lt (g:=gb525) (o:=.cells #[.int .i64 a0_0,.int .i64 a0_1,.string a0_2] 91 (0,0)) (by (with_reducible repeat (first|refine yw_ ?_ _|refine yz_ ?_|refine yv_ ?_ _));exact BK525.out)):gb526≠gb525));clear BK525;clear HB;have BK525:=n0_;have HB:=n1_;have BK526:=n2_;have GW526:=n3_;have GE526:=n4_;have NB525_526:=n5_;have NB526_525:=n6_;clear n0_ n1_ n2_ n3_ n4_ n5_ n6_;clear hb hbox hg;have hnb12:=NB525_526.out;have hnc12:=NB526_525.out;have hcz13_0:w11.cell? ⟨gb525,0,none⟩=some (.int .i64 a0_0):=(yl_ BK525.out 0).trans rfl;have hcz13_1:w11.cell? ⟨gb525,1,none⟩=some (.int .i64 a0_1):=(yl_ BK525.out 1).trans rfl;have hcz13_2:w11.cell? ⟨gb525,2,none⟩=some (.string a0_2):=(yl_ BK525.out 2).trans rfl;have hfz13_0:=yi_ BK525.out 0;have hfz13_1:=yi_ BK525.out 1;have hfz13_2:=yi_ BK525.out 2;have hcz14_0:w11.cell? ⟨gb526,0,none⟩=some (.int .i64 a1_0):=(yl_ BK526.out 0).trans rfl;have hcz14_1:w11.cell? ⟨gb526,1,none⟩=some (.int .i64 a1_1):=(yl_ BK526.out 1).trans rfl;have hcz14_2:w11.cell? ⟨gb526,2,none⟩=some (.string a1_2):=(yl_ BK526.out 2).trans rfl;have hfz14_0:=yi_ BK526.out 0;have hfz14_1:=yi_ BK526.out 1;have hfz14_2:=yi_ BK526.out 2))
 go_ret
 exact⟨by first|rfl|(simp [yr_,ys_] <;> rfl)|(simp [*,yr_,ys_] <;> rfl),by repeat (with_reducible first|exact HB.out|apply yc_|apply ya_|apply yb_|refine yq_ ?_ GE525.out|refine yq_ ?_ GE526.out)⟩

end Go.Proofs.YthimblhfjfngiaaGreat.PText

namespace Go.Proofs.YthimblhfjfngiaaGreat.PText
open Go.RowKit Go.Proofs.YthimblhfjfngiaaGreatW.PrintWords Go.Proofs.YthimblhfjfngiaaGreatW.PrintLast Go.Proofs.YthimblhfjfngiaaGreatW.PrintMore
attribute [local go_sem] yT_ yU_ y5_ y6_ yI_ yJ_ yV_ yW_   -- for this text's walks alone
set_option linter.unusedVariables false
set_option linter.unusedSimpArgs false

def yF_.j0:Nat→Bool→Int→Int→ByteArray→Int→Int→ByteArray→Option (Bool)
 | 0,_,_,_,_,_,_,_=>none
 | k+1,x5,x390000,x390001,x390002,x391000,x391001,x391002=>if x5=true then (some (x390000 == x391000)) else (if x390000=x390001 then (if x390000 > x391000 then (some (decide (x390000 < x391001))) else (some false)) else (if x391000=x391001 then (if x391000 > x390000 then (some (decide (x391000 < x390001))) else (some false)) else (if x390000 < x391001 then (some (decide (x391000 < x390001))) else (some false))))
def yF_.f (k:Nat) (a0_0:Int) (a0_1:Int) (a0_2:ByteArray) (a1_0:Int) (a1_1:Int) (a1_2:ByteArray):Option (Bool):=if a0_0=a0_1 then (yF_.j0 k (a1_0 == a1_1) a0_0 a0_1 a0_2 a1_0 a1_1 a1_2) else (yF_.j0 k false a0_0 a0_1 a0_2 a1_0 a1_1 a1_2)
set_option maxHeartbeats 8000000 in
set_option maxRecDepth 100000 in
theorem yF_.calls (k:Nat) (a0_0:Int) (a0_1:Int) (a0_2:ByteArray) (a1_0:Int) (a1_1:Int) (a1_2:ByteArray) (r:Bool) (w:World) (h:yF_.f k a0_0 a0_1 a0_2 a1_0 a1_1 a1_2=some r) :
  Calls Tryz.prog 111 #[.agg #[.int .i64 a0_0,.int .i64 a0_1,.string a0_2],.agg #[.int .i64 a1_0,.int .i64 a1_1,.string a1_2]] w fun e w'=>e=.returned (.bool r)∧Below w.heap.size w w':=by
 have hu91:=Tryz.underlying91
 have HB:=Aside0.mk (Below.refl w.heap.size w)
 have H:(if a0_0=a0_1 then (yF_.j0 k (a1_0 == a1_1) a0_0 a0_1 a0_2 a1_0 a1_1 a1_2) else (yF_.j0 k false a0_0 a0_1 a0_2 a1_0 a1_1 a1_2))=some r:=h
 clear h
 have HC3:=Aside0.mk H
 clear H
 go_enter Tryz.func111,Tryz.ntmps111
 go_upto_region 1 with (first|((with_reducible refine yO_ (N:=2) rfl ?_);refine yS_ ?hg (N:=2) ?hd (cs:=#[.int .i64 a0_0,.int .i64 a0_1,.string a0_2]) (t:=91) ?hr ?_;(case hd=>rfl);(case hg=>rfl);(case hr=>first|(go_simp;done)|(go_simp;rfl));intro gb389 hg w4 hbox hb;have n0_:=Aside0.mk (yn_ za_ hb);have n1_:=Aside0.mk (hbox);have n2_:=Aside0.mk ((by rw[hg];exact (yp_ za_):w.heap.size≤gb389));have n3_:=Aside0.mk ((by rw[hg];exact (yp_ za_):w.heap.size≤gb389));clear HB;have HB:=n0_;have BK389:=n1_;have GW389:=n2_;have GE389:=n3_;clear n0_ n1_ n2_ n3_;clear hb hbox hg)|((with_reducible refine yO_ (N:=3) rfl ?_);refine yS_ ?hg (N:=3) ?hd (cs:=#[.int .i64 a1_0,.int .i64 a1_1,.string a1_2]) (t:=91) ?hr ?_;(case hd=>rfl);(case hg=>rfl);(case hr=>first|(go_simp;done)|(go_simp;rfl));intro gb390 hg w5 hbox hb;have n0_:=Aside0.mk (ylb_ (g:=gb389) (o:=.cells #[.int .i64 a0_0,.int .i64 a0_1,.string a0_2] 91 (0,0)) (by (with_reducible repeat (first|refine yw_ ?_ _|refine yz_ ?_|refine yv_ ?_ _));exact BK389.out) hb);have n1_:=Aside0.mk (yn_ (by repeat (with_reducible first|exact HB.out|apply yc_|apply ya_|apply yb_|refine yq_ ?_ GE389.out)) hb);have n2_:=Aside0.mk (hbox);have n3_:=Aside0.mk ((by rw[hg];exact (yp_ (by repeat (with_reducible first|exact HB.out|apply yc_|apply ya_|apply yb_|refine yq_ ?_ GE389.out))):w.heap.size≤gb390));have n4_:=Aside0.mk ((by rw[hg];exact (yp_ (by repeat (with_reducible first|exact HB.out|apply yc_|apply ya_|apply yb_|refine yq_ ?_ GE389.out))):w.heap.size≤gb390));have n5_:=Aside0.mk ((by rw[hg];exact Nat.ne_of_lt (blk_lt (g:=gb389) (o:=.cells #[.int .i64 a0_0,.int .i64 a0_1,.string a0_2] 91 (0,0)) (by (with_reducible repeat (first|refine yw_ ?_ _|refine yz_ ?_|refine yv_ ?_ _));exact BK389.out)):gb389≠gb390));have n6_:=Aside0.mk ((by rw[hg];exact Nat.ne_of_gt (blk_lt (g:=gb389) (o:=.cells #[.int .i64 a0_0,.int .i64 a0_1,.string a0_2] 91 (0,0)) (by (with_reducible repeat (first|refine yw_ ?_ _|refine yz_ ?_|refine yv_ ?_ _));exact BK389.out)):gb390≠gb389));clear BK389;clear HB;have BK389:=n0_;have HB:=n1_;have BK390:=n2_;have GW390:=n3_;have GE390:=n4_;have NB389_390:=n5_;have NB390_389:=n6_;clear n0_ n1_ n2_ n3_ n4_ n5_ n6_;clear hb hbox hg))
 (try simp only[Act.put,q1_,q2_,q3_])
 go_cut [5] (fun v5 wc=>∃ (kq:Nat) (x5_2:Bool),v5=.bool x5_2∧Aside0 (yF_.j0 kq x5_2 a0_0 a0_1 a0_2 a1_0 a1_1 a1_2=some r)∧Aside0 (kq≤k)∧Aside0 (wc.heap[gb389]?=some (.cells #[.int .i64 a0_0,.int .i64 a0_1,.string a0_2] 91 (0,0)))∧Aside0 (wc.heap[gb390]?=some (.cells #[.int .i64 a1_0,.int .i64 a1_1,.string a1_2] 91 (0,0)))∧Aside0 (Below w.heap.size w wc))
 case first =>
  have H:=HC3.out
  clear HC3
  by_cases c6:a0_0=a0_1
  rotate_left
  ·rw[if_neg c6] at H
   have c6b0:(a0_0 == a0_1)=false:=beq_eq_false_iff_ne.mpr c6
   have c6b1:(a0_0 != a0_1)=true:=bne_iff_ne.mpr c6
   (first|rw[c6b0]|(simp only[i64_w,i32_w];rw[c6b0])|skip)
   have H':=Aside0.mk H
   clear H
   have hnb10:=NB389_390.out
   have hnc10:=NB390_389.out
   have hcz11_0:w5.cell? ⟨gb389,0,none⟩=some (.int .i64 a0_0):=(yl_ BK389.out 0).trans rfl
   have hcz11_1:w5.cell? ⟨gb389,1,none⟩=some (.int .i64 a0_1):=(yl_ BK389.out 1).trans rfl
   have hcz11_2:w5.cell? ⟨gb389,2,none⟩=some (.string a0_2):=(yl_ BK389.out 2).trans rfl
   have hfz11_0:=yi_ BK389.out 0
   have hfz11_1:=yi_ BK389.out 1
   have hfz11_2:=yi_ BK389.out 2
   go_wp2
   go_meet
   case rel=>exact⟨_,(false),zc_,H',⟨by first|omega|exact Nat.le_refl _⟩,⟨by (with_reducible repeat (first|refine yw_ ?_ _|refine yz_ ?_|refine yv_ ?_ _));exact BK389.out⟩,⟨by (with_reducible repeat (first|refine yw_ ?_ _|refine yz_ ?_|refine yv_ ?_ _));exact BK390.out⟩,⟨by repeat (with_reducible first|exact HB.out|apply yc_|apply ya_|apply yb_|refine yq_ ?_ GE389.out|refine yq_ ?_ GE390.out)⟩⟩
  rw[if_pos c6] at H
  have c6b0:(a0_0 == a0_1)=true:=beq_iff_eq.mpr c6
  have c6b1:(a0_0 != a0_1)=false:=bne_eq_false_iff_eq.mpr c6
  clear c6
  (first|rw[c6b0]|(simp only[i64_w,i32_w];rw[c6b0])|skip)
  have H':=Aside0.mk H
  clear H
  have hnb7:=NB389_390.out
  have hnc7:=NB390_389.out
  have hcz8_0:w5.cell? ⟨gb389,0,none⟩=some (.int .i64 a0_0):=(yl_ BK389.out 0).trans rfl
  have hcz8_1:w5.cell? ⟨gb389,1,none⟩=some (.int .i64 a0_1):=(yl_ BK389.out 1).trans rfl
  have hcz8_2:w5.cell? ⟨gb389,2,none⟩=some (.string a0_2):=(yl_ BK389.out 2).trans rfl
  have hfz8_0:=yi_ BK389.out 0
  have hfz8_1:=yi_ BK389.out 1
  have hfz8_2:=yi_ BK389.out 2
  have hcz9_0:w5.cell? ⟨gb390,0,none⟩=some (.int .i64 a1_0):=(yl_ BK390.out 0).trans rfl
  have hcz9_1:w5.cell? ⟨gb390,1,none⟩=some (.int .i64 a1_1):=(yl_ BK390.out 1).trans rfl
  have hcz9_2:w5.cell? ⟨gb390,2,none⟩=some (.string a1_2):=(yl_ BK390.out 2).trans rfl
  have hfz9_0:=yi_ BK390.out 0
  have hfz9_1:=yi_ BK390.out 1
  have hfz9_2:=yi_ BK390.out 2
  go_wp2
  go_meet
  case rel=>exact⟨_,((a1_0 == a1_1)),zc_,H',⟨by first|omega|exact Nat.le_refl _⟩,⟨by (with_reducible repeat (first|refine yw_ ?_ _|refine yz_ ?_|refine yv_ ?_ _));exact BK389.out⟩,⟨by (with_reducible repeat (first|refine yw_ ?_ _|refine yz_ ?_|refine yv_ ?_ _));exact BK390.out⟩,⟨by repeat (with_reducible first|exact HB.out|apply yc_|apply ya_|apply yb_|refine yq_ ?_ GE389.out|refine yq_ ?_ GE390.out)⟩⟩
 case rest =>
  clear HC3
  try clear c1
  try clear p2
  try clear c6
  try clear c6b0
  try clear c6b1
  try clear c7
  try clear c10
  try clear c11
  try clear hcz11_0
  try clear hcz11_1
  try clear hcz11_2
  try clear hcz8_0
  try clear hcz8_1
  try clear hcz8_2
  try clear hcz9_0
  try clear hcz9_1
  try clear hcz9_2
  try clear hfz11_0
  try clear hfz11_1
  try clear hfz11_2
  try clear hfz8_0
  try clear hfz8_1
  try clear hfz8_2
  try clear hfz9_0
  try clear hfz9_1
  try clear hfz9_2
  obtain⟨kq,x5_2,rfl,HA,HJ2,BK389,BK390,HB⟩:=hcut
  cases kq with
  | zero=>exact absurd HA.out (by simp [yF_.j0])
  | succ kj2 =>
   have H:=HA.out
   clear HA
   simp only[yF_.j0] at H
   by_cases c12:x5_2=true
   ·subst c12
    have H1:(some (a0_0 == a1_0))=some r:=by rw[if_pos rfl] at H;exact H
    clear H
    have H:=H1
    clear H1
    obtain rfl:=Option.some.inj H
    have hnb13:=NB389_390.out
    have hnc13:=NB390_389.out
    have hcz14_0:wc.cell? ⟨gb389,0,none⟩=some (.int .i64 a0_0):=(yl_ BK389.out 0).trans rfl
    have hcz14_1:wc.cell? ⟨gb389,1,none⟩=some (.int .i64 a0_1):=(yl_ BK389.out 1).trans rfl
    have hcz14_2:wc.cell? ⟨gb389,2,none⟩=some (.string a0_2):=(yl_ BK389.out 2).trans rfl
    have hfz14_0:=yi_ BK389.out 0
    have hfz14_1:=yi_ BK389.out 1
    have hfz14_2:=yi_ BK389.out 2
    have hcz15_0:wc.cell? ⟨gb390,0,none⟩=some (.int .i64 a1_0):=(yl_ BK390.out 0).trans rfl
    have hcz15_1:wc.cell? ⟨gb390,1,none⟩=some (.int .i64 a1_1):=(yl_ BK390.out 1).trans rfl
    have hcz15_2:wc.cell? ⟨gb390,2,none⟩=some (.string a1_2):=(yl_ BK390.out 2).trans rfl
    have hfz15_0:=yi_ BK390.out 0
    have hfz15_1:=yi_ BK390.out 1
    have hfz15_2:=yi_ BK390.out 2
    go_wp2
    go_ret
    exact⟨by first|rfl|(simp [yr_,ys_] <;> rfl)|(simp [*,yr_,ys_] <;> rfl),by repeat (with_reducible first|exact HB.out|apply yc_|apply ya_|apply yb_|refine yq_ ?_ GE389.out|refine yq_ ?_ GE390.out)⟩
   replace c12:=Bool.eq_false_iff.mpr c12
   subst c12
   have H1:(if a0_0=a0_1 then (if a0_0 > a1_0 then (some (decide (a0_0 < a1_1))) else (some false)) else (if a1_0=a1_1 then (if a1_0 > a0_0 then (some (decide (a1_0 < a0_1))) else (some false)) else (if a0_0 < a1_1 then (some (decide (a1_0 < a0_1))) else (some false))))=some r:=by rw[if_neg (show ¬ (false=true) by decide)] at H;exact H
   clear H
   have H:=H1
   clear H1
   by_cases c16:a0_0=a0_1
   ·rw[if_pos c16] at H
    have c16b0:(a0_0 == a0_1)=true:=beq_iff_eq.mpr c16
    have c16b1:(a0_0 != a0_1)=false:=bne_eq_false_iff_eq.mpr c16
    clear c16
    by_cases c17:a0_0 > a1_0
    ·rw[if_pos c17] at H
     have c17b0:decide (a1_0 < a0_0)=true:=decide_eq_true c17
     clear c17
     obtain rfl:=Option.some.inj H
     have hnb18:=NB389_390.out
     have hnc18:=NB390_389.out
     have hcz19_0:wc.cell? ⟨gb389,0,none⟩=some (.int .i64 a0_0):=(yl_ BK389.out 0).trans rfl
     have hcz19_1:wc.cell? ⟨gb389,1,none⟩=some (.int .i64 a0_1):=(yl_ BK389.out 1).trans rfl
     have hcz19_2:wc.cell? ⟨gb389,2,none⟩=some (.string a0_2):=(yl_ BK389.out 2).trans rfl
     have hfz19_0:=yi_ BK389.out 0
     have hfz19_1:=yi_ BK389.out 1
     have hfz19_2:=yi_ BK389.out 2
     have hcz20_0:wc.cell? ⟨gb390,0,none⟩=some (.int .i64 a1_0):=(yl_ BK390.out 0).trans rfl
     have hcz20_1:wc.cell? ⟨gb390,1,none⟩=some (.int .i64 a1_1):=(yl_ BK390.out 1).trans rfl
     have hcz20_2:wc.cell? ⟨gb390,2,none⟩=some (.string a1_2):=(yl_ BK390.out 2).trans rfl
     have hfz20_0:=yi_ BK390.out 0
     have hfz20_1:=yi_ BK390.out 1
     have hfz20_2:=yi_ BK390.out 2
     go_wp2
     go_ret
     exact⟨by first|rfl|(simp [yr_,ys_] <;> rfl)|(simp [*,yr_,ys_] <;> rfl),by repeat (with_reducible first|exact HB.out|apply yc_|apply ya_|apply yb_|refine yq_ ?_ GE389.out|refine yq_ ?_ GE390.out)⟩
    rw[if_neg c17] at H
    have c17b0:decide (a1_0 < a0_0)=false:=decide_eq_false c17
    clear c17
    obtain rfl:=Option.some.inj H
    have hnb21:=NB389_390.out
    have hnc21:=NB390_389.out
    have hcz22_0:wc.cell? ⟨gb389,0,none⟩=some (.int .i64 a0_0):=(yl_ BK389.out 0).trans rfl
    have hcz22_1:wc.cell? ⟨gb389,1,none⟩=some (.int .i64 a0_1):=(yl_ BK389.out 1).trans rfl
    have hcz22_2:wc.cell? ⟨gb389,2,none⟩=some (.string a0_2):=(yl_ BK389.out 2).trans rfl
    have hfz22_0:=yi_ BK389.out 0
    have hfz22_1:=yi_ BK389.out 1
    have hfz22_2:=yi_ BK389.out 2
    have hcz23_0:wc.cell? ⟨gb390,0,none⟩=some (.int .i64 a1_0):=(yl_ BK390.out 0).trans rfl
    have hcz23_1:wc.cell? ⟨gb390,1,none⟩=some (.int .i64 a1_1):=(yl_ BK390.out 1).trans rfl
    have hcz23_2:wc.cell? ⟨gb390,2,none⟩=some (.string a1_2):=(yl_ BK390.out 2).trans rfl
    have hfz23_0:=yi_ BK390.out 0
    have hfz23_1:=yi_ BK390.out 1
    have hfz23_2:=yi_ BK390.out 2
    go_wp2
    go_ret
    exact⟨by first|rfl|(simp [yr_,ys_] <;> rfl)|(simp [*,yr_,ys_] <;> rfl),by repeat (with_reducible first|exact HB.out|apply yc_|apply ya_|apply yb_|refine yq_ ?_ GE389.out|refine yq_ ?_ GE390.out)⟩
   rw[if_neg c16] at H
   have c16b0:(a0_0 == a0_1)=false:=beq_eq_false_iff_ne.mpr c16
   have c16b1:(a0_0 != a0_1)=true:=bne_iff_ne.mpr c16
   by_cases c24:a1_0=a1_1
   rotate_left
   ·rw[if_neg c24] at H
    have c24b0:(a1_0 == a1_1)=false:=beq_eq_false_iff_ne.mpr c24
    have c24b1:(a1_0 != a1_1)=true:=bne_iff_ne.mpr c24
    by_cases c32:a0_0 < a1_1
    ·rw[if_pos c32] at H
     have c32b0:decide (a0_0 < a1_1)=true:=decide_eq_true c32
     clear c32
     obtain rfl:=Option.some.inj H
     have hnb33:=NB389_390.out
     have hnc33:=NB390_389.out
     have hcz34_0:wc.cell? ⟨gb389,0,none⟩=some (.int .i64 a0_0):=(yl_ BK389.out 0).trans rfl
     have hcz34_1:wc.cell? ⟨gb389,1,none⟩=some (.int .i64 a0_1):=(yl_ BK389.out 1).trans rfl
     have hcz34_2:wc.cell? ⟨gb389,2,none⟩=some (.string a0_2):=(yl_ BK389.out 2).trans rfl
     have hfz34_0:=yi_ BK389.out 0
     have hfz34_1:=yi_ BK389.out 1
     have hfz34_2:=yi_ BK389.out 2
     have hcz35_0:wc.cell? ⟨gb390,0,none⟩=some (.int .i64 a1_0):=(yl_ BK390.out 0).trans rfl
     have hcz35_1:wc.cell? ⟨gb390,1,none⟩=some (.int .i64 a1_1):=(yl_ BK390.out 1).trans rfl
     have hcz35_2:wc.cell? ⟨gb390,2,none⟩=some (.string a1_2):=(yl_ BK390.out 2).trans rfl
     have hfz35_0:=yi_ BK390.out 0
     have hfz35_1:=yi_ BK390.out 1
     have hfz35_2:=yi_ BK390.out 2
     go_wp2
     go_ret
     exact⟨by first|rfl|(simp [yr_,ys_] <;> rfl)|(simp [*,yr_,ys_] <;> rfl),by repeat (with_reducible first|exact HB.out|apply yc_|apply ya_|apply yb_|refine yq_ ?_ GE389.out|refine yq_ ?_ GE390.out)⟩
    rw[if_neg c32] at H
    have c32b0:decide (a0_0 < a1_1)=false:=decide_eq_false c32
    clear c32
    obtain rfl:=Option.some.inj H
    have hnb36:=NB389_390.out
    have hnc36:=NB390_389.out
    have hcz37_0:wc.cell? ⟨gb389,0,none⟩=some (.int .i64 a0_0):=(yl_ BK389.out 0).trans rfl
    have hcz37_1:wc.cell? ⟨gb389,1,none⟩=some (.int .i64 a0_1):=(yl_ BK389.out 1).trans rfl
    have hcz37_2:wc.cell? ⟨gb389,2,none⟩=some (.string a0_2):=(yl_ BK389.out 2).trans rfl
    have hfz37_0:=yi_ BK389.out 0
    have hfz37_1:=yi_ BK389.out 1
    have hfz37_2:=yi_ BK389.out 2
    have hcz38_0:wc.cell? ⟨gb390,0,none⟩=some (.int .i64 a1_0):=(yl_ BK390.out 0).trans rfl
    have hcz38_1:wc.cell? ⟨gb390,1,none⟩=some (.int .i64 a1_1):=(yl_ BK390.out 1).trans rfl
    have hcz38_2:wc.cell? ⟨gb390,2,none⟩=some (.string a1_2):=(yl_ BK390.out 2).trans rfl
    have hfz38_0:=yi_ BK390.out 0
    have hfz38_1:=yi_ BK390.out 1
    have hfz38_2:=yi_ BK390.out 2
    go_wp2
    go_ret
    exact⟨by first|rfl|(simp [yr_,ys_] <;> rfl)|(simp [*,yr_,ys_] <;> rfl),by repeat (with_reducible first|exact HB.out|apply yc_|apply ya_|apply yb_|refine yq_ ?_ GE389.out|refine yq_ ?_ GE390.out)⟩
   rw[if_pos c24] at H
   have c24b0:(a1_0 == a1_1)=true:=beq_iff_eq.mpr c24
   have c24b1:(a1_0 != a1_1)=false:=bne_eq_false_iff_eq.mpr c24
   clear c24
   by_cases c25:a1_0 > a0_0
   ·rw[if_pos c25] at H
    have c25b0:decide (a0_0 < a1_0)=true:=decide_eq_true c25
    clear c25
    obtain rfl:=Option.some.inj H
    have hnb26:=NB389_390.out
    have hnc26:=NB390_389.out
    have hcz27_0:wc.cell? ⟨gb389,0,none⟩=some (.int .i64 a0_0):=(yl_ BK389.out 0).trans rfl
    have hcz27_1:wc.cell? ⟨gb389,1,none⟩=some (.int .i64 a0_1):=(yl_ BK389.out 1).trans rfl
    have hcz27_2:wc.cell? ⟨gb389,2,none⟩=some (.string a0_2):=(yl_ BK389.out 2).trans rfl
    have hfz27_0:=yi_ BK389.out 0
    have hfz27_1:=yi_ BK389.out 1
    have hfz27_2:=yi_ BK389.out 2
    have hcz28_0:wc.cell? ⟨gb390,0,none⟩=some (.int .i64 a1_0):=(yl_ BK390.out 0).trans rfl
    have hcz28_1:wc.cell? ⟨gb390,1,none⟩=some (.int .i64 a1_1):=(yl_ BK390.out 1).trans rfl
    have hcz28_2:wc.cell? ⟨gb390,2,none⟩=some (.string a1_2):=(yl_ BK390.out 2).trans rfl
    have hfz28_0:=yi_ BK390.out 0
    have hfz28_1:=yi_ BK390.out 1
    have hfz28_2:=yi_ BK390.out 2
    go_wp2
    go_ret
    exact⟨by first|rfl|(simp [yr_,ys_] <;> rfl)|(simp [*,yr_,ys_] <;> rfl),by repeat (with_reducible first|exact HB.out|apply yc_|apply ya_|apply yb_|refine yq_ ?_ GE389.out|refine yq_ ?_ GE390.out)⟩
   rw[if_neg c25] at H
   have c25b0:decide (a0_0 < a1_0)=false:=decide_eq_false c25
   clear c25
   obtain rfl:=Option.some.inj H
   have hnb29:=NB389_390.out
   have hnc29:=NB390_389.out
   have hcz30_0:wc.cell? ⟨gb389,0,none⟩=some (.int .i64 a0_0):=(yl_ BK389.out 0).trans rfl
   have hcz30_1:wc.cell? ⟨gb389,1,none⟩=some (.int .i64 a0_1):=(yl_ BK389.out 1).trans rfl
   have hcz30_2:wc.cell? ⟨gb389,2,none⟩=some (.string a0_2):=(yl_ BK389.out 2).trans rfl
   have hfz30_0:=yi_ BK389.out 0
   have hfz30_1:=yi_ BK389.out 1
   have hfz30_2:=yi_ BK389.out 2
   have hcz31_0:wc.cell? ⟨gb390,0,none⟩=some (.int .i64 a1_0):=(yl_ BK390.out 0).trans rfl
   have hcz31_1:wc.cell? ⟨gb390,1,none⟩=some (.int .i64 a1_1):=(yl_ BK390.out 1).trans rfl
   have hcz31_2:wc.cell? ⟨gb390,2,none⟩=some (.string a1_2):=(yl_ BK390.out 2).trans rfl
   have hfz31_0:=yi_ BK390.out 0
   have hfz31_1:=yi_ BK390.out 1
   have hfz31_2:=yi_ BK390.out 2
   go_wp2
   go_ret
   exact⟨by first|rfl|(simp [yr_,ys_] <;> rfl)|(simp [*,yr_,ys_] <;> rfl),by repeat (with_reducible first|exact HB.out|apply yc_|apply ya_|apply yb_|refine yq_ ?_ GE389.out|refine yq_ ?_ GE390.out)⟩

end Go.Proofs.YthimblhfjfngiaaGreat.PText

namespace Go.Proofs.YthimblhfjfngiaaGreat.PText
open Go.RowKit Go.Proofs.YthimblhfjfngiaaGreatW.PrintWords Go.Proofs.YthimblhfjfngiaaGreatW.PrintLast Go.Proofs.YthimblhfjfngiaaGreatW.PrintMore
attribute [local go_sem] yT_ yU_ y5_ y6_ yI_ yJ_ yV_ yW_   -- for this text's walks alone
set_option linter.unusedVariables false
set_option linter.unusedSimpArgs false

attribute [local go_sem high] eqA91
mutual
def yg_.j0:Nat→ByteArray→List (S91)→Bool→Option (Int)
 | 0,_,_,_=>none
 | k+1,x0,x1,x15=>if x15=true then (some 2) else (yg_.l0 k x0 x1 0)
def yg_.l0:Nat→ByteArray→List (S91)→Int→Option (Int)
 | 0,_,_,_=>none
 | k+1,x0,x1,x5=>if x5 < (x1.length:Int) then (if 0≤x5 then (if ((rd_T91 x1 x5).f0) < 0 then (some 1) else (if ((rd_T91 x1 x5).f1) > (x0.size:Int) then (some 1) else (if ((rd_T91 x1 x5).f0) > ((rd_T91 x1 x5).f1) then (some 1) else (yg_.l0 k x0 x1 (wrap64 (x5+1)))))) else (none)) else (yg_.l1 k x1 0)
def yg_.l1:Nat→List (S91)→Int→Option (Int)
 | 0,_,_=>none
 | k+1,x1,x6=>if x6 < (x1.length:Int) then (yg_.l2 k x1 x6 0) else (some 0)
def yg_.l2:Nat→List (S91)→Int→Int→Option (Int)
 | 0,_,_,_=>none
 | k+1,x1,x6,x7=>if x7 < x6 then (if 0≤x6 then (if x6 < (x1.length:Int) then (if 0≤x7 then (if x7 < (x1.length:Int) then (if (!(((rd_T91 x1 x6).f0) == ((rd_T91 x1 x7).f0)) || (!(((rd_T91 x1 x6).f1) == ((rd_T91 x1 x7).f1)) || (!((((rd_T91 x1 x6).f2).toList) == (((rd_T91 x1 x7).f2).toList)))))=true then ((yF_.f k ((rd_T91 x1 x6).f0) ((rd_T91 x1 x6).f1) ((rd_T91 x1 x6).f2) ((rd_T91 x1 x7).f0) ((rd_T91 x1 x7).f1) ((rd_T91 x1 x7).f2)).bind fun t399=>(if t399=true then (some 10) else (yg_.l2 k x1 x6 (wrap64 (x7+1))))) else (yg_.l2 k x1 x6 (wrap64 (x7+1)))) else (none)) else (none)) else (none)) else (none)) else (yg_.l1 k x1 (wrap64 (x6+1)))
end
def yg_.f (k:Nat) (a0:ByteArray) (l1:List (S91)):Option (Int):=if (a0.size:Int) > 200000 then (yg_.j0 k a0 l1 true) else (yg_.j0 k a0 l1 (decide ((l1.length:Int) > 10000)))
def yg_.T6:Bool × List (List Nat × List Nat):=(true,[([],[]),([],[]),([0,1],[0,1]),([2],[2]),([3],[3]),([4],[4]),([5],[5]),([6],[6]),([6],[6]),([7,8,6],[6,7,8]),([9,6],[6,9]),([10,6],[6,10]),([6],[6]),([12,6],[6,12]),([11,13,6],[6,11,13]),([6,14],[6,14]),([15,6],[15]),([16],[16]),([16],[16]),([17,18,16],[16,17,18]),([19,16],[16,19]),([20,16],[16,20]),([16],[16]),([16],[16]),([22,23,16],[16,22,23]),([24,16],[16,24]),([25,16],[16,25]),([21,26,16],[16,21,26]),([16,27],[16,27])])
def yg_.B6:List Nat:=[0,0,3,7,15,31,63,127,127,511,1023,2047,127,4223,16383,32767,65535,131071,131071,524287,1048575,2097151,131071,131071,12713983,29491199,63045631,134217727,268435455]
theorem yg_.tab6:rtab .any (opsOf Tryz.f80 6)=yg_.T6:=by kernel_rfl
theorem yg_.bits6:waitsOk yg_.T6.2 yg_.B6=true:=by kernel_rfl
def yg_.T14:Bool × List (List Nat × List Nat):=(true,[([],[]),([],[]),([0,1],[0,1]),([2],[2]),([],[]),([],[]),([4,5],[4,5]),([6],[6]),([3,7],[3,7]),([8],[8]),([9],[9]),([9],[9]),([10,11,9],[9,10,11]),([12,9],[9,12]),([9],[9]),([9],[9]),([14,15,9],[9,14,15]),([16,9],[9,16]),([13,17,9,9],[9,13,17]),([9,18],[9,18])])
def yg_.B14:List Nat:=[0,0,3,7,0,0,48,112,255,511,1023,1023,4095,8191,1023,1023,50175,115711,262143,524287]
theorem yg_.tab14:rtab .any (opsOf Tryz.f80 14)=yg_.T14:=by kernel_rfl
theorem yg_.bits14:waitsOk yg_.T14.2 yg_.B14=true:=by kernel_rfl
set_option maxHeartbeats 8000000 in
set_option maxRecDepth 100000 in
theorem yg_.calls (k:Nat) (a0:ByteArray) (A1:Option Addr) (c1:Nat) (l1:List (S91)) (r:Int) (w:World) (hr1:Kd.C k91 w A1 l1.length l1) (hc1:l1.length≤c1) (h:yg_.f k a0 l1=some r) :
  Calls Tryz.prog 80 #[.string a0,.slice A1 l1.length c1] w fun e w'=>e=.returned (.int .i64 r)∧Below w.heap.size w w':=by
 have hu91:=Tryz.underlying91
 have HR1:=Aside0.mk hr1
 have HC1:=Aside0.mk hc1
 clear hr1 hc1
 have HB:=Aside0.mk (Below.refl w.heap.size w)
 have H:(if (a0.size:Int) > 200000 then (yg_.j0 k a0 l1 true) else (yg_.j0 k a0 l1 (decide ((l1.length:Int) > 10000))))=some r:=h
 clear h
 have HC3:=Aside0.mk H
 clear H
 go_enter Tryz.func80,Tryz.ntmps80
 go_upto_region 1 with (fail)
 go_cut [15] (fun v15 wc=>∃ (kq:Nat) (x15_2:Bool),v15=.bool x15_2∧Aside0 (yg_.j0 kq a0 l1 x15_2=some r)∧Aside0 (kq≤k)∧Aside0 (Below w.heap.size w wc))
 case first =>
  have H:=HC3.out
  clear HC3
  by_cases c4:(a0.size:Int) > 200000
  ·rw[if_pos c4] at H
   have c4b0:decide (200000 < (a0.size:Int))=true:=decide_eq_true c4
   have c4b1:decide (200000 < a0.size)=true:=decide_eq_true (by omega)
   clear c4
   (first|rw[c4b0]|(simp only[i64_w,i32_w];rw[c4b0])|skip)
   have H':=Aside0.mk H
   clear H
   go_wp2
   go_meet
   case rel=>exact⟨_,(true),zc_,H',⟨by first|omega|exact Nat.le_refl _⟩,⟨by repeat (with_reducible first|exact HB.out|apply yc_|apply ya_|apply yb_)⟩⟩
  rw[if_neg c4] at H
  have c4b0:decide (200000 < (a0.size:Int))=false:=decide_eq_false c4
  have c4b1:decide (200000 < a0.size)=false:=decide_eq_false (by omega)
  clear c4
  (first|rw[c4b0]|(simp only[i64_w,i32_w];rw[c4b0])|skip)
  have H':=Aside0.mk H
  clear H
  go_wp2
  go_meet
  case rel=>exact⟨_,(decide ((l1.length:Int) > 10000)),zc_,H',⟨by first|omega|exact Nat.le_refl _⟩,⟨by repeat (with_reducible first|exact HB.out|apply yc_|apply ya_|apply yb_)⟩⟩
 case rest =>
  clear HC3
  try clear c1
  try clear p2
  try clear c4
  try clear c4b0
  try clear c4b1
  obtain⟨kq,x15_2,rfl,HA,HJ2,HB⟩:=hcut
  cases kq with
  | zero=>exact absurd HA.out (by simp [yg_.j0])
  | succ kj2 =>
   have H:=HA.out
   clear HA
   simp only[yg_.j0] at H
   by_cases c5:x15_2=true
   ·subst c5
    have H1:(some 2)=some r:=by rw[if_pos rfl] at H;exact H
    clear H
    have H:=H1
    clear H1
    obtain rfl:=Option.some.inj H
    go_wp2
    go_ret
    exact⟨by first|rfl|(simp [yr_,ys_] <;> rfl)|(simp [*,yr_,ys_] <;> rfl),by repeat (with_reducible first|exact HB.out|apply yc_|apply ya_|apply yb_)⟩
   replace c5:=Bool.eq_false_iff.mpr c5
   subst c5
   have H1:(yg_.l0 kj2 a0 l1 0)=some r:=by rw[if_neg (show ¬ (false=true) by decide)] at H;exact H
   clear H
   have H:=H1
   clear H1
   have H':=Aside0.mk H
   clear H
   go_wp2
   try simp only[Act.put,List.setIfInBounds_toArray,List.set_cons_succ,List.set_cons_zero]
   go_loopg [5] kj2 (fun kq v5 w'=>∃ (x5_2:Int),v5=.int .i64 x5_2∧Aside0 (yg_.l0 kq a0 l1 x5_2=some r)∧Aside0 (kq≤kj2)∧Aside0 (Below w.heap.size w w'))
   case atStart=>exact⟨(0),zc_,H',⟨Nat.le_refl _⟩,⟨by repeat (with_reducible first|exact HB.out|apply yc_|apply ya_|apply yb_)⟩⟩
   case round =>
    clear H'
    try clear c1
    try clear p2
    try clear c4
    try clear c4b0
    try clear c4b1
    try clear c5
    try clear p2
    obtain⟨x5_2,rfl,HA,HK2,HB⟩:=hrel
    cases gk with
    | zero=>exact absurd HA.out (by simp [yg_.l0])
    | succ k2 =>
     have H:=HA.out
     clear HA
     simp only[yg_.l0] at H
     by_cases c6:x5_2 < (l1.length:Int)
     ·rw[if_pos c6] at H
      have c6b0:decide (x5_2 < (l1.length:Int))=true:=decide_eq_true c6
      clear c6
      by_cases c7:0≤x5_2
      rotate_left
      ·rw[if_neg c7] at H
       exact absurd H (by simp)
      rw[if_pos c7] at H
      have c7b0:decide (0≤x5_2)=true:=decide_eq_true c7
      clear c7
      by_cases c8:((rd_T91 l1 x5_2).f0) < 0
      ·rw[if_pos c8] at H
       have c8b0:decide (((rd_T91 l1 x5_2).f0) < 0)=true:=decide_eq_true c8
       clear c8
       obtain rfl:=Option.some.inj H
       try go_wp2
       have n0_:=Aside0.mk (yb_ HB.out)
       clear HB
       have HB:=n0_
       clear n0_
       have p391:0≤(x5_2:Int):=of_decide_eq_true zd_
       have q391:x5_2 < (l1.length:Int):=of_decide_eq_true zd_
       obtain⟨ad391,e391,hx391_0,hx391_1,hx391_2⟩:=at_T91 HR1.out x5_2 p391 q391
       have hw391_2:=hx391_2
       have hw391_1:=hx391_1
       have hw391_0:=hx391_0
       cases e391
       replace hx391_0:=(HB.out.cell (World.block_lt_of_cell? w _ hx391_0)).trans hx391_0
       replace hx391_1:=(HB.out.cell (World.block_lt_of_cell? w _ hx391_1)).trans hx391_1
       replace hx391_2:=(HB.out.cell (World.block_lt_of_cell? w _ hx391_2)).trans hx391_2
       replace p391:=eq_true p391
       replace q391:=eq_true q391
       refine start_ (n:=29) (S:=fun w'=>w'.cell? (ad391.add ((x5_2).toNat * 3))=some (.int .i64 ((rd_T91 l1 x5_2).f0))∧w'.cell? ⟨(ad391.add ((x5_2).toNat * 3)).block,(ad391.add ((x5_2).toNat * 3)).off+1,none⟩=some (.int .i64 ((rd_T91 l1 x5_2).f1))∧w'.cell? ⟨(ad391.add ((x5_2).toNat * 3)).block,(ad391.add ((x5_2).toNat * 3)).off+2,none⟩=some (.string ((rd_T91 l1 x5_2).f2))) (ds:=[]) (bA 29 0) ze_ rfl rfl ⟨((HB.out.cell (World.block_lt_of_cell? w _ hw391_0)).trans hw391_0),((HB.out.cell (World.block_lt_of_cell? w _ hw391_1)).trans hw391_1),((HB.out.cell (World.block_lt_of_cell? w _ hw391_2)).trans hw391_2)⟩ (fun hHeld=>?_);refine yQ_ yg_.tab6 yg_.bits6 (fun HT_ HW_=>?_)
       generalize wr.drew=w9 at HB hx391_0 hx391_1 hx391_2 hHeld ⊢
       refine pu_ 0 22 (bA 29 1) HT_ ?_
       refine pu_ 1 23 (bA 29 3) HT_ ?_
       refine pu_ 2 24 (bA 29 7) HT_ ?_
       refine pu_ 3 25 (bA 29 15) HT_ ?_
       refine tk_ 4 26 (bA 29 31) rfl HT_ HW_ hHeld (by rintro w' ⟨s0,s1,s2⟩;go_simp;with_reducible rfl) ?_
       refine pu_ 5 27 (bA 29 63) HT_ ?_
       refine pu_ 6 28 (bA 29 127) HT_ ?_
       refine pz_ 7 29 (bA 29 255) HT_ ?_
       refine pz_ 8 30 (bA 29 511) HT_ ?_
       refine pz_ 9 31 (bA 29 1023) HT_ ?_
       refine pz_ 10 32 (bA 29 2047) HT_ ?_
       refine pz_ 11 33 (bA 29 4095) HT_ ?_
       refine pz_ 12 34 (bA 29 8191) HT_ ?_
       refine pz_ 13 35 (bA 29 16383) HT_ ?_
       refine pz_ 14 36 (bA 29 32767) HT_ ?_
       refine pu_ 15 37 (bA 29 65535) HT_ ?_
       refine pu_ 16 38 (bA 29 131071) HT_ ?_
       refine pz_ 17 39 (bA 29 262143) HT_ ?_
       refine pz_ 18 40 (bA 29 524287) HT_ ?_
       refine pz_ 19 41 (bA 29 1048575) HT_ ?_
       refine pz_ 20 42 (bA 29 2097151) HT_ ?_
       refine pz_ 21 43 (bA 29 4194303) HT_ ?_
       refine pz_ 22 44 (bA 29 8388607) HT_ ?_
       refine pz_ 23 45 (bA 29 16777215) HT_ ?_
       refine pz_ 24 46 (bA 29 33554431) HT_ ?_
       refine pz_ 25 47 (bA 29 67108863) HT_ ?_
       refine pz_ 26 48 (bA 29 134217727) HT_ ?_
       refine pz_ 27 49 (bA 29 268435455) HT_ ?_
       refine pu_ 28 50 (bA 29 536870911) HT_ ?_
       refine done_ (ycb_ HT_.out ze_) ?_
       try go_wp2
       go_ret
       exact⟨by first|rfl|(simp [yr_,ys_] <;> rfl)|(simp [*,yr_,ys_] <;> rfl),by repeat (with_reducible first|exact HB.out|apply yc_|apply ya_|apply yb_)⟩
      rw[if_neg c8] at H
      have c8b0:decide (((rd_T91 l1 x5_2).f0) < 0)=false:=decide_eq_false c8
      clear c8
      by_cases c10:((rd_T91 l1 x5_2).f1) > (a0.size:Int)
      ·rw[if_pos c10] at H
       have c10b0:decide ((a0.size:Int) < ((rd_T91 l1 x5_2).f1))=true:=decide_eq_true c10
       clear c10
       obtain rfl:=Option.some.inj H
       try go_wp2
       have n0_:=Aside0.mk (yb_ HB.out)
       clear HB
       have HB:=n0_
       clear n0_
       have p391:0≤(x5_2:Int):=of_decide_eq_true zd_
       have q391:x5_2 < (l1.length:Int):=of_decide_eq_true zd_
       obtain⟨ad391,e391,hx391_0,hx391_1,hx391_2⟩:=at_T91 HR1.out x5_2 p391 q391
       have hw391_2:=hx391_2
       have hw391_1:=hx391_1
       have hw391_0:=hx391_0
       cases e391
       replace hx391_0:=(HB.out.cell (World.block_lt_of_cell? w _ hx391_0)).trans hx391_0
       replace hx391_1:=(HB.out.cell (World.block_lt_of_cell? w _ hx391_1)).trans hx391_1
       replace hx391_2:=(HB.out.cell (World.block_lt_of_cell? w _ hx391_2)).trans hx391_2
       replace p391:=eq_true p391
       replace q391:=eq_true q391
       have p392:0≤(x5_2:Int):=of_decide_eq_true zd_
       have q392:x5_2 < (l1.length:Int):=of_decide_eq_true zd_
       obtain⟨ad392,e392,hx392_0,hx392_1,hx392_2⟩:=at_T91 HR1.out x5_2 p392 q392
       have hw392_2:=hx392_2
       have hw392_1:=hx392_1
       have hw392_0:=hx392_0
       obtain rfl:ad391=ad392:=(by injection e392)
       replace hx392_0:=(HB.out.cell (World.block_lt_of_cell? w _ hx392_0)).trans hx392_0
       replace hx392_1:=(HB.out.cell (World.block_lt_of_cell? w _ hx392_1)).trans hx392_1
       replace hx392_2:=(HB.out.cell (World.block_lt_of_cell? w _ hx392_2)).trans hx392_2
       replace p392:=eq_true p392
       replace q392:=eq_true q392
       refine start_ (n:=29) (S:=fun w'=>w'.cell? (ad391.add ((x5_2).toNat * 3))=some (.int .i64 ((rd_T91 l1 x5_2).f0))∧w'.cell? ⟨(ad391.add ((x5_2).toNat * 3)).block,(ad391.add ((x5_2).toNat * 3)).off+1,none⟩=some (.int .i64 ((rd_T91 l1 x5_2).f1))∧w'.cell? ⟨(ad391.add ((x5_2).toNat * 3)).block,(ad391.add ((x5_2).toNat * 3)).off+2,none⟩=some (.string ((rd_T91 l1 x5_2).f2))∧w'.cell? (ad391.add ((x5_2).toNat * 3))=some (.int .i64 ((rd_T91 l1 x5_2).f0))∧w'.cell? ⟨(ad391.add ((x5_2).toNat * 3)).block,(ad391.add ((x5_2).toNat * 3)).off+1,none⟩=some (.int .i64 ((rd_T91 l1 x5_2).f1))∧w'.cell? ⟨(ad391.add ((x5_2).toNat * 3)).block,(ad391.add ((x5_2).toNat * 3)).off+2,none⟩=some (.string ((rd_T91 l1 x5_2).f2))) (ds:=[]) (bA 29 0) ze_ rfl rfl ⟨((HB.out.cell (World.block_lt_of_cell? w _ hw391_0)).trans hw391_0),((HB.out.cell (World.block_lt_of_cell? w _ hw391_1)).trans hw391_1),((HB.out.cell (World.block_lt_of_cell? w _ hw391_2)).trans hw391_2),((HB.out.cell (World.block_lt_of_cell? w _ hw392_0)).trans hw392_0),((HB.out.cell (World.block_lt_of_cell? w _ hw392_1)).trans hw392_1),((HB.out.cell (World.block_lt_of_cell? w _ hw392_2)).trans hw392_2)⟩ (fun hHeld=>?_);refine yQ_ yg_.tab6 yg_.bits6 (fun HT_ HW_=>?_)
       generalize wr.drew=w11 at HB hx391_0 hx391_1 hx391_2 hx392_0 hx392_1 hx392_2 hHeld ⊢
       refine pu_ 0 22 (bA 29 1) HT_ ?_
       refine pu_ 1 23 (bA 29 3) HT_ ?_
       refine pu_ 2 24 (bA 29 7) HT_ ?_
       refine pu_ 3 25 (bA 29 15) HT_ ?_
       refine tk_ 4 26 (bA 29 31) rfl HT_ HW_ hHeld (by rintro w' ⟨s0,s1,s2,s3,s4,s5⟩;go_simp;with_reducible rfl) ?_
       refine pu_ 5 27 (bA 29 63) HT_ ?_
       refine pu_ 6 28 (bA 29 127) HT_ ?_
       refine pu_ 7 29 (bA 29 255) HT_ ?_
       refine pu_ 8 30 (bA 29 511) HT_ ?_
       refine pu_ 9 31 (bA 29 1023) HT_ ?_
       refine pu_ 10 32 (bA 29 2047) HT_ ?_
       refine pu_ 12 34 (bA 29 6143) HT_ ?_
       refine pu_ 13 35 (bA 29 14335) HT_ ?_
       refine tk_ 11 33 (bA 29 16383) rfl HT_ HW_ hHeld (by rintro w' ⟨s0,s1,s2,s3,s4,s5⟩;go_simp;with_reducible rfl) ?_
       refine pu_ 14 36 (bA 29 32767) HT_ ?_
       refine pu_ 15 37 (bA 29 65535) HT_ ?_
       refine pu_ 16 38 (bA 29 131071) HT_ ?_
       refine pz_ 17 39 (bA 29 262143) HT_ ?_
       refine pz_ 18 40 (bA 29 524287) HT_ ?_
       refine pz_ 19 41 (bA 29 1048575) HT_ ?_
       refine pz_ 20 42 (bA 29 2097151) HT_ ?_
       refine pz_ 21 43 (bA 29 4194303) HT_ ?_
       refine pz_ 22 44 (bA 29 8388607) HT_ ?_
       refine pz_ 23 45 (bA 29 16777215) HT_ ?_
       refine pz_ 24 46 (bA 29 33554431) HT_ ?_
       refine pz_ 25 47 (bA 29 67108863) HT_ ?_
       refine pz_ 26 48 (bA 29 134217727) HT_ ?_
       refine pz_ 27 49 (bA 29 268435455) HT_ ?_
       refine pu_ 28 50 (bA 29 536870911) HT_ ?_
       refine done_ (ycb_ HT_.out ze_) ?_
       try go_wp2
       go_ret
       exact⟨by first|rfl|(simp [yr_,ys_] <;> rfl)|(simp [*,yr_,ys_] <;> rfl),by repeat (with_reducible first|exact HB.out|apply yc_|apply ya_|apply yb_)⟩
      rw[if_neg c10] at H
      have c10b0:decide ((a0.size:Int) < ((rd_T91 l1 x5_2).f1))=false:=decide_eq_false c10
      clear c10
      by_cases c12:((rd_T91 l1 x5_2).f0) > ((rd_T91 l1 x5_2).f1)
      ·rw[if_pos c12] at H
       have c12b0:decide (((rd_T91 l1 x5_2).f1) < ((rd_T91 l1 x5_2).f0))=true:=decide_eq_true c12
       clear c12
       obtain rfl:=Option.some.inj H
       try go_wp2
       have n0_:=Aside0.mk (yb_ HB.out)
       clear HB
       have HB:=n0_
       clear n0_
       have p391:0≤(x5_2:Int):=of_decide_eq_true zd_
       have q391:x5_2 < (l1.length:Int):=of_decide_eq_true zd_
       obtain⟨ad391,e391,hx391_0,hx391_1,hx391_2⟩:=at_T91 HR1.out x5_2 p391 q391
       have hw391_2:=hx391_2
       have hw391_1:=hx391_1
       have hw391_0:=hx391_0
       cases e391
       replace hx391_0:=(HB.out.cell (World.block_lt_of_cell? w _ hx391_0)).trans hx391_0
       replace hx391_1:=(HB.out.cell (World.block_lt_of_cell? w _ hx391_1)).trans hx391_1
       replace hx391_2:=(HB.out.cell (World.block_lt_of_cell? w _ hx391_2)).trans hx391_2
       replace p391:=eq_true p391
       replace q391:=eq_true q391
       have p392:0≤(x5_2:Int):=of_decide_eq_true zd_
       have q392:x5_2 < (l1.length:Int):=of_decide_eq_true zd_
       obtain⟨ad392,e392,hx392_0,hx392_1,hx392_2⟩:=at_T91 HR1.out x5_2 p392 q392
       have hw392_2:=hx392_2
       have hw392_1:=hx392_1
       have hw392_0:=hx392_0
       obtain rfl:ad391=ad392:=(by injection e392)
       replace hx392_0:=(HB.out.cell (World.block_lt_of_cell? w _ hx392_0)).trans hx392_0
       replace hx392_1:=(HB.out.cell (World.block_lt_of_cell? w _ hx392_1)).trans hx392_1
       replace hx392_2:=(HB.out.cell (World.block_lt_of_cell? w _ hx392_2)).trans hx392_2
       replace p392:=eq_true p392
       replace q392:=eq_true q392
       have p393:0≤(x5_2:Int):=of_decide_eq_true zd_
       have q393:x5_2 < (l1.length:Int):=of_decide_eq_true zd_
       obtain⟨ad393,e393,hx393_0,hx393_1,hx393_2⟩:=at_T91 HR1.out x5_2 p393 q393
       have hw393_2:=hx393_2
       have hw393_1:=hx393_1
       have hw393_0:=hx393_0
       obtain rfl:ad391=ad393:=(by injection e393)
       replace hx393_0:=(HB.out.cell (World.block_lt_of_cell? w _ hx393_0)).trans hx393_0
       replace hx393_1:=(HB.out.cell (World.block_lt_of_cell? w _ hx393_1)).trans hx393_1
       replace hx393_2:=(HB.out.cell (World.block_lt_of_cell? w _ hx393_2)).trans hx393_2
       replace p393:=eq_true p393
       replace q393:=eq_true q393
       have p394:0≤(x5_2:Int):=of_decide_eq_true zd_
       have q394:x5_2 < (l1.length:Int):=of_decide_eq_true zd_
       obtain⟨ad394,e394,hx394_0,hx394_1,hx394_2⟩:=at_T91 HR1.out x5_2 p394 q394
       have hw394_2:=hx394_2
       have hw394_1:=hx394_1
       have hw394_0:=hx394_0
       obtain rfl:ad391=ad394:=(by injection e394)
       replace hx394_0:=(HB.out.cell (World.block_lt_of_cell? w _ hx394_0)).trans hx394_0
       replace hx394_1:=(HB.out.cell (World.block_lt_of_cell? w _ hx394_1)).trans hx394_1
       replace hx394_2:=(HB.out.cell (World.block_lt_of_cell? w _ hx394_2)).trans hx394_2
       replace p394:=eq_true p394
       replace q394:=eq_true q394
       refine start_ (n:=29) (S:=fun w'=>w'.cell? (ad391.add ((x5_2).toNat * 3))=some (.int .i64 ((rd_T91 l1 x5_2).f0))∧w'.cell? ⟨(ad391.add ((x5_2).toNat * 3)).block,(ad391.add ((x5_2).toNat * 3)).off+1,none⟩=some (.int .i64 ((rd_T91 l1 x5_2).f1))∧w'.cell? ⟨(ad391.add ((x5_2).toNat * 3)).block,(ad391.add ((x5_2).toNat * 3)).off+2,none⟩=some (.string ((rd_T91 l1 x5_2).f2))∧w'.cell? (ad391.add ((x5_2).toNat * 3))=some (.int .i64 ((rd_T91 l1 x5_2).f0))∧w'.cell? ⟨(ad391.add ((x5_2).toNat * 3)).block,(ad391.add ((x5_2).toNat * 3)).off+1,none⟩=some (.int .i64 ((rd_T91 l1 x5_2).f1))∧w'.cell? ⟨(ad391.add ((x5_2).toNat * 3)).block,(ad391.add ((x5_2).toNat * 3)).off+2,none⟩=some (.string ((rd_T91 l1 x5_2).f2))∧w'.cell? (ad391.add ((x5_2).toNat * 3))=some (.int .i64 ((rd_T91 l1 x5_2).f0))∧w'.cell? ⟨(ad391.add ((x5_2).toNat * 3)).block,(ad391.add ((x5_2).toNat * 3)).off+1,none⟩=some (.int .i64 ((rd_T91 l1 x5_2).f1))∧w'.cell? ⟨(ad391.add ((x5_2).toNat * 3)).block,(ad391.add ((x5_2).toNat * 3)).off+2,none⟩=some (.string ((rd_T91 l1 x5_2).f2))∧w'.cell? (ad391.add ((x5_2).toNat * 3))=some (.int .i64 ((rd_T91 l1 x5_2).f0))∧w'.cell? ⟨(ad391.add ((x5_2).toNat * 3)).block,(ad391.add ((x5_2).toNat * 3)).off+1,none⟩=some (.int .i64 ((rd_T91 l1 x5_2).f1))∧w'.cell? ⟨(ad391.add ((x5_2).toNat * 3)).block,(ad391.add ((x5_2).toNat * 3)).off+2,none⟩=some (.string ((rd_T91 l1 x5_2).f2))) (ds:=[]) (bA 29 0) ze_ rfl rfl ⟨((HB.out.cell (World.block_lt_of_cell? w _ hw391_0)).trans hw391_0),((HB.out.cell (World.block_lt_of_cell? w _ hw391_1)).trans hw391_1),((HB.out.cell (World.block_lt_of_cell? w _ hw391_2)).trans hw391_2),((HB.out.cell (World.block_lt_of_cell? w _ hw392_0)).trans hw392_0),((HB.out.cell (World.block_lt_of_cell? w _ hw392_1)).trans hw392_1),((HB.out.cell (World.block_lt_of_cell? w _ hw392_2)).trans hw392_2),((HB.out.cell (World.block_lt_of_cell? w _ hw393_0)).trans hw393_0),((HB.out.cell (World.block_lt_of_cell? w _ hw393_1)).trans hw393_1),((HB.out.cell (World.block_lt_of_cell? w _ hw393_2)).trans hw393_2),((HB.out.cell (World.block_lt_of_cell? w _ hw394_0)).trans hw394_0),((HB.out.cell (World.block_lt_of_cell? w _ hw394_1)).trans hw394_1),((HB.out.cell (World.block_lt_of_cell? w _ hw394_2)).trans hw394_2)⟩ (fun hHeld=>?_);refine yQ_ yg_.tab6 yg_.bits6 (fun HT_ HW_=>?_)
       generalize wr.drew=w13 at HB hx391_0 hx391_1 hx391_2 hx392_0 hx392_1 hx392_2 hx393_0 hx393_1 hx393_2 hx394_0 hx394_1 hx394_2 hHeld ⊢
       refine pu_ 0 22 (bA 29 1) HT_ ?_
       refine pu_ 1 23 (bA 29 3) HT_ ?_
       refine pu_ 2 24 (bA 29 7) HT_ ?_
       refine pu_ 3 25 (bA 29 15) HT_ ?_
       refine tk_ 4 26 (bA 29 31) rfl HT_ HW_ hHeld zj_ ?_
       refine pu_ 5 27 (bA 29 63) HT_ ?_
       refine pu_ 6 28 (bA 29 127) HT_ ?_
       refine pu_ 7 29 (bA 29 255) HT_ ?_
       refine pu_ 8 30 (bA 29 511) HT_ ?_
       refine pu_ 9 31 (bA 29 1023) HT_ ?_
       refine pu_ 10 32 (bA 29 2047) HT_ ?_
       refine pu_ 12 34 (bA 29 6143) HT_ ?_
       refine pu_ 13 35 (bA 29 14335) HT_ ?_
       refine tk_ 11 33 (bA 29 16383) rfl HT_ HW_ hHeld zj_ ?_
       refine pu_ 14 36 (bA 29 32767) HT_ ?_
       refine pu_ 15 37 (bA 29 65535) HT_ ?_
       refine pu_ 16 38 (bA 29 131071) HT_ ?_
       refine pu_ 17 39 (bA 29 262143) HT_ ?_
       refine pu_ 18 40 (bA 29 524287) HT_ ?_
       refine pu_ 19 41 (bA 29 1048575) HT_ ?_
       refine pu_ 20 42 (bA 29 2097151) HT_ ?_
       refine pu_ 22 44 (bA 29 6291455) HT_ ?_
       refine pu_ 23 45 (bA 29 14680063) HT_ ?_
       refine pu_ 24 46 (bA 29 31457279) HT_ ?_
       refine pu_ 25 47 (bA 29 65011711) HT_ ?_
       refine tk_ 21 43 (bA 29 67108863) rfl HT_ HW_ hHeld zj_ ?_
       refine tk_ 26 48 (bA 29 134217727) rfl HT_ HW_ hHeld zj_ ?_
       refine pu_ 27 49 (bA 29 268435455) HT_ ?_
       refine pu_ 28 50 (bA 29 536870911) HT_ ?_
       refine done_ (ycb_ HT_.out ze_) ?_
       try go_wp2
       go_ret
       exact⟨by first|rfl|(simp [yr_,ys_] <;> rfl)|(simp [*,yr_,ys_] <;> rfl),by repeat (with_reducible first|exact HB.out|apply yc_|apply ya_|apply yb_)⟩
      rw[if_neg c12] at H
      have c12b0:decide (((rd_T91 l1 x5_2).f1) < ((rd_T91 l1 x5_2).f0))=false:=decide_eq_false c12
      clear c12
      have H':=Aside0.mk H
      clear H
      try go_wp2
      have n0_:=Aside0.mk (yb_ HB.out)
      clear HB
      have HB:=n0_
      clear n0_
      have p391:0≤(x5_2:Int):=of_decide_eq_true zd_
      have q391:x5_2 < (l1.length:Int):=of_decide_eq_true zd_
      obtain⟨ad391,e391,hx391_0,hx391_1,hx391_2⟩:=at_T91 HR1.out x5_2 p391 q391
      have hw391_2:=hx391_2
      have hw391_1:=hx391_1
      have hw391_0:=hx391_0
      cases e391
      replace hx391_0:=(HB.out.cell (World.block_lt_of_cell? w _ hx391_0)).trans hx391_0
      replace hx391_1:=(HB.out.cell (World.block_lt_of_cell? w _ hx391_1)).trans hx391_1
      replace hx391_2:=(HB.out.cell (World.block_lt_of_cell? w _ hx391_2)).trans hx391_2
      replace p391:=eq_true p391
      replace q391:=eq_true q391
      have p392:0≤(x5_2:Int):=of_decide_eq_true zd_
      have q392:x5_2 < (l1.length:Int):=of_decide_eq_true zd_
      obtain⟨ad392,e392,hx392_0,hx392_1,hx392_2⟩:=at_T91 HR1.out x5_2 p392 q392
      have hw392_2:=hx392_2
      have hw392_1:=hx392_1
      have hw392_0:=hx392_0
      obtain rfl:ad391=ad392:=(by injection e392)
      replace hx392_0:=(HB.out.cell (World.block_lt_of_cell? w _ hx392_0)).trans hx392_0
      replace hx392_1:=(HB.out.cell (World.block_lt_of_cell? w _ hx392_1)).trans hx392_1
      replace hx392_2:=(HB.out.cell (World.block_lt_of_cell? w _ hx392_2)).trans hx392_2
      replace p392:=eq_true p392
      replace q392:=eq_true q392
      have p393:0≤(x5_2:Int):=of_decide_eq_true zd_
      have q393:x5_2 < (l1.length:Int):=of_decide_eq_true zd_
      obtain⟨ad393,e393,hx393_0,hx393_1,hx393_2⟩:=at_T91 HR1.out x5_2 p393 q393
      have hw393_2:=hx393_2
      have hw393_1:=hx393_1
      have hw393_0:=hx393_0
      obtain rfl:ad391=ad393:=(by injection e393)
      replace hx393_0:=(HB.out.cell (World.block_lt_of_cell? w _ hx393_0)).trans hx393_0
      replace hx393_1:=(HB.out.cell (World.block_lt_of_cell? w _ hx393_1)).trans hx393_1
      replace hx393_2:=(HB.out.cell (World.block_lt_of_cell? w _ hx393_2)).trans hx393_2
      replace p393:=eq_true p393
      replace q393:=eq_true q393
      have p394:0≤(x5_2:Int):=of_decide_eq_true zd_
      have q394:x5_2 < (l1.length:Int):=of_decide_eq_true zd_
      obtain⟨ad394,e394,hx394_0,hx394_1,hx394_2⟩:=at_T91 HR1.out x5_2 p394 q394
      have hw394_2:=hx394_2
      have hw394_1:=hx394_1
      have hw394_0:=hx394_0
      obtain rfl:ad391=ad394:=(by injection e394)
      replace hx394_0:=(HB.out.cell (World.block_lt_of_cell? w _ hx394_0)).trans hx394_0
      replace hx394_1:=(HB.out.cell (World.block_lt_of_cell? w _ hx394_1)).trans hx394_1
      replace hx394_2:=(HB.out.cell (World.block_lt_of_cell? w _ hx394_2)).trans hx394_2
      replace p394:=eq_true p394
      replace q394:=eq_true q394
      refine start_ (n:=29) (S:=fun w'=>w'.cell? (ad391.add ((x5_2).toNat * 3))=some (.int .i64 ((rd_T91 l1 x5_2).f0))∧w'.cell? ⟨(ad391.add ((x5_2).toNat * 3)).block,(ad391.add ((x5_2).toNat * 3)).off+1,none⟩=some (.int .i64 ((rd_T91 l1 x5_2).f1))∧w'.cell? ⟨(ad391.add ((x5_2).toNat * 3)).block,(ad391.add ((x5_2).toNat * 3)).off+2,none⟩=some (.string ((rd_T91 l1 x5_2).f2))∧w'.cell? (ad391.add ((x5_2).toNat * 3))=some (.int .i64 ((rd_T91 l1 x5_2).f0))∧w'.cell? ⟨(ad391.add ((x5_2).toNat * 3)).block,(ad391.add ((x5_2).toNat * 3)).off+1,none⟩=some (.int .i64 ((rd_T91 l1 x5_2).f1))∧w'.cell? ⟨(ad391.add ((x5_2).toNat * 3)).block,(ad391.add ((x5_2).toNat * 3)).off+2,none⟩=some (.string ((rd_T91 l1 x5_2).f2))∧w'.cell? (ad391.add ((x5_2).toNat * 3))=some (.int .i64 ((rd_T91 l1 x5_2).f0))∧w'.cell? ⟨(ad391.add ((x5_2).toNat * 3)).block,(ad391.add ((x5_2).toNat * 3)).off+1,none⟩=some (.int .i64 ((rd_T91 l1 x5_2).f1))∧w'.cell? ⟨(ad391.add ((x5_2).toNat * 3)).block,(ad391.add ((x5_2).toNat * 3)).off+2,none⟩=some (.string ((rd_T91 l1 x5_2).f2))∧w'.cell? (ad391.add ((x5_2).toNat * 3))=some (.int .i64 ((rd_T91 l1 x5_2).f0))∧w'.cell? ⟨(ad391.add ((x5_2).toNat * 3)).block,(ad391.add ((x5_2).toNat * 3)).off+1,none⟩=some (.int .i64 ((rd_T91 l1 x5_2).f1))∧w'.cell? ⟨(ad391.add ((x5_2).toNat * 3)).block,(ad391.add ((x5_2).toNat * 3)).off+2,none⟩=some (.string ((rd_T91 l1 x5_2).f2))) (ds:=[]) (bA 29 0) ze_ rfl rfl ⟨((HB.out.cell (World.block_lt_of_cell? w _ hw391_0)).trans hw391_0),((HB.out.cell (World.block_lt_of_cell? w _ hw391_1)).trans hw391_1),((HB.out.cell (World.block_lt_of_cell? w _ hw391_2)).trans hw391_2),((HB.out.cell (World.block_lt_of_cell? w _ hw392_0)).trans hw392_0),((HB.out.cell (World.block_lt_of_cell? w _ hw392_1)).trans hw392_1),((HB.out.cell (World.block_lt_of_cell? w _ hw392_2)).trans hw392_2),((HB.out.cell (World.block_lt_of_cell? w _ hw393_0)).trans hw393_0),((HB.out.cell (World.block_lt_of_cell? w _ hw393_1)).trans hw393_1),((HB.out.cell (World.block_lt_of_cell? w _ hw393_2)).trans hw393_2),((HB.out.cell (World.block_lt_of_cell? w _ hw394_0)).trans hw394_0),((HB.out.cell (World.block_lt_of_cell? w _ hw394_1)).trans hw394_1),((HB.out.cell (World.block_lt_of_cell? w _ hw394_2)).trans hw394_2)⟩ (fun hHeld=>?_);refine yQ_ yg_.tab6 yg_.bits6 (fun HT_ HW_=>?_)
      generalize wr.drew=w14 at HB hx391_0 hx391_1 hx391_2 hx392_0 hx392_1 hx392_2 hx393_0 hx393_1 hx393_2 hx394_0 hx394_1 hx394_2 hHeld ⊢
      refine pu_ 0 22 (bA 29 1) HT_ ?_
      refine pu_ 1 23 (bA 29 3) HT_ ?_
      refine pu_ 2 24 (bA 29 7) HT_ ?_
      refine pu_ 3 25 (bA 29 15) HT_ ?_
      refine tk_ 4 26 (bA 29 31) rfl HT_ HW_ hHeld zj_ ?_
      refine pu_ 5 27 (bA 29 63) HT_ ?_
      refine pu_ 6 28 (bA 29 127) HT_ ?_
      refine pu_ 7 29 (bA 29 255) HT_ ?_
      refine pu_ 8 30 (bA 29 511) HT_ ?_
      refine pu_ 9 31 (bA 29 1023) HT_ ?_
      refine pu_ 10 32 (bA 29 2047) HT_ ?_
      refine pu_ 12 34 (bA 29 6143) HT_ ?_
      refine pu_ 13 35 (bA 29 14335) HT_ ?_
      refine tk_ 11 33 (bA 29 16383) rfl HT_ HW_ hHeld zj_ ?_
      refine pu_ 14 36 (bA 29 32767) HT_ ?_
      refine pu_ 15 37 (bA 29 65535) HT_ ?_
      refine pu_ 16 38 (bA 29 131071) HT_ ?_
      refine pu_ 17 39 (bA 29 262143) HT_ ?_
      refine pu_ 18 40 (bA 29 524287) HT_ ?_
      refine pu_ 19 41 (bA 29 1048575) HT_ ?_
      refine pu_ 20 42 (bA 29 2097151) HT_ ?_
      refine pu_ 22 44 (bA 29 6291455) HT_ ?_
      refine pu_ 23 45 (bA 29 14680063) HT_ ?_
      refine pu_ 24 46 (bA 29 31457279) HT_ ?_
      refine pu_ 25 47 (bA 29 65011711) HT_ ?_
      refine tk_ 21 43 (bA 29 67108863) rfl HT_ HW_ hHeld zj_ ?_
      refine tk_ 26 48 (bA 29 134217727) rfl HT_ HW_ hHeld zj_ ?_
      refine pu_ 27 49 (bA 29 268435455) HT_ ?_
      refine pu_ 28 50 (bA 29 536870911) HT_ ?_
      refine done_ (ycb_ HT_.out ze_) ?_
      try go_wp2
      go_roundg k2
      case measure=>have:=HJ2.out;have:=HK2.out;omega
      case rel=>exact⟨(wrap64 (x5_2+1)),zc_,H',⟨by have:=HJ2.out;have:=HK2.out;omega⟩,⟨by repeat (with_reducible first|exact HB.out|apply yc_|apply ya_|apply yb_)⟩⟩
     rw[if_neg c6] at H
     have c6b0:decide (x5_2 < (l1.length:Int))=false:=decide_eq_false c6
     clear c6
     have H':=Aside0.mk H
     clear H
     go_wp2
     try simp only[Act.put,List.setIfInBounds_toArray,List.set_cons_succ,List.set_cons_zero]
     go_loopg [6] k2 (fun kq v6 w'=>∃ (x6_3:Int),v6=.int .i64 x6_3∧Aside0 (yg_.l1 kq l1 x6_3=some r)∧Aside0 (kq≤k2)∧Aside0 (Below w.heap.size w w'))
     case atStart=>exact⟨(0),zc_,H',⟨Nat.le_refl _⟩,⟨by repeat (with_reducible first|exact HB.out|apply yc_|apply ya_|apply yb_)⟩⟩
     case round =>
      clear H'
      try clear c1
      try clear p2
      try clear p3
      try clear q3
      try clear hx3
      try clear c6
      try clear c6b0
      try clear p6
      try clear c7
      try clear c12
      try clear c12b0
      try clear hx391_0
      try clear hx391_1
      try clear hx391_2
      try clear hx392_0
      try clear hx392_1
      try clear hx392_2
      try clear hx393_0
      try clear hx393_1
      try clear hx393_2
      try clear hx394_0
      try clear hx394_1
      try clear hx394_2
      try clear p391
      try clear p392
      try clear p393
      try clear p394
      try clear q391
      try clear q392
      try clear q393
      try clear q394
      obtain⟨x6_3,rfl,HA,HK3,HB⟩:=hrel
      cases gk with
      | zero=>exact absurd HA.out (by simp [yg_.l1])
      | succ k3 =>
       have H:=HA.out
       clear HA
       simp only[yg_.l1] at H
       by_cases c15:x6_3 < (l1.length:Int)
       rotate_left
       ·rw[if_neg c15] at H
        have c15b0:decide (x6_3 < (l1.length:Int))=false:=decide_eq_false c15
        clear c15
        obtain rfl:=Option.some.inj H
        go_wp2
        go_ret
        exact⟨by first|rfl|(simp [yr_,ys_] <;> rfl)|(simp [*,yr_,ys_] <;> rfl),by repeat (with_reducible first|exact HB.out|apply yc_|apply ya_|apply yb_)⟩
       rw[if_pos c15] at H
       have c15b0:decide (x6_3 < (l1.length:Int))=true:=decide_eq_true c15
       clear c15
       have H':=Aside0.mk H
       clear H
       go_wp2
       try simp only[Act.put,List.setIfInBounds_toArray,List.set_cons_succ,List.set_cons_zero]
       go_loopg [7] k3 (fun kq v7 w'=>∃ (x7_4:Int),v7=.int .i64 x7_4∧Aside0 (yg_.l2 kq l1 x6_3 x7_4=some r)∧Aside0 (kq≤k3)∧Aside0 (Below w.heap.size w w'))
       case atStart=>exact⟨(0),zc_,H',⟨Nat.le_refl _⟩,⟨by repeat (with_reducible first|exact HB.out|apply yc_|apply ya_|apply yb_)⟩⟩
       case round =>
        clear H'
        try clear c1
        try clear p2
        try clear p3
        try clear q3
        try clear hx3
        try clear c6
        try clear c6b0
        try clear p6
        try clear c7
        try clear c12
        try clear c12b0
        try clear c15
        try clear c15b0
        try clear hx391_0
        try clear hx391_1
        try clear hx391_2
        try clear hx392_0
        try clear hx392_1
        try clear hx392_2
        try clear hx393_0
        try clear hx393_1
        try clear hx393_2
        try clear hx394_0
        try clear hx394_1
        try clear hx394_2
        try clear p2
        try clear p3
        try clear p391
        try clear p392
        try clear p393
        try clear p394
        try clear p6
        try clear q3
        try clear q391
        try clear q392
        try clear q393
        try clear q394
        obtain⟨x7_4,rfl,HA,HK4,HB⟩:=hrel
        cases gk with
        | zero=>exact absurd HA.out (by simp [yg_.l2])
        | succ k4 =>
         have H:=HA.out
         clear HA
         simp only[yg_.l2] at H
         by_cases c16:x7_4 < x6_3
         rotate_left
         ·rw[if_neg c16] at H
          have c16b0:decide (x7_4 < x6_3)=false:=decide_eq_false c16
          clear c16
          have H':=Aside0.mk H
          clear H
          go_wp2
          go_roundg k4
          case measure=>have:=HJ2.out;have:=HK2.out;have:=HK3.out;have:=HK4.out;omega
          case rel=>exact⟨(wrap64 (x6_3+1)),zc_,H',⟨by have:=HJ2.out;have:=HK2.out;have:=HK3.out;have:=HK4.out;omega⟩,⟨by repeat (with_reducible first|exact HB.out|apply yc_|apply ya_|apply yb_)⟩⟩
         rw[if_pos c16] at H
         have c16b0:decide (x7_4 < x6_3)=true:=decide_eq_true c16
         clear c16
         by_cases c17:0≤x6_3
         rotate_left
         ·rw[if_neg c17] at H
          exact absurd H (by simp)
         rw[if_pos c17] at H
         have c17b0:decide (0≤x6_3)=true:=decide_eq_true c17
         clear c17
         by_cases c18:x6_3 < (l1.length:Int)
         rotate_left
         ·rw[if_neg c18] at H
          exact absurd H (by simp)
         rw[if_pos c18] at H
         have c18b0:decide (x6_3 < (l1.length:Int))=true:=decide_eq_true c18
         clear c18
         by_cases c19:0≤x7_4
         rotate_left
         ·rw[if_neg c19] at H
          exact absurd H (by simp)
         rw[if_pos c19] at H
         have c19b0:decide (0≤x7_4)=true:=decide_eq_true c19
         clear c19
         by_cases c20:x7_4 < (l1.length:Int)
         rotate_left
         ·rw[if_neg c20] at H
          exact absurd H (by simp)
         rw[if_pos c20] at H
         have c20b0:decide (x7_4 < (l1.length:Int))=true:=decide_eq_true c20
         clear c20
         by_cases c21:(!(((rd_T91 l1 x6_3).f0) == ((rd_T91 l1 x7_4).f0)) || (!(((rd_T91 l1 x6_3).f1) == ((rd_T91 l1 x7_4).f1)) || (!((((rd_T91 l1 x6_3).f2).toList) == (((rd_T91 l1 x7_4).f2).toList)))))=true
         rotate_left
         ·rw[if_neg c21] at H
          have c21b0:(!(((rd_T91 l1 x6_3).f0) == ((rd_T91 l1 x7_4).f0)) || (!(((rd_T91 l1 x6_3).f1) == ((rd_T91 l1 x7_4).f1)) || (!((((rd_T91 l1 x6_3).f2).toList) == (((rd_T91 l1 x7_4).f2).toList)))))=false:=by simpa using c21
          clear c21
          have H':=Aside0.mk H
          clear H
          try go_wp2
          have n0_:=Aside0.mk (yb_ HB.out)
          clear HB
          have HB:=n0_
          clear n0_
          have p395:0≤(x6_3:Int):=of_decide_eq_true zd_
          have q395:x6_3 < (l1.length:Int):=of_decide_eq_true zd_
          obtain⟨ad395,e395,hx395_0,hx395_1,hx395_2⟩:=at_T91 HR1.out x6_3 p395 q395
          have hw395_2:=hx395_2
          have hw395_1:=hx395_1
          have hw395_0:=hx395_0
          cases e395
          replace hx395_0:=(HB.out.cell (World.block_lt_of_cell? w _ hx395_0)).trans hx395_0
          replace hx395_1:=(HB.out.cell (World.block_lt_of_cell? w _ hx395_1)).trans hx395_1
          replace hx395_2:=(HB.out.cell (World.block_lt_of_cell? w _ hx395_2)).trans hx395_2
          replace p395:=eq_true p395
          replace q395:=eq_true q395
          have p396:0≤(x7_4:Int):=of_decide_eq_true zd_
          have q396:x7_4 < (l1.length:Int):=of_decide_eq_true zd_
          obtain⟨ad396,e396,hx396_0,hx396_1,hx396_2⟩:=at_T91 HR1.out x7_4 p396 q396
          have hw396_2:=hx396_2
          have hw396_1:=hx396_1
          have hw396_0:=hx396_0
          obtain rfl:ad395=ad396:=(by injection e396)
          replace hx396_0:=(HB.out.cell (World.block_lt_of_cell? w _ hx396_0)).trans hx396_0
          replace hx396_1:=(HB.out.cell (World.block_lt_of_cell? w _ hx396_1)).trans hx396_1
          replace hx396_2:=(HB.out.cell (World.block_lt_of_cell? w _ hx396_2)).trans hx396_2
          replace p396:=eq_true p396
          replace q396:=eq_true q396
          refine start_ (n:=20) (S:=fun w'=>w'.cell? (ad395.add ((x6_3).toNat * 3))=some (.int .i64 ((rd_T91 l1 x6_3).f0))∧w'.cell? ⟨(ad395.add ((x6_3).toNat * 3)).block,(ad395.add ((x6_3).toNat * 3)).off+1,none⟩=some (.int .i64 ((rd_T91 l1 x6_3).f1))∧w'.cell? ⟨(ad395.add ((x6_3).toNat * 3)).block,(ad395.add ((x6_3).toNat * 3)).off+2,none⟩=some (.string ((rd_T91 l1 x6_3).f2))∧w'.cell? (ad395.add ((x7_4).toNat * 3))=some (.int .i64 ((rd_T91 l1 x7_4).f0))∧w'.cell? ⟨(ad395.add ((x7_4).toNat * 3)).block,(ad395.add ((x7_4).toNat * 3)).off+1,none⟩=some (.int .i64 ((rd_T91 l1 x7_4).f1))∧w'.cell? ⟨(ad395.add ((x7_4).toNat * 3)).block,(ad395.add ((x7_4).toNat * 3)).off+2,none⟩=some (.string ((rd_T91 l1 x7_4).f2))) (ds:=[]) (bA 20 0) ze_ rfl rfl ⟨((HB.out.cell (World.block_lt_of_cell? w _ hw395_0)).trans hw395_0),((HB.out.cell (World.block_lt_of_cell? w _ hw395_1)).trans hw395_1),((HB.out.cell (World.block_lt_of_cell? w _ hw395_2)).trans hw395_2),((HB.out.cell (World.block_lt_of_cell? w _ hw396_0)).trans hw396_0),((HB.out.cell (World.block_lt_of_cell? w _ hw396_1)).trans hw396_1),((HB.out.cell (World.block_lt_of_cell? w _ hw396_2)).trans hw396_2)⟩ (fun hHeld=>?_);refine yQ_ yg_.tab14 yg_.bits14 (fun HT_ HW_=>?_)
          generalize wr.drew=w28 at HB hx395_0 hx395_1 hx395_2 hx396_0 hx396_1 hx396_2 hHeld ⊢
          refine pu_ 0 62 (bA 20 1) HT_ ?_
          refine pu_ 1 63 (bA 20 3) HT_ ?_
          refine pu_ 2 64 (bA 20 7) HT_ ?_
          refine pu_ 4 66 (bA 20 23) HT_ ?_
          refine pu_ 5 67 (bA 20 55) HT_ ?_
          refine pu_ 6 68 (bA 20 119) HT_ ?_
          refine tk_ 3 65 (bA 20 127) rfl HT_ HW_ hHeld (by rintro w' ⟨s0,s1,s2,s3,s4,s5⟩;go_simp;with_reducible rfl) ?_
          refine tk_ 7 69 (bA 20 255) rfl HT_ HW_ hHeld (by rintro w' ⟨s0,s1,s2,s3,s4,s5⟩;go_simp;with_reducible rfl) ?_
          refine pu_ 8 70 (bA 20 511) HT_ ?_
          refine pu_ 9 71 (bA 20 1023) HT_ ?_
          refine pz_ 10 72 (bA 20 2047) HT_ ?_
          refine pz_ 11 73 (bA 20 4095) HT_ ?_
          refine pz_ 12 74 (bA 20 8191) HT_ ?_
          refine pz_ 13 75 (bA 20 16383) HT_ ?_
          refine pz_ 14 76 (bA 20 32767) HT_ ?_
          refine pz_ 15 77 (bA 20 65535) HT_ ?_
          refine pz_ 16 78 (bA 20 131071) HT_ ?_
          refine pz_ 17 79 (bA 20 262143) HT_ ?_
          refine pz_ 18 80 (bA 20 524287) HT_ ?_
          refine pu_ 19 81 (bA 20 1048575) HT_ ?_
          refine done_ (ycb_ HT_.out ze_) ?_
          try go_wp2
          go_roundg k4
          case measure=>have:=HJ2.out;have:=HK2.out;have:=HK3.out;have:=HK4.out;omega
          case rel=>exact⟨(wrap64 (x7_4+1)),zc_,H',⟨by have:=HJ2.out;have:=HK2.out;have:=HK3.out;have:=HK4.out;omega⟩,⟨by repeat (with_reducible first|exact HB.out|apply yc_|apply ya_|apply yb_)⟩⟩
         rw[if_pos c21] at H
         have c21b0:(!(((rd_T91 l1 x6_3).f0) == ((rd_T91 l1 x7_4).f0)) || (!(((rd_T91 l1 x6_3).f1) == ((rd_T91 l1 x7_4).f1)) || (!((((rd_T91 l1 x6_3).f2).toList) == (((rd_T91 l1 x7_4).f2).toList)))))=true:=c21
         clear c21
         replace H:=Option.bind_eq_some_iff.mp H
         obtain⟨t399,A220,H⟩:=H
         replace H:(if t399=true then (some 10) else (yg_.l2 k4 l1 x6_3 (wrap64 (x7_4+1))))=some r:=H
         have A22:=Aside0.mk A220
         clear A220
         by_cases c23:t399=true
         ·subst c23
          have H1:(some 10)=some r:=by rw[if_pos rfl] at H;exact H
          clear H
          have H:=H1
          clear H1
          obtain rfl:=Option.some.inj H
          try go_wp2
          have n0_:=Aside0.mk (yb_ HB.out)
          clear HB
          have HB:=n0_
          clear n0_
          have p395:0≤(x6_3:Int):=of_decide_eq_true zd_
          have q395:x6_3 < (l1.length:Int):=of_decide_eq_true zd_
          obtain⟨ad395,e395,hx395_0,hx395_1,hx395_2⟩:=at_T91 HR1.out x6_3 p395 q395
          have hw395_2:=hx395_2
          have hw395_1:=hx395_1
          have hw395_0:=hx395_0
          cases e395
          replace hx395_0:=(HB.out.cell (World.block_lt_of_cell? w _ hx395_0)).trans hx395_0
          replace hx395_1:=(HB.out.cell (World.block_lt_of_cell? w _ hx395_1)).trans hx395_1
          replace hx395_2:=(HB.out.cell (World.block_lt_of_cell? w _ hx395_2)).trans hx395_2
          replace p395:=eq_true p395
          replace q395:=eq_true q395
          have p396:0≤(x7_4:Int):=of_decide_eq_true zd_
          have q396:x7_4 < (l1.length:Int):=of_decide_eq_true zd_
          obtain⟨ad396,e396,hx396_0,hx396_1,hx396_2⟩:=at_T91 HR1.out x7_4 p396 q396
          have hw396_2:=hx396_2
          have hw396_1:=hx396_1
          have hw396_0:=hx396_0
          obtain rfl:ad395=ad396:=(by injection e396)
          replace hx396_0:=(HB.out.cell (World.block_lt_of_cell? w _ hx396_0)).trans hx396_0
          replace hx396_1:=(HB.out.cell (World.block_lt_of_cell? w _ hx396_1)).trans hx396_1
          replace hx396_2:=(HB.out.cell (World.block_lt_of_cell? w _ hx396_2)).trans hx396_2
          replace p396:=eq_true p396
          replace q396:=eq_true q396
          have p397:0≤(x6_3:Int):=of_decide_eq_true zd_
          have q397:x6_3 < (l1.length:Int):=of_decide_eq_true zd_
          obtain⟨ad397,e397,hx397_0,hx397_1,hx397_2⟩:=at_T91 HR1.out x6_3 p397 q397
          have hw397_2:=hx397_2
          have hw397_1:=hx397_1
          have hw397_0:=hx397_0
          obtain rfl:ad395=ad397:=(by injection e397)
          replace hx397_0:=(HB.out.cell (World.block_lt_of_cell? w _ hx397_0)).trans hx397_0
          replace hx397_1:=(HB.out.cell (World.block_lt_of_cell? w _ hx397_1)).trans hx397_1
          replace hx397_2:=(HB.out.cell (World.block_lt_of_cell? w _ hx397_2)).trans hx397_2
          replace p397:=eq_true p397
          replace q397:=eq_true q397
          have p398:0≤(x7_4:Int):=of_decide_eq_true zd_
          have q398:x7_4 < (l1.length:Int):=of_decide_eq_true zd_
          obtain⟨ad398,e398,hx398_0,hx398_1,hx398_2⟩:=at_T91 HR1.out x7_4 p398 q398
          have hw398_2:=hx398_2
          have hw398_1:=hx398_1
          have hw398_0:=hx398_0
          obtain rfl:ad395=ad398:=(by injection e398)
          replace hx398_0:=(HB.out.cell (World.block_lt_of_cell? w _ hx398_0)).trans hx398_0
          replace hx398_1:=(HB.out.cell (World.block_lt_of_cell? w _ hx398_1)).trans hx398_1
          replace hx398_2:=(HB.out.cell (World.block_lt_of_cell? w _ hx398_2)).trans hx398_2
          replace p398:=eq_true p398
          replace q398:=eq_true q398
          refine start_ (n:=20) (S:=fun w'=>w'.cell? (ad395.add ((x6_3).toNat * 3))=some (.int .i64 ((rd_T91 l1 x6_3).f0))∧w'.cell? ⟨(ad395.add ((x6_3).toNat * 3)).block,(ad395.add ((x6_3).toNat * 3)).off+1,none⟩=some (.int .i64 ((rd_T91 l1 x6_3).f1))∧w'.cell? ⟨(ad395.add ((x6_3).toNat * 3)).block,(ad395.add ((x6_3).toNat * 3)).off+2,none⟩=some (.string ((rd_T91 l1 x6_3).f2))∧w'.cell? (ad395.add ((x7_4).toNat * 3))=some (.int .i64 ((rd_T91 l1 x7_4).f0))∧w'.cell? ⟨(ad395.add ((x7_4).toNat * 3)).block,(ad395.add ((x7_4).toNat * 3)).off+1,none⟩=some (.int .i64 ((rd_T91 l1 x7_4).f1))∧w'.cell? ⟨(ad395.add ((x7_4).toNat * 3)).block,(ad395.add ((x7_4).toNat * 3)).off+2,none⟩=some (.string ((rd_T91 l1 x7_4).f2))∧w'.cell? (ad395.add ((x6_3).toNat * 3))=some (.int .i64 ((rd_T91 l1 x6_3).f0))∧w'.cell? ⟨(ad395.add ((x6_3).toNat * 3)).block,(ad395.add ((x6_3).toNat * 3)).off+1,none⟩=some (.int .i64 ((rd_T91 l1 x6_3).f1))∧w'.cell? ⟨(ad395.add ((x6_3).toNat * 3)).block,(ad395.add ((x6_3).toNat * 3)).off+2,none⟩=some (.string ((rd_T91 l1 x6_3).f2))∧w'.cell? (ad395.add ((x7_4).toNat * 3))=some (.int .i64 ((rd_T91 l1 x7_4).f0))∧w'.cell? ⟨(ad395.add ((x7_4).toNat * 3)).block,(ad395.add ((x7_4).toNat * 3)).off+1,none⟩=some (.int .i64 ((rd_T91 l1 x7_4).f1))∧w'.cell? ⟨(ad395.add ((x7_4).toNat * 3)).block,(ad395.add ((x7_4).toNat * 3)).off+2,none⟩=some (.string ((rd_T91 l1 x7_4).f2))) (ds:=[]) (bA 20 0) ze_ rfl rfl ⟨((HB.out.cell (World.block_lt_of_cell? w _ hw395_0)).trans hw395_0),((HB.out.cell (World.block_lt_of_cell? w _ hw395_1)).trans hw395_1),((HB.out.cell (World.block_lt_of_cell? w _ hw395_2)).trans hw395_2),((HB.out.cell (World.block_lt_of_cell? w _ hw396_0)).trans hw396_0),((HB.out.cell (World.block_lt_of_cell? w _ hw396_1)).trans hw396_1),((HB.out.cell (World.block_lt_of_cell? w _ hw396_2)).trans hw396_2),((HB.out.cell (World.block_lt_of_cell? w _ hw397_0)).trans hw397_0),((HB.out.cell (World.block_lt_of_cell? w _ hw397_1)).trans hw397_1),((HB.out.cell (World.block_lt_of_cell? w _ hw397_2)).trans hw397_2),((HB.out.cell (World.block_lt_of_cell? w _ hw398_0)).trans hw398_0),((HB.out.cell (World.block_lt_of_cell? w _ hw398_1)).trans hw398_1),((HB.out.cell (World.block_lt_of_cell? w _ hw398_2)).trans hw398_2)⟩ (fun hHeld=>?_);refine yQ_ yg_.tab14 yg_.bits14 (fun HT_ HW_=>?_)
          generalize wr.drew=w24 at HB hx395_0 hx395_1 hx395_2 hx396_0 hx396_1 hx396_2 hx397_0 hx397_1 hx397_2 hx398_0 hx398_1 hx398_2 hHeld ⊢
          refine pu_ 0 62 (bA 20 1) HT_ ?_
          refine pu_ 1 63 (bA 20 3) HT_ ?_
          refine pu_ 2 64 (bA 20 7) HT_ ?_
          refine pu_ 4 66 (bA 20 23) HT_ ?_
          refine pu_ 5 67 (bA 20 55) HT_ ?_
          refine pu_ 6 68 (bA 20 119) HT_ ?_
          refine tk_ 3 65 (bA 20 127) rfl HT_ HW_ hHeld zj_ ?_
          refine tk_ 7 69 (bA 20 255) rfl HT_ HW_ hHeld zj_ ?_
          refine pu_ 8 70 (bA 20 511) HT_ ?_
          refine pu_ 9 71 (bA 20 1023) HT_ ?_
          refine pu_ 10 72 (bA 20 2047) HT_ ?_
          refine pu_ 11 73 (bA 20 4095) HT_ ?_
          refine pu_ 12 74 (bA 20 8191) HT_ ?_
          refine pu_ 14 76 (bA 20 24575) HT_ ?_
          refine pu_ 15 77 (bA 20 57343) HT_ ?_
          refine pu_ 16 78 (bA 20 122879) HT_ ?_
          refine tk_ 13 75 (bA 20 131071) rfl HT_ HW_ hHeld zj_ ?_
          refine tk_ 17 79 (bA 20 262143) rfl HT_ HW_ hHeld zj_ ?_
          refine one_ (i:=18) (N:=some 80) (bA 20 524287) rfl rfl (one_of HT_.out ze_) (by decide) (fun K hK=>?_)
          refine goes_ Tryz.func111 ze_ rfl #[.agg #[.int .i64 ((rd_T91 l1 x6_3).f0),.int .i64 ((rd_T91 l1 x6_3).f1),.string ((rd_T91 l1 x6_3).f2)],.agg #[.int .i64 ((rd_T91 l1 x7_4).f0),.int .i64 ((rd_T91 l1 x7_4).f1),.string ((rd_T91 l1 x7_4).f2)]] (by rfl) rfl rfl zb_ ?_
          with_reducible refine (yF_.calls k4 ((rd_T91 l1 x6_3).f0) ((rd_T91 l1 x6_3).f1) ((rd_T91 l1 x6_3).f2) ((rd_T91 l1 x7_4).f0) ((rd_T91 l1 x7_4).f1) ((rd_T91 l1 x7_4).f2) true _ A22.out).mono ?_
          rintro e w25 ⟨rfl,hb⟩
          refine⟨_,rfl,?_⟩
          have n0_:=Aside0.mk (yn_ za_ hb)
          clear HB
          have HB:=n0_
          clear n0_
          (try clear hb)
          (try clear hb2)
          (try clear hk)
          (try clear hi)
          refine hK.out _ _ ⟨((HB.out.cell (World.block_lt_of_cell? w _ hw395_0)).trans hw395_0),((HB.out.cell (World.block_lt_of_cell? w _ hw395_1)).trans hw395_1),((HB.out.cell (World.block_lt_of_cell? w _ hw395_2)).trans hw395_2),((HB.out.cell (World.block_lt_of_cell? w _ hw396_0)).trans hw396_0),((HB.out.cell (World.block_lt_of_cell? w _ hw396_1)).trans hw396_1),((HB.out.cell (World.block_lt_of_cell? w _ hw396_2)).trans hw396_2),((HB.out.cell (World.block_lt_of_cell? w _ hw397_0)).trans hw397_0),((HB.out.cell (World.block_lt_of_cell? w _ hw397_1)).trans hw397_1),((HB.out.cell (World.block_lt_of_cell? w _ hw397_2)).trans hw397_2),((HB.out.cell (World.block_lt_of_cell? w _ hw398_0)).trans hw398_0),((HB.out.cell (World.block_lt_of_cell? w _ hw398_1)).trans hw398_1),((HB.out.cell (World.block_lt_of_cell? w _ hw398_2)).trans hw398_2)⟩ (fun hHeld=>?_)
          clear hK K
          refine norm_ (a':=?_) ?_ ?_
          rotate_left
          ·show Act.put _ (some 80) _=_
           simp only[Act.put,q1_,q2_,q3_,i64_w,i32_w]
           rfl
          refine pu_ 19 81 (bA 20 1048575) HT_ ?_
          refine done_ (ycb_ HT_.out ze_) ?_
          try go_wp2
          go_ret
          exact⟨by first|rfl|(simp [yr_,ys_] <;> rfl)|(simp [*,yr_,ys_] <;> rfl),by repeat (with_reducible first|exact HB.out|apply yc_|apply ya_|apply yb_)⟩
         replace c23:=Bool.eq_false_iff.mpr c23
         subst c23
         have H1:(yg_.l2 k4 l1 x6_3 (wrap64 (x7_4+1)))=some r:=by rw[if_neg (show ¬ (false=true) by decide)] at H;exact H
         clear H
         have H:=H1
         clear H1
         have H':=Aside0.mk H
         clear H
         try go_wp2
         have n0_:=Aside0.mk (yb_ HB.out)
         clear HB
         have HB:=n0_
         clear n0_
         have p395:0≤(x6_3:Int):=of_decide_eq_true zd_
         have q395:x6_3 < (l1.length:Int):=of_decide_eq_true zd_
         obtain⟨ad395,e395,hx395_0,hx395_1,hx395_2⟩:=at_T91 HR1.out x6_3 p395 q395
         have hw395_2:=hx395_2
         have hw395_1:=hx395_1
         have hw395_0:=hx395_0
         cases e395
         replace hx395_0:=(HB.out.cell (World.block_lt_of_cell? w _ hx395_0)).trans hx395_0
         replace hx395_1:=(HB.out.cell (World.block_lt_of_cell? w _ hx395_1)).trans hx395_1
         replace hx395_2:=(HB.out.cell (World.block_lt_of_cell? w _ hx395_2)).trans hx395_2
         replace p395:=eq_true p395
         replace q395:=eq_true q395
         have p396:0≤(x7_4:Int):=of_decide_eq_true zd_
         have q396:x7_4 < (l1.length:Int):=of_decide_eq_true zd_
         obtain⟨ad396,e396,hx396_0,hx396_1,hx396_2⟩:=at_T91 HR1.out x7_4 p396 q396
         have hw396_2:=hx396_2
         have hw396_1:=hx396_1
         have hw396_0:=hx396_0
         obtain rfl:ad395=ad396:=(by injection e396)
         replace hx396_0:=(HB.out.cell (World.block_lt_of_cell? w _ hx396_0)).trans hx396_0
         replace hx396_1:=(HB.out.cell (World.block_lt_of_cell? w _ hx396_1)).trans hx396_1
         replace hx396_2:=(HB.out.cell (World.block_lt_of_cell? w _ hx396_2)).trans hx396_2
         replace p396:=eq_true p396
         replace q396:=eq_true q396
         have p397:0≤(x6_3:Int):=of_decide_eq_true zd_
         have q397:x6_3 < (l1.length:Int):=of_decide_eq_true zd_
         obtain⟨ad397,e397,hx397_0,hx397_1,hx397_2⟩:=at_T91 HR1.out x6_3 p397 q397
         have hw397_2:=hx397_2
         have hw397_1:=hx397_1
         have hw397_0:=hx397_0
         obtain rfl:ad395=ad397:=(by injection e397)
         replace hx397_0:=(HB.out.cell (World.block_lt_of_cell? w _ hx397_0)).trans hx397_0
         replace hx397_1:=(HB.out.cell (World.block_lt_of_cell? w _ hx397_1)).trans hx397_1
         replace hx397_2:=(HB.out.cell (World.block_lt_of_cell? w _ hx397_2)).trans hx397_2
         replace p397:=eq_true p397
         replace q397:=eq_true q397
         have p398:0≤(x7_4:Int):=of_decide_eq_true zd_
         have q398:x7_4 < (l1.length:Int):=of_decide_eq_true zd_
         obtain⟨ad398,e398,hx398_0,hx398_1,hx398_2⟩:=at_T91 HR1.out x7_4 p398 q398
         have hw398_2:=hx398_2
         have hw398_1:=hx398_1
         have hw398_0:=hx398_0
         obtain rfl:ad395=ad398:=(by injection e398)
         replace hx398_0:=(HB.out.cell (World.block_lt_of_cell? w _ hx398_0)).trans hx398_0
         replace hx398_1:=(HB.out.cell (World.block_lt_of_cell? w _ hx398_1)).trans hx398_1
         replace hx398_2:=(HB.out.cell (World.block_lt_of_cell? w _ hx398_2)).trans hx398_2
         replace p398:=eq_true p398
         replace q398:=eq_true q398
         refine start_ (n:=20) (S:=fun w'=>w'.cell? (ad395.add ((x6_3).toNat * 3))=some (.int .i64 ((rd_T91 l1 x6_3).f0))∧w'.cell? ⟨(ad395.add ((x6_3).toNat * 3)).block,(ad395.add ((x6_3).toNat * 3)).off+1,none⟩=some (.int .i64 ((rd_T91 l1 x6_3).f1))∧w'.cell? ⟨(ad395.add ((x6_3).toNat * 3)).block,(ad395.add ((x6_3).toNat * 3)).off+2,none⟩=some (.string ((rd_T91 l1 x6_3).f2))∧w'.cell? (ad395.add ((x7_4).toNat * 3))=some (.int .i64 ((rd_T91 l1 x7_4).f0))∧w'.cell? ⟨(ad395.add ((x7_4).toNat * 3)).block,(ad395.add ((x7_4).toNat * 3)).off+1,none⟩=some (.int .i64 ((rd_T91 l1 x7_4).f1))∧w'.cell? ⟨(ad395.add ((x7_4).toNat * 3)).block,(ad395.add ((x7_4).toNat * 3)).off+2,none⟩=some (.string ((rd_T91 l1 x7_4).f2))∧w'.cell? (ad395.add ((x6_3).toNat * 3))=some (.int .i64 ((rd_T91 l1 x6_3).f0))∧w'.cell? ⟨(ad395.add ((x6_3).toNat * 3)).block,(ad395.add ((x6_3).toNat * 3)).off+1,none⟩=some (.int .i64 ((rd_T91 l1 x6_3).f1))∧w'.cell? ⟨(ad395.add ((x6_3).toNat * 3)).block,(ad395.add ((x6_3).toNat * 3)).off+2,none⟩=some (.string ((rd_T91 l1 x6_3).f2))∧w'.cell? (ad395.add ((x7_4).toNat * 3))=some (.int .i64 ((rd_T91 l1 x7_4).f0))∧w'.cell? ⟨(ad395.add ((x7_4).toNat * 3)).block,(ad395.add ((x7_4).toNat * 3)).off+1,none⟩=some (.int .i64 ((rd_T91 l1 x7_4).f1))∧w'.cell? ⟨(ad395.add ((x7_4).toNat * 3)).block,(ad395.add ((x7_4).toNat * 3)).off+2,none⟩=some (.string ((rd_T91 l1 x7_4).f2))) (ds:=[]) (bA 20 0) ze_ rfl rfl ⟨((HB.out.cell (World.block_lt_of_cell? w _ hw395_0)).trans hw395_0),((HB.out.cell (World.block_lt_of_cell? w _ hw395_1)).trans hw395_1),((HB.out.cell (World.block_lt_of_cell? w _ hw395_2)).trans hw395_2),((HB.out.cell (World.block_lt_of_cell? w _ hw396_0)).trans hw396_0),((HB.out.cell (World.block_lt_of_cell? w _ hw396_1)).trans hw396_1),((HB.out.cell (World.block_lt_of_cell? w _ hw396_2)).trans hw396_2),((HB.out.cell (World.block_lt_of_cell? w _ hw397_0)).trans hw397_0),((HB.out.cell (World.block_lt_of_cell? w _ hw397_1)).trans hw397_1),((HB.out.cell (World.block_lt_of_cell? w _ hw397_2)).trans hw397_2),((HB.out.cell (World.block_lt_of_cell? w _ hw398_0)).trans hw398_0),((HB.out.cell (World.block_lt_of_cell? w _ hw398_1)).trans hw398_1),((HB.out.cell (World.block_lt_of_cell? w _ hw398_2)).trans hw398_2)⟩ (fun hHeld=>?_);refine yQ_ yg_.tab14 yg_.bits14 (fun HT_ HW_=>?_)
         generalize wr.drew=w26 at HB hx395_0 hx395_1 hx395_2 hx396_0 hx396_1 hx396_2 hx397_0 hx397_1 hx397_2 hx398_0 hx398_1 hx398_2 hHeld ⊢
         refine pu_ 0 62 (bA 20 1) HT_ ?_
         refine pu_ 1 63 (bA 20 3) HT_ ?_
         refine pu_ 2 64 (bA 20 7) HT_ ?_
         refine pu_ 4 66 (bA 20 23) HT_ ?_
         refine pu_ 5 67 (bA 20 55) HT_ ?_
         refine pu_ 6 68 (bA 20 119) HT_ ?_
         refine tk_ 3 65 (bA 20 127) rfl HT_ HW_ hHeld zj_ ?_
         refine tk_ 7 69 (bA 20 255) rfl HT_ HW_ hHeld zj_ ?_
         refine pu_ 8 70 (bA 20 511) HT_ ?_
         refine pu_ 9 71 (bA 20 1023) HT_ ?_
         refine pu_ 10 72 (bA 20 2047) HT_ ?_
         refine pu_ 11 73 (bA 20 4095) HT_ ?_
         refine pu_ 12 74 (bA 20 8191) HT_ ?_
         refine pu_ 14 76 (bA 20 24575) HT_ ?_
         refine pu_ 15 77 (bA 20 57343) HT_ ?_
         refine pu_ 16 78 (bA 20 122879) HT_ ?_
         refine tk_ 13 75 (bA 20 131071) rfl HT_ HW_ hHeld zj_ ?_
         refine tk_ 17 79 (bA 20 262143) rfl HT_ HW_ hHeld zj_ ?_
         refine one_ (i:=18) (N:=some 80) (bA 20 524287) rfl rfl (one_of HT_.out ze_) (by decide) (fun K hK=>?_)
         refine goes_ Tryz.func111 ze_ rfl #[.agg #[.int .i64 ((rd_T91 l1 x6_3).f0),.int .i64 ((rd_T91 l1 x6_3).f1),.string ((rd_T91 l1 x6_3).f2)],.agg #[.int .i64 ((rd_T91 l1 x7_4).f0),.int .i64 ((rd_T91 l1 x7_4).f1),.string ((rd_T91 l1 x7_4).f2)]] (by rfl) rfl rfl zb_ ?_
         with_reducible refine (yF_.calls k4 ((rd_T91 l1 x6_3).f0) ((rd_T91 l1 x6_3).f1) ((rd_T91 l1 x6_3).f2) ((rd_T91 l1 x7_4).f0) ((rd_T91 l1 x7_4).f1) ((rd_T91 l1 x7_4).f2) false _ A22.out).mono ?_
         rintro e w27 ⟨rfl,hb⟩
         refine⟨_,rfl,?_⟩
         have n0_:=Aside0.mk (yn_ za_ hb)
         clear HB
         have HB:=n0_
         clear n0_
         (try clear hb)
         (try clear hb2)
         (try clear hk)
         (try clear hi)
         refine hK.out _ _ ⟨((HB.out.cell (World.block_lt_of_cell? w _ hw395_0)).trans hw395_0),((HB.out.cell (World.block_lt_of_cell? w _ hw395_1)).trans hw395_1),((HB.out.cell (World.block_lt_of_cell? w _ hw395_2)).trans hw395_2),((HB.out.cell (World.block_lt_of_cell? w _ hw396_0)).trans hw396_0),((HB.out.cell (World.block_lt_of_cell? w _ hw396_1)).trans hw396_1),((HB.out.cell (World.block_lt_of_cell? w _ hw396_2)).trans hw396_2),((HB.out.cell (World.block_lt_of_cell? w _ hw397_0)).trans hw397_0),((HB.out.cell (World.block_lt_of_cell? w _ hw397_1)).trans hw397_1),((HB.out.cell (World.block_lt_of_cell? w _ hw397_2)).trans hw397_2),((HB.out.cell (World.block_lt_of_cell? w _ hw398_0)).trans hw398_0),((HB.out.cell (World.block_lt_of_cell? w _ hw398_1)).trans hw398_1),((HB.out.cell (World.block_lt_of_cell? w _ hw398_2)).trans hw398_2)⟩ (fun hHeld=>?_)
         clear hK K
         refine norm_ (a':=?_) ?_ ?_
         rotate_left
         ·show Act.put _ (some 80) _=_
          simp only[Act.put,q1_,q2_,q3_,i64_w,i32_w]
          rfl
         refine pu_ 19 81 (bA 20 1048575) HT_ ?_
         refine done_ (ycb_ HT_.out ze_) ?_
         try go_wp2
         go_roundg k4
         case measure=>have:=HJ2.out;have:=HK2.out;have:=HK3.out;have:=HK4.out;omega
         case rel=>exact⟨(wrap64 (x7_4+1)),zc_,H',⟨by have:=HJ2.out;have:=HK2.out;have:=HK3.out;have:=HK4.out;omega⟩,⟨by repeat (with_reducible first|exact HB.out|apply yc_|apply ya_|apply yb_)⟩⟩

end Go.Proofs.YthimblhfjfngiaaGreat.PText

namespace Go.Proofs.YthimblhfjfngiaaGreat.PText
open Go.RowKit Go.Proofs.YthimblhfjfngiaaGreatW.PrintWords Go.Proofs.YthimblhfjfngiaaGreatW.PrintLast Go.Proofs.YthimblhfjfngiaaGreatW.PrintMore
attribute [local go_sem] yT_ yU_ y5_ y6_ yI_ yJ_ yV_ yW_   -- for this text's walks alone
set_option linter.unusedVariables false
set_option linter.unusedSimpArgs false

def y1_.f (a0_0:Int) (a0_1:Int) (a0_2:ByteArray) (a1_0:Int) (a1_1:Int) (a1_2:ByteArray):Option (Bool):=if a0_0=a1_0 then (if a0_1=a1_1 then (some (Op.bytesLess a0_2.toList a1_2.toList)) else (some (decide (a0_1 < a1_1)))) else (some (decide (a0_0 < a1_0)))
set_option maxHeartbeats 8000000 in
set_option maxRecDepth 100000 in
theorem y1_.calls (a0_0:Int) (a0_1:Int) (a0_2:ByteArray) (a1_0:Int) (a1_1:Int) (a1_2:ByteArray) (r:Bool) (w:World) (h:y1_.f a0_0 a0_1 a0_2 a1_0 a1_1 a1_2=some r) :
  Calls Tryz.prog 126 #[.agg #[.int .i64 a0_0,.int .i64 a0_1,.string a0_2],.agg #[.int .i64 a1_0,.int .i64 a1_1,.string a1_2]] w fun e w'=>e=.returned (.bool r)∧Below w.heap.size w w':=by
 have hu91:=Tryz.underlying91
 have HB:=Aside0.mk (Below.refl w.heap.size w)
 have H:(if a0_0=a1_0 then (if a0_1=a1_1 then (some (Op.bytesLess a0_2.toList a1_2.toList)) else (some (decide (a0_1 < a1_1)))) else (some (decide (a0_0 < a1_0))))=some r:=h
 clear h
 by_cases c3:a0_0=a1_0
 rotate_left
 ·rw[if_neg c3] at H
  have c3b0:(a0_0 == a1_0)=false:=beq_eq_false_iff_ne.mpr c3
  have c3b1:(a0_0 != a1_0)=true:=bne_iff_ne.mpr c3
  obtain rfl:=Option.some.inj H
  go_enter Tryz.func126,Tryz.ntmps126
  go_wp2_with (first|((with_reducible refine yO_ (N:=2) rfl ?_);refine yS_ ?hg (N:=2) ?hd (cs:=#[.int .i64 a0_0,.int .i64 a0_1,.string a0_2]) (t:=91) ?hr ?_;(case hd=>rfl);(case hg=>rfl);(case hr=>first|(go_simp;done)|(go_simp;rfl));intro gb400 hg w15 hbox hb;have n0_:=Aside0.mk (yn_ za_ hb);have n1_:=Aside0.mk (hbox);have n2_:=Aside0.mk ((by rw[hg];exact (yp_ za_):w.heap.size≤gb400));have n3_:=Aside0.mk ((by rw[hg];exact (yp_ za_):w.heap.size≤gb400));clear HB;have HB:=n0_;have BK400:=n1_;have GW400:=n2_;have GE400:=n3_;clear n0_ n1_ n2_ n3_;clear hb hbox hg)|((with_reducible refine yO_ (N:=3) rfl ?_);refine yS_ ?hg (N:=3) ?hd (cs:=#[.int .i64 a1_0,.int .i64 a1_1,.string a1_2]) (t:=91) ?hr ?_;(case hd=>rfl);(case hg=>rfl);(case hr=>first|(go_simp;done)|(go_simp;rfl));intro gb401 hg w16 hbox hb;have n0_:=Aside0.mk (ylb_ (g:=gb400) (o:=.cells #[.int .i64 a0_0,.int .i64 a0_1,.string a0_2] 91 (0,0)) (by (with_reducible repeat (first|refine yw_ ?_ _|refine yz_ ?_|refine yv_ ?_ _));exact BK400.out) hb);have n1_:=Aside0.mk (yn_ (by repeat (with_reducible first|exact HB.out|apply yc_|apply ya_|apply yb_|refine yq_ ?_ GE400.out)) hb);have n2_:=Aside0.mk (hbox);have n3_:=Aside0.mk ((by rw[hg];exact (yp_ (by repeat (with_reducible first|exact HB.out|apply yc_|apply ya_|apply yb_|refine yq_ ?_ GE400.out))):w.heap.size≤gb401));have n4_:=Aside0.mk ((by rw[hg];exact (yp_ (by repeat (with_reducible first|exact HB.out|apply yc_|apply ya_|apply yb_|refine yq_ ?_ GE400.out))):w.heap.size≤gb401));have n5_:=Aside0.mk ((by rw[hg];exact Nat.ne_of_lt (blk_lt (g:=gb400) (o:=.cells #[.int .i64 a0_0,.int .i64 a0_1,.string a0_2] 91 (0,0)) (by (with_reducible repeat (first|refine yw_ ?_ _|refine yz_ ?_|refine yv_ ?_ _));exact BK400.out)):gb400≠gb401));have n6_:=Aside0.mk ((by rw[hg];exact Nat.ne_of_gt (blk_lt (g:=gb400) (o:=.cells #[.int .i64 a0_0,.int .i64 a0_1,.string a0_2] 91 (0,0)) (by (with_reducible repeat (first|refine yw_ ?_ _|refine yz_ ?_|refine yv_ ?_ _));exact BK400.out)):gb401≠gb400));clear BK400;clear HB;have BK400:=n0_;have HB:=n1_;have BK401:=n2_;have GW401:=n3_;have GE401:=n4_;have NB400_401:=n5_;have NB401_400:=n6_;clear n0_ n1_ n2_ n3_ n4_ n5_ n6_;clear hb hbox hg;have hnb17:=NB400_401.out;have hnc17:=NB401_400.out;have hcz18_0:w16.cell? ⟨gb400,0,none⟩=some (.int .i64 a0_0):=(yl_ BK400.out 0).trans rfl;have hcz18_1:w16.cell? ⟨gb400,1,none⟩=some (.int .i64 a0_1):=(yl_ BK400.out 1).trans rfl;have hcz18_2:w16.cell? ⟨gb400,2,none⟩=some (.string a0_2):=(yl_ BK400.out 2).trans rfl;have hfz18_0:=yi_ BK400.out 0;have hfz18_1:=yi_ BK400.out 1;have hfz18_2:=yi_ BK400.out 2;have hcz19_0:w16.cell? ⟨gb401,0,none⟩=some (.int .i64 a1_0):=(yl_ BK401.out 0).trans rfl;have hcz19_1:w16.cell? ⟨gb401,1,none⟩=some (.int .i64 a1_1):=(yl_ BK401.out 1).trans rfl;have hcz19_2:w16.cell? ⟨gb401,2,none⟩=some (.string a1_2):=(yl_ BK401.out 2).trans rfl;have hfz19_0:=yi_ BK401.out 0;have hfz19_1:=yi_ BK401.out 1;have hfz19_2:=yi_ BK401.out 2))
  go_ret
  exact⟨by first|rfl|(simp [yr_,ys_] <;> rfl)|(simp [*,yr_,ys_] <;> rfl),by repeat (with_reducible first|exact HB.out|apply yc_|apply ya_|apply yb_|refine yq_ ?_ GE400.out|refine yq_ ?_ GE401.out)⟩
 rw[if_pos c3] at H
 have c3b0:(a0_0 == a1_0)=true:=beq_iff_eq.mpr c3
 have c3b1:(a0_0 != a1_0)=false:=bne_eq_false_iff_eq.mpr c3
 clear c3
 by_cases c4:a0_1=a1_1
 ·rw[if_pos c4] at H
  have c4b0:(a0_1 == a1_1)=true:=beq_iff_eq.mpr c4
  have c4b1:(a0_1 != a1_1)=false:=bne_eq_false_iff_eq.mpr c4
  clear c4
  obtain rfl:=Option.some.inj H
  go_enter Tryz.func126,Tryz.ntmps126
  go_wp2_with (first|((with_reducible refine yO_ (N:=2) rfl ?_);refine yS_ ?hg (N:=2) ?hd (cs:=#[.int .i64 a0_0,.int .i64 a0_1,.string a0_2]) (t:=91) ?hr ?_;(case hd=>rfl);(case hg=>rfl);(case hr=>first|(go_simp;done)|(go_simp;rfl));intro gb400 hg w5 hbox hb;have n0_:=Aside0.mk (yn_ za_ hb);have n1_:=Aside0.mk (hbox);have n2_:=Aside0.mk ((by rw[hg];exact (yp_ za_):w.heap.size≤gb400));have n3_:=Aside0.mk ((by rw[hg];exact (yp_ za_):w.heap.size≤gb400));clear HB;have HB:=n0_;have BK400:=n1_;have GW400:=n2_;have GE400:=n3_;clear n0_ n1_ n2_ n3_;clear hb hbox hg)|((with_reducible refine yO_ (N:=3) rfl ?_);refine yS_ ?hg (N:=3) ?hd (cs:=#[.int .i64 a1_0,.int .i64 a1_1,.string a1_2]) (t:=91) ?hr ?_;(case hd=>rfl);(case hg=>rfl);(case hr=>first|(go_simp;done)|(go_simp;rfl));intro gb401 hg w6 hbox hb;have n0_:=Aside0.mk (ylb_ (g:=gb400) (o:=.cells #[.int .i64 a0_0,.int .i64 a0_1,.string a0_2] 91 (0,0)) (by (with_reducible repeat (first|refine yw_ ?_ _|refine yz_ ?_|refine yv_ ?_ _));exact BK400.out) hb);have n1_:=Aside0.mk (yn_ (by repeat (with_reducible first|exact HB.out|apply yc_|apply ya_|apply yb_|refine yq_ ?_ GE400.out)) hb);have n2_:=Aside0.mk (hbox);have n3_:=Aside0.mk ((by rw[hg];exact (yp_ (by repeat (with_reducible first|exact HB.out|apply yc_|apply ya_|apply yb_|refine yq_ ?_ GE400.out))):w.heap.size≤gb401));have n4_:=Aside0.mk ((by rw[hg];exact (yp_ (by repeat (with_reducible first|exact HB.out|apply yc_|apply ya_|apply yb_|refine yq_ ?_ GE400.out))):w.heap.size≤gb401));have n5_:=Aside0.mk ((by rw[hg];exact Nat.ne_of_lt (blk_lt (g:=gb400) (o:=.cells #[.int .i64 a0_0,.int .i64 a0_1,.string a0_2] 91 (0,0)) (by (with_reducible repeat (first|refine yw_ ?_ _|refine yz_ ?_|refine yv_ ?_ _));exact BK400.out)):gb400≠gb401));have n6_:=Aside0.mk ((by rw[hg];exact Nat.ne_of_gt (blk_lt (g:=gb400) (o:=.cells #[.int .i64 a0_0,.int .i64 a0_1,.string a0_2] 91 (0,0)) (by (with_reducible repeat (first|refine yw_ ?_ _|refine yz_ ?_|refine yv_ ?_ _));exact BK400.out)):gb401≠gb400));clear BK400;clear HB;have BK400:=n0_;have HB:=n1_;have BK401:=n2_;have GW401:=n3_;have GE401:=n4_;have NB400_401:=n5_;have NB401_400:=n6_;clear n0_ n1_ n2_ n3_ n4_ n5_ n6_;clear hb hbox hg;have hnb7:=NB400_401.out;have hnc7:=NB401_400.out;have hcz8_0:w6.cell? ⟨gb400,0,none⟩=some (.int .i64 a0_0):=(yl_ BK400.out 0).trans rfl;have hcz8_1:w6.cell? ⟨gb400,1,none⟩=some (.int .i64 a0_1):=(yl_ BK400.out 1).trans rfl;have hcz8_2:w6.cell? ⟨gb400,2,none⟩=some (.string a0_2):=(yl_ BK400.out 2).trans rfl;have hfz8_0:=yi_ BK400.out 0;have hfz8_1:=yi_ BK400.out 1;have hfz8_2:=yi_ BK400.out 2;have hcz9_0:w6.cell? ⟨gb401,0,none⟩=some (.int .i64 a1_0):=(yl_ BK401.out 0).trans rfl;have hcz9_1:w6.cell? ⟨gb401,1,none⟩=some (.int .i64 a1_1):=(yl_ BK401.out 1).trans rfl;have hcz9_2:w6.cell? ⟨gb401,2,none⟩=some (.string a1_2):=(yl_ BK401.out 2).trans rfl;have hfz9_0:=yi_ BK401.out 0;have hfz9_1:=yi_ BK401.out 1;have hfz9_2:=yi_ BK401.out 2))
  go_ret
  exact⟨by first|rfl|(simp [yr_,ys_] <;> rfl)|(simp [*,yr_,ys_] <;> rfl),by repeat (with_reducible first|exact HB.out|apply yc_|apply ya_|apply yb_|refine yq_ ?_ GE400.out|refine yq_ ?_ GE401.out)⟩
 rw[if_neg c4] at H
 have c4b0:(a0_1 == a1_1)=false:=beq_eq_false_iff_ne.mpr c4
 have c4b1:(a0_1 != a1_1)=true:=bne_iff_ne.mpr c4
 obtain rfl:=Option.some.inj H
 go_enter Tryz.func126,Tryz.ntmps126
 go_wp2_with (first|((with_reducible refine yO_ (N:=2) rfl ?_);refine yS_ ?hg (N:=2) ?hd (cs:=#[.int .i64 a0_0,.int .i64 a0_1,.string a0_2]) (t:=91) ?hr ?_;(case hd=>rfl);(case hg=>rfl);(case hr=>first|(go_simp;done)|(go_simp;rfl));intro gb400 hg w10 hbox hb;have n0_:=Aside0.mk (yn_ za_ hb);have n1_:=Aside0.mk (hbox);have n2_:=Aside0.mk ((by rw[hg];exact (yp_ za_):w.heap.size≤gb400));have n3_:=Aside0.mk ((by rw[hg];exact (yp_ za_):w.heap.size≤gb400));clear HB;have HB:=n0_;have BK400:=n1_;have GW400:=n2_;have GE400:=n3_;clear n0_ n1_ n2_ n3_;clear hb hbox hg)|((with_reducible refine yO_ (N:=3) rfl ?_);refine yS_ ?hg (N:=3) ?hd (cs:=#[.int .i64 a1_0,.int .i64 a1_1,.string a1_2]) (t:=91) ?hr ?_;(case hd=>rfl);(case hg=>rfl);(case hr=>first|(go_simp;done)|(go_simp;rfl));intro gb401 hg w11 hbox hb;have n0_:=Aside0.mk (ylb_ (g:=gb400) (o:=.cells #[.int .i64 a0_0,.int .i64 a0_1,.string a0_2] 91 (0,0)) (by (with_reducible repeat (first|refine yw_ ?_ _|refine yz_ ?_|refine yv_ ?_ _));exact BK400.out) hb);have n1_:=Aside0.mk (yn_ (by repeat (with_reducible first|exact HB.out|apply yc_|apply ya_|apply yb_|refine yq_ ?_ GE400.out)) hb);have n2_:=Aside0.mk (hbox);have n3_:=Aside0.mk ((by rw[hg];exact (yp_ (by repeat (with_reducible first|exact HB.out|apply yc_|apply ya_|apply yb_|refine yq_ ?_ GE400.out))):w.heap.size≤gb401));have n4_:=Aside0.mk ((by rw[hg];exact (yp_ (by repeat (with_reducible first|exact HB.out|apply yc_|apply ya_|apply yb_|refine yq_ ?_ GE400.out))):w.heap.size≤gb401));have n5_:=Aside0.mk ((by rw[hg];exact Nat.ne_of_lt (blk_lt (g:=gb400) (o:=.cells #[.int .i64 a0_0,.int .i64 a0_1,.string a0_2] 91 (0,0)) (by (with_reducible repeat (first|refine yw_ ?_ _|refine yz_ ?_|refine yv_ ?_ _));exact BK400.out)):gb400≠gb401));have n6_:=Aside0.mk ((by rw[hg];exact Nat.ne_of_gt (blk_lt (g:=gb400) (o:=.cells #[.int .i64 a0_0,.int .i64 a0_1,.string a0_2] 91 (0,0)) (by (with_reducible repeat (first|refine yw_ ?_ _|refine yz_ ?_|refine yv_ ?_ _));exact BK400.out)):gb401≠gb400));clear BK400;clear HB;have BK400:=n0_;have HB:=n1_;have BK401:=n2_;have GW401:=n3_;have GE401:=n4_;have NB400_401:=n5_;have NB401_400:=n6_;clear n0_ n1_ n2_ n3_ n4_ n5_ n6_;clear hb hbox hg;have hnb12:=NB400_401.out;have hnc12:=NB401_400.out;have hcz13_0:w11.cell? ⟨gb400,0,none⟩=some (.int .i64 a0_0):=(yl_ BK400.out 0).trans rfl;have hcz13_1:w11.cell? ⟨gb400,1,none⟩=some (.int .i64 a0_1):=(yl_ BK400.out 1).trans rfl;have hcz13_2:w11.cell? ⟨gb400,2,none⟩=some (.string a0_2):=(yl_ BK400.out 2).trans rfl;have hfz13_0:=yi_ BK400.out 0;have hfz13_1:=yi_ BK400.out 1;have hfz13_2:=yi_ BK400.out 2;have hcz14_0:w11.cell? ⟨gb401,0,none⟩=some (.int .i64 a1_0):=(yl_ BK401.out 0).trans rfl;have hcz14_1:w11.cell? ⟨gb401,1,none⟩=some (.int .i64 a1_1):=(yl_ BK401.out 1).trans rfl;have hcz14_2:w11.cell? ⟨gb401,2,none⟩=some (.string a1_2):=(yl_ BK401.out 2).trans rfl;have hfz14_0:=yi_ BK401.out 0;have hfz14_1:=yi_ BK401.out 1;have hfz14_2:=yi_ BK401.out 2))
 go_ret
 exact⟨by first|rfl|(simp [yr_,ys_] <;> rfl)|(simp [*,yr_,ys_] <;> rfl),by repeat (with_reducible first|exact HB.out|apply yc_|apply ya_|apply yb_|refine yq_ ?_ GE400.out|refine yq_ ?_ GE401.out)⟩

end Go.Proofs.YthimblhfjfngiaaGreat.PText

