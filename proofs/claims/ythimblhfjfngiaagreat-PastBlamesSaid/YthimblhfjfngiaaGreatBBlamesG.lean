/- PastBlames holds: for all steps, every file and every line the statement answers true. Part 7 of 21. -/
import Derived.Test.YthimblhfjfngiaaGreatBBlamesF
import Derived.Lib.Walk
import Derived.Sort.Grow
import Derived.Lib.SliceRun
import Derived.Lib.SlicesCompact
import Derived.Shelf.SlSortCmp.WholeK
namespace Go.Proofs.YthimblhfjfngiaaGreat.PText
open Go.RowKit Go.Proofs.YthimblhfjfngiaaGreatW.PrintWords Go.Proofs.YthimblhfjfngiaaGreatW.PrintLast Go.Proofs.YthimblhfjfngiaaGreatW.PrintMore
attribute [local go_sem] yW_ yX_ yab_ ybb_ yO_ yP_ yY_ yZ_   -- for this text's walks alone
set_option linter.unusedVariables false
set_option linter.unusedSimpArgs false

mutual
def ye_.j0:Nat→List ByteArray→List ByteArray→Bool→Option ((List (S91)) × Int)
 | 0,_,_,_=>none
 | k+1,x6,x7,x34=>if x34=true then (some (([]:List (S91)),2)) else ((yd_.f k x6 x7).bind fun t274=>(ye_.l0 k t274 ([]:List (S91)) 0 0))
def ye_.l0:Nat→List (S95)→List (S91)→Int→Int→Option ((List (S91)) × Int)
 | 0,_,_,_,_=>none
 | k+1,x8,x9,x10,x11=>if x11 < (x8.length:Int) then (if 0≤x11 then (if ((rd_T95 x8 x11).f0)=32 then (ye_.l0 k x8 x9 (wrap64 (x10+(((rd_T95 x8 x11).f1).size:Int))) (wrap64 (x11+1))) else (ye_.l1 k x8 x9 x11 x10 x10 (⟨#[]⟩:ByteArray))) else (none)) else (some (x9,0))
def ye_.l1:Nat→List (S95)→List (S91)→Int→Int→Int→ByteArray→Option ((List (S91)) × Int)
 | 0,_,_,_,_,_,_=>none
 | k+1,x8,x9,x11,x280000,x280001,x280002=>if x11 < (x8.length:Int) then (if 0≤x11 then (ye_.j3 k x8 x9 x11 (((rd_T95 x8 x11).f0) != 32) x280000 x280001 x280002) else (none)) else (ye_.j3 k x8 x9 x11 false x280000 x280001 x280002)
def ye_.j3:Nat→List (S95)→List (S91)→Int→Bool→Int→Int→ByteArray→Option ((List (S91)) × Int)
 | 0,_,_,_,_,_,_,_=>none
 | k+1,x8,x9,x11,x72,x280000,x280001,x280002=>if x72=true then (if 0≤x11 then (if x11 < (x8.length:Int) then (if ((rd_T95 x8 x11).f0)=45 then (ye_.l1 k x8 x9 (wrap64 (x11+1)) x280000 (wrap64 (x280001+(((rd_T95 x8 x11).f1).size:Int))) x280002) else (if x280002.size+((rd_T95 x8 x11).f1).size≤9223372036854775807 then (ye_.l1 k x8 x9 (wrap64 (x11+1)) x280000 x280001 (x280002++((rd_T95 x8 x11).f1))) else (none))) else (none)) else (none)) else (if x9.length < 4398046511104 then (ye_.l0 k x8 (x9++[(⟨x280000,x280001,x280002⟩:S91)]) x280001 x11) else (none))
end
def ye_.f (k:Nat) (a0:ByteArray) (a1:ByteArray):Option ((List (S91)) × Int):=(yt_.f k a0).bind fun t268=>((yt_.f k a1).bind fun t271=>(if (a0.size:Int) > 200000 then (ye_.j0 k t268 t271 true) else (if (a1.size:Int) > 200000 then (ye_.j0 k t268 t271 true) else (if (t268.length:Int) > 2000 then (ye_.j0 k t268 t271 true) else (ye_.j0 k t268 t271 (decide ((t271.length:Int) > 2000)))))))
def ye_.T15:Bool × List (List Nat × List Nat):=(true,[([],[]),([0],[0]),([],[]),([],[]),([2,3],[2,3]),([4],[4]),([5],[5]),([6],[6]),([1,7],[1,7]),([0,1,2,3,4,5,6,7,8],[]),([9,8,0,1,2,3,4,5,6,7,8],[8,9])])
def ye_.B15:List Nat:=[0,1,0,0,12,28,60,124,255,511,1023]
theorem ye_.tab15:rtab .any (opsOf Tryz.f32 15)=ye_.T15:=by kernel_rfl
theorem ye_.bits15:waitsOk ye_.T15.2 ye_.B15=true:=by kernel_rfl
def ye_.T16:Bool × List (List Nat × List Nat):=(true,[([],[]),([0],[0]),([],[]),([],[]),([2,3],[2,3]),([4],[4]),([5],[5]),([1,6],[1,6]),([0,1,2,3,4,5,6,7],[]),([8,7,0,1,2,3,4,5,6,7],[7,8])])
def ye_.B16:List Nat:=[0,1,0,0,12,28,60,127,255,511]
theorem ye_.tab16:rtab .any (opsOf Tryz.f32 16)=ye_.T16:=by kernel_rfl
theorem ye_.bits16:waitsOk ye_.T16.2 ye_.B16=true:=by kernel_rfl
set_option maxHeartbeats 8000000 in
set_option maxRecDepth 100000 in
theorem ye_.calls (k:Nat) (a0:ByteArray) (a1:ByteArray) (r1:List (S91)) (r2:Int) (w:World) (h:ye_.f k a0 a1=some (r1,r2)) :
  Calls Tryz.prog 32 #[.string a0,.string a1] w fun e w'=>∃ v0_:Value,e=.returned (.tuple #[v0_,.int .i64 r2])∧Kd.R k91 91 w' w.heap.size (fun _=>True) v0_ r1∧Below w.heap.size w w':=by
 have hu91:=Tryz.underlying91
 have HB:=Aside0.mk (Below.refl w.heap.size w)
 have H:((yt_.f k a0).bind fun t268=>((yt_.f k a1).bind fun t271=>(if (a0.size:Int) > 200000 then (ye_.j0 k t268 t271 true) else (if (a1.size:Int) > 200000 then (ye_.j0 k t268 t271 true) else (if (t268.length:Int) > 2000 then (ye_.j0 k t268 t271 true) else (ye_.j0 k t268 t271 (decide ((t271.length:Int) > 2000))))))))=some (r1,r2):=h
 clear h
 replace H:=Option.bind_eq_some_iff.mp H
 obtain⟨t268,A30,H⟩:=H
 replace H:((yt_.f k a1).bind fun t271=>(if (a0.size:Int) > 200000 then (ye_.j0 k t268 t271 true) else (if (a1.size:Int) > 200000 then (ye_.j0 k t268 t271 true) else (if (t268.length:Int) > 2000 then (ye_.j0 k t268 t271 true) else (ye_.j0 k t268 t271 (decide ((t271.length:Int) > 2000)))))))=some (r1,r2):=H
 have A3:=Aside0.mk A30
 clear A30
 replace H:=Option.bind_eq_some_iff.mp H
 obtain⟨t271,A40,H⟩:=H
 replace H:(if (a0.size:Int) > 200000 then (ye_.j0 k t268 t271 true) else (if (a1.size:Int) > 200000 then (ye_.j0 k t268 t271 true) else (if (t268.length:Int) > 2000 then (ye_.j0 k t268 t271 true) else (ye_.j0 k t268 t271 (decide ((t271.length:Int) > 2000))))))=some (r1,r2):=H
 have A4:=Aside0.mk A40
 clear A40
 have HC5:=Aside0.mk H
 clear H
 go_enter Tryz.func32,Tryz.ntmps32
 go_upto_region 2 with (first|((with_reducible refine yy_ (f:=52) rfl ?_);refine goesL_ (some 14) rfl rfl Tryz.func52 (by kernel_rfl) rfl #[.string a0] rfl (by (try simp only[List.map_toArray,List.map_cons,List.map_nil]);first|done|rfl|(simp only[List.length_drop,List.length_take];rfl)) ?_;(with_reducible refine (yt_.calls k a0 t268 _ A3.out).mono ?_);rintro e w6 ⟨v269,rfl,ho0,hb⟩;refine⟨_,rfl,?_⟩;have n0_:=Aside0.mk (Kd.y1_ ho0 (yk_ (by repeat (with_reducible first|exact HB.out|apply yc_|apply ya_|apply yb_))));have n1_:=Aside0.mk (yn_ (by repeat (with_reducible first|exact HB.out|apply yc_|apply ya_|apply yb_)) hb);clear HB;have HO270:=n0_;have HB:=n1_;clear n0_ n1_;(try clear hb);(try clear hb2);(try clear hk);(try clear hi);(try clear ho0))|((with_reducible refine yy_ (f:=52) rfl ?_);refine goesL_ (some 16) rfl rfl Tryz.func52 (by kernel_rfl) rfl #[.string a1] rfl (by (try simp only[List.map_toArray,List.map_cons,List.map_nil]);first|done|rfl|(simp only[List.length_drop,List.length_take];rfl)) ?_;(with_reducible refine (yt_.calls k a1 t271 _ A4.out).mono ?_);rintro e w7 ⟨v272,rfl,ho0,hb⟩;refine⟨_,rfl,?_⟩;have n0_:=Aside0.mk (Kd.R_elder' (by (with_reducible repeat (first|apply Kd.yg_|apply Kd.yh_|apply Kd.R_drew));exact HO270.out) (Kd.R_base ho0) hb);have n1_:=Aside0.mk (Kd.y1_ (Kd.R_new' ho0 (Kd.R_lt (by (with_reducible repeat (first|apply Kd.yg_|apply Kd.yh_|apply Kd.R_drew));exact HO270.out))) (yk_ (by repeat (with_reducible first|exact HB.out|apply yc_|apply ya_|apply yb_))));have n2_:=Aside0.mk (yn_ (by repeat (with_reducible first|exact HB.out|apply yc_|apply ya_|apply yb_)) hb);clear HO270;clear HB;have HO270:=n0_;have HO273:=n1_;have HB:=n2_;clear n0_ n1_ n2_;(try clear hb);(try clear hb2);(try clear hk);(try clear hi);(try clear ho0)))
 (try simp only[Act.put,q1_,q2_,q3_])
 go_cut [34] (fun v34 wc=>∃ (kq:Nat) (x34_4:Bool),v34=.bool x34_4∧Aside0 (ye_.j0 kq t268 t271 x34_4=some (r1,r2))∧Aside0 (kq≤k)∧Aside0 (Kd.R Kd.string 9 wc w.heap.size (fun k_=>some k_≠(v272:Value).ownBlock) v269 t268)∧Aside0 (Kd.R Kd.string 9 wc w.heap.size (fun k_=>some k_≠(v269:Value).ownBlock) v272 t271)∧Aside0 (Below w.heap.size w wc))
 case first =>
  have H:=HC5.out
  clear HC5
  by_cases c8:(a0.size:Int) > 200000
  ·rw[if_pos c8] at H
   have c8b0:decide (200000 < (a0.size:Int))=true:=decide_eq_true c8
   have c8b1:decide (200000 < a0.size)=true:=decide_eq_true (by omega)
   clear c8
   (first|rw[c8b0]|(simp only[i64_w,i32_w];rw[c8b0])|skip)
   have H':=Aside0.mk H
   clear H
   go_wp2
   go_meet
   case rel=>exact⟨_,(true),(by first|rfl|(simp;done)|(simp [*];done)),H',⟨by first|omega|exact Nat.le_refl _⟩,⟨by (with_reducible repeat (first|apply Kd.yg_|apply Kd.yh_|apply Kd.R_drew));exact Kd.R_mono HO270.out (fun _ hk=>hk.2)⟩,⟨by (with_reducible repeat (first|apply Kd.yg_|apply Kd.yh_|apply Kd.R_drew));exact Kd.R_mono HO273.out (fun _ hk=>hk.2)⟩,⟨by repeat (with_reducible first|exact HB.out|apply yc_|apply ya_|apply yb_)⟩⟩
  rw[if_neg c8] at H
  have c8b0:decide (200000 < (a0.size:Int))=false:=decide_eq_false c8
  have c8b1:decide (200000 < a0.size)=false:=decide_eq_false (by omega)
  clear c8
  (first|rw[c8b0]|(simp only[i64_w,i32_w];rw[c8b0])|skip)
  by_cases c9:(a1.size:Int) > 200000
  ·rw[if_pos c9] at H
   have c9b0:decide (200000 < (a1.size:Int))=true:=decide_eq_true c9
   have c9b1:decide (200000 < a1.size)=true:=decide_eq_true (by omega)
   clear c9
   have H':=Aside0.mk H
   clear H
   go_wp2
   go_meet
   case rel=>exact⟨_,(true),(by first|rfl|(simp;done)|(simp [*];done)),H',⟨by first|omega|exact Nat.le_refl _⟩,⟨by (with_reducible repeat (first|apply Kd.yg_|apply Kd.yh_|apply Kd.R_drew));exact Kd.R_mono HO270.out (fun _ hk=>hk.2)⟩,⟨by (with_reducible repeat (first|apply Kd.yg_|apply Kd.yh_|apply Kd.R_drew));exact Kd.R_mono HO273.out (fun _ hk=>hk.2)⟩,⟨by repeat (with_reducible first|exact HB.out|apply yc_|apply ya_|apply yb_)⟩⟩
  rw[if_neg c9] at H
  have c9b0:decide (200000 < (a1.size:Int))=false:=decide_eq_false c9
  have c9b1:decide (200000 < a1.size)=false:=decide_eq_false (by omega)
  clear c9
  by_cases c10:(t268.length:Int) > 2000
  ·rw[if_pos c10] at H
   have c10b0:decide (2000 < (t268.length:Int))=true:=decide_eq_true c10
   have c10b1:decide (2000 < t268.length)=true:=decide_eq_true (by omega)
   clear c10
   have H':=Aside0.mk H
   clear H
   obtain⟨Ao11,co11,eo11⟩:=Kd.yw_ HO270.out
   subst eo11
   go_wp2
   go_meet
   case rel=>exact⟨_,(true),(by first|rfl|(simp;done)|(simp [*];done)),H',⟨by first|omega|exact Nat.le_refl _⟩,⟨by (with_reducible repeat (first|apply Kd.yg_|apply Kd.yh_|apply Kd.R_drew));exact Kd.R_mono HO270.out (fun _ hk=>hk.2)⟩,⟨by (with_reducible repeat (first|apply Kd.yg_|apply Kd.yh_|apply Kd.R_drew));exact Kd.R_mono HO273.out (fun _ hk=>hk.2)⟩,⟨by repeat (with_reducible first|exact HB.out|apply yc_|apply ya_|apply yb_)⟩⟩
  rw[if_neg c10] at H
  have c10b0:decide (2000 < (t268.length:Int))=false:=decide_eq_false c10
  have c10b1:decide (2000 < t268.length)=false:=decide_eq_false (by omega)
  clear c10
  have H':=Aside0.mk H
  clear H
  obtain⟨Ao12,co12,eo12⟩:=Kd.yw_ HO270.out
  subst eo12
  obtain⟨Ao13,co13,eo13⟩:=Kd.yw_ HO273.out
  subst eo13
  go_wp2
  go_meet
  case rel=>exact⟨_,(decide ((t271.length:Int) > 2000)),(by first|rfl|(simp;done)|(simp [*];done)),H',⟨by first|omega|exact Nat.le_refl _⟩,⟨by (with_reducible repeat (first|apply Kd.yg_|apply Kd.yh_|apply Kd.R_drew));exact Kd.R_mono HO270.out (fun _ hk=>hk.2)⟩,⟨by (with_reducible repeat (first|apply Kd.yg_|apply Kd.yh_|apply Kd.R_drew));exact Kd.R_mono HO273.out (fun _ hk=>hk.2)⟩,⟨by repeat (with_reducible first|exact HB.out|apply yc_|apply ya_|apply yb_)⟩⟩
 case rest =>
  clear HC5
  try clear c1
  try clear p2
  try clear c3
  try clear c5
  try clear c8
  try clear c8b0
  try clear c8b1
  try clear c9
  try clear c9b0
  try clear c9b1
  try clear c10
  try clear c10b0
  try clear c10b1
  obtain⟨kq,x34_4,rfl,HA,HJ4,HO_6,HO_7,HB⟩:=hcut
  cases kq with
  | zero=>exact absurd HA.out (by simp [ye_.j0])
  | succ kj4 =>
   have H:=HA.out
   clear HA
   simp only[ye_.j0] at H
   by_cases c14:x34_4=true
   ·subst c14
    have H1:(some (([]:List (S91)),2))=some (r1,r2):=by rw[if_pos rfl] at H;exact H
    clear H
    have H:=H1
    clear H1
    simp only[Option.some.injEq,Prod.mk.injEq] at H
    obtain⟨rfl,rfl⟩:=H
    go_wp2
    go_ret2
    exact⟨_,by first|rfl|(simp [yA_,yB_] <;> rfl)|(simp [*,yA_,yB_] <;> rfl),by first|exact Kd.R_nil _ _ _ _ _|exact Kd.N_nil _ _ _ _ _|exact Kd.V_nil _ _ _ _ _|exact Kd.Q_nil _ _ _ _ _|exact Kd.S_nil _ _ _ _ _,by repeat (with_reducible first|exact HB.out|apply yc_|apply ya_|apply yb_)⟩
   replace c14:=Bool.eq_false_iff.mpr c14
   subst c14
   have H1:((yd_.f kj4 t268 t271).bind fun t274=>(ye_.l0 kj4 t274 ([]:List (S91)) 0 0))=some (r1,r2):=by rw[if_neg (show ¬ (false=true) by decide)] at H;exact H
   clear H
   have H:=H1
   clear H1
   replace H:=Option.bind_eq_some_iff.mp H
   obtain⟨t274,A150,H⟩:=H
   replace H:(ye_.l0 kj4 t274 ([]:List (S91)) 0 0)=some (r1,r2):=H
   have A15:=Aside0.mk A150
   clear A150
   have H':=Aside0.mk H
   clear H
   obtain⟨Ao16,co16,eo16⟩:=Kd.yw_ HO_6.out
   subst eo16
   obtain⟨Ao17,co17,eo17⟩:=Kd.yw_ HO_7.out
   subst eo17
   go_wp2_with (first|((with_reducible refine yy_ (f:=53) rfl ?_);refine goesL_ (some 37) rfl rfl Tryz.func53 (by kernel_rfl) rfl #[.slice Ao16 t268.length co16,.slice Ao17 t271.length co17] rfl (by (try simp only[List.map_toArray,List.map_cons,List.map_nil]);first|done|rfl|(simp only[List.length_drop,List.length_take];rfl)) ?_;(with_reducible refine (yd_.calls kj4 _ _ t268 _ _ t271 t274 _ ?side1 ?side2 ?side3 ?side4 A15.out).mono ?_);(case side1=>repeat (first|exact (Kd.yj_ HO_6.out).2.2|(with_reducible refine Kd.yN_ ?_ _)|(with_reducible refine Kd.y0_ ?_ _)|(with_reducible refine Kd.C_drew ?_)));(case side2=>exact (Kd.yj_ HO_6.out).2.1);(case side3=>repeat (first|exact (Kd.yj_ HO_7.out).2.2|(with_reducible refine Kd.yN_ ?_ _)|(with_reducible refine Kd.y0_ ?_ _)|(with_reducible refine Kd.C_drew ?_)));(case side4=>exact (Kd.yj_ HO_7.out).2.1);rintro e w18 ⟨v275,rfl,ho0,hb⟩;refine⟨_,rfl,?_⟩;have n0_:=Aside0.mk (Kd.yT_ (by (with_reducible repeat (first|apply Kd.yg_|apply Kd.yh_|apply Kd.R_drew));exact HO_6.out) hb);have n1_:=Aside0.mk (Kd.yT_ (by (with_reducible repeat (first|apply Kd.yg_|apply Kd.yh_|apply Kd.R_drew));exact HO_7.out) hb);have n2_:=Aside0.mk (Kd.y1_ ho0 (yk_ (by repeat (with_reducible first|exact HB.out|apply yc_|apply ya_|apply yb_))));have n3_:=Aside0.mk (yn_ (by repeat (with_reducible first|exact HB.out|apply yc_|apply ya_|apply yb_)) hb);clear HO_6;clear HO_7;clear HB;have HO_6:=n0_;have HO_7:=n1_;have HO276:=n2_;have HB:=n3_;clear n0_ n1_ n2_ n3_;(try clear hb);(try clear hb2);(try clear hk);(try clear hi);(try clear ho0)))
   try simp only[Act.put,List.setIfInBounds_toArray,List.set_cons_succ,List.set_cons_zero]
   go_loopg [9,10,11] kj4 (fun kq v9 v10 v11 w'=>∃ (x9_2:List (S91)) (x10_2:Int) (x11_2:Int),v10=.int .i64 x10_2∧v11=.int .i64 x11_2∧Aside0 (ye_.l0 kq t274 x9_2 x10_2 x11_2=some (r1,r2))∧Aside0 (kq≤kj4)∧Aside0 (Kd.R k95 95 w' w.heap.size (fun _=>True) v275 t274)∧Aside0 (Kd.R k91 91 w' w.heap.size (fun _=>True) v9 x9_2)∧Aside0 (Below w.heap.size w w'))
   case atStart=>exact⟨(([]:List (S91))),(0),(0),(by first|rfl|(simp;done)|(simp [*];done)),(by first|rfl|(simp;done)|(simp [*];done)),H',⟨Nat.le_refl _⟩,⟨by (with_reducible repeat (first|apply Kd.yg_|apply Kd.yh_|apply Kd.R_drew));exact HO276.out⟩,⟨by first|exact Kd.R_nil _ _ _ _ _|exact Kd.N_nil _ _ _ _ _|exact Kd.V_nil _ _ _ _ _|exact Kd.Q_nil _ _ _ _ _|exact Kd.S_nil _ _ _ _ _⟩,⟨by repeat (with_reducible first|exact HB.out|apply yc_|apply ya_|apply yb_)⟩⟩
   case round =>
    clear H'
    try clear c1
    try clear p2
    try clear c3
    try clear c5
    try clear c8
    try clear c8b0
    try clear c8b1
    try clear c9
    try clear c9b0
    try clear c9b1
    try clear c10
    try clear c10b0
    try clear c10b1
    try clear c14
    try clear p2
    obtain⟨x9_2,x10_2,x11_2,rfl,rfl,HA,HK2,HO_8,HO_9,HB⟩:=hrel
    cases gk with
    | zero=>exact absurd HA.out (by simp [ye_.l0])
    | succ k2 =>
     have H:=HA.out
     clear HA
     simp only[ye_.l0] at H
     by_cases c19:x11_2 < (t274.length:Int)
     rotate_left
     ·rw[if_neg c19] at H
      have c19b0:decide (x11_2 < (t274.length:Int))=false:=decide_eq_false c19
      clear c19
      simp only[Option.some.injEq,Prod.mk.injEq] at H
      obtain⟨rfl,rfl⟩:=H
      obtain⟨Ao41,co41,eo41⟩:=Kd.yw_ HO_8.out
      subst eo41
      go_wp2
      go_ret2
      exact⟨_,by first|rfl|(simp [yA_,yB_] <;> rfl)|(simp [*,yA_,yB_] <;> rfl),by (with_reducible repeat (first|apply Kd.yg_|apply Kd.yh_|apply Kd.R_drew));exact HO_9.out,by repeat (with_reducible first|exact HB.out|apply yc_|apply ya_|apply yb_)⟩
     rw[if_pos c19] at H
     have c19b0:decide (x11_2 < (t274.length:Int))=true:=decide_eq_true c19
     clear c19
     by_cases c20:0≤x11_2
     rotate_left
     ·rw[if_neg c20] at H
      exact absurd H (by simp)
     rw[if_pos c20] at H
     have c20b0:decide (0≤x11_2)=true:=decide_eq_true c20
     clear c20
     by_cases c21:((rd_T95 t274 x11_2).f0)=32
     ·rw[if_pos c21] at H
      have c21b0:(((rd_T95 t274 x11_2).f0) == 32)=true:=beq_iff_eq.mpr c21
      have c21b1:(((rd_T95 t274 x11_2).f0) != 32)=false:=bne_eq_false_iff_eq.mpr c21
      clear c21
      have H':=Aside0.mk H
      clear H
      obtain⟨Ao22,co22,eo22⟩:=Kd.yw_ HO_8.out
      subst eo22
      have p277:0≤(x11_2:Int):=of_decide_eq_true (by assumption)
      have q277:x11_2 < (t274.length:Int):=of_decide_eq_true (by assumption)
      obtain⟨ad277,e277,hx277_0,hx277_1⟩:=at_T95 (Kd.yj_ HO_8.out).2.2 x11_2 p277 q277
      cases e277
      replace p277:=eq_true p277
      replace q277:=eq_true q277
      have p278:0≤(x11_2:Int):=of_decide_eq_true (by assumption)
      have q278:x11_2 < (t274.length:Int):=of_decide_eq_true (by assumption)
      obtain⟨ad278,e278,hx278_0,hx278_1⟩:=at_T95 (Kd.yj_ HO_8.out).2.2 x11_2 p278 q278
      obtain rfl:ad277=ad278:=(by injection e278)
      replace p278:=eq_true p278
      replace q278:=eq_true q278
      go_wp2
      go_roundg k2
      case measure=>have:=HJ4.out;have:=HK2.out;omega
      case rel=>exact⟨(x9_2),(wrap64 (x10_2+(((rd_T95 t274 x11_2).f1).size:Int))),(wrap64 (x11_2+1)),(by first|rfl|(simp;done)|(simp [*];done)),(by first|rfl|(simp;done)|(simp [*];done)),H',⟨by have:=HJ4.out;have:=HK2.out;omega⟩,⟨by (with_reducible repeat (first|apply Kd.yg_|apply Kd.yh_|apply Kd.R_drew));exact HO_8.out⟩,⟨by (with_reducible repeat (first|apply Kd.yg_|apply Kd.yh_|apply Kd.R_drew));exact HO_9.out⟩,⟨by repeat (with_reducible first|exact HB.out|apply yc_|apply ya_|apply yb_)⟩⟩
     rw[if_neg c21] at H
     have c21b0:(((rd_T95 t274 x11_2).f0) == 32)=false:=beq_eq_false_iff_ne.mpr c21
     have c21b1:(((rd_T95 t274 x11_2).f0) != 32)=true:=bne_iff_ne.mpr c21
     have H':=Aside0.mk H
     clear H
     obtain⟨Ao23,co23,eo23⟩:=Kd.yw_ HO_8.out
     subst eo23
     have p277:0≤(x11_2:Int):=of_decide_eq_true (by assumption)
     have q277:x11_2 < (t274.length:Int):=of_decide_eq_true (by assumption)
     obtain⟨ad277,e277,hx277_0,hx277_1⟩:=at_T95 (Kd.yj_ HO_8.out).2.2 x11_2 p277 q277
     cases e277
     replace p277:=eq_true p277
     replace q277:=eq_true q277
     go_wp2_with (first|((with_reducible refine yV_ (N:=12) rfl ?_);(try (refine yDb_ (by rfl) ?_;dsimp only));refine yfb_ ?hg (N:=12) ?hd (cs:=#[.int .i64 0,.int .i64 0,.string (⟨#[]⟩:ByteArray)]) (t:=91) ?hr ?_;(case hd=>rfl);(case hg=>rfl);(case hr=>first|(go_simp;done)|(go_simp;rfl));intro gb279 hg w24 hbox hb;have n0_:=Aside0.mk (Kd.yT_ (by (with_reducible repeat (first|apply Kd.yg_|apply Kd.yh_|apply Kd.R_drew));exact HO_8.out) hb);have n1_:=Aside0.mk (Kd.yT_ (Kd.yPb_ (by (with_reducible repeat (first|apply Kd.yg_|apply Kd.yh_|apply Kd.R_drew));exact HO_9.out) gb279 (Nat.le_of_eq hg.symm)) hb);have n2_:=Aside0.mk (yn_ (by repeat (with_reducible first|exact HB.out|apply yc_|apply ya_|apply yb_)) hb);have n3_:=Aside0.mk (hbox);have n4_:=Aside0.mk ((by rw[hg];exact (yk_ (by repeat (with_reducible first|exact HB.out|apply yc_|apply ya_|apply yb_))):w.heap.size≤gb279));have n5_:=Aside0.mk ((by rw[hg];exact (yk_ (by repeat (with_reducible first|exact HB.out|apply yc_|apply ya_|apply yb_))):w.heap.size≤gb279));clear HO_8;clear HO_9;clear HB;have HO_8:=n0_;have HO_9:=n1_;have HB:=n2_;have BK279:=n3_;have GW279:=n4_;have GE279:=n5_;clear n0_ n1_ n2_ n3_ n4_ n5_;clear hb hbox hg;have hcz25_0:w24.cell? ⟨gb279,0,none⟩=some (.int .i64 0):=(ym_ BK279.out 0).trans rfl;have hcz25_1:w24.cell? ⟨gb279,1,none⟩=some (.int .i64 0):=(ym_ BK279.out 1).trans rfl;have hcz25_2:w24.cell? ⟨gb279,2,none⟩=some (.string (⟨#[]⟩:ByteArray)):=(ym_ BK279.out 2).trans rfl;have hfz25_0:=yq_ BK279.out 0;have hfz25_1:=yq_ BK279.out 1;have hfz25_2:=yq_ BK279.out 2))
     try simp only[Act.put,List.setIfInBounds_toArray,List.set_cons_succ,List.set_cons_zero]
     go_loopg [11] k2 (fun kq v11 w'=>∃ (x11_3:Int) (x280001_3:Int) (x280002_3:ByteArray),v11=.int .i64 x11_3∧Aside0 (ye_.l1 kq t274 x9_2 x11_3 x10_2 x280001_3 x280002_3=some (r1,r2))∧Aside0 (kq≤k2)∧Aside0 (Kd.R k95 95 w' w.heap.size (fun _=>True) (.slice (some ad277) t274.length co23) t274)∧Aside0 (Kd.R k91 91 w' w.heap.size (fun k_=>k_≠gb279) u9 x9_2)∧Aside0 (w'.heap[gb279]?=some (.cells #[.int .i64 x10_2,.int .i64 x280001_3,.string x280002_3] 91 (0,0)))∧Aside0 (Below w.heap.size w w'))
     case atStart=>exact⟨(x11_2),(x10_2),((⟨#[]⟩:ByteArray)),(by first|rfl|(simp;done)|(simp [*];done)),H',⟨Nat.le_refl _⟩,⟨by (with_reducible repeat (first|apply Kd.yg_|apply Kd.yh_|apply Kd.R_drew));exact Kd.R_mono (Kd.R_far (p:=⟨gb279,2,none⟩) (Kd.R_far (p:=⟨gb279,1,none⟩) (Kd.R_far (p:=⟨gb279,0,none⟩) (Kd.yFb_ HO_8.out BK279.out (by decide)) (fun _ hk=>hk.2) (.int .i64 x10_2)) (fun _ hk=>hk.2) (.int .i64 x10_2)) (fun _ hk=>hk.2) (.string (⟨#[]⟩:ByteArray))) (fun _ hk=>trivial)⟩,⟨by (with_reducible repeat (first|apply Kd.yg_|apply Kd.yh_|apply Kd.R_drew));exact Kd.R_mono (Kd.R_far (p:=⟨gb279,2,none⟩) (Kd.R_far (p:=⟨gb279,1,none⟩) (Kd.R_far (p:=⟨gb279,0,none⟩) (Kd.R_mono HO_9.out (fun k_ hk=>(⟨hk,hk.2⟩:_∧k_≠gb279))) (fun _ hk=>hk.2) (.int .i64 x10_2)) (fun _ hk=>hk.2) (.int .i64 x10_2)) (fun _ hk=>hk.2) (.string (⟨#[]⟩:ByteArray))) (fun _ hk=>hk.1.2)⟩,⟨by (with_reducible repeat (first|refine yv_ ?_ _|refine yx_ ?_|refine yu_ ?_ _));refine y7_ (cs:=#[.int .i64 x10_2,.int .i64 x10_2,.string (⟨#[]⟩:ByteArray)]) ?_ 2 _ rfl;(with_reducible repeat (first|refine yv_ ?_ _|refine yx_ ?_|refine yu_ ?_ _));refine y7_ (cs:=#[.int .i64 x10_2,.int .i64 0,.string (⟨#[]⟩:ByteArray)]) ?_ 1 _ rfl;(with_reducible repeat (first|refine yv_ ?_ _|refine yx_ ?_|refine yu_ ?_ _));refine y7_ (cs:=#[.int .i64 0,.int .i64 0,.string (⟨#[]⟩:ByteArray)]) ?_ 0 _ rfl;(with_reducible repeat (first|refine yv_ ?_ _|refine yx_ ?_|refine yu_ ?_ _));exact BK279.out⟩,⟨by repeat (with_reducible first|exact HB.out|apply yc_|apply ya_|apply yb_|refine yp_ ?_ GE279.out)⟩⟩
     case round =>
      clear H'
      try clear c1
      try clear c2
      try clear p2
      try clear q2
      try clear hx2
      try clear c3
      try clear c5
      try clear p6
      try clear c8
      try clear c8b0
      try clear c8b1
      try clear c9
      try clear c9b0
      try clear c9b1
      try clear c10
      try clear c10b0
      try clear c10b1
      try clear c14
      try clear c19
      try clear c19b0
      try clear c20
      try clear c20b0
      try clear c21
      try clear c21b0
      try clear c21b1
      try clear hcz25_0
      try clear hcz25_1
      try clear hcz25_2
      try clear hfz25_0
      try clear hfz25_1
      try clear hfz25_2
      try clear hx277_0
      try clear hx277_1
      try clear hx278_0
      try clear hx278_1
      try clear p2
      try clear p277
      try clear p278
      try clear q277
      try clear q278
      obtain⟨x11_3,x280001_3,x280002_3,rfl,HA,HK3,HO_8,HO_9,BK279,HB⟩:=hrel
      cases gk with
      | zero=>exact absurd HA.out (by simp [ye_.l1])
      | succ k3 =>
       have H:=HA.out
       clear HA
       simp only[ye_.l1] at H
       have HC26:=Aside0.mk H
       clear H
       go_upto_region 13 with (fail)
       go_cut [72] (fun v72 wc=>∃ (kq:Nat) (x72_25:Bool),v72=.bool x72_25∧Aside0 (ye_.j3 kq t274 x9_2 x11_3 x72_25 x10_2 x280001_3 x280002_3=some (r1,r2))∧Aside0 (kq≤k3)∧Aside0 (Kd.R k95 95 wc w.heap.size (fun _=>True) (.slice (some ad277) t274.length co23) t274)∧Aside0 (Kd.R k91 91 wc w.heap.size (fun k_=>k_≠gb279) u9 x9_2)∧Aside0 (wc.heap[gb279]?=some (.cells #[.int .i64 x10_2,.int .i64 x280001_3,.string x280002_3] 91 (0,0)))∧Aside0 (Below w.heap.size w wc))
       case first =>
        have H:=HC26.out
        clear HC26
        by_cases c27:x11_3 < (t274.length:Int)
        rotate_left
        ·rw[if_neg c27] at H
         have c27b0:decide (x11_3 < (t274.length:Int))=false:=decide_eq_false c27
         clear c27
         (first|rw[c27b0]|(simp only[i64_w,i32_w];rw[c27b0])|skip)
         have H':=Aside0.mk H
         clear H
         go_wp2
         go_meet
         case rel=>exact⟨_,(false),(by first|rfl|(simp;done)|(simp [*];done)),H',⟨by have:=HJ4.out;have:=HK2.out;have:=HK3.out;first|omega|exact Nat.le_refl _⟩,⟨by (with_reducible repeat (first|apply Kd.yg_|apply Kd.yh_|apply Kd.R_drew));exact HO_8.out⟩,⟨by (with_reducible repeat (first|apply Kd.yg_|apply Kd.yh_|apply Kd.R_drew));exact HO_9.out⟩,⟨by (with_reducible repeat (first|refine yv_ ?_ _|refine yx_ ?_|refine yu_ ?_ _));exact BK279.out⟩,⟨by repeat (with_reducible first|exact HB.out|apply yc_|apply ya_|apply yb_|refine yp_ ?_ GE279.out)⟩⟩
        rw[if_pos c27] at H
        have c27b0:decide (x11_3 < (t274.length:Int))=true:=decide_eq_true c27
        clear c27
        (first|rw[c27b0]|(simp only[i64_w,i32_w];rw[c27b0])|skip)
        by_cases c28:0≤x11_3
        rotate_left
        ·rw[if_neg c28] at H
         exact absurd H (by simp)
        rw[if_pos c28] at H
        have c28b0:decide (0≤x11_3)=true:=decide_eq_true c28
        clear c28
        have H':=Aside0.mk H
        clear H
        have p280:0≤(x11_3:Int):=of_decide_eq_true (by assumption)
        have q280:x11_3 < (t274.length:Int):=of_decide_eq_true (by assumption)
        obtain⟨ad280,e280,hx280_0,hx280_1⟩:=at_T95 (Kd.yj_ HO_8.out).2.2 x11_3 p280 q280
        obtain rfl:ad277=ad280:=(by injection e280)
        replace p280:=eq_true p280
        replace q280:=eq_true q280
        go_wp2
        go_meet
        case rel=>exact⟨_,((((rd_T95 t274 x11_3).f0) != 32)),(by first|rfl|(simp;done)|(simp [*];done)),H',⟨by have:=HJ4.out;have:=HK2.out;have:=HK3.out;first|omega|exact Nat.le_refl _⟩,⟨by (with_reducible repeat (first|apply Kd.yg_|apply Kd.yh_|apply Kd.R_drew));exact HO_8.out⟩,⟨by (with_reducible repeat (first|apply Kd.yg_|apply Kd.yh_|apply Kd.R_drew));exact HO_9.out⟩,⟨by (with_reducible repeat (first|refine yv_ ?_ _|refine yx_ ?_|refine yu_ ?_ _));exact BK279.out⟩,⟨by repeat (with_reducible first|exact HB.out|apply yc_|apply ya_|apply yb_|refine yp_ ?_ GE279.out)⟩⟩
       case rest =>
        clear HC26
        try clear c1
        try clear c2
        try clear p2
        try clear q2
        try clear hx2
        try clear c3
        try clear c5
        try clear p6
        try clear c8
        try clear c8b0
        try clear c8b1
        try clear c9
        try clear c9b0
        try clear c9b1
        try clear c10
        try clear c10b0
        try clear c10b1
        try clear c14
        try clear c19
        try clear c19b0
        try clear c20
        try clear c20b0
        try clear c21
        try clear c21b0
        try clear c21b1
        try clear c27
        try clear c27b0
        try clear p27
        try clear q27
        try clear hx27
        try clear c28
        try clear c28b0
        try clear p28
        try clear q28
        try clear hx28
        try clear hcz25_0
        try clear hcz25_1
        try clear hcz25_2
        try clear hfz25_0
        try clear hfz25_1
        try clear hfz25_2
        try clear hx277_0
        try clear hx277_1
        try clear hx278_0
        try clear hx278_1
        try clear hx280_0
        try clear hx280_1
        try clear p2
        try clear p277
        try clear p278
        try clear p280
        try clear p6
        try clear q2
        try clear q277
        try clear q278
        try clear q280
        obtain⟨kq,x72_25,rfl,HA,HJ25,HO_8,HO_9,BK279,HB⟩:=hcut
        cases kq with
        | zero=>exact absurd HA.out (by simp [ye_.j3])
        | succ kj25 =>
         have H:=HA.out
         clear HA
         simp only[ye_.j3] at H
         by_cases c29:x72_25=true
         rotate_left
         ·replace c29:=Bool.eq_false_iff.mpr c29
          subst c29
          have H1:(if x9_2.length < 4398046511104 then (ye_.l0 kj25 t274 (x9_2++[(⟨x10_2,x280001_3,x280002_3⟩:S91)]) x280001_3 x11_3) else (none))=some (r1,r2):=by rw[if_neg (show ¬ (false=true) by decide)] at H;exact H
          clear H
          have H:=H1
          clear H1
          by_cases c38:x9_2.length < 4398046511104
          rotate_left
          ·rw[if_neg c38] at H
           exact absurd H (by simp)
          rw[if_pos c38] at H
          have LMc38:=Aside0.mk c38
          clear c38
          obtain⟨y284,hy284⟩:∃ y_:List (S91),y_=(x9_2++[(⟨x10_2,x280001_3,x280002_3⟩:S91)]):=⟨_,rfl⟩
          replace H:(ye_.l0 kj25 t274 y284 x280001_3 x11_3)=some (r1,r2):=by first|(rw[hy284];with_reducible exact H)|(have H2_:=(Option.bind_some _ _).symm.trans H;rw[hy284];with_reducible exact H2_)|(have H2_:=(Option.bind_some _ _).symm.trans H;with_reducible exact H2_)|with_reducible exact H|(rw[hy284];exact H)|exact H
          have Ny284:=Aside0.mk hy284
          clear hy284
          have H':=Aside0.mk H
          clear H
          have hcz39_0:wc.cell? ⟨gb279,0,none⟩=some (.int .i64 x10_2):=(ym_ BK279.out 0).trans rfl
          have hcz39_1:wc.cell? ⟨gb279,1,none⟩=some (.int .i64 x280001_3):=(ym_ BK279.out 1).trans rfl
          have hcz39_2:wc.cell? ⟨gb279,2,none⟩=some (.string x280002_3):=(ym_ BK279.out 2).trans rfl
          have hfz39_0:=yq_ BK279.out 0
          have hfz39_1:=yq_ BK279.out 1
          have hfz39_2:=yq_ BK279.out 2
          go_wp2_with (first|((with_reducible refine yC_ (b:=.append) (xs:=#[.tmp 102,.tmp 104]) rfl ?_);(try (refine yDb_ (by rfl) ?_;dsimp only));at_builtin;refine Kd.yM_ k91 (w0:=w) w.heap.size rfl (.tmp 102) (.tmp 104) 68 91 (.agg #[(.int .i64 0),(.int .i64 0),(.string ⟨#[]⟩)]) 32 rfl Tryz.underlying68 info91 rfl (by decide) (by omega) u9 x9_2 (⟨x10_2,x280001_3,x280002_3⟩:S91) [.int .i64 x10_2,.int .i64 x280001_3,.string x280002_3] (fun k_=>k_≠gb279) (fun _=>False) rfl rfl ?aP (fun _ hk=>hk.elim) ?aF ?aO ?aB ?aS ?aL ?_;(case aP=>exact k91_mkM _ _ _ (⟨x10_2,x280001_3,x280002_3⟩:S91));(case aB=>exact (by repeat (with_reducible first|exact HB.out|apply yc_|apply ya_|apply yb_|refine yp_ ?_ GE279.out)));(case aF=>exact (fun k_ hk=>Kd.freshB (g:=gb279) (o:=.cells #[.int .i64 x10_2,.int .i64 x280001_3,.string x280002_3] 91 (0,0)) (by (with_reducible repeat (first|refine yv_ ?_ _|refine yx_ ?_|refine yu_ ?_ _));exact BK279.out) k_ hk));(case aO=>exact (by (with_reducible repeat (first|apply Kd.yg_|apply Kd.yh_|apply Kd.R_drew));exact HO_9.out));(case aS=>exact (yk_ (by repeat (with_reducible first|exact HB.out|apply yc_|apply ya_|apply yb_|refine yp_ ?_ GE279.out))));(case aL=>have:=LMc38.out;omega);intro v285 w40 ho hb hg hat;rw[← Ny284.out] at ho;have n0_:=Aside0.mk (Kd.yeb_ (by (with_reducible repeat (first|apply Kd.yg_|apply Kd.yh_|apply Kd.R_drew));exact HO_8.out) (Kd.yR_ (by (with_reducible repeat (first|apply Kd.yg_|apply Kd.yh_|apply Kd.R_drew));exact HO_9.out)) (by decide) hg);have n1_:=Aside0.mk (ynb_ (g:=gb279) (o:=.cells #[.int .i64 x10_2,.int .i64 x280001_3,.string x280002_3] 91 (0,0)) (by (with_reducible repeat (first|refine yv_ ?_ _|refine yx_ ?_|refine yu_ ?_ _));exact BK279.out) hg (Kd.R_away HO_9.out (fun _ hk=>hk)));have n2_:=Aside0.mk (hb);have n3_:=Aside0.mk (ho);clear HO_8;clear BK279;clear HB;clear HO_9;have HO_8:=n0_;have BK279:=n1_;have HB:=n2_;have HO286:=n3_;clear n0_ n1_ n2_ n3_;clear ho hb hg hat))
          go_roundg kj25
          case measure=>have:=HJ4.out;have:=HK2.out;have:=HK3.out;have:=HJ25.out;omega
          case rel=>exact⟨(y284),(x280001_3),(x11_3),(by first|rfl|(simp;done)|(simp [*];done)),(by first|rfl|(simp;done)|(simp [*];done)),H',⟨by have:=HJ4.out;have:=HK2.out;have:=HK3.out;have:=HJ25.out;omega⟩,⟨by (with_reducible repeat (first|apply Kd.yg_|apply Kd.yh_|apply Kd.R_drew));exact HO_8.out⟩,⟨by (with_reducible repeat (first|apply Kd.yg_|apply Kd.yh_|apply Kd.R_drew));exact Kd.R_mono HO286.out (fun _ hk=>trivial)⟩,⟨by repeat (with_reducible first|exact HB.out|apply yc_|apply ya_|apply yb_|refine yp_ ?_ GE279.out)⟩⟩
         subst c29
         have H1:(if 0≤x11_3 then (if x11_3 < (t274.length:Int) then (if ((rd_T95 t274 x11_3).f0)=45 then (ye_.l1 kj25 t274 x9_2 (wrap64 (x11_3+1)) x10_2 (wrap64 (x280001_3+(((rd_T95 t274 x11_3).f1).size:Int))) x280002_3) else (if x280002_3.size+((rd_T95 t274 x11_3).f1).size≤9223372036854775807 then (ye_.l1 kj25 t274 x9_2 (wrap64 (x11_3+1)) x10_2 x280001_3 (x280002_3++((rd_T95 t274 x11_3).f1))) else (none))) else (none)) else (none))=some (r1,r2):=by rw[if_pos rfl] at H;exact H
         clear H
         have H:=H1
         clear H1
         by_cases c30:0≤x11_3
         rotate_left
         ·rw[if_neg c30] at H
          exact absurd H (by simp)
         rw[if_pos c30] at H
         have c30b0:decide (0≤x11_3)=true:=decide_eq_true c30
         clear c30
         by_cases c31:x11_3 < (t274.length:Int)
         rotate_left
         ·rw[if_neg c31] at H
          exact absurd H (by simp)
         rw[if_pos c31] at H
         have c31b0:decide (x11_3 < (t274.length:Int))=true:=decide_eq_true c31
         clear c31
         by_cases c32:((rd_T95 t274 x11_3).f0)=45
         ·rw[if_pos c32] at H
          have c32b0:(((rd_T95 t274 x11_3).f0) == 45)=true:=beq_iff_eq.mpr c32
          have c32b1:(((rd_T95 t274 x11_3).f0) != 45)=false:=bne_eq_false_iff_eq.mpr c32
          clear c32
          have H':=Aside0.mk H
          clear H
          have p281:0≤(x11_3:Int):=of_decide_eq_true (by assumption)
          have q281:x11_3 < (t274.length:Int):=of_decide_eq_true (by assumption)
          obtain⟨ad281,e281,hx281_0,hx281_1⟩:=at_T95 (Kd.yj_ HO_8.out).2.2 x11_3 p281 q281
          obtain rfl:ad277=ad281:=(by injection e281)
          replace p281:=eq_true p281
          replace q281:=eq_true q281
          try go_wp2
          have n0_:=Aside0.mk (Kd.R_drew HO_8.out)
          have n1_:=Aside0.mk (Kd.R_drew HO_9.out)
          have n2_:=Aside0.mk (yx_ BK279.out)
          have n3_:=Aside0.mk (yb_ HB.out)
          clear HO_8
          clear HO_9
          clear BK279
          clear HB
          have HO_8:=n0_
          have HO_9:=n1_
          have BK279:=n2_
          have HB:=n3_
          clear n0_ n1_ n2_ n3_
          have p282:0≤(x11_3:Int):=of_decide_eq_true (by assumption)
          have q282:x11_3 < (t274.length:Int):=of_decide_eq_true (by assumption)
          obtain⟨ad282,e282,hx282_0,hx282_1⟩:=at_T95 (Kd.yj_ HO_8.out).2.2 x11_3 p282 q282
          obtain rfl:ad277=ad282:=(by injection e282)
          replace p282:=eq_true p282
          replace q282:=eq_true q282
          refine start_ (n:=11) (S:=fun w'=>w'.cell? ⟨gb279,0,none⟩=some (.int .i64 x10_2)∧w'.cell? ⟨gb279,1,none⟩=some (.int .i64 x280001_3)∧w'.cell? ⟨gb279,2,none⟩=some (.string x280002_3)∧w'.cell? (ad277.add ((x11_3).toNat * 2))=some (.int .u8 ((rd_T95 t274 x11_3).f0))∧w'.cell? ⟨(ad277.add ((x11_3).toNat * 2)).block,(ad277.add ((x11_3).toNat * 2)).off+1,none⟩=some (.string ((rd_T95 t274 x11_3).f1))) (ds:=[10]) (bA 11 0) (by kernel_rfl) rfl rfl ⟨(ym_ BK279.out 0).trans rfl,(ym_ BK279.out 1).trans rfl,(ym_ BK279.out 2).trans rfl,hx282_0,hx282_1⟩ (fun hHeld=>?_);refine yhb_ ye_.tab15 ye_.bits15 (fun HT_ HW_=>?_)
          generalize wc.drew=w33 at HO_8 HO_9 BK279 HB hx282_0 hx282_1 hHeld ⊢
          refine pu_ 0 79 (bA 11 1) HT_ ?_
          refine pu_ 2 81 (bA 11 5) HT_ ?_
          refine pu_ 3 82 (bA 11 13) HT_ ?_
          refine pu_ 4 83 (bA 11 29) HT_ ?_
          refine pu_ 5 84 (bA 11 61) HT_ ?_
          refine tk_ 1 80 (bA 11 63) rfl HT_ HW_ hHeld (by rintro w' ⟨s0,s1,s2,s3,s4⟩;go_simp;with_reducible rfl) ?_
          refine tk_ 6 85 (bA 11 127) rfl HT_ HW_ hHeld (by rintro w' ⟨s0,s1,s2,s3,s4⟩;go_simp;with_reducible rfl) ?_
          refine pu_ 7 86 (bA 11 255) HT_ ?_
          refine pu_ 8 87 (bA 11 511) HT_ ?_
          refine pu_ 9 88 (bA 11 1023) HT_ ?_
          refine last_ (i:=10) (N:=none) (bA 11 2047) rfl rfl (one_of HT_.out (by kernel_rfl)) (by decide) (fun K hK=>?_)
          have hs34:w33.cell? ⟨gb279,1,none⟩=some (.int .i64 x280001_3):=(ym_ BK279.out 1).trans rfl
          have hfs34:=yq_ BK279.out 1
          refine skip_ (w1:=?_) (by rfl) rfl ?_ ?_
          rotate_left
          ·go_simp
           rfl
          refine hK.out _ _ ?_
          clear hK K
          refine done_ (yzb_ HT_.out (by kernel_rfl)) ?_
          try go_wp2
          go_roundg kj25
          case measure=>have:=HJ4.out;have:=HK2.out;have:=HK3.out;have:=HJ25.out;omega
          case rel=>exact⟨(wrap64 (x11_3+1)),(wrap64 (x280001_3+(((rd_T95 t274 x11_3).f1).size:Int))),(x280002_3),(by first|rfl|(simp;done)|(simp [*];done)),H',⟨by have:=HJ4.out;have:=HK2.out;have:=HK3.out;have:=HJ25.out;omega⟩,⟨by (with_reducible repeat (first|apply Kd.yg_|apply Kd.yh_|apply Kd.R_drew));exact Kd.R_mono (Kd.R_far (p:=⟨gb279,1,none⟩) (Kd.yFb_ HO_8.out BK279.out (by decide)) (fun _ hk=>hk.2) (.int .i64 (wrap64 (x280001_3+(((rd_T95 t274 x11_3).f1).size:Int))))) (fun _ hk=>trivial)⟩,⟨by (with_reducible repeat (first|apply Kd.yg_|apply Kd.yh_|apply Kd.R_drew));exact Kd.R_mono (Kd.R_far (p:=⟨gb279,1,none⟩) (Kd.R_mono HO_9.out (fun k_ hk=>(⟨hk,hk⟩:_∧k_≠gb279))) (fun _ hk=>hk.2) (.int .i64 (wrap64 (x280001_3+(((rd_T95 t274 x11_3).f1).size:Int))))) (fun _ hk=>hk.1)⟩,⟨by (with_reducible repeat (first|refine yv_ ?_ _|refine yx_ ?_|refine yu_ ?_ _));refine y7_ (cs:=#[.int .i64 x10_2,.int .i64 x280001_3,.string x280002_3]) ?_ 1 _ rfl;(with_reducible repeat (first|refine yv_ ?_ _|refine yx_ ?_|refine yu_ ?_ _));exact BK279.out⟩,⟨by repeat (with_reducible first|exact HB.out|apply yc_|apply ya_|apply yb_|refine yp_ ?_ GE279.out)⟩⟩
         rw[if_neg c32] at H
         have c32b0:(((rd_T95 t274 x11_3).f0) == 45)=false:=beq_eq_false_iff_ne.mpr c32
         have c32b1:(((rd_T95 t274 x11_3).f0) != 45)=true:=bne_iff_ne.mpr c32
         by_cases c35:x280002_3.size+((rd_T95 t274 x11_3).f1).size≤9223372036854775807
         rotate_left
         ·rw[if_neg c35] at H
          exact absurd H (by simp)
         rw[if_pos c35] at H
         have c35b0:=eq_true c35
         have c35b1:decide (x280002_3.size+((rd_T95 t274 x11_3).f1).size≤9223372036854775807)=true:=decide_eq_true c35
         try have c35b2:(9223372036854775807 < x280002_3.size+((rd_T95 t274 x11_3).f1).size)=False:=eq_false (Nat.not_lt.2 c35)
         have H':=Aside0.mk H
         clear H
         have p281:0≤(x11_3:Int):=of_decide_eq_true (by assumption)
         have q281:x11_3 < (t274.length:Int):=of_decide_eq_true (by assumption)
         obtain⟨ad281,e281,hx281_0,hx281_1⟩:=at_T95 (Kd.yj_ HO_8.out).2.2 x11_3 p281 q281
         obtain rfl:ad277=ad281:=(by injection e281)
         replace p281:=eq_true p281
         replace q281:=eq_true q281
         try go_wp2
         have n0_:=Aside0.mk (Kd.R_drew HO_8.out)
         have n1_:=Aside0.mk (Kd.R_drew HO_9.out)
         have n2_:=Aside0.mk (yx_ BK279.out)
         have n3_:=Aside0.mk (yb_ HB.out)
         clear HO_8
         clear HO_9
         clear BK279
         clear HB
         have HO_8:=n0_
         have HO_9:=n1_
         have BK279:=n2_
         have HB:=n3_
         clear n0_ n1_ n2_ n3_
         have p283:0≤(x11_3:Int):=of_decide_eq_true (by assumption)
         have q283:x11_3 < (t274.length:Int):=of_decide_eq_true (by assumption)
         obtain⟨ad283,e283,hx283_0,hx283_1⟩:=at_T95 (Kd.yj_ HO_8.out).2.2 x11_3 p283 q283
         obtain rfl:ad277=ad283:=(by injection e283)
         replace p283:=eq_true p283
         replace q283:=eq_true q283
         refine start_ (n:=10) (S:=fun w'=>w'.cell? ⟨gb279,0,none⟩=some (.int .i64 x10_2)∧w'.cell? ⟨gb279,1,none⟩=some (.int .i64 x280001_3)∧w'.cell? ⟨gb279,2,none⟩=some (.string x280002_3)∧w'.cell? (ad277.add ((x11_3).toNat * 2))=some (.int .u8 ((rd_T95 t274 x11_3).f0))∧w'.cell? ⟨(ad277.add ((x11_3).toNat * 2)).block,(ad277.add ((x11_3).toNat * 2)).off+1,none⟩=some (.string ((rd_T95 t274 x11_3).f1))) (ds:=[9]) (bA 10 0) (by kernel_rfl) rfl rfl ⟨(ym_ BK279.out 0).trans rfl,(ym_ BK279.out 1).trans rfl,(ym_ BK279.out 2).trans rfl,hx283_0,hx283_1⟩ (fun hHeld=>?_);refine yhb_ ye_.tab16 ye_.bits16 (fun HT_ HW_=>?_)
         generalize wc.drew=w36 at HO_8 HO_9 BK279 HB hx283_0 hx283_1 hHeld ⊢
         refine pu_ 0 89 (bA 10 1) HT_ ?_
         refine pu_ 2 91 (bA 10 5) HT_ ?_
         refine pu_ 3 92 (bA 10 13) HT_ ?_
         refine pu_ 4 93 (bA 10 29) HT_ ?_
         refine pu_ 5 94 (bA 10 61) HT_ ?_
         refine tk_ 1 90 (bA 10 63) rfl HT_ HW_ hHeld (by rintro w' ⟨s0,s1,s2,s3,s4⟩;go_simp;with_reducible rfl) ?_
         refine tk_ 6 95 (bA 10 127) rfl HT_ HW_ hHeld (by rintro w' ⟨s0,s1,s2,s3,s4⟩;go_simp;with_reducible rfl) ?_
         refine pu_ 7 96 (bA 10 255) HT_ ?_
         refine pu_ 8 97 (bA 10 511) HT_ ?_
         refine last_ (i:=9) (N:=none) (bA 10 1023) rfl rfl (one_of HT_.out (by kernel_rfl)) (by decide) (fun K hK=>?_)
         have hs37:w36.cell? ⟨gb279,2,none⟩=some (.string x280002_3):=(ym_ BK279.out 2).trans rfl
         have hfs37:=yq_ BK279.out 2
         refine skip_ (w1:=?_) (by rfl) rfl ?_ ?_
         rotate_left
         ·go_simp
          rfl
         refine hK.out _ _ ?_
         clear hK K
         refine done_ (yzb_ HT_.out (by kernel_rfl)) ?_
         try go_wp2
         go_roundg kj25
         case measure=>have:=HJ4.out;have:=HK2.out;have:=HK3.out;have:=HJ25.out;omega
         case rel=>exact⟨(wrap64 (x11_3+1)),(x280001_3),(x280002_3++((rd_T95 t274 x11_3).f1)),(by first|rfl|(simp;done)|(simp [*];done)),H',⟨by have:=HJ4.out;have:=HK2.out;have:=HK3.out;have:=HJ25.out;omega⟩,⟨by (with_reducible repeat (first|apply Kd.yg_|apply Kd.yh_|apply Kd.R_drew));exact Kd.R_mono (Kd.R_far (p:=⟨gb279,2,none⟩) (Kd.yFb_ HO_8.out BK279.out (by decide)) (fun _ hk=>hk.2) (.string (x280002_3++((rd_T95 t274 x11_3).f1)))) (fun _ hk=>trivial)⟩,⟨by (with_reducible repeat (first|apply Kd.yg_|apply Kd.yh_|apply Kd.R_drew));exact Kd.R_mono (Kd.R_far (p:=⟨gb279,2,none⟩) (Kd.R_mono HO_9.out (fun k_ hk=>(⟨hk,hk⟩:_∧k_≠gb279))) (fun _ hk=>hk.2) (.string (x280002_3++((rd_T95 t274 x11_3).f1)))) (fun _ hk=>hk.1)⟩,⟨by (with_reducible repeat (first|refine yv_ ?_ _|refine yx_ ?_|refine yu_ ?_ _));refine y7_ (cs:=#[.int .i64 x10_2,.int .i64 x280001_3,.string x280002_3]) ?_ 2 _ rfl;(with_reducible repeat (first|refine yv_ ?_ _|refine yx_ ?_|refine yu_ ?_ _));exact BK279.out⟩,⟨by repeat (with_reducible first|exact HB.out|apply yc_|apply ya_|apply yb_|refine yp_ ?_ GE279.out)⟩⟩

end Go.Proofs.YthimblhfjfngiaaGreat.PText

namespace Go.Proofs.YthimblhfjfngiaaGreat.PText
open Go.RowKit Go.Proofs.YthimblhfjfngiaaGreatW.PrintWords Go.Proofs.YthimblhfjfngiaaGreatW.PrintLast Go.Proofs.YthimblhfjfngiaaGreatW.PrintMore
attribute [local go_sem] yW_ yX_ yab_ ybb_ yO_ yP_ yY_ yZ_   -- for this text's walks alone
set_option linter.unusedVariables false
set_option linter.unusedSimpArgs false

attribute [local go_sem high] eqA91
def ydc_.f (a0_0:Int) (a0_1:Int) (a0_2:ByteArray) (a1_0:Int) (a1_1:Int) (a1_2:ByteArray):Option (Bool):=if (!(a0_0 == a1_0) || (!(a0_1 == a1_1) || (!(a0_2.toList == a1_2.toList))))=true then (if a0_0≤a1_1 then (some (decide (a1_0≤a0_1))) else (some false)) else (some false)
set_option maxHeartbeats 8000000 in
set_option maxRecDepth 100000 in
theorem ydc_.calls (a0_0:Int) (a0_1:Int) (a0_2:ByteArray) (a1_0:Int) (a1_1:Int) (a1_2:ByteArray) (r:Bool) (w:World) (h:ydc_.f a0_0 a0_1 a0_2 a1_0 a1_1 a1_2=some r) :
  Calls Tryz.prog 60 #[.agg #[.int .i64 a0_0,.int .i64 a0_1,.string a0_2],.agg #[.int .i64 a1_0,.int .i64 a1_1,.string a1_2]] w fun e w'=>e=.returned (.bool r)∧Below w.heap.size w w':=by
 have hu91:=Tryz.underlying91
 have HB:=Aside0.mk (Below.refl w.heap.size w)
 have H:(if (!(a0_0 == a1_0) || (!(a0_1 == a1_1) || (!(a0_2.toList == a1_2.toList))))=true then (if a0_0≤a1_1 then (some (decide (a1_0≤a0_1))) else (some false)) else (some false))=some r:=h
 clear h
 by_cases c3:(!(a0_0 == a1_0) || (!(a0_1 == a1_1) || (!(a0_2.toList == a1_2.toList))))=true
 rotate_left
 ·rw[if_neg c3] at H
  have c3b0:(!(a0_0 == a1_0) || (!(a0_1 == a1_1) || (!(a0_2.toList == a1_2.toList))))=false:=by simpa using c3
  clear c3
  obtain rfl:=Option.some.inj H
  go_enter Tryz.func60,Tryz.ntmps60
  go_wp2_with (first|((with_reducible refine yV_ (N:=2) rfl ?_);refine yfb_ ?hg (N:=2) ?hd (cs:=#[.int .i64 a0_0,.int .i64 a0_1,.string a0_2]) (t:=91) ?hr ?_;(case hd=>rfl);(case hg=>rfl);(case hr=>first|(go_simp;done)|(go_simp;rfl));intro gb525 hg w15 hbox hb;have n0_:=Aside0.mk (yn_ (by repeat (with_reducible first|exact HB.out|apply yc_|apply ya_|apply yb_)) hb);have n1_:=Aside0.mk (hbox);have n2_:=Aside0.mk ((by rw[hg];exact (yk_ (by repeat (with_reducible first|exact HB.out|apply yc_|apply ya_|apply yb_))):w.heap.size≤gb525));have n3_:=Aside0.mk ((by rw[hg];exact (yk_ (by repeat (with_reducible first|exact HB.out|apply yc_|apply ya_|apply yb_))):w.heap.size≤gb525));clear HB;have HB:=n0_;have BK525:=n1_;have GW525:=n2_;have GE525:=n3_;clear n0_ n1_ n2_ n3_;clear hb hbox hg)|((with_reducible refine yV_ (N:=3) rfl ?_);refine yfb_ ?hg (N:=3) ?hd (cs:=#[.int .i64 a1_0,.int .i64 a1_1,.string a1_2]) (t:=91) ?hr ?_;(case hd=>rfl);(case hg=>rfl);(case hr=>first|(go_simp;done)|(go_simp;rfl));intro gb526 hg w16 hbox hb;have n0_:=Aside0.mk (yZb_ (g:=gb525) (o:=.cells #[.int .i64 a0_0,.int .i64 a0_1,.string a0_2] 91 (0,0)) (by (with_reducible repeat (first|refine yv_ ?_ _|refine yx_ ?_|refine yu_ ?_ _));exact BK525.out) hb);have n1_:=Aside0.mk (yn_ (by repeat (with_reducible first|exact HB.out|apply yc_|apply ya_|apply yb_|refine yp_ ?_ GE525.out)) hb);have n2_:=Aside0.mk (hbox);have n3_:=Aside0.mk ((by rw[hg];exact (yk_ (by repeat (with_reducible first|exact HB.out|apply yc_|apply ya_|apply yb_|refine yp_ ?_ GE525.out))):w.heap.size≤gb526));have n4_:=Aside0.mk ((by rw[hg];exact (yk_ (by repeat (with_reducible first|exact HB.out|apply yc_|apply ya_|apply yb_|refine yp_ ?_ GE525.out))):w.heap.size≤gb526));have n5_:=Aside0.mk ((by rw[hg];exact Nat.ne_of_lt (blk_lt (g:=gb525) (o:=.cells #[.int .i64 a0_0,.int .i64 a0_1,.string a0_2] 91 (0,0)) (by (with_reducible repeat (first|refine yv_ ?_ _|refine yx_ ?_|refine yu_ ?_ _));exact BK525.out)):gb525≠gb526));have n6_:=Aside0.mk ((by rw[hg];exact Nat.ne_of_gt (blk_lt (g:=gb525) (o:=.cells #[.int .i64 a0_0,.int .i64 a0_1,.string a0_2] 91 (0,0)) (by (with_reducible repeat (first|refine yv_ ?_ _|refine yx_ ?_|refine yu_ ?_ _));exact BK525.out)):gb526≠gb525));clear BK525;clear HB;have BK525:=n0_;have HB:=n1_;have BK526:=n2_;have GW526:=n3_;have GE526:=n4_;have NB525_526:=n5_;have NB526_525:=n6_;clear n0_ n1_ n2_ n3_ n4_ n5_ n6_;clear hb hbox hg;have hnb17:=NB525_526.out;have hnc17:=NB526_525.out;have hcz18_0:w16.cell? ⟨gb525,0,none⟩=some (.int .i64 a0_0):=(ym_ BK525.out 0).trans rfl;have hcz18_1:w16.cell? ⟨gb525,1,none⟩=some (.int .i64 a0_1):=(ym_ BK525.out 1).trans rfl;have hcz18_2:w16.cell? ⟨gb525,2,none⟩=some (.string a0_2):=(ym_ BK525.out 2).trans rfl;have hfz18_0:=yq_ BK525.out 0;have hfz18_1:=yq_ BK525.out 1;have hfz18_2:=yq_ BK525.out 2;have hcz19_0:w16.cell? ⟨gb526,0,none⟩=some (.int .i64 a1_0):=(ym_ BK526.out 0).trans rfl;have hcz19_1:w16.cell? ⟨gb526,1,none⟩=some (.int .i64 a1_1):=(ym_ BK526.out 1).trans rfl;have hcz19_2:w16.cell? ⟨gb526,2,none⟩=some (.string a1_2):=(ym_ BK526.out 2).trans rfl;have hfz19_0:=yq_ BK526.out 0;have hfz19_1:=yq_ BK526.out 1;have hfz19_2:=yq_ BK526.out 2))
  go_ret
  exact⟨by first|rfl|(simp [yA_,yB_] <;> rfl)|(simp [*,yA_,yB_] <;> rfl),by repeat (with_reducible first|exact HB.out|apply yc_|apply ya_|apply yb_|refine yp_ ?_ GE525.out|refine yp_ ?_ GE526.out)⟩
 rw[if_pos c3] at H
 have c3b0:(!(a0_0 == a1_0) || (!(a0_1 == a1_1) || (!(a0_2.toList == a1_2.toList))))=true:=c3
 clear c3
 by_cases c4:a0_0≤a1_1
 ·rw[if_pos c4] at H
  have c4b0:decide (a0_0≤a1_1)=true:=decide_eq_true c4
  clear c4
  obtain rfl:=Option.some.inj H
  go_enter Tryz.func60,Tryz.ntmps60
  go_wp2_with (first|((with_reducible refine yV_ (N:=2) rfl ?_);refine yfb_ ?hg (N:=2) ?hd (cs:=#[.int .i64 a0_0,.int .i64 a0_1,.string a0_2]) (t:=91) ?hr ?_;(case hd=>rfl);(case hg=>rfl);(case hr=>first|(go_simp;done)|(go_simp;rfl));intro gb525 hg w5 hbox hb;have n0_:=Aside0.mk (yn_ (by repeat (with_reducible first|exact HB.out|apply yc_|apply ya_|apply yb_)) hb);have n1_:=Aside0.mk (hbox);have n2_:=Aside0.mk ((by rw[hg];exact (yk_ (by repeat (with_reducible first|exact HB.out|apply yc_|apply ya_|apply yb_))):w.heap.size≤gb525));have n3_:=Aside0.mk ((by rw[hg];exact (yk_ (by repeat (with_reducible first|exact HB.out|apply yc_|apply ya_|apply yb_))):w.heap.size≤gb525));clear HB;have HB:=n0_;have BK525:=n1_;have GW525:=n2_;have GE525:=n3_;clear n0_ n1_ n2_ n3_;clear hb hbox hg)|((with_reducible refine yV_ (N:=3) rfl ?_);refine yfb_ ?hg (N:=3) ?hd (cs:=#[.int .i64 a1_0,.int .i64 a1_1,.string a1_2]) (t:=91) ?hr ?_;(case hd=>rfl);(case hg=>rfl);(case hr=>first|(go_simp;done)|(go_simp;rfl));intro gb526 hg w6 hbox hb;have n0_:=Aside0.mk (yZb_ (g:=gb525) (o:=.cells #[.int .i64 a0_0,.int .i64 a0_1,.string a0_2] 91 (0,0)) (by (with_reducible repeat (first|refine yv_ ?_ _|refine yx_ ?_|refine yu_ ?_ _));exact BK525.out) hb);have n1_:=Aside0.mk (yn_ (by repeat (with_reducible first|exact HB.out|apply yc_|apply ya_|apply yb_|refine yp_ ?_ GE525.out)) hb);have n2_:=Aside0.mk (hbox);have n3_:=Aside0.mk ((by rw[hg];exact (yk_ (by repeat (with_reducible first|exact HB.out|apply yc_|apply ya_|apply yb_|refine yp_ ?_ GE525.out))):w.heap.size≤gb526));have n4_:=Aside0.mk ((by rw[hg];exact (yk_ (by repeat (with_reducible first|exact HB.out|apply yc_|apply ya_|apply yb_|refine yp_ ?_ GE525.out))):w.heap.size≤gb526));have n5_:=Aside0.mk ((by rw[hg];exact Nat.ne_of_lt (blk_lt (g:=gb525) (o:=.cells #[.int .i64 a0_0,.int .i64 a0_1,.string a0_2] 91 (0,0)) (by (with_reducible repeat (first|refine yv_ ?_ _|refine yx_ ?_|refine yu_ ?_ _));exact BK525.out)):gb525≠gb526));have n6_:=Aside0.mk ((by rw[hg];exact Nat.ne_of_gt (blk_lt (g:=gb525) (o:=.cells #[.int .i64 a0_0,.int .i64 a0_1,.string a0_2] 91 (0,0)) (by (with_reducible repeat (first|refine yv_ ?_ _|refine yx_ ?_|refine yu_ ?_ _));exact BK525.out)):gb526≠gb525));clear BK525;clear HB;have BK525:=n0_;have HB:=n1_;have BK526:=n2_;have GW526:=n3_;have GE526:=n4_;have NB525_526:=n5_;have NB526_525:=n6_;clear n0_ n1_ n2_ n3_ n4_ n5_ n6_;clear hb hbox hg;have hnb7:=NB525_526.out;have hnc7:=NB526_525.out;have hcz8_0:w6.cell? ⟨gb525,0,none⟩=some (.int .i64 a0_0):=(ym_ BK525.out 0).trans rfl;have hcz8_1:w6.cell? ⟨gb525,1,none⟩=some (.int .i64 a0_1):=(ym_ BK525.out 1).trans rfl;have hcz8_2:w6.cell? ⟨gb525,2,none⟩=some (.string a0_2):=(ym_ BK525.out 2).trans rfl;have hfz8_0:=yq_ BK525.out 0;have hfz8_1:=yq_ BK525.out 1;have hfz8_2:=yq_ BK525.out 2;have hcz9_0:w6.cell? ⟨gb526,0,none⟩=some (.int .i64 a1_0):=(ym_ BK526.out 0).trans rfl;have hcz9_1:w6.cell? ⟨gb526,1,none⟩=some (.int .i64 a1_1):=(ym_ BK526.out 1).trans rfl;have hcz9_2:w6.cell? ⟨gb526,2,none⟩=some (.string a1_2):=(ym_ BK526.out 2).trans rfl;have hfz9_0:=yq_ BK526.out 0;have hfz9_1:=yq_ BK526.out 1;have hfz9_2:=yq_ BK526.out 2))
  go_ret
  exact⟨by first|rfl|(simp [yA_,yB_] <;> rfl)|(simp [*,yA_,yB_] <;> rfl),by repeat (with_reducible first|exact HB.out|apply yc_|apply ya_|apply yb_|refine yp_ ?_ GE525.out|refine yp_ ?_ GE526.out)⟩
 rw[if_neg c4] at H
 have c4b0:decide (a0_0≤a1_1)=false:=decide_eq_false c4
 clear c4
 obtain rfl:=Option.some.inj H
 go_enter Tryz.func60,Tryz.ntmps60
 go_wp2_with (first|((with_reducible refine yV_ (N:=2) rfl ?_);refine yfb_ ?hg (N:=2) ?hd (cs:=#[.int .i64 a0_0,.int .i64 a0_1,.string a0_2]) (t:=91) ?hr ?_;(case hd=>rfl);(case hg=>rfl);(case hr=>first|(go_simp;done)|(go_simp;rfl));intro gb525 hg w10 hbox hb;have n0_:=Aside0.mk (yn_ (by repeat (with_reducible first|exact HB.out|apply yc_|apply ya_|apply yb_)) hb);have n1_:=Aside0.mk (hbox);have n2_:=Aside0.mk ((by rw[hg];exact (yk_ (by repeat (with_reducible first|exact HB.out|apply yc_|apply ya_|apply yb_))):w.heap.size≤gb525));have n3_:=Aside0.mk ((by rw[hg];exact (yk_ (by repeat (with_reducible first|exact HB.out|apply yc_|apply ya_|apply yb_))):w.heap.size≤gb525));clear HB;have HB:=n0_;have BK525:=n1_;have GW525:=n2_;have GE525:=n3_;clear n0_ n1_ n2_ n3_;clear hb hbox hg)|((with_reducible refine yV_ (N:=3) rfl ?_);refine yfb_ ?hg (N:=3) ?hd (cs:=#[.int .i64 a1_0,.int .i64 a1_1,.string a1_2]) (t:=91) ?hr ?_;(case hd=>rfl);(case hg=>rfl);(case hr=>first|(go_simp;done)|(go_simp;rfl));intro gb526 hg w11 hbox hb;have n0_:=Aside0.mk (yZb_ (g:=gb525) (o:=.cells #[.int .i64 a0_0,.int .i64 a0_1,.string a0_2] 91 (0,0)) (by (with_reducible repeat (first|refine yv_ ?_ _|refine yx_ ?_|refine yu_ ?_ _));exact BK525.out) hb);have n1_:=Aside0.mk (yn_ (by repeat (with_reducible first|exact HB.out|apply yc_|apply ya_|apply yb_|refine yp_ ?_ GE525.out)) hb);have n2_:=Aside0.mk (hbox);have n3_:=Aside0.mk ((by rw[hg];exact (yk_ (by repeat (with_reducible first|exact HB.out|apply yc_|apply ya_|apply yb_|refine yp_ ?_ GE525.out))):w.heap.size≤gb526));have n4_:=Aside0.mk ((by rw[hg];exact (yk_ (by repeat (with_reducible first|exact HB.out|apply yc_|apply ya_|apply yb_|refine yp_ ?_ GE525.out))):w.heap.size≤gb526));have n5_:=Aside0.mk ((by rw[hg];exact Nat.ne_of_lt (blk_lt (g:=gb525) (o:=.cells #[.int .i64 a0_0,.int .i64 a0_1,.string a0_2] 91 (0,0)) (by (with_reducible repeat (first|refine yv_ ?_ _|refine yx_ ?_|refine yu_ ?_ _));exact BK525.out)):gb525≠gb526));have n6_:=Aside0.mk ((by rw[hg];exact Nat.ne_of_gt (blk_lt (g:=gb525) (o:=.cells #[.int .i64 a0_0,.int .i64 a0_1,.string a0_2] 91 (0,0)) (by (with_reducible repeat (first|refine yv_ ?_ _|refine yx_ ?_|refine yu_ ?_ _));exact BK525.out)):gb526≠gb525));clear BK525;clear HB;have BK525:=n0_;have HB:=n1_;have BK526:=n2_;have GW526:=n3_;have GE526:=n4_;have NB525_526:=n5_;have NB526_525:=n6_;clear n0_ n1_ n2_ n3_ n4_ n5_ n6_;clear hb hbox hg;have hnb12:=NB525_526.out;have hnc12:=NB526_525.out;have hcz13_0:w11.cell? ⟨gb525,0,none⟩=some (.int .i64 a0_0):=(ym_ BK525.out 0).trans rfl;have hcz13_1:w11.cell? ⟨gb525,1,none⟩=some (.int .i64 a0_1):=(ym_ BK525.out 1).trans rfl;have hcz13_2:w11.cell? ⟨gb525,2,none⟩=some (.string a0_2):=(ym_ BK525.out 2).trans rfl;have hfz13_0:=yq_ BK525.out 0;have hfz13_1:=yq_ BK525.out 1;have hfz13_2:=yq_ BK525.out 2;have hcz14_0:w11.cell? ⟨gb526,0,none⟩=some (.int .i64 a1_0):=(ym_ BK526.out 0).trans rfl;have hcz14_1:w11.cell? ⟨gb526,1,none⟩=some (.int .i64 a1_1):=(ym_ BK526.out 1).trans rfl;have hcz14_2:w11.cell? ⟨gb526,2,none⟩=some (.string a1_2):=(ym_ BK526.out 2).trans rfl;have hfz14_0:=yq_ BK526.out 0;have hfz14_1:=yq_ BK526.out 1;have hfz14_2:=yq_ BK526.out 2))
 go_ret
 exact⟨by first|rfl|(simp [yA_,yB_] <;> rfl)|(simp [*,yA_,yB_] <;> rfl),by repeat (with_reducible first|exact HB.out|apply yc_|apply ya_|apply yb_|refine yp_ ?_ GE525.out|refine yp_ ?_ GE526.out)⟩

end Go.Proofs.YthimblhfjfngiaaGreat.PText

namespace Go.Proofs.YthimblhfjfngiaaGreat.PText
open Go.RowKit Go.Proofs.YthimblhfjfngiaaGreatW.PrintWords Go.Proofs.YthimblhfjfngiaaGreatW.PrintLast Go.Proofs.YthimblhfjfngiaaGreatW.PrintMore
attribute [local go_sem] yW_ yX_ yab_ ybb_ yO_ yP_ yY_ yZ_   -- for this text's walks alone
set_option linter.unusedVariables false
set_option linter.unusedSimpArgs false

attribute [local go_sem high] eqA91
def y3_.T9:Bool × List (List Nat × List Nat):=(true,[([],[]),([0],[0]),([1],[1]),([1],[1]),([2,3,1],[1,2,3]),([4,1],[1,4]),([1],[1]),([1],[1]),([6,7,1],[1,6,7]),([8,1],[1,8]),([5,9,1],[1,5,9]),([1,10],[1,10]),([11,1,0,1,2,3,4,5,6,7,8,9,10,11],[0,11])])
def y3_.B9:List Nat:=[0,1,3,3,15,31,3,3,195,451,1023,2047,4095]
theorem y3_.tab9:rtab .any (opsOf Tryz.f112 9)=y3_.T9:=by kernel_rfl
theorem y3_.bits9:waitsOk y3_.T9.2 y3_.B9=true:=by kernel_rfl
end Go.Proofs.YthimblhfjfngiaaGreat.PText

namespace Go.Proofs.YthimblhfjfngiaaGreat.PText
open Go.RowKit Go.Proofs.YthimblhfjfngiaaGreatW.PrintWords Go.Proofs.YthimblhfjfngiaaGreatW.PrintLast Go.Proofs.YthimblhfjfngiaaGreatW.PrintMore
attribute [local go_sem] yW_ yX_ yab_ ybb_ yO_ yP_ yY_ yZ_   -- for this text's walks alone
set_option linter.unusedVariables false
set_option linter.unusedSimpArgs false

def ycb_.T11:Bool × List (List Nat × List Nat):=(true,[([],[]),([],[]),([],[]),([2],[2]),([],[]),([],[]),([],[]),([5,6],[5,6]),([7],[7]),([8],[8]),([],[]),([],[]),([10,11],[10,11]),([12],[12]),([13],[13]),([4,9,14],[4,9,14]),([1,3,15],[1,3,15]),([16],[16]),([0,17],[0,17]),([18,18,0,1,2,3,4,5,6,7,8,9,10,11,12,13,14,15,16,17,18],[0,18])])
def ycb_.B11:List Nat:=[0,0,0,4,0,0,0,96,224,480,0,0,3072,7168,15360,32752,65534,131070,262143,524287]
theorem ycb_.tab11:rtab .any (opsOf Tryz.f81 11)=ycb_.T11:=by kernel_rfl
theorem ycb_.bits11:waitsOk ycb_.T11.2 ycb_.B11=true:=by kernel_rfl
end Go.Proofs.YthimblhfjfngiaaGreat.PText

namespace Go.Proofs.YthimblhfjfngiaaGreat.PText
open Go.RowKit Go.Proofs.YthimblhfjfngiaaGreatW.PrintWords Go.Proofs.YthimblhfjfngiaaGreatW.PrintLast Go.Proofs.YthimblhfjfngiaaGreatW.PrintMore
attribute [local go_sem] yW_ yX_ yab_ ybb_ yO_ yP_ yY_ yZ_   -- for this text's walks alone
set_option linter.unusedVariables false
set_option linter.unusedSimpArgs false

def y4_.l0:Nat→List Int→List Int→Int→Option (Bool)
 | 0,_,_,_=>none
 | k+1,x0,x1,x5=>if x5 < (x0.length:Int) then (if 0≤x5 then (if x5 < (x1.length:Int) then (if (rd x0 x5)=(rd x1 x5) then (y4_.l0 k x0 x1 (wrap64 (x5+1))) else (some false)) else (none)) else (none)) else (some true)
def y4_.f (k:Nat) (l0:List Int) (l1:List Int):Option (Bool):=if (l0.length:Int)=(l1.length:Int) then (y4_.l0 k l0 l1 0) else (some false)
set_option maxHeartbeats 8000000 in
set_option maxRecDepth 100000 in
theorem y4_.calls (k:Nat) (A0:Option Addr) (c0:Nat) (l0:List Int) (A1:Option Addr) (c1:Nat) (l1:List Int) (r:Bool) (w:World) (hr0:Kd.C (Kd.int .i64) w A0 l0.length l0) (hc0:l0.length≤c0) (hr1:Kd.C (Kd.int .i64) w A1 l1.length l1) (hc1:l1.length≤c1) (h:y4_.f k l0 l1=some r) :
  Calls Tryz.prog 13 #[.slice A0 l0.length c0,.slice A1 l1.length c1] w fun e w'=>e=.returned (.bool r)∧Drawn0 w w':=by
 have HR0:=Aside0.mk hr0
 have HC0:=Aside0.mk hc0
 clear hr0 hc0
 have HR1:=Aside0.mk hr1
 have HC1:=Aside0.mk hc1
 clear hr1 hc1
 have H:(if (l0.length:Int)=(l1.length:Int) then (y4_.l0 k l0 l1 0) else (some false))=some r:=h
 clear h
 by_cases c3:(l0.length:Int)=(l1.length:Int)
 rotate_left
 ·rw[if_neg c3] at H
  have c3b0:((l0.length:Int) == (l1.length:Int))=false:=beq_eq_false_iff_ne.mpr c3
  have c3b1:((l0.length:Int) != (l1.length:Int))=true:=bne_iff_ne.mpr c3
  have c3b2:(l0.length == l1.length)=false:=by first|simpa using c3|(simp at c3 ⊢;omega)
  obtain rfl:=Option.some.inj H
  go_enter Tryz.func13,Tryz.ntmps13
  go_wp2
  repeat (go_quiet (fail);try go_wp2)
  go_ret
  exact⟨by first|rfl|(simp;done)|(simp [*];done),by repeat (first|exact Drawn0.refl _|apply Drawn0.step)⟩
 rw[if_pos c3] at H
 have c3b0:((l0.length:Int) == (l1.length:Int))=true:=beq_iff_eq.mpr c3
 have c3b1:((l0.length:Int) != (l1.length:Int))=false:=bne_eq_false_iff_eq.mpr c3
 have c3b2:(l0.length == l1.length)=true:=by first|simpa using c3|(simp at c3 ⊢;omega)
 clear c3
 have H':=Aside0.mk H
 clear H
 go_enter Tryz.func13,Tryz.ntmps13
 go_wp2
 repeat (go_quiet (fail);try go_wp2)
 try simp only[Act.put,List.setIfInBounds_toArray,List.set_cons_succ,List.set_cons_zero]
 go_loopg [5] k (fun kq v5 w'=>∃ (x5_1:Int),v5=.int .i64 x5_1∧Aside0 (y4_.l0 kq l0 l1 x5_1=some r)∧Aside0 (kq≤k)∧Drawn0 w w')
 case atStart=>exact⟨(0),(by first|rfl|(simp;done)|(simp [*];done)),H',⟨Nat.le_refl _⟩,by repeat (first|exact Drawn0.refl _|apply Drawn0.step)⟩
 case round =>
  clear H'
  try clear c1
  try clear p2
  try clear c3
  try clear c3b0
  try clear c3b1
  try clear c3b2
  obtain⟨x5_1,rfl,HA,HK1,⟨m1,rfl⟩⟩:=hrel
  cases gk with
  | zero=>exact absurd HA.out (by simp [y4_.l0])
  | succ k1 =>
   have H:=HA.out
   clear HA
   simp only[y4_.l0] at H
   by_cases c4:x5_1 < (l0.length:Int)
   rotate_left
   ·rw[if_neg c4] at H
    have c4b0:decide (x5_1 < (l0.length:Int))=false:=decide_eq_false c4
    clear c4
    obtain rfl:=Option.some.inj H
    go_wp2
    repeat (go_quiet (fail);try go_wp2)
    go_ret
    exact⟨by first|rfl|(simp;done)|(simp [*];done),by repeat (first|exact Drawn0.refl _|apply Drawn0.step)⟩
   rw[if_pos c4] at H
   have c4b0:decide (x5_1 < (l0.length:Int))=true:=decide_eq_true c4
   clear c4
   by_cases c5:0≤x5_1
   rotate_left
   ·rw[if_neg c5] at H
    exact absurd H (by simp)
   rw[if_pos c5] at H
   have c5b0:decide (0≤x5_1)=true:=decide_eq_true c5
   clear c5
   by_cases c6:x5_1 < (l1.length:Int)
   rotate_left
   ·rw[if_neg c6] at H
    exact absurd H (by simp)
   rw[if_pos c6] at H
   have c6b0:decide (x5_1 < (l1.length:Int))=true:=decide_eq_true c6
   clear c6
   by_cases c7:(rd l0 x5_1)=(rd l1 x5_1)
   rotate_left
   ·rw[if_neg c7] at H
    have c7b0:((rd l0 x5_1) == (rd l1 x5_1))=false:=beq_eq_false_iff_ne.mpr c7
    have c7b1:((rd l0 x5_1) != (rd l1 x5_1))=true:=bne_iff_ne.mpr c7
    obtain rfl:=Option.some.inj H
    have p331:0≤(x5_1:Int):=of_decide_eq_true (by assumption)
    have q331:x5_1 < (l0.length:Int):=of_decide_eq_true (by assumption)
    obtain⟨ad331,e331,hx331_0⟩:=Kd.at_int HR0.out x5_1 p331 q331
    cases e331
    replace p331:=eq_true p331
    replace q331:=eq_true q331
    have p332:0≤(x5_1:Int):=of_decide_eq_true (by assumption)
    have q332:x5_1 < (l1.length:Int):=of_decide_eq_true (by assumption)
    obtain⟨ad332,e332,hx332_0⟩:=Kd.at_int HR1.out x5_1 p332 q332
    cases e332
    replace p332:=eq_true p332
    replace q332:=eq_true q332
    go_wp2
    repeat (go_quiet (fail);try go_wp2)
    go_ret
    exact⟨by first|rfl|(simp;done)|(simp [*];done),by repeat (first|exact Drawn0.refl _|apply Drawn0.step)⟩
   rw[if_pos c7] at H
   have c7b0:((rd l0 x5_1) == (rd l1 x5_1))=true:=beq_iff_eq.mpr c7
   have c7b1:((rd l0 x5_1) != (rd l1 x5_1))=false:=bne_eq_false_iff_eq.mpr c7
   clear c7
   have H':=Aside0.mk H
   clear H
   have p331:0≤(x5_1:Int):=of_decide_eq_true (by assumption)
   have q331:x5_1 < (l0.length:Int):=of_decide_eq_true (by assumption)
   obtain⟨ad331,e331,hx331_0⟩:=Kd.at_int HR0.out x5_1 p331 q331
   cases e331
   replace p331:=eq_true p331
   replace q331:=eq_true q331
   have p332:0≤(x5_1:Int):=of_decide_eq_true (by assumption)
   have q332:x5_1 < (l1.length:Int):=of_decide_eq_true (by assumption)
   obtain⟨ad332,e332,hx332_0⟩:=Kd.at_int HR1.out x5_1 p332 q332
   cases e332
   replace p332:=eq_true p332
   replace q332:=eq_true q332
   go_wp2
   repeat (go_quiet (fail);try go_wp2)
   go_roundg k1
   case measure=>have:=HK1.out;omega
   case rel=>exact⟨(wrap64 (x5_1+1)),(by first|rfl|(simp;done)|(simp [*];done)),H',⟨by have:=HK1.out;omega⟩,by repeat (first|exact Drawn0.refl _|apply Drawn0.step)⟩

end Go.Proofs.YthimblhfjfngiaaGreat.PText

namespace Go.Proofs.YthimblhfjfngiaaGreat.PText
open Go.RowKit Go.Proofs.YthimblhfjfngiaaGreatW.PrintWords Go.Proofs.YthimblhfjfngiaaGreatW.PrintLast Go.Proofs.YthimblhfjfngiaaGreatW.PrintMore
attribute [local go_sem] yW_ yX_ yab_ ybb_ yO_ yP_ yY_ yZ_   -- for this text's walks alone
set_option linter.unusedVariables false
set_option linter.unusedSimpArgs false

mutual
def yi_.l0:Nat→List (S91)→List Int→Int→List Int→List ByteArray→Int→Int→Option (List Int)
 | 0,_,_,_,_,_,_,_=>none
 | k+1,x1,x2,x3,x9,x10,x11,x12=>if x12≤(x10.length:Int) then (yi_.l1 k x1 x2 x3 x9 x10 x11 x12 false 0) else (some x9)
def yi_.l1:Nat→List (S91)→List Int→Int→List Int→List ByteArray→Int→Int→Bool→Int→Option (List Int)
 | 0,_,_,_,_,_,_,_,_,_=>none
 | k+1,x1,x2,x3,x9,x10,x11,x12,x13,x14=>if x14 < (x1.length:Int) then (if 0≤x14 then (if ((rd_T91 x1 x14).f0)=x11 then ((yt_.f k ((rd_T91 x1 x14).f2)).bind fun t292=>(yi_.l2 k x1 x2 x3 x9 x10 x11 x12 x13 x14 (t292.length:Int) 0)) else (if x13=true then (yi_.l1 k x1 x2 x3 x9 x10 x11 x12 true (wrap64 (x14+1))) else (if x11 ≥ ((rd_T91 x1 x14).f0) then (yi_.l1 k x1 x2 x3 x9 x10 x11 x12 (decide (x11 < ((rd_T91 x1 x14).f1))) (wrap64 (x14+1))) else (yi_.l1 k x1 x2 x3 x9 x10 x11 x12 false (wrap64 (x14+1)))))) else (none)) else (if x12 < (x10.length:Int) then (if x13=true then (if 0≤x12 then (yi_.l0 k x1 x2 x3 x9 x10 (wrap64 (x11+((rdOf ByteArray.empty x10 x12).size:Int))) (wrap64 (x12+1))) else (none)) else (if 0≤x12 then (if x12 < (x2.length:Int) then (if x9.length < 17592186044416 then (yi_.l0 k x1 x2 x3 (x9++[rd x2 x12]) x10 (wrap64 (x11+((rdOf ByteArray.empty x10 x12).size:Int))) (wrap64 (x12+1))) else (none)) else (none)) else (none))) else (yi_.l0 k x1 x2 x3 x9 x10 x11 (wrap64 (x12+1))))
def yi_.l2:Nat→List (S91)→List Int→Int→List Int→List ByteArray→Int→Int→Bool→Int→Int→Int→Option (List Int)
 | 0,_,_,_,_,_,_,_,_,_,_,_=>none
 | k+1,x1,x2,x3,x9,x10,x11,x12,x13,x14,x15,x16=>if x16 < x15 then (if x9.length < 17592186044416 then (yi_.l2 k x1 x2 x3 (x9++[x3]) x10 x11 x12 x13 x14 x15 (wrap64 (x16+1))) else (none)) else (if x13=true then (yi_.l1 k x1 x2 x3 x9 x10 x11 x12 true (wrap64 (x14+1))) else (if 0≤x14 then (if x14 < (x1.length:Int) then (if x11 ≥ ((rd_T91 x1 x14).f0) then (yi_.l1 k x1 x2 x3 x9 x10 x11 x12 (decide (x11 < ((rd_T91 x1 x14).f1))) (wrap64 (x14+1))) else (yi_.l1 k x1 x2 x3 x9 x10 x11 x12 false (wrap64 (x14+1)))) else (none)) else (none)))
end
def yi_.f (k:Nat) (a0:ByteArray) (l1:List (S91)) (l2:List Int) (a3:Int):Option (List Int):=(yt_.f k a0).bind fun t287=>(yi_.l0 k l1 l2 a3 ([]:List Int) t287 0 0)
set_option maxHeartbeats 8000000 in
set_option maxRecDepth 100000 in
theorem yi_.calls (k:Nat) (a0:ByteArray) (A1:Option Addr) (c1:Nat) (l1:List (S91)) (A2:Option Addr) (c2:Nat) (l2:List Int) (a3:Int) (r:List Int) (w:World) (hr1:Kd.C k91 w A1 l1.length l1) (hc1:l1.length≤c1) (hr2:Kd.C (Kd.int .i64) w A2 l2.length l2) (hc2:l2.length≤c2) (h:yi_.f k a0 l1 l2 a3=some r) :
  Calls Tryz.prog 33 #[.string a0,.slice A1 l1.length c1,.slice A2 l2.length c2,.int .i64 a3] w fun e w'=>∃ v0_:Value,e=.returned (v0_)∧Kd.R (Kd.int .i64) 3 w' w.heap.size (fun _=>True) v0_ r∧Below w.heap.size w w':=by
 have HR1:=Aside0.mk hr1
 have HC1:=Aside0.mk hc1
 clear hr1 hc1
 have HR2:=Aside0.mk hr2
 have HC2:=Aside0.mk hc2
 clear hr2 hc2
 have HB:=Aside0.mk (Below.refl w.heap.size w)
 have H:((yt_.f k a0).bind fun t287=>(yi_.l0 k l1 l2 a3 ([]:List Int) t287 0 0))=some r:=h
 clear h
 replace H:=Option.bind_eq_some_iff.mp H
 obtain⟨t287,A50,H⟩:=H
 replace H:(yi_.l0 k l1 l2 a3 ([]:List Int) t287 0 0)=some r:=H
 have A5:=Aside0.mk A50
 clear A50
 have H':=Aside0.mk H
 clear H
 go_enter Tryz.func33,Tryz.ntmps33
 go_wp2_with (first|((with_reducible refine yy_ (f:=52) rfl ?_);refine goesL_ (some 18) rfl rfl Tryz.func52 (by kernel_rfl) rfl #[.string a0] rfl (by (try simp only[List.map_toArray,List.map_cons,List.map_nil]);first|done|rfl|(simp only[List.length_drop,List.length_take];rfl)) ?_;(with_reducible refine (yt_.calls k a0 t287 _ A5.out).mono ?_);rintro e w6 ⟨v288,rfl,ho0,hb⟩;refine⟨_,rfl,?_⟩;have n0_:=Aside0.mk (Kd.y1_ ho0 (yk_ (by repeat (with_reducible first|exact HB.out|apply yc_|apply ya_|apply yb_))));have n1_:=Aside0.mk (yn_ (by repeat (with_reducible first|exact HB.out|apply yc_|apply ya_|apply yb_)) hb);clear HB;have HO289:=n0_;have HB:=n1_;clear n0_ n1_;(try clear hb);(try clear hb2);(try clear hk);(try clear hi);(try clear ho0)))
 try simp only[Act.put,List.setIfInBounds_toArray,List.set_cons_succ,List.set_cons_zero]
 go_loopg [9,11,12] k (fun kq v9 v11 v12 w'=>∃ (x9_1:List Int) (x11_1:Int) (x12_1:Int),v11=.int .i64 x11_1∧v12=.int .i64 x12_1∧Aside0 (yi_.l0 kq l1 l2 a3 x9_1 t287 x11_1 x12_1=some r)∧Aside0 (kq≤k)∧Aside0 (Kd.R (Kd.int .i64) 3 w' w.heap.size (fun _=>True) v9 x9_1)∧Aside0 (Kd.R Kd.string 9 w' w.heap.size (fun _=>True) v288 t287)∧Aside0 (Below w.heap.size w w'))
 case atStart=>exact⟨(([]:List Int)),(0),(0),(by first|rfl|(simp;done)|(simp [*];done)),(by first|rfl|(simp;done)|(simp [*];done)),H',⟨Nat.le_refl _⟩,⟨by first|exact Kd.R_nil _ _ _ _ _|exact Kd.N_nil _ _ _ _ _|exact Kd.V_nil _ _ _ _ _|exact Kd.Q_nil _ _ _ _ _|exact Kd.S_nil _ _ _ _ _⟩,⟨by (with_reducible repeat (first|apply Kd.yg_|apply Kd.yh_|apply Kd.R_drew));exact HO289.out⟩,⟨by repeat (with_reducible first|exact HB.out|apply yc_|apply ya_|apply yb_)⟩⟩
 case round =>
  clear H'
  try clear c1
  try clear c2
  try clear p2
  try clear c3
  try clear c5
  obtain⟨x9_1,x11_1,x12_1,rfl,rfl,HA,HK1,HO_9,HO_10,HB⟩:=hrel
  cases gk with
  | zero=>exact absurd HA.out (by simp [yi_.l0])
  | succ k1 =>
   have H:=HA.out
   clear HA
   simp only[yi_.l0] at H
   by_cases c7:x12_1≤(t287.length:Int)
   rotate_left
   ·rw[if_neg c7] at H
    have c7b0:decide (x12_1≤(t287.length:Int))=false:=decide_eq_false c7
    clear c7
    obtain rfl:=Option.some.inj H
    obtain⟨Ao31,co31,eo31⟩:=Kd.yw_ HO_10.out
    subst eo31
    go_wp2
    go_ret
    exact⟨_,by first|rfl|(simp [yA_,yB_] <;> rfl)|(simp [*,yA_,yB_] <;> rfl),by (with_reducible repeat (first|apply Kd.yg_|apply Kd.yh_|apply Kd.R_drew));exact HO_9.out,by repeat (with_reducible first|exact HB.out|apply yc_|apply ya_|apply yb_)⟩
   rw[if_pos c7] at H
   have c7b0:decide (x12_1≤(t287.length:Int))=true:=decide_eq_true c7
   clear c7
   have H':=Aside0.mk H
   clear H
   obtain⟨Ao8,co8,eo8⟩:=Kd.yw_ HO_10.out
   subst eo8
   go_wp2
   try simp only[Act.put,List.setIfInBounds_toArray,List.set_cons_succ,List.set_cons_zero]
   go_loopg [9,13,14] k1 (fun kq v9 v13 v14 w'=>∃ (x9_2:List Int) (x13_2:Bool) (x14_2:Int),v13=.bool x13_2∧v14=.int .i64 x14_2∧Aside0 (yi_.l1 kq l1 l2 a3 x9_2 t287 x11_1 x12_1 x13_2 x14_2=some r)∧Aside0 (kq≤k1)∧Aside0 (Kd.R (Kd.int .i64) 3 w' w.heap.size (fun _=>True) v9 x9_2)∧Aside0 (Kd.R Kd.string 9 w' w.heap.size (fun _=>True) (.slice Ao8 t287.length co8) t287)∧Aside0 (Below w.heap.size w w'))
   case atStart=>exact⟨(x9_1),(false),(0),(by first|rfl|(simp;done)|(simp [*];done)),(by first|rfl|(simp;done)|(simp [*];done)),H',⟨Nat.le_refl _⟩,⟨by (with_reducible repeat (first|apply Kd.yg_|apply Kd.yh_|apply Kd.R_drew));exact HO_9.out⟩,⟨by (with_reducible repeat (first|apply Kd.yg_|apply Kd.yh_|apply Kd.R_drew));exact HO_10.out⟩,⟨by repeat (with_reducible first|exact HB.out|apply yc_|apply ya_|apply yb_)⟩⟩
   case round =>
    clear H'
    try clear c1
    try clear c2
    try clear p2
    try clear c3
    try clear c5
    try clear c7
    try clear c7b0
    try clear p2
    obtain⟨x9_2,x13_2,x14_2,rfl,rfl,HA,HK2,HO_9,HO_10,HB⟩:=hrel
    cases gk with
    | zero=>exact absurd HA.out (by simp [yi_.l1])
    | succ k2 =>
     have H:=HA.out
     clear HA
     simp only[yi_.l1] at H
     by_cases c9:x14_2 < (l1.length:Int)
     rotate_left
     ·rw[if_neg c9] at H
      have c9b0:decide (x14_2 < (l1.length:Int))=false:=decide_eq_false c9
      clear c9
      by_cases c24:x12_1 < (t287.length:Int)
      rotate_left
      ·rw[if_neg c24] at H
       have c24b0:decide (x12_1 < (t287.length:Int))=false:=decide_eq_false c24
       clear c24
       have H':=Aside0.mk H
       clear H
       go_wp2
       go_roundg k2
       case measure=>have:=HK1.out;have:=HK2.out;omega
       case rel=>exact⟨(x9_2),(x11_1),(wrap64 (x12_1+1)),(by first|rfl|(simp;done)|(simp [*];done)),(by first|rfl|(simp;done)|(simp [*];done)),H',⟨by have:=HK1.out;have:=HK2.out;omega⟩,⟨by (with_reducible repeat (first|apply Kd.yg_|apply Kd.yh_|apply Kd.R_drew));exact HO_9.out⟩,⟨by (with_reducible repeat (first|apply Kd.yg_|apply Kd.yh_|apply Kd.R_drew));exact HO_10.out⟩,⟨by repeat (with_reducible first|exact HB.out|apply yc_|apply ya_|apply yb_)⟩⟩
      rw[if_pos c24] at H
      have c24b0:decide (x12_1 < (t287.length:Int))=true:=decide_eq_true c24
      clear c24
      by_cases c25:x13_2=true
      ·subst c25
       have H1:(if 0≤x12_1 then (yi_.l0 k2 l1 l2 a3 x9_2 t287 (wrap64 (x11_1+((rdOf ByteArray.empty t287 x12_1).size:Int))) (wrap64 (x12_1+1))) else (none))=some r:=by rw[if_pos rfl] at H;exact H
       clear H
       have H:=H1
       clear H1
       by_cases c26:0≤x12_1
       rotate_left
       ·rw[if_neg c26] at H
        exact absurd H (by simp)
       rw[if_pos c26] at H
       have c26b0:decide (0≤x12_1)=true:=decide_eq_true c26
       clear c26
       have H':=Aside0.mk H
       clear H
       have p302:0≤(x12_1:Int):=of_decide_eq_true (by assumption)
       have q302:x12_1 < (t287.length:Int):=of_decide_eq_true (by assumption)
       obtain⟨ad302,e302,hx302_0⟩:=Kd.yH_ (Kd.yj_ HO_10.out).2.2 x12_1 p302 q302
       cases e302
       replace p302:=eq_true p302
       replace q302:=eq_true q302
       go_wp2
       go_roundg k2
       case measure=>have:=HK1.out;have:=HK2.out;omega
       case rel=>exact⟨(x9_2),(wrap64 (x11_1+((rdOf ByteArray.empty t287 x12_1).size:Int))),(wrap64 (x12_1+1)),(by first|rfl|(simp;done)|(simp [*];done)),(by first|rfl|(simp;done)|(simp [*];done)),H',⟨by have:=HK1.out;have:=HK2.out;omega⟩,⟨by (with_reducible repeat (first|apply Kd.yg_|apply Kd.yh_|apply Kd.R_drew));exact HO_9.out⟩,⟨by (with_reducible repeat (first|apply Kd.yg_|apply Kd.yh_|apply Kd.R_drew));exact HO_10.out⟩,⟨by repeat (with_reducible first|exact HB.out|apply yc_|apply ya_|apply yb_)⟩⟩
      replace c25:=Bool.eq_false_iff.mpr c25
      subst c25
      have H1:(if 0≤x12_1 then (if x12_1 < (l2.length:Int) then (if x9_2.length < 17592186044416 then (yi_.l0 k2 l1 l2 a3 (x9_2++[rd l2 x12_1]) t287 (wrap64 (x11_1+((rdOf ByteArray.empty t287 x12_1).size:Int))) (wrap64 (x12_1+1))) else (none)) else (none)) else (none))=some r:=by rw[if_neg (show ¬ (false=true) by decide)] at H;exact H
      clear H
      have H:=H1
      clear H1
      by_cases c27:0≤x12_1
      rotate_left
      ·rw[if_neg c27] at H
       exact absurd H (by simp)
      rw[if_pos c27] at H
      have c27b0:decide (0≤x12_1)=true:=decide_eq_true c27
      clear c27
      by_cases c28:x12_1 < (l2.length:Int)
      rotate_left
      ·rw[if_neg c28] at H
       exact absurd H (by simp)
      rw[if_pos c28] at H
      have c28b0:decide (x12_1 < (l2.length:Int))=true:=decide_eq_true c28
      clear c28
      by_cases c29:x9_2.length < 17592186044416
      rotate_left
      ·rw[if_neg c29] at H
       exact absurd H (by simp)
      rw[if_pos c29] at H
      have LMc29:=Aside0.mk c29
      clear c29
      obtain⟨y304,hy304⟩:∃ y_:List Int,y_=(x9_2++[rd l2 x12_1]):=⟨_,rfl⟩
      replace H:(yi_.l0 k2 l1 l2 a3 y304 t287 (wrap64 (x11_1+((rdOf ByteArray.empty t287 x12_1).size:Int))) (wrap64 (x12_1+1)))=some r:=by first|(rw[hy304];with_reducible exact H)|(have H2_:=(Option.bind_some _ _).symm.trans H;rw[hy304];with_reducible exact H2_)|(have H2_:=(Option.bind_some _ _).symm.trans H;with_reducible exact H2_)|with_reducible exact H|(rw[hy304];exact H)|exact H
      have Ny304:=Aside0.mk hy304
      clear hy304
      have H':=Aside0.mk H
      clear H
      have p303:0≤(x12_1:Int):=of_decide_eq_true (by assumption)
      have q303:x12_1 < (l2.length:Int):=of_decide_eq_true (by assumption)
      obtain⟨ad303,e303,hx303_0⟩:=Kd.at_int HR2.out x12_1 p303 q303
      cases e303
      replace hx303_0:=(HB.out.cell (World.block_lt_of_cell? w _ hx303_0)).trans hx303_0
      replace p303:=eq_true p303
      replace q303:=eq_true q303
      go_wp2_with (first|((with_reducible refine yC_ (b:=.append) (xs:=#[.tmp 79,.tmp 84]) rfl ?_);at_builtin;refine Kd.yM_ (Kd.int .i64) (w0:=w) w.heap.size rfl (.tmp 79) (.tmp 84) 28 3 (.int .i64 0) 8 rfl Tryz.underlying28 info3 rfl (by decide) (by omega) u9 x9_2 (rd l2 x12_1) [.int .i64 (rd l2 x12_1)] (fun _=>True) (fun _=>False) rfl rfl ?aP (fun _ hk=>hk.elim) ?aF ?aO ?aB ?aS ?aL ?_;(case aP=>exact rfl);(case aB=>exact (by repeat (with_reducible first|exact HB.out|apply yc_|apply ya_|apply yb_)));(case aF=>exact (fun _ _=>trivial));(case aO=>exact (by (with_reducible repeat (first|apply Kd.yg_|apply Kd.yh_|apply Kd.R_drew));exact HO_9.out));(case aS=>exact (yk_ (by repeat (with_reducible first|exact HB.out|apply yc_|apply ya_|apply yb_))));(case aL=>have:=LMc29.out;omega);intro v305 w30 ho hb hg hat;rw[← Ny304.out] at ho;have n0_:=Aside0.mk (Kd.yeb_ (by (with_reducible repeat (first|apply Kd.yg_|apply Kd.yh_|apply Kd.R_drew));exact HO_10.out) (Kd.yR_ (by (with_reducible repeat (first|apply Kd.yg_|apply Kd.yh_|apply Kd.R_drew));exact HO_9.out)) (by decide) hg);have n1_:=Aside0.mk (hb);have n2_:=Aside0.mk (ho);clear HO_10;clear HB;clear HO_9;have HO_10:=n0_;have HB:=n1_;have HO306:=n2_;clear n0_ n1_ n2_;clear ho hb hg hat;have p307:0≤(x12_1:Int):=of_decide_eq_true (by assumption);have q307:x12_1 < (t287.length:Int):=of_decide_eq_true (by assumption);obtain⟨ad307,e307,hx307_0⟩:=Kd.yH_ (Kd.yj_ HO_10.out).2.2 x12_1 p307 q307;cases e307;replace p307:=eq_true p307;replace q307:=eq_true q307))
      go_roundg k2
      case measure=>have:=HK1.out;have:=HK2.out;omega
      case rel=>exact⟨(y304),(wrap64 (x11_1+((rdOf ByteArray.empty t287 x12_1).size:Int))),(wrap64 (x12_1+1)),(by first|rfl|(simp;done)|(simp [*];done)),(by first|rfl|(simp;done)|(simp [*];done)),H',⟨by have:=HK1.out;have:=HK2.out;omega⟩,⟨by (with_reducible repeat (first|apply Kd.yg_|apply Kd.yh_|apply Kd.R_drew));exact HO306.out⟩,⟨by (with_reducible repeat (first|apply Kd.yg_|apply Kd.yh_|apply Kd.R_drew));exact HO_10.out⟩,⟨by repeat (with_reducible first|exact HB.out|apply yc_|apply ya_|apply yb_)⟩⟩
     rw[if_pos c9] at H
     have c9b0:decide (x14_2 < (l1.length:Int))=true:=decide_eq_true c9
     clear c9
     by_cases c10:0≤x14_2
     rotate_left
     ·rw[if_neg c10] at H
      exact absurd H (by simp)
     rw[if_pos c10] at H
     have c10b0:decide (0≤x14_2)=true:=decide_eq_true c10
     clear c10
     by_cases c11:((rd_T91 l1 x14_2).f0)=x11_1
     rotate_left
     ·rw[if_neg c11] at H
      have c11b0:(((rd_T91 l1 x14_2).f0) == x11_1)=false:=beq_eq_false_iff_ne.mpr c11
      have c11b1:(((rd_T91 l1 x14_2).f0) != x11_1)=true:=bne_iff_ne.mpr c11
      by_cases c22:x13_2=true
      ·subst c22
       have H1:(yi_.l1 k2 l1 l2 a3 x9_2 t287 x11_1 x12_1 true (wrap64 (x14_2+1)))=some r:=by rw[if_pos rfl] at H;exact H
       clear H
       have H:=H1
       clear H1
       have H':=Aside0.mk H
       clear H
       have p290:0≤(x14_2:Int):=of_decide_eq_true (by assumption)
       have q290:x14_2 < (l1.length:Int):=of_decide_eq_true (by assumption)
       obtain⟨ad290,e290,hx290_0,hx290_1,hx290_2⟩:=at_T91 HR1.out x14_2 p290 q290
       cases e290
       replace hx290_0:=(HB.out.cell (World.block_lt_of_cell? w _ hx290_0)).trans hx290_0
       replace hx290_1:=(HB.out.cell (World.block_lt_of_cell? w _ hx290_1)).trans hx290_1
       replace hx290_2:=(HB.out.cell (World.block_lt_of_cell? w _ hx290_2)).trans hx290_2
       replace p290:=eq_true p290
       replace q290:=eq_true q290
       go_wp2
       go_roundg k2
       case measure=>have:=HK1.out;have:=HK2.out;omega
       case rel=>exact⟨(x9_2),(true),(wrap64 (x14_2+1)),(by first|rfl|(simp;done)|(simp [*];done)),(by first|rfl|(simp;done)|(simp [*];done)),H',⟨by have:=HK1.out;have:=HK2.out;omega⟩,⟨by (with_reducible repeat (first|apply Kd.yg_|apply Kd.yh_|apply Kd.R_drew));exact HO_9.out⟩,⟨by (with_reducible repeat (first|apply Kd.yg_|apply Kd.yh_|apply Kd.R_drew));exact HO_10.out⟩,⟨by repeat (with_reducible first|exact HB.out|apply yc_|apply ya_|apply yb_)⟩⟩
      replace c22:=Bool.eq_false_iff.mpr c22
      subst c22
      have H1:(if x11_1 ≥ ((rd_T91 l1 x14_2).f0) then (yi_.l1 k2 l1 l2 a3 x9_2 t287 x11_1 x12_1 (decide (x11_1 < ((rd_T91 l1 x14_2).f1))) (wrap64 (x14_2+1))) else (yi_.l1 k2 l1 l2 a3 x9_2 t287 x11_1 x12_1 false (wrap64 (x14_2+1))))=some r:=by rw[if_neg (show ¬ (false=true) by decide)] at H;exact H
      clear H
      have H:=H1
      clear H1
      by_cases c23:x11_1 ≥ ((rd_T91 l1 x14_2).f0)
      rotate_left
      ·rw[if_neg c23] at H
       have c23b0:decide (((rd_T91 l1 x14_2).f0)≤x11_1)=false:=decide_eq_false c23
       clear c23
       have H':=Aside0.mk H
       clear H
       have p290:0≤(x14_2:Int):=of_decide_eq_true (by assumption)
       have q290:x14_2 < (l1.length:Int):=of_decide_eq_true (by assumption)
       obtain⟨ad290,e290,hx290_0,hx290_1,hx290_2⟩:=at_T91 HR1.out x14_2 p290 q290
       cases e290
       replace hx290_0:=(HB.out.cell (World.block_lt_of_cell? w _ hx290_0)).trans hx290_0
       replace hx290_1:=(HB.out.cell (World.block_lt_of_cell? w _ hx290_1)).trans hx290_1
       replace hx290_2:=(HB.out.cell (World.block_lt_of_cell? w _ hx290_2)).trans hx290_2
       replace p290:=eq_true p290
       replace q290:=eq_true q290
       have p300:0≤(x14_2:Int):=of_decide_eq_true (by assumption)
       have q300:x14_2 < (l1.length:Int):=of_decide_eq_true (by assumption)
       obtain⟨ad300,e300,hx300_0,hx300_1,hx300_2⟩:=at_T91 HR1.out x14_2 p300 q300
       obtain rfl:ad290=ad300:=(by injection e300)
       replace hx300_0:=(HB.out.cell (World.block_lt_of_cell? w _ hx300_0)).trans hx300_0
       replace hx300_1:=(HB.out.cell (World.block_lt_of_cell? w _ hx300_1)).trans hx300_1
       replace hx300_2:=(HB.out.cell (World.block_lt_of_cell? w _ hx300_2)).trans hx300_2
       replace p300:=eq_true p300
       replace q300:=eq_true q300
       go_wp2
       go_roundg k2
       case measure=>have:=HK1.out;have:=HK2.out;omega
       case rel=>exact⟨(x9_2),(false),(wrap64 (x14_2+1)),(by first|rfl|(simp;done)|(simp [*];done)),(by first|rfl|(simp;done)|(simp [*];done)),H',⟨by have:=HK1.out;have:=HK2.out;omega⟩,⟨by (with_reducible repeat (first|apply Kd.yg_|apply Kd.yh_|apply Kd.R_drew));exact HO_9.out⟩,⟨by (with_reducible repeat (first|apply Kd.yg_|apply Kd.yh_|apply Kd.R_drew));exact HO_10.out⟩,⟨by repeat (with_reducible first|exact HB.out|apply yc_|apply ya_|apply yb_)⟩⟩
      rw[if_pos c23] at H
      have c23b0:decide (((rd_T91 l1 x14_2).f0)≤x11_1)=true:=decide_eq_true c23
      clear c23
      have H':=Aside0.mk H
      clear H
      have p290:0≤(x14_2:Int):=of_decide_eq_true (by assumption)
      have q290:x14_2 < (l1.length:Int):=of_decide_eq_true (by assumption)
      obtain⟨ad290,e290,hx290_0,hx290_1,hx290_2⟩:=at_T91 HR1.out x14_2 p290 q290
      cases e290
      replace hx290_0:=(HB.out.cell (World.block_lt_of_cell? w _ hx290_0)).trans hx290_0
      replace hx290_1:=(HB.out.cell (World.block_lt_of_cell? w _ hx290_1)).trans hx290_1
      replace hx290_2:=(HB.out.cell (World.block_lt_of_cell? w _ hx290_2)).trans hx290_2
      replace p290:=eq_true p290
      replace q290:=eq_true q290
      have p300:0≤(x14_2:Int):=of_decide_eq_true (by assumption)
      have q300:x14_2 < (l1.length:Int):=of_decide_eq_true (by assumption)
      obtain⟨ad300,e300,hx300_0,hx300_1,hx300_2⟩:=at_T91 HR1.out x14_2 p300 q300
      obtain rfl:ad290=ad300:=(by injection e300)
      replace hx300_0:=(HB.out.cell (World.block_lt_of_cell? w _ hx300_0)).trans hx300_0
      replace hx300_1:=(HB.out.cell (World.block_lt_of_cell? w _ hx300_1)).trans hx300_1
      replace hx300_2:=(HB.out.cell (World.block_lt_of_cell? w _ hx300_2)).trans hx300_2
      replace p300:=eq_true p300
      replace q300:=eq_true q300
      have p301:0≤(x14_2:Int):=of_decide_eq_true (by assumption)
      have q301:x14_2 < (l1.length:Int):=of_decide_eq_true (by assumption)
      obtain⟨ad301,e301,hx301_0,hx301_1,hx301_2⟩:=at_T91 HR1.out x14_2 p301 q301
      obtain rfl:ad290=ad301:=(by injection e301)
      replace hx301_0:=(HB.out.cell (World.block_lt_of_cell? w _ hx301_0)).trans hx301_0
      replace hx301_1:=(HB.out.cell (World.block_lt_of_cell? w _ hx301_1)).trans hx301_1
      replace hx301_2:=(HB.out.cell (World.block_lt_of_cell? w _ hx301_2)).trans hx301_2
      replace p301:=eq_true p301
      replace q301:=eq_true q301
      go_wp2
      go_roundg k2
      case measure=>have:=HK1.out;have:=HK2.out;omega
      case rel=>exact⟨(x9_2),(decide (x11_1 < ((rd_T91 l1 x14_2).f1))),(wrap64 (x14_2+1)),(by first|rfl|(simp;done)|(simp [*];done)),(by first|rfl|(simp;done)|(simp [*];done)),H',⟨by have:=HK1.out;have:=HK2.out;omega⟩,⟨by (with_reducible repeat (first|apply Kd.yg_|apply Kd.yh_|apply Kd.R_drew));exact HO_9.out⟩,⟨by (with_reducible repeat (first|apply Kd.yg_|apply Kd.yh_|apply Kd.R_drew));exact HO_10.out⟩,⟨by repeat (with_reducible first|exact HB.out|apply yc_|apply ya_|apply yb_)⟩⟩
     rw[if_pos c11] at H
     have c11b0:(((rd_T91 l1 x14_2).f0) == x11_1)=true:=beq_iff_eq.mpr c11
     have c11b1:(((rd_T91 l1 x14_2).f0) != x11_1)=false:=bne_eq_false_iff_eq.mpr c11
     clear c11
     replace H:=Option.bind_eq_some_iff.mp H
     obtain⟨t292,A120,H⟩:=H
     replace H:(yi_.l2 k2 l1 l2 a3 x9_2 t287 x11_1 x12_1 x13_2 x14_2 (t292.length:Int) 0)=some r:=H
     have A12:=Aside0.mk A120
     clear A120
     have H':=Aside0.mk H
     clear H
     have p290:0≤(x14_2:Int):=of_decide_eq_true (by assumption)
     have q290:x14_2 < (l1.length:Int):=of_decide_eq_true (by assumption)
     obtain⟨ad290,e290,hx290_0,hx290_1,hx290_2⟩:=at_T91 HR1.out x14_2 p290 q290
     cases e290
     replace hx290_0:=(HB.out.cell (World.block_lt_of_cell? w _ hx290_0)).trans hx290_0
     replace hx290_1:=(HB.out.cell (World.block_lt_of_cell? w _ hx290_1)).trans hx290_1
     replace hx290_2:=(HB.out.cell (World.block_lt_of_cell? w _ hx290_2)).trans hx290_2
     replace p290:=eq_true p290
     replace q290:=eq_true q290
     have p291:0≤(x14_2:Int):=of_decide_eq_true (by assumption)
     have q291:x14_2 < (l1.length:Int):=of_decide_eq_true (by assumption)
     obtain⟨ad291,e291,hx291_0,hx291_1,hx291_2⟩:=at_T91 HR1.out x14_2 p291 q291
     obtain rfl:ad290=ad291:=(by injection e291)
     replace hx291_0:=(HB.out.cell (World.block_lt_of_cell? w _ hx291_0)).trans hx291_0
     replace hx291_1:=(HB.out.cell (World.block_lt_of_cell? w _ hx291_1)).trans hx291_1
     replace hx291_2:=(HB.out.cell (World.block_lt_of_cell? w _ hx291_2)).trans hx291_2
     replace p291:=eq_true p291
     replace q291:=eq_true q291
     go_wp2_with (first|((with_reducible refine yy_ (f:=52) rfl ?_);refine goesL_ (some 43) rfl rfl Tryz.func52 (by kernel_rfl) rfl #[.string ((rd_T91 l1 x14_2).f2)] rfl (by (try simp only[List.map_toArray,List.map_cons,List.map_nil]);first|done|rfl|(simp only[List.length_drop,List.length_take];rfl)) ?_;(with_reducible refine (yt_.calls k2 ((rd_T91 l1 x14_2).f2) t292 _ A12.out).mono ?_);rintro e w13 ⟨v293,rfl,ho0,hb⟩;refine⟨_,rfl,?_⟩;have n0_:=Aside0.mk (Kd.yT_ (by (with_reducible repeat (first|apply Kd.yg_|apply Kd.yh_|apply Kd.R_drew));exact HO_9.out) hb);have n1_:=Aside0.mk (Kd.R_elder' (by (with_reducible repeat (first|apply Kd.yg_|apply Kd.yh_|apply Kd.R_drew));exact HO_10.out) (Kd.R_base ho0) hb);have n2_:=Aside0.mk (Kd.y1_ (Kd.R_new' ho0 (Kd.R_lt (by (with_reducible repeat (first|apply Kd.yg_|apply Kd.yh_|apply Kd.R_drew));exact HO_10.out))) (yk_ (by repeat (with_reducible first|exact HB.out|apply yc_|apply ya_|apply yb_))));have n3_:=Aside0.mk (yn_ (by repeat (with_reducible first|exact HB.out|apply yc_|apply ya_|apply yb_)) hb);clear HO_9;clear HO_10;clear HB;have HO_9:=n0_;have HO_10:=n1_;have HO294:=n2_;have HB:=n3_;clear n0_ n1_ n2_ n3_;(try clear hb);(try clear hb2);(try clear hk);(try clear hi);(try clear ho0);obtain⟨Ao14,co14,eo14⟩:=Kd.yw_ HO294.out;subst eo14))
     try simp only[Act.put,List.setIfInBounds_toArray,List.set_cons_succ,List.set_cons_zero]
     go_loopg [9,16] k2 (fun kq v9 v16 w'=>∃ (x9_3:List Int) (x16_3:Int),v16=.int .i64 x16_3∧Aside0 (yi_.l2 kq l1 l2 a3 x9_3 t287 x11_1 x12_1 x13_2 x14_2 (t292.length:Int) x16_3=some r)∧Aside0 (kq≤k2)∧Aside0 (Kd.R (Kd.int .i64) 3 w' w.heap.size (fun _=>True) v9 x9_3)∧Aside0 (Kd.R Kd.string 9 w' w.heap.size (fun _=>True) (.slice Ao8 t287.length co8) t287)∧Aside0 (Below w.heap.size w w'))
     case atStart=>exact⟨(x9_2),(0),(by first|rfl|(simp;done)|(simp [*];done)),H',⟨Nat.le_refl _⟩,⟨by (with_reducible repeat (first|apply Kd.yg_|apply Kd.yh_|apply Kd.R_drew));exact HO_9.out⟩,⟨by (with_reducible repeat (first|apply Kd.yg_|apply Kd.yh_|apply Kd.R_drew));exact Kd.R_mono HO_10.out (fun _ hk=>trivial)⟩,⟨by repeat (with_reducible first|exact HB.out|apply yc_|apply ya_|apply yb_)⟩⟩
     case round =>
      clear H'
      try clear c1
      try clear c2
      try clear p2
      try clear q2
      try clear hx2
      try clear c3
      try clear c5
      try clear c7
      try clear c7b0
      try clear c9
      try clear c9b0
      try clear c10
      try clear c10b0
      try clear c11
      try clear c11b0
      try clear c11b1
      try clear hx290_0
      try clear hx290_1
      try clear hx290_2
      try clear hx291_0
      try clear hx291_1
      try clear hx291_2
      try clear p2
      try clear p290
      try clear p291
      try clear q290
      try clear q291
      obtain⟨x9_3,x16_3,rfl,HA,HK3,HO_9,HO_10,HB⟩:=hrel
      cases gk with
      | zero=>exact absurd HA.out (by simp [yi_.l2])
      | succ k3 =>
       have H:=HA.out
       clear HA
       simp only[yi_.l2] at H
       by_cases c15:x16_3 < (t292.length:Int)
       ·rw[if_pos c15] at H
        have c15b0:decide (x16_3 < (t292.length:Int))=true:=decide_eq_true c15
        clear c15
        by_cases c16:x9_3.length < 17592186044416
        rotate_left
        ·rw[if_neg c16] at H
         exact absurd H (by simp)
        rw[if_pos c16] at H
        have LMc16:=Aside0.mk c16
        clear c16
        obtain⟨y295,hy295⟩:∃ y_:List Int,y_=(x9_3++[a3]):=⟨_,rfl⟩
        replace H:(yi_.l2 k3 l1 l2 a3 y295 t287 x11_1 x12_1 x13_2 x14_2 (t292.length:Int) (wrap64 (x16_3+1)))=some r:=by first|(rw[hy295];with_reducible exact H)|(have H2_:=(Option.bind_some _ _).symm.trans H;rw[hy295];with_reducible exact H2_)|(have H2_:=(Option.bind_some _ _).symm.trans H;with_reducible exact H2_)|with_reducible exact H|(rw[hy295];exact H)|exact H
        have Ny295:=Aside0.mk hy295
        clear hy295
        have H':=Aside0.mk H
        clear H
        go_wp2_with (first|((with_reducible refine yC_ (b:=.append) (xs:=#[.tmp 50,.tmp 52]) rfl ?_);at_builtin;refine Kd.yM_ (Kd.int .i64) (w0:=w) w.heap.size rfl (.tmp 50) (.tmp 52) 28 3 (.int .i64 0) 8 rfl Tryz.underlying28 info3 rfl (by decide) (by omega) u9 x9_3 a3 [.int .i64 a3] (fun _=>True) (fun _=>False) rfl rfl ?aP (fun _ hk=>hk.elim) ?aF ?aO ?aB ?aS ?aL ?_;(case aP=>exact rfl);(case aB=>exact (by repeat (with_reducible first|exact HB.out|apply yc_|apply ya_|apply yb_)));(case aF=>exact (fun _ _=>trivial));(case aO=>exact (by (with_reducible repeat (first|apply Kd.yg_|apply Kd.yh_|apply Kd.R_drew));exact HO_9.out));(case aS=>exact (yk_ (by repeat (with_reducible first|exact HB.out|apply yc_|apply ya_|apply yb_))));(case aL=>have:=LMc16.out;omega);intro v296 w17 ho hb hg hat;rw[← Ny295.out] at ho;have n0_:=Aside0.mk (Kd.yeb_ (by (with_reducible repeat (first|apply Kd.yg_|apply Kd.yh_|apply Kd.R_drew));exact HO_10.out) (Kd.yR_ (by (with_reducible repeat (first|apply Kd.yg_|apply Kd.yh_|apply Kd.R_drew));exact HO_9.out)) (by decide) hg);have n1_:=Aside0.mk (hb);have n2_:=Aside0.mk (ho);clear HO_10;clear HB;clear HO_9;have HO_10:=n0_;have HB:=n1_;have HO297:=n2_;clear n0_ n1_ n2_;clear ho hb hg hat))
        go_roundg k3
        case measure=>have:=HK1.out;have:=HK2.out;have:=HK3.out;omega
        case rel=>exact⟨(y295),(wrap64 (x16_3+1)),(by first|rfl|(simp;done)|(simp [*];done)),H',⟨by have:=HK1.out;have:=HK2.out;have:=HK3.out;omega⟩,⟨by (with_reducible repeat (first|apply Kd.yg_|apply Kd.yh_|apply Kd.R_drew));exact HO297.out⟩,⟨by (with_reducible repeat (first|apply Kd.yg_|apply Kd.yh_|apply Kd.R_drew));exact HO_10.out⟩,⟨by repeat (with_reducible first|exact HB.out|apply yc_|apply ya_|apply yb_)⟩⟩
       rw[if_neg c15] at H
       have c15b0:decide (x16_3 < (t292.length:Int))=false:=decide_eq_false c15
       clear c15
       by_cases c18:x13_2=true
       ·subst c18
        have H1:(yi_.l1 k3 l1 l2 a3 x9_3 t287 x11_1 x12_1 true (wrap64 (x14_2+1)))=some r:=by rw[if_pos rfl] at H;exact H
        clear H
        have H:=H1
        clear H1
        have H':=Aside0.mk H
        clear H
        go_wp2
        go_roundg k3
        case measure=>have:=HK1.out;have:=HK2.out;have:=HK3.out;omega
        case rel=>exact⟨(x9_3),(true),(wrap64 (x14_2+1)),(by first|rfl|(simp;done)|(simp [*];done)),(by first|rfl|(simp;done)|(simp [*];done)),H',⟨by have:=HK1.out;have:=HK2.out;have:=HK3.out;omega⟩,⟨by (with_reducible repeat (first|apply Kd.yg_|apply Kd.yh_|apply Kd.R_drew));exact HO_9.out⟩,⟨by (with_reducible repeat (first|apply Kd.yg_|apply Kd.yh_|apply Kd.R_drew));exact HO_10.out⟩,⟨by repeat (with_reducible first|exact HB.out|apply yc_|apply ya_|apply yb_)⟩⟩
       replace c18:=Bool.eq_false_iff.mpr c18
       subst c18
       have H1:(if 0≤x14_2 then (if x14_2 < (l1.length:Int) then (if x11_1 ≥ ((rd_T91 l1 x14_2).f0) then (yi_.l1 k3 l1 l2 a3 x9_3 t287 x11_1 x12_1 (decide (x11_1 < ((rd_T91 l1 x14_2).f1))) (wrap64 (x14_2+1))) else (yi_.l1 k3 l1 l2 a3 x9_3 t287 x11_1 x12_1 false (wrap64 (x14_2+1)))) else (none)) else (none))=some r:=by rw[if_neg (show ¬ (false=true) by decide)] at H;exact H
       clear H
       have H:=H1
       clear H1
       by_cases c19:0≤x14_2
       rotate_left
       ·rw[if_neg c19] at H
        exact absurd H (by simp)
       rw[if_pos c19] at H
       have c19b0:decide (0≤x14_2)=true:=decide_eq_true c19
       clear c19
       by_cases c20:x14_2 < (l1.length:Int)
       rotate_left
       ·rw[if_neg c20] at H
        exact absurd H (by simp)
       rw[if_pos c20] at H
       have c20b0:decide (x14_2 < (l1.length:Int))=true:=decide_eq_true c20
       clear c20
       by_cases c21:x11_1 ≥ ((rd_T91 l1 x14_2).f0)
       rotate_left
       ·rw[if_neg c21] at H
        have c21b0:decide (((rd_T91 l1 x14_2).f0)≤x11_1)=false:=decide_eq_false c21
        clear c21
        have H':=Aside0.mk H
        clear H
        have p298:0≤(x14_2:Int):=of_decide_eq_true (by assumption)
        have q298:x14_2 < (l1.length:Int):=of_decide_eq_true (by assumption)
        obtain⟨ad298,e298,hx298_0,hx298_1,hx298_2⟩:=at_T91 HR1.out x14_2 p298 q298
        obtain rfl:ad290=ad298:=(by injection e298)
        replace hx298_0:=(HB.out.cell (World.block_lt_of_cell? w _ hx298_0)).trans hx298_0
        replace hx298_1:=(HB.out.cell (World.block_lt_of_cell? w _ hx298_1)).trans hx298_1
        replace hx298_2:=(HB.out.cell (World.block_lt_of_cell? w _ hx298_2)).trans hx298_2
        replace p298:=eq_true p298
        replace q298:=eq_true q298
        go_wp2
        go_roundg k3
        case measure=>have:=HK1.out;have:=HK2.out;have:=HK3.out;omega
        case rel=>exact⟨(x9_3),(false),(wrap64 (x14_2+1)),(by first|rfl|(simp;done)|(simp [*];done)),(by first|rfl|(simp;done)|(simp [*];done)),H',⟨by have:=HK1.out;have:=HK2.out;have:=HK3.out;omega⟩,⟨by (with_reducible repeat (first|apply Kd.yg_|apply Kd.yh_|apply Kd.R_drew));exact HO_9.out⟩,⟨by (with_reducible repeat (first|apply Kd.yg_|apply Kd.yh_|apply Kd.R_drew));exact HO_10.out⟩,⟨by repeat (with_reducible first|exact HB.out|apply yc_|apply ya_|apply yb_)⟩⟩
       rw[if_pos c21] at H
       have c21b0:decide (((rd_T91 l1 x14_2).f0)≤x11_1)=true:=decide_eq_true c21
       clear c21
       have H':=Aside0.mk H
       clear H
       have p298:0≤(x14_2:Int):=of_decide_eq_true (by assumption)
       have q298:x14_2 < (l1.length:Int):=of_decide_eq_true (by assumption)
       obtain⟨ad298,e298,hx298_0,hx298_1,hx298_2⟩:=at_T91 HR1.out x14_2 p298 q298
       obtain rfl:ad290=ad298:=(by injection e298)
       replace hx298_0:=(HB.out.cell (World.block_lt_of_cell? w _ hx298_0)).trans hx298_0
       replace hx298_1:=(HB.out.cell (World.block_lt_of_cell? w _ hx298_1)).trans hx298_1
       replace hx298_2:=(HB.out.cell (World.block_lt_of_cell? w _ hx298_2)).trans hx298_2
       replace p298:=eq_true p298
       replace q298:=eq_true q298
       have p299:0≤(x14_2:Int):=of_decide_eq_true (by assumption)
       have q299:x14_2 < (l1.length:Int):=of_decide_eq_true (by assumption)
       obtain⟨ad299,e299,hx299_0,hx299_1,hx299_2⟩:=at_T91 HR1.out x14_2 p299 q299
       obtain rfl:ad290=ad299:=(by injection e299)
       replace hx299_0:=(HB.out.cell (World.block_lt_of_cell? w _ hx299_0)).trans hx299_0
       replace hx299_1:=(HB.out.cell (World.block_lt_of_cell? w _ hx299_1)).trans hx299_1
       replace hx299_2:=(HB.out.cell (World.block_lt_of_cell? w _ hx299_2)).trans hx299_2
       replace p299:=eq_true p299
       replace q299:=eq_true q299
       go_wp2
       go_roundg k3
       case measure=>have:=HK1.out;have:=HK2.out;have:=HK3.out;omega
       case rel=>exact⟨(x9_3),(decide (x11_1 < ((rd_T91 l1 x14_2).f1))),(wrap64 (x14_2+1)),(by first|rfl|(simp;done)|(simp [*];done)),(by first|rfl|(simp;done)|(simp [*];done)),H',⟨by have:=HK1.out;have:=HK2.out;have:=HK3.out;omega⟩,⟨by (with_reducible repeat (first|apply Kd.yg_|apply Kd.yh_|apply Kd.R_drew));exact HO_9.out⟩,⟨by (with_reducible repeat (first|apply Kd.yg_|apply Kd.yh_|apply Kd.R_drew));exact HO_10.out⟩,⟨by repeat (with_reducible first|exact HB.out|apply yc_|apply ya_|apply yb_)⟩⟩

end Go.Proofs.YthimblhfjfngiaaGreat.PText

namespace Go.Proofs.YthimblhfjfngiaaGreat.PText
open Go.RowKit Go.Proofs.YthimblhfjfngiaaGreatW.PrintWords Go.Proofs.YthimblhfjfngiaaGreatW.PrintLast Go.Proofs.YthimblhfjfngiaaGreatW.PrintMore
attribute [local go_sem] yW_ yX_ yab_ ybb_ yO_ yP_ yY_ yZ_   -- for this text's walks alone
set_option linter.unusedVariables false
set_option linter.unusedSimpArgs false

mutual
def yl_.l0:Nat→List (S39)→Int→Int→Option (Bool)
 | 0,_,_,_=>none
 | k+1,x0,x3,x4=>if x4 < (x0.length:Int) then (yl_.j1 k x0 x3 x4 (decide (x3≤6000))) else (yl_.j1 k x0 x3 x4 false)
def yl_.j1:Nat→List (S39)→Int→Int→Bool→Option (Bool)
 | 0,_,_,_,_=>none
 | k+1,x0,x3,x4,x13=>if x13=true then (yl_.l1 k x0 x3 x4 0) else (if x3 > 6000 then (some true) else (some (decide ((x0.length:Int) > 30))))
def yl_.l1:Nat→List (S39)→Int→Int→Int→Option (Bool)
 | 0,_,_,_,_=>none
 | k+1,x0,x3,x4,x5=>if 0≤x4 then (if x4 < (x0.length:Int) then (if x5 < (((rd_T39 x0 x4).f1).length:Int) then (if x3≤6000 then (if 0≤x5 then (yl_.l1 k x0 (wrap64 ((wrap64 ((wrap64 (x3+1))+(((rd_T41 ((rd_T39 x0 x4).f1) x5).f0).size:Int)))+(((rd_T41 ((rd_T39 x0 x4).f1) x5).f1).size:Int))) x4 (wrap64 (x5+1))) else (none)) else (yl_.l0 k x0 x3 (wrap64 (x4+1)))) else (yl_.l0 k x0 x3 (wrap64 (x4+1)))) else (none)) else (none)
end
def yl_.f (k:Nat) (l0:List (S39)):Option (Bool):=yl_.l0 k l0 0 0
set_option maxHeartbeats 8000000 in
set_option maxRecDepth 100000 in
theorem yl_.calls (k:Nat) (A0:Option Addr) (c0:Nat) (l0:List (S39)) (r:Bool) (w:World) (hr0:Kd.C k39 w A0 l0.length l0) (hc0:l0.length≤c0) (h:yl_.f k l0=some r) :
  Calls Tryz.prog 7 #[.slice A0 l0.length c0] w fun e w'=>e=.returned (.bool r)∧Drawn0 w w':=by
 have HR0:=Aside0.mk hr0
 have HC0:=Aside0.mk hc0
 clear hr0 hc0
 have H:(yl_.l0 k l0 0 0)=some r:=h
 clear h
 have H':=Aside0.mk H
 clear H
 go_enter Tryz.func7,Tryz.ntmps7
 go_wp2
 repeat (go_quiet (fail);try go_wp2)
 try simp only[Act.put,List.setIfInBounds_toArray,List.set_cons_succ,List.set_cons_zero]
 go_loopg [3,4] k (fun kq v3 v4 w'=>∃ (x3_1:Int) (x4_1:Int),v3=.int .i64 x3_1∧v4=.int .i64 x4_1∧Aside0 (yl_.l0 kq l0 x3_1 x4_1=some r)∧Aside0 (kq≤k)∧Drawn0 w w')
 case atStart=>exact⟨(0),(0),(by first|rfl|(simp;done)|(simp [*];done)),(by first|rfl|(simp;done)|(simp [*];done)),H',⟨Nat.le_refl _⟩,by repeat (first|exact Drawn0.refl _|apply Drawn0.step)⟩
 case round =>
  clear H'
  obtain⟨x3_1,x4_1,rfl,rfl,HA,HK1,⟨m1,rfl⟩⟩:=hrel
  cases gk with
  | zero=>exact absurd HA.out (by simp [yl_.l0])
  | succ k1 =>
   have H:=HA.out
   clear HA
   simp only[yl_.l0] at H
   have HC2:=Aside0.mk H
   clear H
   go_upto_region 3 with (fail)
   repeat (go_quiet (fail);go_upto_region 3 with (fail))
   go_cut [13] (fun v13 wc=>∃ (kq:Nat) (x13_1:Bool),v13=.bool x13_1∧Aside0 (yl_.j1 kq l0 x3_1 x4_1 x13_1=some r)∧Aside0 (kq≤k1)∧Drawn0 w wc)
   case first =>
    have H:=HC2.out
    clear HC2
    by_cases c3:x4_1 < (l0.length:Int)
    rotate_left
    ·rw[if_neg c3] at H
     have c3b0:decide (x4_1 < (l0.length:Int))=false:=decide_eq_false c3
     clear c3
     (first|rw[c3b0]|(simp only[i64_w,i32_w];rw[c3b0])|skip)
     have H':=Aside0.mk H
     clear H
     go_wp2
     repeat (go_quiet (fail);try go_wp2)
     go_meet
     case rel=>exact⟨_,(false),(by first|rfl|(simp;done)|(simp [*];done)),H',⟨by have:=HK1.out;first|omega|exact Nat.le_refl _⟩,by repeat (first|exact Drawn0.refl _|apply Drawn0.step)⟩
    rw[if_pos c3] at H
    have c3b0:decide (x4_1 < (l0.length:Int))=true:=decide_eq_true c3
    clear c3
    (first|rw[c3b0]|(simp only[i64_w,i32_w];rw[c3b0])|skip)
    have H':=Aside0.mk H
    clear H
    go_wp2
    repeat (go_quiet (fail);try go_wp2)
    go_meet
    case rel=>exact⟨_,(decide (x3_1≤6000)),(by first|rfl|(simp;done)|(simp [*];done)),H',⟨by have:=HK1.out;first|omega|exact Nat.le_refl _⟩,by repeat (first|exact Drawn0.refl _|apply Drawn0.step)⟩
   case rest =>
    clear HC2
    try clear p2
    try clear c3
    try clear c3b0
    obtain⟨kq,x13_1,rfl,HA,HJ1,⟨mc1,rfl⟩⟩:=hcut
    cases kq with
    | zero=>exact absurd HA.out (by simp [yl_.j1])
    | succ kj1 =>
     have H:=HA.out
     clear HA
     simp only[yl_.j1] at H
     by_cases c4:x13_1=true
     rotate_left
     ·replace c4:=Bool.eq_false_iff.mpr c4
      subst c4
      have H1:(if x3_1 > 6000 then (some true) else (some (decide ((l0.length:Int) > 30))))=some r:=by rw[if_neg (show ¬ (false=true) by decide)] at H;exact H
      clear H
      have H:=H1
      clear H1
      by_cases c10:x3_1 > 6000
      ·rw[if_pos c10] at H
       have c10b0:decide (6000 < x3_1)=true:=decide_eq_true c10
       clear c10
       obtain rfl:=Option.some.inj H
       go_wp2
       repeat (go_quiet (fail);try go_wp2)
       go_ret
       exact⟨by first|rfl|(simp;done)|(simp [*];done),by repeat (first|exact Drawn0.refl _|apply Drawn0.step)⟩
      rw[if_neg c10] at H
      have c10b0:decide (6000 < x3_1)=false:=decide_eq_false c10
      clear c10
      obtain rfl:=Option.some.inj H
      go_wp2
      repeat (go_quiet (fail);try go_wp2)
      go_ret
      exact⟨by first|rfl|(simp;done)|(simp [*];done),by repeat (first|exact Drawn0.refl _|apply Drawn0.step)⟩
     subst c4
     have H1:(yl_.l1 kj1 l0 x3_1 x4_1 0)=some r:=by rw[if_pos rfl] at H;exact H
     clear H
     have H:=H1
     clear H1
     have H':=Aside0.mk H
     clear H
     go_wp2
     repeat (go_quiet (fail);try go_wp2)
     try simp only[Act.put,List.setIfInBounds_toArray,List.set_cons_succ,List.set_cons_zero]
     go_loopg [3,5] kj1 (fun kq v3 v5 w'=>∃ (x3_3:Int) (x5_3:Int),v3=.int .i64 x3_3∧v5=.int .i64 x5_3∧Aside0 (yl_.l1 kq l0 x3_3 x4_1 x5_3=some r)∧Aside0 (kq≤kj1)∧Drawn0 w w')
     case atStart=>exact⟨(x3_1),(0),(by first|rfl|(simp;done)|(simp [*];done)),(by first|rfl|(simp;done)|(simp [*];done)),H',⟨Nat.le_refl _⟩,by repeat (first|exact Drawn0.refl _|apply Drawn0.step)⟩
     case round =>
      clear H'
      try clear c1
      try clear p2
      try clear c3
      try clear c3b0
      try clear c4
      try clear p2
      obtain⟨x3_3,x5_3,rfl,rfl,HA,HK3,⟨m3,rfl⟩⟩:=hrel
      cases gk with
      | zero=>exact absurd HA.out (by simp [yl_.l1])
      | succ k3 =>
       have H:=HA.out
       clear HA
       simp only[yl_.l1] at H
       by_cases c5:0≤x4_1
       rotate_left
       ·rw[if_neg c5] at H
        exact absurd H (by simp)
       rw[if_pos c5] at H
       have c5b0:decide (0≤x4_1)=true:=decide_eq_true c5
       clear c5
       by_cases c6:x4_1 < (l0.length:Int)
       rotate_left
       ·rw[if_neg c6] at H
        exact absurd H (by simp)
       rw[if_pos c6] at H
       have c6b0:decide (x4_1 < (l0.length:Int))=true:=decide_eq_true c6
       clear c6
       by_cases c7:x5_3 < (((rd_T39 l0 x4_1).f1).length:Int)
       rotate_left
       ·rw[if_neg c7] at H
        have c7b0:decide (x5_3 < (((rd_T39 l0 x4_1).f1).length:Int))=false:=decide_eq_false c7
        clear c7
        have H':=Aside0.mk H
        clear H
        have p101:0≤(x4_1:Int):=of_decide_eq_true (by assumption)
        have q101:x4_1 < (l0.length:Int):=of_decide_eq_true (by assumption)
        obtain⟨ad101,A101_1,c101_1,e101,hx101_0,hx101_1,hl101_1,hi101_1⟩:=at_T39 HR0.out x4_1 p101 q101
        cases e101
        have HR101_1:=Aside0.mk hi101_1
        have HC101_1:=Aside0.mk hl101_1
        clear hi101_1 hl101_1
        replace p101:=eq_true p101
        replace q101:=eq_true q101
        go_wp2
        repeat (go_quiet (fail);try go_wp2)
        go_roundg k3
        case measure=>have:=HK1.out;have:=HJ1.out;have:=HK3.out;omega
        case rel=>exact⟨(x3_3),(wrap64 (x4_1+1)),(by first|rfl|(simp;done)|(simp [*];done)),(by first|rfl|(simp;done)|(simp [*];done)),H',⟨by have:=HK1.out;have:=HJ1.out;have:=HK3.out;omega⟩,by repeat (first|exact Drawn0.refl _|apply Drawn0.step)⟩
       rw[if_pos c7] at H
       have c7b0:decide (x5_3 < (((rd_T39 l0 x4_1).f1).length:Int))=true:=decide_eq_true c7
       clear c7
       by_cases c8:x3_3≤6000
       rotate_left
       ·rw[if_neg c8] at H
        have c8b0:decide (x3_3≤6000)=false:=decide_eq_false c8
        clear c8
        have H':=Aside0.mk H
        clear H
        have p101:0≤(x4_1:Int):=of_decide_eq_true (by assumption)
        have q101:x4_1 < (l0.length:Int):=of_decide_eq_true (by assumption)
        obtain⟨ad101,A101_1,c101_1,e101,hx101_0,hx101_1,hl101_1,hi101_1⟩:=at_T39 HR0.out x4_1 p101 q101
        cases e101
        have HR101_1:=Aside0.mk hi101_1
        have HC101_1:=Aside0.mk hl101_1
        clear hi101_1 hl101_1
        replace p101:=eq_true p101
        replace q101:=eq_true q101
        go_wp2
        repeat (go_quiet (fail);try go_wp2)
        go_roundg k3
        case measure=>have:=HK1.out;have:=HJ1.out;have:=HK3.out;omega
        case rel=>exact⟨(x3_3),(wrap64 (x4_1+1)),(by first|rfl|(simp;done)|(simp [*];done)),(by first|rfl|(simp;done)|(simp [*];done)),H',⟨by have:=HK1.out;have:=HJ1.out;have:=HK3.out;omega⟩,by repeat (first|exact Drawn0.refl _|apply Drawn0.step)⟩
       rw[if_pos c8] at H
       have c8b0:decide (x3_3≤6000)=true:=decide_eq_true c8
       clear c8
       by_cases c9:0≤x5_3
       rotate_left
       ·rw[if_neg c9] at H
        exact absurd H (by simp)
       rw[if_pos c9] at H
       have c9b0:decide (0≤x5_3)=true:=decide_eq_true c9
       clear c9
       have H':=Aside0.mk H
       clear H
       have p101:0≤(x4_1:Int):=of_decide_eq_true (by assumption)
       have q101:x4_1 < (l0.length:Int):=of_decide_eq_true (by assumption)
       obtain⟨ad101,A101_1,c101_1,e101,hx101_0,hx101_1,hl101_1,hi101_1⟩:=at_T39 HR0.out x4_1 p101 q101
       cases e101
       have HR101_1:=Aside0.mk hi101_1
       have HC101_1:=Aside0.mk hl101_1
       clear hi101_1 hl101_1
       replace p101:=eq_true p101
       replace q101:=eq_true q101
       have p102:0≤(x4_1:Int):=of_decide_eq_true (by assumption)
       have q102:x4_1 < (l0.length:Int):=of_decide_eq_true (by assumption)
       obtain⟨ad102,A102_1,c102_1,e102,hx102_0,hx102_1,hl102_1,hi102_1⟩:=at_T39 HR0.out x4_1 p102 q102
       obtain rfl:ad101=ad102:=(by injection e102)
       have HR102_1:=Aside0.mk hi102_1
       have HC102_1:=Aside0.mk hl102_1
       clear hi102_1 hl102_1
       replace p102:=eq_true p102
       replace q102:=eq_true q102
       have ea_:=Option.some.inj (hx101_1.symm.trans hx102_1)
       injection ea_ with ea_ en_ ec_
       subst ea_
       subst ec_
       clear en_
       have p103:0≤(x5_3:Int):=of_decide_eq_true (by assumption)
       have q103:x5_3 < (((rd_T39 l0 x4_1).f1).length:Int):=of_decide_eq_true (by assumption)
       obtain⟨ad103,e103,hx103_0,hx103_1⟩:=at_T41 HR102_1.out x5_3 p103 q103
       cases e103
       replace p103:=eq_true p103
       replace q103:=eq_true q103
       have p104:0≤(x4_1:Int):=of_decide_eq_true (by assumption)
       have q104:x4_1 < (l0.length:Int):=of_decide_eq_true (by assumption)
       obtain⟨ad104,A104_1,c104_1,e104,hx104_0,hx104_1,hl104_1,hi104_1⟩:=at_T39 HR0.out x4_1 p104 q104
       obtain rfl:ad101=ad104:=(by injection e104)
       have HR104_1:=Aside0.mk hi104_1
       have HC104_1:=Aside0.mk hl104_1
       clear hi104_1 hl104_1
       replace p104:=eq_true p104
       replace q104:=eq_true q104
       have ea_:=Option.some.inj (hx101_1.symm.trans hx104_1)
       injection ea_ with ea_ en_ ec_
       subst ea_
       subst ec_
       clear en_
       have p105:0≤(x5_3:Int):=of_decide_eq_true (by assumption)
       have q105:x5_3 < (((rd_T39 l0 x4_1).f1).length:Int):=of_decide_eq_true (by assumption)
       obtain⟨ad105,e105,hx105_0,hx105_1⟩:=at_T41 HR104_1.out x5_3 p105 q105
       cases e105
       replace p105:=eq_true p105
       replace q105:=eq_true q105
       go_wp2
       repeat (go_quiet (fail);try go_wp2)
       go_roundg k3
       case measure=>have:=HK1.out;have:=HJ1.out;have:=HK3.out;omega
       case rel=>exact⟨(wrap64 ((wrap64 ((wrap64 (x3_3+1))+(((rd_T41 ((rd_T39 l0 x4_1).f1) x5_3).f0).size:Int)))+(((rd_T41 ((rd_T39 l0 x4_1).f1) x5_3).f1).size:Int))),(wrap64 (x5_3+1)),(by first|rfl|(simp;done)|(simp [*];done)),(by first|rfl|(simp;done)|(simp [*];done)),H',⟨by have:=HK1.out;have:=HJ1.out;have:=HK3.out;omega⟩,by repeat (first|exact Drawn0.refl _|apply Drawn0.step)⟩

end Go.Proofs.YthimblhfjfngiaaGreat.PText

namespace Go.Proofs.YthimblhfjfngiaaGreat.Tx
section
variable {α : Type} [DecidableEq α] {lt : α → α → Bool}
structure Lin (lt:α→α→Bool):Prop where
  irr:∀ a,lt a a=false
  tr:∀ {a b c},lt a b=true→lt b c=true→lt a c=true
  tri:∀ {a b},lt a b=false→lt b a=false→a=b
omit [DecidableEq α] in
theorem Lin.asym (h:Lin lt) {a b:α} (q:lt a b=true):lt b a=false:=by
  cases e:lt b a with
  | false=>rfl
  | true=>have:=h.tr q e;rw[h.irr] at this;cases this
def Asc (lt:α→α→Bool) (l:List α):Prop:=l.Pairwise fun a b=>lt a b=true
omit [DecidableEq α] in
theorem Asc.nil:Asc lt ([]:List α):=List.Pairwise.nil
omit [DecidableEq α] in
theorem asc_cons {a:α} {l:List α}:Asc lt (a :: l)↔(∀ b∈l,lt a b=true)∧Asc lt l:=List.pairwise_cons
omit [DecidableEq α] in
theorem asc_append {l m:List α}:Asc lt (l++m)↔Asc lt l∧Asc lt m∧∀ a∈l,∀ b∈m,lt a b=true:=List.pairwise_append
omit [DecidableEq α] in
theorem asc_unique (h:Lin lt):∀ {l m:List α},Asc lt l→Asc lt m→(∀ a,a∈l↔a∈m)→l=m
  | [],[],_,_,_=>rfl
  | [],b :: m,_,_,q=>by have:=(q b).2 List.mem_cons_self;cases this
  | a :: l,[],_,_,q=>by have:=(q a).1 List.mem_cons_self;cases this
  | a :: l,b :: m,p1,p2,q=>by
    obtain⟨u1,v1⟩:=asc_cons.1 p1
    obtain⟨u2,v2⟩:=asc_cons.1 p2
    have e:a=b:=by
      rcases List.mem_cons.1 ((q a).1 List.mem_cons_self) with e|e
      · exact e
      rcases List.mem_cons.1 ((q b).2 List.mem_cons_self) with e'|e'
      · exact e'.symm
      have:=h.asym (u2 a e)
      rw[u1 b e'] at this;cases this
    subst e
    rw[asc_unique h v1 v2 fun c=>⟨fun k=>?_,fun k=>?_⟩]
    · rcases List.mem_cons.1 ((q c).1 (List.mem_cons_of_mem _ k)) with e|e
      · subst e;have:=u1 c k;rw[h.irr] at this;cases this
      · exact e
    · rcases List.mem_cons.1 ((q c).2 (List.mem_cons_of_mem _ k)) with e|e
      · subst e;have:=u2 c k;rw[h.irr] at this;cases this
      · exact e
/-- The ascending list of a list's members. -/
def ord (lt:α→α→Bool):List α→List α
  | []=>[]
  | a :: l=>ins a (ord lt l)
where ins (a:α):List α→List α
  | []=>[a]
  | b :: l=>if lt a b then a :: b :: l else if a=b then b :: l else b :: ins a l
theorem mem_ins (h:Lin lt) {a c:α}:∀ {l:List α},c∈ord.ins lt a l↔c=a∨c∈l
  | []=>by simp [ord.ins]
  | b :: l=>by
    unfold ord.ins
    by_cases e:lt a b=true
    · rw[if_pos e,List.mem_cons]
    rw[if_neg e]
    by_cases e':a=b
    · rw[if_pos e'];subst e';simp
    rw[if_neg e',List.mem_cons,mem_ins h,List.mem_cons]
    constructor <;> rintro (k|k|k) <;> simp [k]
theorem asc_ins (h:Lin lt) {a:α}:∀ {l:List α},Asc lt l→Asc lt (ord.ins lt a l)
  | [],_=>List.pairwise_singleton _ _
  | b :: l,q=>by
    obtain⟨u,v⟩:=asc_cons.1 q
    unfold ord.ins
    by_cases e:lt a b=true
    · rw[if_pos e]
      exact asc_cons.2 ⟨fun c hc=>(List.mem_cons.1 hc).elim (fun k=>k ▸ e) fun k=>h.tr e (u c k),q⟩
    rw[if_neg e]
    by_cases e':a=b
    · rw[if_pos e'];exact q
    rw[if_neg e']
    refine asc_cons.2 ⟨fun c hc=>?_,asc_ins h v⟩
    rcases (mem_ins h).1 hc with k|k
    · subst k
      cases k:lt b c with
      | true=>rfl
      | false=>exact absurd (h.tri (by simpa using e) k) e'
    · exact u c k
theorem mem_ord (h:Lin lt) {c:α}:∀ {l:List α},c∈ord lt l↔c∈l
  | []=>Iff.rfl
  | a :: l=>by unfold ord;rw[mem_ins h,mem_ord h,List.mem_cons]
theorem asc_ord (h:Lin lt):∀ {l:List α},Asc lt (ord lt l)
  | []=>List.Pairwise.nil
  | a :: l=>by unfold ord;exact asc_ins h (asc_ord h)
theorem ord_of_asc (h:Lin lt) {l m:List α} (q:Asc lt m) (k:∀ a,a∈m↔a∈l):m=ord lt l :=
  asc_unique h q (asc_ord h) fun a=>by rw[mem_ord h];exact k a
theorem ord_ord (h:Lin lt) {l:List α} (q:Asc lt l):ord lt l=l:=(ord_of_asc h q fun _=>Iff.rfl).symm
theorem ord_len (l:List α):(ord lt l).length≤l.length:=by
  have hi:∀ (a:α) (m:List α),(ord.ins lt a m).length≤m.length+1:=by
    intro a m
    induction m with
    | nil=>simp [ord.ins]
    | cons b m ih =>
      unfold ord.ins
      split
      · simp
      split
      · simp
      · simp only[List.length_cons];omega
  induction l with
  | nil=>exact Nat.le_refl _
  | cons a l ih=>unfold ord;have:=hi a (ord lt l);simp only[List.length_cons];omega
end
end Go.Proofs.YthimblhfjfngiaaGreat.Tx

namespace Go.Proofs.YthimblhfjfngiaaGreat.Tx
structure Ed where
  f:Int
  t:Int
  x:List UInt8
theorem Ed.ext' {a b:Ed} (h1:a.f=b.f) (h2:a.t=b.t) (h3:a.x=b.x):a=b:=by cases a;cases b;simp_all
instance:DecidableEq Ed:=fun a b=>decidable_of_iff (a.f=b.f∧a.t=b.t∧a.x=b.x) ⟨fun h=>Ed.ext' h.1 h.2.1 h.2.2,fun h=>by subst h;exact⟨rfl,rfl,rfl⟩⟩
/-- the order of edits -/
def elt (a b:Ed):Bool:=decide (a.f < b.f) || (decide (a.f=b.f) && (decide (a.t < b.t) || (decide (a.t=b.t) && decide (a.x < b.x))))
theorem elt_iff {a b:Ed}:elt a b=true↔a.f < b.f∨(a.f=b.f∧(a.t < b.t∨(a.t=b.t∧a.x < b.x))):=by
  unfold elt
  simp only[Bool.or_eq_true,Bool.and_eq_true,decide_eq_true_eq]
theorem elt_lin:Lin elt where
  irr a:=by
    cases h:elt a a with
    | false=>rfl
    | true =>
      rcases elt_iff.1 h with k|⟨_,k|⟨_,k⟩⟩
      · omega
      · omega
      · exact absurd k (List.lt_irrefl _)
  tr:=by
    intro a b c h1 h2
    rw[elt_iff] at h1 h2 ⊢
    rcases h1 with h1|⟨e1,h1|⟨e1',h1⟩⟩
    · rcases h2 with h2|⟨e2,h2⟩
      · exact Or.inl (by omega)
      · exact Or.inl (by omega)
    · rcases h2 with h2|⟨e2,h2|⟨e2',h2⟩⟩
      · exact Or.inl (by omega)
      · exact Or.inr ⟨by omega,Or.inl (by omega)⟩
      · exact Or.inr ⟨by omega,Or.inl (by omega)⟩
    · rcases h2 with h2|⟨e2,h2|⟨e2',h2⟩⟩
      · exact Or.inl (by omega)
      · exact Or.inr ⟨by omega,Or.inl (by omega)⟩
      · exact Or.inr ⟨by omega,Or.inr ⟨by omega,List.lt_trans h1 h2⟩⟩
  tri:=by
    intro a b h1 h2
    have n1:¬ (elt a b=true):=by rw[h1];decide
    have n2:¬ (elt b a=true):=by rw[h2];decide
    rw[elt_iff] at n1 n2
    have ef:a.f=b.f:=by
      rcases Int.lt_trichotomy a.f b.f with k|k|k
      · exact absurd (Or.inl k) n1
      · exact k
      · exact absurd (Or.inl k) n2
    have et:a.t=b.t:=by
      rcases Int.lt_trichotomy a.t b.t with k|k|k
      · exact absurd (Or.inr ⟨ef,Or.inl k⟩) n1
      · exact k
      · exact absurd (Or.inr ⟨ef.symm,Or.inl k⟩) n2
    have n1':¬ a.x < b.x:=fun k=>n1 (Or.inr ⟨ef,Or.inr ⟨et,k⟩⟩)
    have n2':¬ b.x < a.x:=fun k=>n2 (Or.inr ⟨ef.symm,Or.inr ⟨et.symm,k⟩⟩)
    exact Ed.ext' ef et (List.le_antisymm (List.not_lt.1 n2') (List.not_lt.1 n1'))
/-- two edits touch -/
def touch (a b:Ed):Bool :=
  if a.f=a.t∧b.f=b.t then decide (a.f=b.f)
  else if a.f=a.t then decide (b.f < a.f) && decide (a.f < b.t)
  else if b.f=b.t then decide (a.f < b.f) && decide (b.f < a.t)
  else decide (a.f < b.t) && decide (b.f < a.t)
def Okay (n:Int) (l:List Ed):Prop:=∀ e∈l,0≤e.f∧e.f≤e.t∧e.t≤n
/-- does one of the sorted edits touch one before it -/
def clash (e last:Int):List Ed→Bool
  | []=>false
  | x :: l=>if x.f < e∨(x.f=x.t∧x.f=last) then true else clash (max e x.t) (if x.f=x.t then x.f else last) l
/-- edits one behind the other -/
def Ch (n:Int):Int→List Ed→Prop
  | p,[]=>p≤n
  | p,e :: l=>p≤e.f∧e.f≤e.t∧Ch n e.t l
theorem clash_ch {n:Int}:∀ (l:List Ed) (e last:Int),Okay n l→e≤n→clash e last l=false→Ch n e l
  | [],e,last,_,h,_=>h
  | x :: l,e,last,ho,hn,hc=>by
    have hx:=ho x List.mem_cons_self
    unfold clash at hc
    by_cases k:x.f < e∨(x.f=x.t∧x.f=last)
    · rw[if_pos k] at hc;cases hc
    rw[if_neg k] at hc
    have e1:max e x.t=x.t:=by omega
    rw[e1] at hc
    exact⟨by omega,hx.2.1,clash_ch l x.t _ (fun a m=>ho a (List.mem_cons_of_mem _ m)) hx.2.2 hc⟩
end Go.Proofs.YthimblhfjfngiaaGreat.Tx

namespace Go.Proofs.YthimblhfjfngiaaGreat.Tx
/-- a part of a text -/
def sl (s:List UInt8) (a b:Int):List UInt8:=(s.drop a.toNat).take (b.toNat - a.toNat)
theorem sl_len {s:List UInt8} {a b:Int} (h0:0≤a) (h1:a≤b) (h2:b≤s.length):((sl s a b).length:Int)=b - a:=by
  unfold sl
  rw[List.length_take,List.length_drop];omega
theorem sl_drop {s:List UInt8} {a b:Int} (h1:a≤b):sl s a b++s.drop b.toNat=s.drop a.toNat:=by
  unfold sl
  have e:s.drop b.toNat=(s.drop a.toNat).drop (b.toNat - a.toNat):=by rw[List.drop_drop];congr 1;omega
  rw[e,List.take_append_drop]
theorem sl_sl {s:List UInt8} {a b c:Int} (h1:a≤b) (h2:b≤c):sl s a b++sl s b c=sl s a c:=by
  unfold sl
  have e:(s.drop b.toNat)=(s.drop a.toNat).drop (b.toNat - a.toNat):=by rw[List.drop_drop];congr 1;omega
  have e2:c.toNat - a.toNat=(b.toNat - a.toNat)+(c.toNat - b.toNat):=by omega
  rw[e,e2,List.take_add]
theorem sl_same (s:List UInt8) (a:Int):sl s a a=[]:=by unfold sl;rw[Nat.sub_self,List.take_zero]
/-- the text from a place on, behind edits -/
def ap (s:List UInt8):Int→List Ed→List UInt8
  | p,[]=>s.drop p.toNat
  | p,e :: l=>sl s p e.f++e.x++ap s e.t l
theorem ch_le {n:Int}:∀ {l:List Ed} {p:Int},Ch n p l→p≤n
  | [],_,h=>h
  | e :: l,p,h=>by have:=ch_le h.2.2;have:=h.1;have:=h.2.1;omega
end Go.Proofs.YthimblhfjfngiaaGreat.Tx

namespace Go.Proofs.YthimblhfjfngiaaGreat.Tx
end Go.Proofs.YthimblhfjfngiaaGreat.Tx

namespace Go.Proofs.YthimblhfjfngiaaGreat.Tx
/-- the lines of a text, the first part of the first one is told -/
def lgo (cur:List UInt8):List UInt8→List (List UInt8)
  | []=>if cur=[] then [] else [cur]
  | c :: r=>if c=10 then (cur++[c]) :: lgo [] r else lgo (cur++[c]) r
def lines (s:List UInt8):List (List UInt8):=lgo [] s
theorem lgo_flat:∀ (s cur:List UInt8),(lgo cur s).flatten=cur++s
  | [],cur=>by
    unfold lgo
    by_cases h:cur=[]
    rotate_left
    · rw[if_neg h];simp
    rw[if_pos h,h];rfl
  | c :: r,cur=>by
    unfold lgo
    by_cases h:c=10
    rotate_left
    · rw[if_neg h,lgo_flat r];simp
    rw[if_pos h,List.flatten_cons,lgo_flat r []];simp
theorem y6_ (s:List UInt8):(lines s).flatten=s:=lgo_flat s []
theorem lgo_ne:∀ (s cur:List UInt8),∀ x∈lgo cur s,x≠[]
  | [],cur,x,hx=>by
    unfold lgo at hx
    by_cases h:cur=[]
    · rw[if_pos h] at hx;cases hx
    rw[if_neg h] at hx;rw[List.mem_singleton.1 hx];exact h
  | c :: r,cur,x,hx=>by
    unfold lgo at hx
    by_cases h:c=10
    rotate_left
    · rw[if_neg h] at hx;exact lgo_ne r _ x hx
    rw[if_pos h] at hx
    rcases List.mem_cons.1 hx with k|k
    · subst k;simp
    · exact lgo_ne r [] x k
theorem lines_ne (s:List UInt8):∀ x∈lines s,x≠[]:=lgo_ne s []
/-- a first line that ends -/
theorem lgo_line:∀ (a cur r:List UInt8),(10:UInt8) ∉ a→lgo cur (a++10 :: r)=(cur++a++[10]) :: lgo [] r
  | [],cur,r,_=>by
    have e:lgo cur (10 :: r)=if (10:UInt8)=10 then (cur++[10]) :: lgo [] r else lgo (cur++[10]) r:=rfl
    rw[List.nil_append,e,if_pos rfl,List.append_nil]
  | c :: a,cur,r,h=>by
    have hc:c≠10:=fun e=>h (e ▸ List.mem_cons_self)
    show lgo cur (c :: (a++10 :: r))=_
    rw[lgo,if_neg hc,lgo_line a _ r fun k=>h (List.mem_cons_of_mem _ k)]
    simp only[List.append_assoc,List.cons_append,List.nil_append]
theorem lgo_last:∀ (a cur:List UInt8),(10:UInt8) ∉ a→lgo cur a=if cur++a=[] then [] else [cur++a]
  | [],cur,_=>by unfold lgo;rw[List.append_nil]
  | c :: a,cur,h=>by
    have hc:c≠10:=fun e=>h (e ▸ List.mem_cons_self)
    rw[lgo,if_neg hc,lgo_last a _ fun k=>h (List.mem_cons_of_mem _ k),List.append_assoc,List.singleton_append]
section
variable {α : Type} [DecidableEq α]
/-- how many can be kept -/
def lcs:List α→List α→Nat
  | a :: l,b :: m=>if a=b then lcs l m+1 else max (lcs l (b :: m)) (lcs (a :: l) m)
  | _,_=>0
termination_by l m=>l.length+m.length
theorem yUb_ (m:List α):lcs [] m=0:=by rw[lcs];intro a l b m' h;cases h
theorem y0b_ (l:List α):lcs l []=0:=by rw[lcs];intro a l' b m' _ h;cases h
theorem lcs_cons (a b:α) (l m:List α):lcs (a :: l) (b :: m)=if a=b then lcs l m+1 else max (lcs l (b :: m)) (lcs (a :: l) m):=by rw[lcs]
theorem lcs_step:∀ (k:Nat) (l m:List α),l.length+m.length≤k →
    (∀ b,lcs l m≤lcs l (b :: m)∧lcs l (b :: m)≤lcs l m+1)∧(∀ a,lcs l m≤lcs (a :: l) m∧lcs (a :: l) m≤lcs l m+1):=by
  intro k
  induction k with
  | zero =>
    intro l m h
    have hl:l=[]:=List.eq_nil_of_length_eq_zero (by omega)
    have hm:m=[]:=List.eq_nil_of_length_eq_zero (by omega)
    subst hl hm
    refine⟨fun b=>?_,fun a=>?_⟩
    · rw[yUb_,yUb_];omega
    · rw[y0b_,y0b_];omega
  | succ k ih =>
    intro l m h
    constructor
    · intro b
      cases l with
      | nil=>rw[yUb_,yUb_];omega
      | cons a l =>
        simp only[List.length_cons] at h
        have h1:=(ih l m (by omega)).1 b
        have h2:=(ih l m (by omega)).2 a
        rw[lcs_cons]
        by_cases e:a=b
        rotate_left
        · rw[if_neg e];omega
        rw[if_pos e];omega
    · intro a
      cases m with
      | nil=>rw[y0b_,y0b_];omega
      | cons b m =>
        simp only[List.length_cons] at h
        have h1:=(ih l m (by omega)).1 b
        have h2:=(ih l m (by omega)).2 a
        rw[lcs_cons]
        by_cases e:a=b
        rotate_left
        · rw[if_neg e];omega
        rw[if_pos e];omega
theorem lcs_kept (a:α) (l m:List α):lcs l (a :: m)≤lcs l m+1∧lcs (a :: l) m≤lcs l m+1 :=
  ⟨((lcs_step _ l m (Nat.le_refl _)).1 a).2,((lcs_step _ l m (Nat.le_refl _)).2 a).2⟩
theorem lcs_len_l (l m:List α):lcs l m≤l.length:=by
  induction l with
  | nil=>rw[yUb_];exact Nat.le_refl _
  | cons a l ih=>have:=((lcs_step _ l m (Nat.le_refl _)).2 a).2;simp only[List.length_cons];omega
/-- the steps: 32 is kept, 45 goes, 43 comes -/
def stp:List α→List α→List (UInt8 × α)
  | a :: l,b :: m=>if a=b then (32,a) :: stp l m else if lcs (a :: l) m≤lcs l (b :: m) then (45,a) :: stp l (b :: m) else (43,b) :: stp (a :: l) m
  | a :: l,[]=>(45,a) :: stp l []
  | [],b :: m=>(43,b) :: stp [] m
  | [],[]=>[]
termination_by l m=>l.length+m.length
def olds (l:List (UInt8 × α)):List α:=(l.filter fun x=>x.1 != 43).map (·.2)
def news (l:List (UInt8 × α)):List α:=(l.filter fun x=>x.1 != 45).map (·.2)
theorem stp_olds:∀ (k:Nat) (l m:List α),l.length+m.length≤k→olds (stp l m)=l∧news (stp l m)=m:=by
  intro k
  induction k with
  | zero =>
    intro l m h
    have hl:l=[]:=List.eq_nil_of_length_eq_zero (by omega)
    have hm:m=[]:=List.eq_nil_of_length_eq_zero (by omega)
    subst hl hm
    rw[stp];exact⟨rfl,rfl⟩
  | succ k ih =>
    intro l m h
    match l,m,h with
    | [],[],_=>rw[stp];exact⟨rfl,rfl⟩
    | a :: l,[],h =>
      simp only[List.length_cons,List.length_nil] at h
      obtain⟨h1,h2⟩:=ih l [] (by simp;omega)
      rw[stp]
      exact⟨congrArg (a :: ·) h1,h2⟩
    | [],b :: m,h =>
      simp only[List.length_cons,List.length_nil] at h
      obtain⟨h1,h2⟩:=ih [] m (by simp;omega)
      rw[stp]
      exact⟨h1,congrArg (b :: ·) h2⟩
    | a :: l,b :: m,h =>
      simp only[List.length_cons] at h
      rw[stp]
      by_cases e:a=b
      · rw[if_pos e]
        obtain⟨h1,h2⟩:=ih l m (by omega)
        exact⟨congrArg (a :: ·) h1,by subst e;exact congrArg (a :: ·) h2⟩
      rw[if_neg e]
      split
      · obtain⟨h1,h2⟩:=ih l (b :: m) (by simp only[List.length_cons];omega)
        exact⟨congrArg (a :: ·) h1,h2⟩
      · obtain⟨h1,h2⟩:=ih (a :: l) m (by simp only[List.length_cons];omega)
        exact⟨h1,congrArg (b :: ·) h2⟩
theorem stp_op:∀ (k:Nat) (l m:List α),l.length+m.length≤k→∀ x∈stp l m,(x.1=32∨x.1=45∨x.1=43)∧(x.2∈l∨x.2∈m):=by
  intro k
  induction k with
  | zero =>
    intro l m h
    have hl:l=[]:=List.eq_nil_of_length_eq_zero (by omega)
    have hm:m=[]:=List.eq_nil_of_length_eq_zero (by omega)
    subst hl hm
    rw[stp];intro x hx;cases hx
  | succ k ih =>
    intro l m h x hx
    match l,m,h,hx with
    | [],[],_,hx=>rw[stp] at hx;cases hx
    | a :: l,[],h,hx =>
      simp only[List.length_cons,List.length_nil] at h
      rw[stp] at hx
      rcases List.mem_cons.1 hx with q|q
      · subst q;exact⟨Or.inr (Or.inl rfl),Or.inl List.mem_cons_self⟩
      · obtain⟨h1,h2⟩:=ih l [] (by simp;omega) x q
        exact⟨h1,h2.imp (List.mem_cons_of_mem _) id⟩
    | [],b :: m,h,hx =>
      simp only[List.length_cons,List.length_nil] at h
      rw[stp] at hx
      rcases List.mem_cons.1 hx with q|q
      · subst q;exact⟨Or.inr (Or.inr rfl),Or.inr List.mem_cons_self⟩
      · obtain⟨h1,h2⟩:=ih [] m (by simp;omega) x q
        exact⟨h1,h2.imp id (List.mem_cons_of_mem _)⟩
    | a :: l,b :: m,h,hx =>
      simp only[List.length_cons] at h
      rw[stp] at hx
      by_cases e:a=b
      · rw[if_pos e] at hx
        rcases List.mem_cons.1 hx with q|q
        · subst q;exact⟨Or.inl rfl,Or.inl List.mem_cons_self⟩
        · obtain⟨h1,h2⟩:=ih l m (by omega) x q
          exact⟨h1,h2.imp (List.mem_cons_of_mem _) (List.mem_cons_of_mem _)⟩
      rw[if_neg e] at hx
      split at hx
      · rcases List.mem_cons.1 hx with q|q
        · subst q;exact⟨Or.inr (Or.inl rfl),Or.inl List.mem_cons_self⟩
        · obtain⟨h1,h2⟩:=ih l (b :: m) (by simp only[List.length_cons];omega) x q
          exact⟨h1,h2.imp (List.mem_cons_of_mem _) id⟩
      · rcases List.mem_cons.1 hx with q|q
        · subst q;exact⟨Or.inr (Or.inr rfl),Or.inr List.mem_cons_self⟩
        · obtain⟨h1,h2⟩:=ih (a :: l) m (by simp only[List.length_cons];omega) x q
          exact⟨h1,h2.imp id (List.mem_cons_of_mem _)⟩
end
end Go.Proofs.YthimblhfjfngiaaGreat.Tx

namespace Go.Proofs.YthimblhfjfngiaaGreat.Tx
abbrev St:=UInt8 × List UInt8
/-- the edits of steps; the one that is not yet shut is told -/
def eg:Int→Option Ed→List St→List Ed
  | _,c,[]=>c.toList
  | at_,c,(o,x) :: l =>
    if o=32 then c.toList++eg (at_+x.length) none l
    else
      let d:=c.getD ⟨at_,at_,[]⟩
      if o=45 then eg (at_+x.length) (some ⟨d.f,at_+x.length,d.x⟩) l else eg at_ (some ⟨d.f,d.t,d.x++x⟩) l
theorem y8b_ (a:Int) (c:Option Ed) (x:List UInt8) (l:List St):eg a c ((32,x) :: l)=c.toList++eg (a+x.length) none l:=by
  rw[eg,if_pos rfl]
theorem y9b_ (a:Int) (c:Option Ed) (x:List UInt8) (l:List St):eg a c ((45,x) :: l)=eg (a+x.length) (some ⟨(c.getD ⟨a,a,[]⟩).f,a+x.length,(c.getD ⟨a,a,[]⟩).x⟩) l:=by
  rw[eg,if_neg (by decide),if_pos rfl]
theorem yac_ (a:Int) (c:Option Ed) (o:UInt8) (x:List UInt8) (l:List St) (h1:o≠32) (h2:o≠45):eg a c ((o,x) :: l)=eg a (some ⟨(c.getD ⟨a,a,[]⟩).f,(c.getD ⟨a,a,[]⟩).t,(c.getD ⟨a,a,[]⟩).x++x⟩) l:=by
  rw[eg,if_neg h1,if_neg h2]
/-- what the steps keep and lay down is what the edits make -/
theorem eg_ap (s:List UInt8):∀ (l:List St) (a p:Int) (c:Option Ed),0≤p→0≤a→(∀ x∈l,x.1=32∨x.1=45∨x.1=43)→s.drop a.toNat=(olds l).flatten →
    (c=none→p≤a)→(∀ d,c=some d→p≤d.f∧d.f≤d.t∧d.t=a) →
    ap s p (eg a c l)=(match c with|none=>sl s p a|some d=>sl s p d.f++d.x)++(news l).flatten
  | [],a,p,none,h0,ha,ho,hs,h1,h2=>by
    show s.drop p.toNat=sl s p a++[]
    rw[List.append_nil,← sl_drop (h1 rfl),hs]
    simp [olds]
  | [],a,p,some d,h0,ha,ho,hs,h1,h2=>by
    obtain⟨q1,q2,q3⟩:=h2 d rfl
    show sl s p d.f++d.x++s.drop d.t.toNat=_
    rw[q3,hs];rfl
  | (o,x) :: l,a,p,c,h0,ha,ho,hs,h1,h2=>by
    have hoh:=ho (o,x) List.mem_cons_self
    have ho':∀ x∈l,x.1=32∨x.1=45∨x.1=43:=fun y m=>ho y (List.mem_cons_of_mem _ m)
    have drop_x:o≠43→s.drop (a+x.length).toNat=(olds l).flatten∧sl s a (a+x.length)=x:=by
      intro k
      have e:(olds ((o,x) :: l)).flatten=x++(olds l).flatten:=by
        unfold olds
        rw[List.filter_cons_of_pos (by simpa using k),List.map_cons,List.flatten_cons]
      rw[e] at hs
      have e2:(a+x.length).toNat=a.toNat+x.length:=by omega
      refine⟨by rw[e2,← List.drop_drop,hs,List.drop_left],?_⟩
      unfold sl
      rw[hs,show (a+x.length).toNat - a.toNat=x.length by omega,List.take_left]
    have yVb_:o≠45→(news ((o,x) :: l)).flatten=x++(news l).flatten:=by
      intro k
      unfold news
      rw[List.filter_cons_of_pos (by simpa using k),List.map_cons,List.flatten_cons]
    rcases hoh with e|e|e <;> (replace e:o=_:=e;subst e)
    · obtain⟨d1,d2⟩:=drop_x (by decide)
      rw[y8b_,yVb_ (by decide)]
      cases c with
      | none =>
        have ih:=eg_ap s l (a+x.length) p none h0 (by omega) ho' d1 (fun _=>by have:=h1 rfl;omega) (fun d q=>by cases q)
        show ap s p (eg (a+x.length) none l)=_
        rw[ih,← sl_sl (h1 rfl) (show a≤a+x.length by omega),d2,List.append_assoc]
      | some d =>
        obtain⟨q1,q2,q3⟩:=h2 d rfl
        have ih:=eg_ap s l (a+x.length) a none ha (by omega) ho' d1 (fun _=>by omega) (fun d q=>by cases q)
        show sl s p d.f++d.x++ap s d.t (eg (a+x.length) none l)=_
        rw[q3,ih,d2]
    · obtain⟨d1,d2⟩:=drop_x (by decide)
      have en:(news ((45,x) :: l)).flatten=(news l).flatten:=by unfold news;rw[List.filter_cons_of_neg (by simp)]
      rw[y9b_,en]
      cases c with
      | none =>
        have:=h1 rfl
        rw[eg_ap s l (a+x.length) p _ h0 (by omega) ho' d1 (fun q=>by cases q) (fun d q=>by cases q;exact⟨by simp;omega,by simp;omega,rfl⟩)]
        show sl s p a++[]++_=_
        rw[List.append_nil]
      | some d =>
        obtain⟨q1,q2,q3⟩:=h2 d rfl
        rw[eg_ap s l (a+x.length) p _ h0 (by omega) ho' d1 (fun q=>by cases q) (fun d' q=>by cases q;exact⟨q1,by simp;omega,rfl⟩)]
        rfl
    · have eo:(olds ((43,x) :: l)).flatten=(olds l).flatten:=by unfold olds;rw[List.filter_cons_of_neg (by simp)]
      rw[eo] at hs
      rw[yac_ a c 43 x l (by decide) (by decide),yVb_ (by decide)]
      cases c with
      | none =>
        have:=h1 rfl
        rw[eg_ap s l a p _ h0 ha ho' hs (fun q=>by cases q) (fun d q=>by cases q;exact⟨by simp;omega,Int.le_refl _,rfl⟩)]
        show sl s p a++([]++x)++_=_
        rw[List.nil_append,List.append_assoc]
      | some d =>
        obtain⟨q1,q2,q3⟩:=h2 d rfl
        rw[eg_ap s l a p _ h0 ha ho' hs (fun q=>by cases q) (fun d' q=>by cases q;exact⟨q1,q2,q3⟩)]
        show sl s p d.f++(d.x++x)++_=_
        simp only[List.append_assoc]
/-- edits with at least a byte between -/
def Apart (n:Int):Int→List Ed→Prop
  | p,[]=>p≤n+1
  | p,e :: l=>p≤e.f∧e.f≤e.t∧e.t≤n∧Apart n (e.t+1) l
theorem y1b_ {n:Int} {l:List Ed} {p q:Int} (h:Apart n p l) (k:q≤p):Apart n q l:=by
  cases l with
  | nil=>exact Int.le_trans k h
  | cons e l=>exact⟨by have:=h.1;omega,h.2⟩
theorem apart_cons {n p:Int} {d:Ed} {l:List Ed} (h1:p≤d.f) (h2:d.f≤d.t) (h3:d.t≤n) (h:Apart n (d.t+1) l):Apart n p (d :: l):=⟨h1,h2,h3,h⟩
theorem ybc_ (n:Int):∀ (l:List St) (a p:Int) (c:Option Ed),(∀ x∈l,(x.1=32∨x.1=45∨x.1=43)∧x.2≠[])→a+(olds l).flatten.length=n →
    (c=none→p≤a)→(∀ d,c=some d→p≤d.f∧d.f≤d.t∧d.t=a)→Apart n p (eg a c l)
  | [],a,p,none,ho,hs,h1,h2=>by
    have:=h1 rfl
    have e:((olds ([]:List St)).flatten.length:Int)=0:=rfl
    show p≤n+1
    omega
  | [],a,p,some d,ho,hs,h1,h2=>by
    obtain⟨q1,q2,q3⟩:=h2 d rfl
    have e:((olds ([]:List St)).flatten.length:Int)=0:=rfl
    exact⟨q1,q2,by omega,show d.t+1≤n+1 by omega⟩
  | (o,x) :: l,a,p,c,ho,hs,h1,h2=>by
    have hoh:=ho (o,x) List.mem_cons_self
    have hx:0 < x.length:=List.length_pos_iff.2 hoh.2
    have ho':∀ x∈l,(x.1=32∨x.1=45∨x.1=43)∧x.2≠[]:=fun y m=>ho y (List.mem_cons_of_mem _ m)
    have old_x:o≠43→(a+x.length)+(olds l).flatten.length=n:=by
      intro k
      have e:(olds ((o,x) :: l)).flatten=x++(olds l).flatten:=by
        unfold olds
        rw[List.filter_cons_of_pos (by simpa using k),List.map_cons,List.flatten_cons]
      rw[e,List.length_append] at hs;omega
    rcases hoh.1 with e|e|e <;> (replace e:o=_:=e;subst e)
    · have d1:=old_x (by decide)
      rw[y8b_]
      cases c with
      | none=>exact ybc_ n l (a+x.length) p none ho' d1 (fun _=>by have:=h1 rfl;omega) (fun d q=>by cases q)
      | some d =>
        obtain⟨q1,q2,q3⟩:=h2 d rfl
        exact apart_cons q1 q2 (by omega) (ybc_ n l (a+x.length) _ none ho' d1 (fun _=>by omega) (fun d q=>by cases q))
    · have d1:=old_x (by decide)
      rw[y9b_]
      cases c with
      | none =>
        have:=h1 rfl
        exact ybc_ n l _ p _ ho' d1 (fun q=>by cases q) (fun d q=>by cases q;exact⟨by simp;omega,by simp;omega,rfl⟩)
      | some d =>
        obtain⟨q1,q2,q3⟩:=h2 d rfl
        exact ybc_ n l _ p _ ho' d1 (fun q=>by cases q) (fun d' q=>by cases q;exact⟨q1,by simp;omega,rfl⟩)
    · have eo:(olds ((43,x) :: l)).flatten=(olds l).flatten:=by unfold olds;rw[List.filter_cons_of_neg (by simp)]
      rw[eo] at hs
      rw[yac_ a c 43 x l (by decide) (by decide)]
      cases c with
      | none =>
        have:=h1 rfl
        exact ybc_ n l _ p _ ho' hs (fun q=>by cases q) (fun d q=>by cases q;exact⟨by simp;omega,Int.le_refl _,rfl⟩)
      | some d =>
        obtain⟨q1,q2,q3⟩:=h2 d rfl
        exact ybc_ n l _ p _ ho' hs (fun q=>by cases q) (fun d' q=>by cases q;exact⟨q1,q2,q3⟩)
/-- the edits from a text to another one -/
def edits (a b:List UInt8):List Ed:=eg 0 none (stp (lines a) (lines b))
theorem edits_apart (a b:List UInt8):Apart a.length 0 (edits a b):=by
  have h:=stp_op _ (lines a) (lines b) (Nat.le_refl _)
  have ho:=(stp_olds _ (lines a) (lines b) (Nat.le_refl _)).1
  refine ybc_ _ _ 0 0 none (fun x hx=>⟨(h x hx).1,?_⟩) (by rw[ho,y6_];omega) (fun _=>Int.le_refl _) (fun d q=>by cases q)
  rcases (h x hx).2 with k|k
  · exact lines_ne a _ k
  · exact lines_ne b _ k
theorem edits_ap (a b:List UInt8):ap a 0 (edits a b)=b:=by
  have h:=stp_op _ (lines a) (lines b) (Nat.le_refl _)
  have ho:=stp_olds _ (lines a) (lines b) (Nat.le_refl _)
  have:=eg_ap a (stp (lines a) (lines b)) 0 0 none (Int.le_refl _) (Int.le_refl _) (fun x hx=>(h x hx).1) (by rw[ho.1,y6_];rfl) (fun _=>Int.le_refl _) (fun d q=>by cases q)
  unfold edits
  rw[this,ho.2,y6_]
  show sl a 0 0++b=b
  rw[sl_same];rfl
end Go.Proofs.YthimblhfjfngiaaGreat.Tx

namespace Go.Proofs.YthimblhfjfngiaaGreat.Tx
/-- a line that ends -/
def Ln (x:List UInt8):Prop:=∃ a:List UInt8,(10:UInt8) ∉ a∧x=a++[10]
/-- lines, of which the last one may lack its end -/
def Lns:List (List UInt8)→Prop
  | []=>True
  | x :: l=>(Ln x∧Lns l)∨(l=[]∧(10:UInt8) ∉ x∧x≠[])
def AllLn (l:List (List UInt8)):Prop:=∀ x∈l,Ln x
theorem lgo_lns:∀ (s cur:List UInt8),(10:UInt8) ∉ cur→Lns (lgo cur s)
  | [],cur,h=>by
    unfold lgo
    by_cases c:cur=[]
    · rw[if_pos c];trivial
    rw[if_neg c];exact Or.inr ⟨rfl,h,c⟩
  | c :: r,cur,h=>by
    unfold lgo
    by_cases q:c=10
    · rw[if_pos q];subst q;exact Or.inl ⟨⟨cur,h,rfl⟩,lgo_lns r [] (by simp)⟩
    rw[if_neg q]
    refine lgo_lns r _ fun m=>?_
    rcases List.mem_append.1 m with m|m
    · exact h m
    · exact q (List.mem_singleton.1 m).symm
theorem y2b_ (s:List UInt8):Lns (lines s):=lgo_lns s [] (by simp)
theorem lines_of_lns:∀ {L:List (List UInt8)},Lns L→lines L.flatten=L
  | [],_=>rfl
  | x :: l,h=>by
    rcases h with ⟨⟨a,ha,rfl⟩,hl⟩|⟨rfl,hx,hn⟩
    · have e:(((a++[10]) :: l).flatten:List UInt8)=a++10 :: l.flatten:=by simp
      unfold lines
      rw[e,lgo_line a [] _ ha,List.nil_append]
      exact congrArg (_ :: ·) (lines_of_lns hl)
    · have e:([x].flatten:List UInt8)=x:=by simp
      unfold lines
      rw[e,lgo_last x [] hx,List.nil_append,if_neg hn]
theorem lns_ne:∀ {L:List (List UInt8)},Lns L→∀ x∈L,x≠[]
  | [],_,_,m=>by cases m
  | y :: l,h,x,m=>by
    rcases h with ⟨⟨a,ha,rfl⟩,hl⟩|⟨rfl,hx,hn⟩
    · rcases List.mem_cons.1 m with rfl|m
      · simp
      · exact lns_ne hl x m
    · rw[List.mem_singleton.1 m];exact hn
theorem lns_app {A B:List (List UInt8)} (hA:AllLn A) (hB:Lns B):Lns (A++B):=by
  induction A with
  | nil=>exact hB
  | cons x l ih=>exact Or.inl ⟨hA x List.mem_cons_self,ih fun y m=>hA y (List.mem_cons_of_mem _ m)⟩
theorem allLn_app {A B:List (List UInt8)} (hA:AllLn A) (hB:AllLn B):AllLn (A++B):=fun x m=>by
  rcases List.mem_append.1 m with m|m
  · exact hA x m
  · exact hB x m
theorem yHb_:∀ {A B:List (List UInt8)},Lns (A++B)→Lns A∧Lns B∧(B=[]∨AllLn A)
  | [],B,h=>⟨trivial,h,Or.inr fun _ m=>by cases m⟩
  | x :: A,B,h=>by
    rcases h with ⟨hx,hl⟩|⟨hl,hx,hn⟩
    · obtain⟨q1,q2,q3⟩:=yHb_ hl
      refine⟨Or.inl ⟨hx,q1⟩,q2,?_⟩
      rcases q3 with q3|q3
      · exact Or.inl q3
      · refine Or.inr fun y m=>?_
        rcases List.mem_cons.1 m with rfl|m
        · exact hx
        · exact q3 y m
    · obtain⟨rfl,rfl⟩:=List.append_eq_nil_iff.1 hl
      exact⟨Or.inr ⟨rfl,hx,hn⟩,trivial,Or.inl rfl⟩
/-- an edit that takes whole lines for whole lines -/
def EP (lb la:List (List UInt8)) (d:Ed):Prop :=
  ∃ O D R T:List (List UInt8),lb=O++D++R∧d.f=(O.flatten.length:Int)∧d.t=((O++D).flatten.length:Int)∧d.x=T.flatten∧(∀ x∈T,x∈la)∧Lns T∧(T=[]∨AllLn O)∧(AllLn T∨R=[])
theorem olds_keep (o:UInt8) (x:List UInt8) (l:List St) (h:o≠43):olds ((o,x) :: l)=x :: olds l:=by
  unfold olds
  rw[List.filter_cons_of_pos (by simpa using h),List.map_cons]
theorem olds_come (x:List UInt8) (l:List St):olds ((43,x) :: l)=olds l:=by
  unfold olds
  rw[List.filter_cons_of_neg (by simp)]
theorem yVb_ (o:UInt8) (x:List UInt8) (l:List St) (h:o≠45):news ((o,x) :: l)=x :: news l:=by
  unfold news
  rw[List.filter_cons_of_pos (by simpa using h),List.map_cons]
theorem news_gone (x:List UInt8) (l:List St):news ((45,x) :: l)=news l:=by
  unfold news
  rw[List.filter_cons_of_neg (by simp)]
theorem flat_snoc (A:List (List UInt8)) (x:List UInt8):(((A++[x]).flatten.length:Nat):Int)=(A.flatten.length:Int)+(x.length:Int):=by
  rw[List.flatten_append,List.length_append];simp
/-- an edit that is not yet shut -/
def Half (O N:List (List UInt8)) (nw:List (List UInt8)) (d:Ed):Prop :=
  ∃ O0 D N0 T:List (List UInt8),O=O0++D∧N=N0++T∧d.f=(O0.flatten.length:Int)∧d.t=(O.flatten.length:Int)∧d.x=T.flatten∧(AllLn O0∨T++nw=[])
theorem half_ep {lb la O N R nw:List (List UInt8)} {d:Ed} (hb:lb=O++R) (ha:la=N++nw) (hl:Lns la) (h:Half O N nw d) (hR:R=[]∨nw≠[]):EP lb la d:=by
  obtain⟨O0,D,N0,T,rfl,rfl,h1,h2,h3,h4⟩:=h
  rw[ha] at hl
  have hs:=yHb_ hl
  have hT:=yHb_ hs.1
  have hT2:AllLn T∨R=[]:=by
    rcases hR with e|e
    · exact Or.inr e
    · rcases hs.2.2 with q|q
      · exact absurd q e
      · exact Or.inl fun x m=>q x (List.mem_append_right _ m)
  refine⟨O0,D,R,T,hb,h1,h2,h3,fun x m=>?_,hT.2.1,?_,hT2⟩
  · rw[ha];exact List.mem_append_left _ (List.mem_append_right _ m)
  · rcases h4 with q|q
    · exact Or.inr q
    · exact Or.inl (List.append_eq_nil_iff.1 q).1
theorem eg_ep (lb la:List (List UInt8)) (hb:Lns lb) (ha:Lns la):∀ (l:List St) (O N:List (List UInt8)) (c:Option Ed),lb=O++olds l→la=N++news l →
    (∀ x∈l,x.1=32∨x.1=45∨x.1=43)→(c=none→AllLn O∨news l=[])→(∀ d,c=some d→Half O N (news l) d)→∀ e∈eg (O.flatten.length:Int) c l,EP lb la e
  | [],O,N,none,e1,e2,ho,h1,h2,e,m=>by cases m
  | [],O,N,some d,e1,e2,ho,h1,h2,e,m=>by
    rw[show eg (O.flatten.length:Int) (some d) []=[d] from rfl] at m
    rw[List.mem_singleton.1 m]
    exact half_ep e1 e2 ha (h2 d rfl) (Or.inl rfl)
  | (o,x) :: l,O,N,c,e1,e2,ho,h1,h2,e,m=>by
    have hoh:=ho (o,x) List.mem_cons_self
    have ho':∀ x∈l,x.1=32∨x.1=45∨x.1=43:=fun y m=>ho y (List.mem_cons_of_mem _ m)
    rcases hoh with q|q|q <;> (replace q:o=_:=q;subst q)
    · rw[olds_keep _ _ _ (by decide)] at e1
      rw[yVb_ _ _ _ (by decide)] at e2 h1 h2
      rw[y8b_,← flat_snoc] at m
      have e1':lb=(O++[x])++olds l:=by rw[e1,List.append_assoc,List.singleton_append]
      have e2':la=(N++[x])++news l:=by rw[e2,List.append_assoc,List.singleton_append]
      rcases List.mem_append.1 m with m|m
      · cases c with
        | none=>cases m
        | some d =>
          rw[show (some d).toList=[d] from rfl] at m
          rw[List.mem_singleton.1 m]
          exact half_ep e1 e2 ha (h2 d rfl) (Or.inr (by simp))
      · refine eg_ep lb la hb ha l (O++[x]) (N++[x]) none e1' e2' ho' (fun _=>?_) (fun d q=>by cases q) e m
        by_cases z:news l=[]
        · exact Or.inr z
        have ha':=ha
        have hb':=hb
        rw[e2'] at ha'
        rw[e1] at hb'
        refine Or.inl (allLn_app ?_ ?_)
        · rcases (yHb_ hb').2.2 with q|q
          · cases q
          · exact q
        · rcases (yHb_ ha').2.2 with q|q
          · exact absurd q z
          · exact fun y my=>q y (List.mem_append_right _ my)
    · rw[olds_keep _ _ _ (by decide)] at e1
      rw[news_gone] at e2 h1 h2
      rw[y9b_,← flat_snoc] at m
      have e1':lb=(O++[x])++olds l:=by rw[e1,List.append_assoc,List.singleton_append]
      refine eg_ep lb la hb ha l (O++[x]) N _ e1' e2 ho' (fun q=>by cases q) (fun d q=>?_) e m
      cases q
      cases c with
      | none=>exact⟨O,[x],N,[],rfl,(List.append_nil N).symm,rfl,rfl,rfl,h1 rfl⟩
      | some d =>
        obtain⟨O0,D,N0,T,q1,q2,q3,q4,q5,q6⟩:=h2 d rfl
        exact⟨O0,D++[x],N0,T,by rw[q1,List.append_assoc],q2,q3,rfl,q5,q6⟩
    · rw[olds_come] at e1
      rw[yVb_ _ _ _ (by decide)] at e2 h1 h2
      rw[yac_ _ _ _ _ _ (by decide) (by decide)] at m
      have e2':la=(N++[x])++news l:=by rw[e2,List.append_assoc,List.singleton_append]
      refine eg_ep lb la hb ha l O (N++[x]) _ e1 e2' ho' (fun q=>by cases q) (fun d q=>?_) e m
      cases q
      cases c with
      | none =>
        refine⟨O,[],N,[x],(List.append_nil O).symm,rfl,rfl,rfl,by simp,?_⟩
        rcases h1 rfl with q|q
        · exact Or.inl q
        · cases q
      | some d =>
        obtain⟨O0,D,N0,T,q1,q2,q3,q4,q5,q6⟩:=h2 d rfl
        refine⟨O0,D,N0,T++[x],q1,by rw[q2,List.append_assoc],q3,q4,by show d.x++x=_;rw[q5];simp,?_⟩
        rcases q6 with q|q
        · exact Or.inl q
        · have:=(List.append_eq_nil_iff.1 q).2;cases this
theorem edits_ep (a b:List UInt8):∀ e∈edits a b,EP (lines a) (lines b) e:=by
  have h:=stp_op _ (lines a) (lines b) (Nat.le_refl _)
  have ho:=stp_olds _ (lines a) (lines b) (Nat.le_refl _)
  exact eg_ep (lines a) (lines b) (y2b_ a) (y2b_ b) (stp (lines a) (lines b)) [] [] none ho.1.symm ho.2.symm (fun x hx=>(h x hx).1) (fun _=>Or.inl fun _ m=>by cases m) (fun d q=>by cases q)
theorem flat_zero:∀ {L:List (List UInt8)},(∀ x∈L,x≠[])→L.flatten.length=0→L=[]
  | [],_,_=>rfl
  | x :: l,h,k=>by
    have:=List.length_pos_iff.2 (h x List.mem_cons_self)
    rw[List.flatten_cons,List.length_append] at k;omega
theorem sl_part (P Q X:List (List UInt8)):sl (P++Q++X).flatten (P.flatten.length:Int) ((P++Q).flatten.length:Int)=Q.flatten:=by
  have e1:(P++Q++X).flatten=P.flatten++(Q.flatten++X.flatten):=by simp
  have e2:(P++Q).flatten.length - P.flatten.length=Q.flatten.length:=by rw[List.flatten_append,List.length_append];omega
  unfold sl
  rw[Int.toNat_natCast,Int.toNat_natCast,e1,e2,List.drop_left,List.take_left]
theorem apart_end {n:Int} {l:List Ed} (h:Apart n (n+1) l):l=[]:=by
  cases l with
  | nil=>rfl
  | cons e l=>have:=h.1;have:=h.2.1;have:=h.2.2.1;omega
end Go.Proofs.YthimblhfjfngiaaGreat.Tx

namespace Go.Proofs.YthimblhfjfngiaaGreat.Tx
/-- the bytes before a line -/
def off (L:List (List UInt8)) (i:Nat):Nat:=(L.take i).flatten.length
/-- the first line at or behind a byte -/
def adv:List (List UInt8)→Int→Nat
  | [],_=>0
  | x :: l,n=>if 0 < n then adv l (n - x.length)+1 else 0
theorem off_succ {L:List (List UInt8)} {i:Nat} (h:i < L.length):off L (i+1)=off L i+L[i].length:=by
  unfold off
  rw[List.take_succ_eq_append_getElem h,List.flatten_append,List.length_append];simp
theorem off_all {L:List (List UInt8)} {i:Nat} (h:L.length≤i):off L i=L.flatten.length:=by
  unfold off
  rw[List.take_of_length_le h]
theorem yIb_ {L:List (List UInt8)} {i j:Nat} (h:i≤j):off L i≤off L j:=by
  have e:L.take j=L.take i++(L.drop i).take (j - i):=by
    have:=List.take_add (l:=L) (i:=i) (j:=j - i)
    rwa [show i+(j - i)=j by omega] at this
  unfold off
  rw[e,List.flatten_append,List.length_append];omega
theorem off_lt {L:List (List UInt8)} (hn:∀ x∈L,x≠[]) {i j:Nat} (h:i < j) (hj:j≤L.length):off L i < off L j:=by
  have h1:=off_succ (L:=L) (i:=i) (by omega)
  have h2:=List.length_pos_iff.2 (hn L[i] (List.getElem_mem (by omega)))
  have h3:=yIb_ (L:=L) (show i+1≤j by omega)
  omega
theorem off_pre (O X:List (List UInt8)):off (O++X) O.length=O.flatten.length:=by
  unfold off
  rw[List.take_left]
theorem adv_at:∀ (L:List (List UInt8)) (_:∀ x∈L,x≠[]) (i:Nat),i≤L.length→adv L (off L i:Int)=i
  | [],_,i,hi=>by
    have:i=0:=by simpa using hi
    subst this;rfl
  | x :: l,hn,0,_=>by
    show (if (0:Int) < ((off (x :: l) 0:Nat):Int) then _ else 0)=0
    rw[if_neg]
    unfold off;simp
  | x :: l,hn,i+1,hi=>by
    have hx:=List.length_pos_iff.2 (hn x List.mem_cons_self)
    have e:off (x :: l) (i+1)=x.length+off l i:=by unfold off;simp
    rw[e]
    show (if (0:Int) < ((x.length+off l i:Nat):Int) then adv l (((x.length+off l i:Nat):Int) - x.length)+1 else 0)=i+1
    rw[if_pos (by omega),show (((x.length+off l i:Nat):Int) - x.length)=((off l i:Nat):Int) by omega,adv_at l (fun y m=>hn y (List.mem_cons_of_mem _ m)) i (by simpa using hi)]
/-- whose the lines are behind the edits, from a line on -/
def bl (lb:List (List UInt8)) (who:List Int) (k:Int):Nat→List Ed→List Int
  | i,[]=>who.drop i
  | i,e :: M=>(who.drop i).take (adv lb e.f - i)++List.replicate (lines e.x).length k++bl lb who k (adv lb e.t) M
/-- where an edit of whole lines begins and ends -/
theorem ep_ix {lb la:List (List UInt8)} {d:Ed} (hb:Lns lb) (h:EP lb la d):adv lb d.f≤adv lb d.t∧adv lb d.t≤lb.length∧(off lb (adv lb d.f):Int)=d.f∧(off lb (adv lb d.t):Int)=d.t∧((lines d.x).flatten=d.x∧∀ x∈lines d.x,x∈la)∧0≤d.f:=by
  obtain⟨O,D,R,T,rfl,h1,h2,h3,h4,h5,-,-⟩:=h
  have hn:=lns_ne hb
  have a1:adv (O++D++R) d.f=O.length:=by
    have:=adv_at (O++D++R) hn O.length (by simp)
    rw[List.append_assoc,off_pre,← h1,← List.append_assoc] at this
    exact this
  have a2:adv (O++D++R) d.t=(O++D).length:=by
    have:=adv_at (O++D++R) hn (O++D).length (by simp)
    rw[off_pre,← h2] at this
    exact this
  rw[a1,a2]
  refine⟨by simp,by simp,?_,?_,⟨y6_ _,fun x m=>?_⟩,by omega⟩
  · rw[List.append_assoc,off_pre,h1]
  · rw[off_pre,h2]
  · rw[h3,lines_of_lns h5] at m;exact h4 x m
theorem off_inj {L:List (List UInt8)} (hn:∀ x∈L,x≠[]) {i j:Nat} (_:i≤L.length) (h:off L j≤off L i) (hj:j≤L.length):j≤i:=by
  rcases Nat.lt_or_ge i j with q|q
  · have:=off_lt hn q hj;omega
  · exact q
/-- the lines behind the edits, and whose they are: kept ones keep theirs, new ones are k's -/
theorem bl_lines (lb:List (List UInt8)) (hb:Lns lb) (la:List (List UInt8)) (who:List Int) (k:Int) (hw:who.length=lb.length) (G:List UInt8→Int→Prop) (hG:∀ i,∀ h:i < lb.length,G lb[i] (who[i]'(by omega))) (hk:∀ x∈la,G x k) :
    ∀ (M:List Ed) (i:Nat),i≤lb.length→Apart (lb.flatten.length:Int) (off lb i:Int) M→(∀ e∈M,EP lb la e) →
    ∃ L,Lns L∧L.flatten=ap lb.flatten (off lb i:Int) M∧L.length=(bl lb who k i M).length∧∀ j,∀ h:j < L.length,∀ h':j < (bl lb who k i M).length,G L[j] (bl lb who k i M)[j]
  | [],i,hi,_,_=>by
    refine⟨lb.drop i,?_,?_,by simp [bl,hw],fun j h h'=>?_⟩
    · have:=hb
      rw[← List.take_append_drop i lb] at this
      exact (yHb_ this).2.1
    · show _=lb.flatten.drop _
      have e:lb.flatten=(lb.take i).flatten++(lb.drop i).flatten:=by rw[← List.flatten_append,List.take_append_drop]
      rw[Int.toNat_natCast]
      unfold off
      rw[e,List.drop_left]
    · simp only[bl,List.getElem_drop]
      rw[List.length_drop] at h
      exact hG (i+j) (by omega)
  | d :: M,i,hi,hA,hE=>by
    have hd:=hE d List.mem_cons_self
    obtain⟨x1,x2,x3,x4,x5,-⟩:=ep_ix hb hd
    have hf:=hA.1
    have hn:=lns_ne hb
    have hif:i≤adv lb d.f:=off_inj hn (by omega) (by omega) hi
    obtain⟨L,l1,l2,l3,l4⟩:=bl_lines lb hb la who k hw G hG hk M (adv lb d.t) x2 (by rw[x4];exact y1b_ hA.2.2.2 (by omega)) (fun e m=>hE e (List.mem_cons_of_mem _ m))
    rw[x4] at l2
    obtain⟨O,D,R,T,q1,q2,q3,q4,q5,q6,q7,q8⟩:=hd
    have hT:lines d.x=T:=by rw[q4,lines_of_lns q6]
    -- the lines that stand before the edit
    have a1:adv lb d.f=O.length:=by
      have:=adv_at lb hn O.length (by rw[q1];simp)
      rw[show off lb O.length=O.flatten.length by rw[q1,List.append_assoc,off_pre],← q2] at this
      exact this
    have hO:O=lb.take i++(O.drop i):=by
      have e:lb.take i=O.take i:=by rw[q1,List.append_assoc,List.take_append_of_le_length (by omega)]
      rw[e,List.take_append_drop]
    have hQ:O.drop i=(lb.drop i).take (adv lb d.f - i):=by
      rw[a1,q1,List.append_assoc,List.drop_append_of_le_length (by omega),List.take_append_of_le_length (by rw[List.length_drop];omega),List.take_of_length_le (by rw[List.length_drop];omega)]
    have hsl:sl lb.flatten (off lb i:Int) d.f=(O.drop i).flatten:=by
      have e1:lb=lb.take i++O.drop i++(D++R):=by rw[← hO,← List.append_assoc];exact q1
      have:=sl_part (lb.take i) (O.drop i) (D++R)
      rw[← e1,← hO,← q2] at this
      exact this
    have hap:ap lb.flatten (off lb i:Int) (d :: M)=(O.drop i).flatten++T.flatten++ap lb.flatten d.t M:=by
      show sl _ _ d.f++d.x++_=_
      rw[hsl,q4]
    have hb1:=hb
    rw[q1] at hb1
    have hall:Lns (O.drop i++T++L):=by
      by_cases hR:R=[]
      rotate_left
      · have hTl:AllLn T:=by
          rcases q8 with z|z
          · exact z
          · exact absurd z hR
        have hOl:AllLn O:=by
          rcases (yHb_ hb1).2.2 with z|z
          · exact absurd z hR
          · exact fun x m=>z x (List.mem_append_left _ m)
        exact lns_app (allLn_app (fun x m=>hOl x (List.mem_of_mem_drop m)) hTl) l1
      subst hR
      have hn2:(lb.flatten.length:Int)=d.t:=by rw[q3,q1,List.append_nil]
      have hM:M=[]:=by have:=hA.2.2.2;rw[← hn2] at this;exact apart_end this
      have hL:L=[]:=by
        refine flat_zero (lns_ne l1) ?_
        rw[l2,hM]
        show (lb.flatten.drop d.t.toNat).length=0
        rw[← hn2,Int.toNat_natCast,List.drop_length];rfl
      rw[hL,List.append_nil]
      rcases q7 with z|z
      · subst z
        rw[List.append_nil]
        rw[List.append_nil,hO,List.append_assoc] at hb1
        exact (yHb_ (yHb_ hb1).2.1).1
      · exact lns_app (fun x m=>z x (List.mem_of_mem_drop m)) q6
    have hbl:bl lb who k i (d :: M)=(who.drop i).take (adv lb d.f - i)++List.replicate T.length k++bl lb who k (adv lb d.t) M:=by
      rw[← hT];rfl
    have lq:(O.drop i).length=((who.drop i).take (adv lb d.f - i)).length:=by
      rw[hQ];simp only[List.length_take,List.length_drop,hw]
    have key:∀ (X:List (List UInt8)) (Y:List Int),(∀ j,∀ h:j < X.length,∀ h':j < Y.length,G X[j] Y[j])→X.length=Y.length→∀ (X':List (List UInt8)) (Y':List Int),(∀ j,∀ h:j < X'.length,∀ h':j < Y'.length,G X'[j] Y'[j])→X'.length=Y'.length →
        (∀ j,∀ h:j < (X++X').length,∀ h':j < (Y++Y').length,G (X++X')[j] (Y++Y')[j]):=by
      intro X Y h1 h2 X' Y' h3 h4 j h h'
      by_cases q:j < X.length
      · rw[List.getElem_append_left q,List.getElem_append_left (by omega)];exact h1 j q (by omega)
      have hx:j - X.length < X'.length:=by rw[List.length_append] at h;omega
      rw[List.getElem_append_right (by omega),List.getElem_append_right (by omega)]
      simp only[← h2]
      exact h3 (j - X.length) hx (by omega)
    refine⟨O.drop i++T++L,hall,?_,?_,?_⟩
    · rw[hap,List.flatten_append,List.flatten_append,l2]
    · rw[hbl];simp only[List.length_append,List.length_replicate,lq,l3]
    · rw[hbl]
      refine key _ _ (key _ _ ?_ lq _ _ ?_ (by simp)) (by rw[List.length_append,List.length_append,lq,List.length_replicate]) _ _ l4 l3
      · intro j h h'
        have e:(O.drop i)[j]=((lb.drop i).take (adv lb d.f - i))[j]'(by rw[← hQ];exact h):=by congr 1
        rw[e,List.getElem_take,List.getElem_take,List.getElem_drop,List.getElem_drop]
        have:j < lb.length - i:=by
          rw[hQ,List.length_take,List.length_drop] at h;omega
        exact hG (i+j) (by omega)
      · intro j h h'
        rw[List.getElem_replicate]
        exact hk _ (q5 _ (List.getElem_mem h))
/-- behind a whole difference: one for each line -/
theorem bl_edits (a b:List UInt8) (who:List Int) (k:Int) (hw:who.length=(lines a).length) (G:List UInt8→Int→Prop) (hG:∀ i,∀ h:i < (lines a).length,G (lines a)[i] (who[i]'(by omega))) (hk:∀ x∈lines b,G x k) :
    (bl (lines a) who k 0 (edits a b)).length=(lines b).length∧∀ j,∀ h:j < (lines b).length,∀ h':j < (bl (lines a) who k 0 (edits a b)).length,G (lines b)[j] (bl (lines a) who k 0 (edits a b))[j]:=by
  have hA:=edits_apart a b
  have h:=bl_lines (lines a) (y2b_ a) (lines b) who k hw G hG hk (edits a b) 0 (Nat.zero_le _) (by rw[y6_];exact hA) (edits_ep a b)
  obtain⟨L,l1,l2,l3,l4⟩:=h
  have e:L=lines b:=by
    rw[← lines_of_lns l1,l2,y6_]
    show lines (ap a 0 (edits a b))=_
    rw[edits_ap]
  subst e
  exact⟨l3.symm,l4⟩
/-- behind one more edit: the line, and whose the lines so far are -/
def blp (lb:List (List UInt8)) (who:List Int) (k:Int) (s:Nat × List Int) (e:Ed):Nat × List Int:=(adv lb e.t,s.2++(who.drop s.1).take (adv lb e.f - s.1)++List.replicate (lines e.x).length k)
theorem bl_app (lb:List (List UInt8)) (who:List Int) (k:Int):∀ (A B:List Ed) (s:Nat × List Int),s.2++bl lb who k s.1 (A++B)=(A.foldl (blp lb who k) s).2++bl lb who k (A.foldl (blp lb who k) s).1 B
  | [],B,s=>rfl
  | e :: A,B,s=>by
    rw[List.foldl_cons,← bl_app lb who k A B (blp lb who k s e)]
    show s.2++((who.drop s.1).take (adv lb e.f - s.1)++List.replicate (lines e.x).length k++bl lb who k (adv lb e.t) (A++B))=(s.2++(who.drop s.1).take (adv lb e.f - s.1)++List.replicate (lines e.x).length k)++bl lb who k (adv lb e.t) (A++B)
    simp only[List.append_assoc]
/-- behind the first edits -/
def blS (lb:List (List UInt8)) (who:List Int) (k:Int) (E:List Ed) (i:Nat):Nat × List Int:=(E.take i).foldl (blp lb who k) (0,[])
theorem blS_succ (lb:List (List UInt8)) (who:List Int) (k:Int) (E:List Ed) (i:Nat) (h:i < E.length):blS lb who k E (i+1)=blp lb who k (blS lb who k E i) E[i]:=by
  unfold blS
  rw[List.take_succ_eq_append_getElem h,List.foldl_append]
  rfl
theorem blS_app (lb:List (List UInt8)) (who:List Int) (k:Int) (E:List Ed) (i:Nat):bl lb who k 0 E=(blS lb who k E i).2++bl lb who k (blS lb who k E i).1 (E.drop i):=by
  have h:=bl_app lb who k (E.take i) (E.drop i) (0,[])
  rw[List.take_append_drop] at h
  exact h
theorem blS_all (lb:List (List UInt8)) (who:List Int) (k:Int) (E:List Ed) (i:Nat) (h:E.length≤i):bl lb who k 0 E=(blS lb who k E i).2++who.drop (blS lb who k E i).1:=by
  rw[blS_app lb who k E i,List.drop_eq_nil_of_le h];rfl
theorem blS_len (lb:List (List UInt8)) (who:List Int) (k:Int) (E:List Ed) (i:Nat):(blS lb who k E i).2.length≤(bl lb who k 0 E).length:=by
  rw[blS_app lb who k E i,List.length_append];omega
theorem fold_line (lb la:List (List UInt8)) (hb:Lns lb) (who:List Int) (k:Int):∀ (M:List Ed) (s:Nat × List Int),s.1≤lb.length→Apart (lb.flatten.length:Int) (off lb s.1:Int) M→(∀ e∈M,EP lb la e) →
    ∀ i,((M.take i).foldl (blp lb who k) s).1≤lb.length∧∀ h:i < M.length,((M.take i).foldl (blp lb who k) s).1≤adv lb M[i].f
  | [],s,hs,_,_,i=>by rw[List.take_nil];exact⟨hs,fun h=>absurd h (Nat.not_lt_zero _)⟩
  | e :: M,s,hs,hA,hE,i=>by
    obtain⟨x1,x2,x3,x4,-,-⟩:=ep_ix hb (hE e List.mem_cons_self)
    have h1:=hA.1
    have h2:=hA.2.1
    cases i with
    | zero=>exact⟨hs,fun _=>(off_inj (i:=adv lb e.f) (lns_ne hb) (by omega) (by omega) hs:s.1≤adv lb e.f)⟩
    | succ i =>
      have ih:=fold_line lb la hb who k M (blp lb who k s e) x2 (by show Apart _ (off lb (adv lb e.t):Int) M;rw[x4];exact y1b_ hA.2.2.2 (by omega)) (fun d m=>hE d (List.mem_cons_of_mem _ m)) i
      rw[List.take_succ_cons,List.foldl_cons]
      exact⟨ih.1,fun h=>ih.2 (by simpa using h)⟩
theorem blS_line (a b:List UInt8) (who:List Int) (k:Int) (i:Nat):(blS (lines a) who k (edits a b) i).1≤(lines a).length∧∀ h:i < (edits a b).length,(blS (lines a) who k (edits a b) i).1≤adv (lines a) (edits a b)[i].f :=
  fold_line (lines a) (lines b) (y2b_ a) who k (edits a b) (0,[]) (Nat.zero_le _) (by rw[y6_];exact edits_apart a b) (edits_ep a b) i
end Go.Proofs.YthimblhfjfngiaaGreat.Tx

namespace Go.Proofs.YthimblhfjfngiaaGreat.Tx
/-- what edits put at a byte -/
def starts (E:List Ed) (k a:Int):List Int:=match E with
  | []=>[]
  | e :: E=>(if e.f=a then List.replicate (lines e.x).length k else [])++starts E k a
def gone (E:List Ed) (a:Int):Bool:=E.any fun e=>decide (e.f≤a) && decide (a < e.t)
def mv (E:List Ed) (k:Int):List (List UInt8)→List Int→Int→List Int
  | [],_,a=>starts E k a
  | x :: l,who,a=>starts E k a++(if gone E a=true then [] else who.take 1)++mv E k l (who.drop 1) (a+x.length)
theorem y3b_ (k a:Int):∀ (A B:List Ed),starts (A++B) k a=starts A k a++starts B k a
  | [],B=>rfl
  | e :: A,B=>by
    show _++starts (A++B) k a=(_++starts A k a)++starts B k a
    rw[y3b_ k a A B,List.append_assoc]
theorem yCb_ {k a:Int}:∀ {E:List Ed},(∀ e∈E,e.f≠a)→starts E k a=[]
  | [],_=>rfl
  | e :: E,h=>by
    show (if e.f=a then _ else [])++starts E k a=[]
    rw[if_neg (h e List.mem_cons_self),yCb_ fun d m=>h d (List.mem_cons_of_mem _ m)];rfl
theorem gone_no {E:List Ed} {a:Int} (h:∀ e∈E,¬ (e.f≤a∧a < e.t)):gone E a=false:=by
  unfold gone
  rw[List.any_eq_false]
  intro e m
  rw[Bool.and_eq_true,decide_eq_true_eq,decide_eq_true_eq]
  exact h e m
theorem gone_yes {E:List Ed} {a:Int} {e:Ed} (m:e∈E) (h1:e.f≤a) (h2:a < e.t):gone E a=true:=by
  unfold gone
  rw[List.any_eq_true]
  exact⟨e,m,by rw[Bool.and_eq_true,decide_eq_true_eq,decide_eq_true_eq];exact⟨h1,h2⟩⟩
theorem yQb_ {n:Int}:∀ {l:List Ed} {p:Int},Apart n p l→∀ e∈l,p≤e.f∧e.f≤e.t
  | [],_,_,e,m=>by cases m
  | d :: l,p,h,e,m=>by
    rcases List.mem_cons.1 m with rfl|m
    · exact⟨h.1,h.2.1⟩
    · have:=yQb_ h.2.2.2 e m
      have h1:=h.1;have h2:=h.2.1
      exact⟨by omega,this.2⟩
theorem mv_bl (lb la:List (List UInt8)) (hb:Lns lb) (who:List Int) (k:Int) (hw:who.length=lb.length) (E:List Ed) (hE:∀ e∈E,EP lb la e):∀ (d i:Nat),lb.length - i=d→i≤lb.length →
    (∀ P M,E=P++M→(∀ p∈P,p.f < (off lb i:Int)∧p.t≤(off lb i:Int))→Apart (lb.flatten.length:Int) (off lb i:Int) M→mv E k (lb.drop i) (who.drop i) (off lb i:Int)=bl lb who k i M) ∧
    (∀ P e M,E=P++e :: M→(∀ p∈P,p.f < (off lb i:Int)∧p.t≤(off lb i:Int))→e.f < (off lb i:Int)→(off lb i:Int)≤e.t→Apart (lb.flatten.length:Int) (e.t+1) M→mv E k (lb.drop i) (who.drop i) (off lb i:Int)=bl lb who k (adv lb e.t) M):=by
  have hn:=lns_ne hb
  intro d
  induction d with
  | zero =>
    intro i hd hi
    have hil:i=lb.length:=by omega
    subst hil
    have hoff:off lb lb.length=lb.flatten.length:=off_all (Nat.le_refl _)
    have T1:∀ P M,E=P++M→(∀ p∈P,p.f < (off lb lb.length:Int)∧p.t≤(off lb lb.length:Int))→Apart (lb.flatten.length:Int) (off lb lb.length:Int) M→mv E k (lb.drop lb.length) (who.drop lb.length) (off lb lb.length:Int)=bl lb who k lb.length M:=by
      intro P M e hP hA
      have h0:mv E k (lb.drop lb.length) (who.drop lb.length) (off lb lb.length:Int)=starts E k (off lb lb.length:Int):=by rw[List.drop_length];rfl
      rw[h0,e,y3b_,yCb_ (E:=P) (fun p m=>by have:=(hP p m).1;omega),List.nil_append]
      cases M with
      | nil=>show []=who.drop lb.length;rw[← hw,List.drop_length]
      | cons x M =>
        have hm:x∈E:=by rw[e];simp
        obtain⟨x1,x2,x3,x4,-,-⟩:=ep_ix hb (hE x hm)
        have a1:=hA.1
        have a2:=hA.2.1
        have a3:=hA.2.2.1
        have a4:=hA.2.2.2
        rw[hoff] at a1
        have hM:M=[]:=apart_end (y1b_ a4 (by omega))
        subst hM
        have hf:x.f=(off lb lb.length:Int):=by rw[hoff];omega
        have hat:adv lb x.t=lb.length:=by
          have ht:x.t=(off lb lb.length:Int):=by rw[hoff];omega
          rw[ht];exact adv_at lb hn lb.length (Nat.le_refl _)
        show (if x.f=_ then List.replicate (lines x.x).length k else [])++[]=(who.drop lb.length).take _++List.replicate (lines x.x).length k++who.drop (adv lb x.t)
        rw[if_pos hf,hat,← hw,List.drop_length]
        simp
    refine⟨T1,fun P e M eE hP hf ht hA=>?_⟩
    have hm:e∈E:=by rw[eE];simp
    obtain⟨x1,x2,x3,x4,-,-⟩:=ep_ix hb (hE e hm)
    have hte:e.t=(off lb lb.length:Int):=by
      have h:=yIb_ (L:=lb) x2
      omega
    have hat:adv lb e.t=lb.length:=by rw[hte];exact adv_at lb hn lb.length (Nat.le_refl _)
    rw[hat]
    exact T1 (P++[e]) M (by rw[eE];simp) (fun p m=>by
      rcases List.mem_append.1 m with m|m
      · exact hP p m
      · rw[List.mem_singleton.1 m];omega) (y1b_ hA (by omega))
  | succ d ih =>
    intro i hd hi
    have hil:i < lb.length:=by omega
    obtain⟨I1,I2⟩:=ih (i+1) (by omega) (by omega)
    have hos:=off_succ (L:=lb) hil
    have hpos:=List.length_pos_iff.2 (hn lb[i] (List.getElem_mem hil))
    have hstep:mv E k (lb.drop i) (who.drop i) (off lb i:Int)=starts E k (off lb i:Int)++(if gone E (off lb i:Int)=true then [] else (who.drop i).take 1)++mv E k (lb.drop (i+1)) (who.drop (i+1)) (off lb (i+1):Int):=by
      rw[List.drop_eq_getElem_cons hil]
      show _++_++mv E k (lb.drop (i+1)) ((who.drop i).drop 1) ((off lb i:Int)+(lb[i].length:Int))=_
      rw[List.drop_drop,show (off lb i:Int)+(lb[i].length:Int)=((off lb (i+1):Nat):Int) by omega]
    have hwi:who.drop i=who[i]'(by omega) :: who.drop (i+1):=List.drop_eq_getElem_cons (by omega)
    have ht1:(who.drop i).take 1=[who[i]'(by omega)]:=by rw[hwi];rfl
    -- a line that no edit meets
    have hbl:∀ M,(∀ x∈M,EP lb la x)→Apart (lb.flatten.length:Int) ((off lb i:Int)+1) M→bl lb who k i M=who[i]'(by omega) :: bl lb who k (i+1) M∧Apart (lb.flatten.length:Int) (off lb (i+1):Int) M:=by
      intro M hM hA
      cases M with
      | nil=>exact⟨hwi,by show _≤_;have:=yIb_ (L:=lb) (show i+1≤lb.length by omega);have h2:=off_all (L:=lb) (Nat.le_refl _);omega⟩
      | cons x M =>
        obtain⟨x1,x2,x3,x4,-,-⟩:=ep_ix hb (hM x List.mem_cons_self)
        have a1:=hA.1
        have hlt:i < adv lb x.f:=by
          rcases Nat.lt_or_ge i (adv lb x.f) with q|q
          · exact q
          · have:=yIb_ (L:=lb) q;omega
        have hof:=yIb_ (L:=lb) (show i+1≤adv lb x.f from hlt)
        refine⟨?_,⟨by omega,hA.2⟩⟩
        show (who.drop i).take (adv lb x.f - i)++List.replicate _ k++bl lb who k (adv lb x.t) M=who[i]'(by omega) :: ((who.drop (i+1)).take (adv lb x.f - (i+1))++List.replicate _ k++bl lb who k (adv lb x.t) M)
        rw[hwi,show adv lb x.f - i=(adv lb x.f - (i+1))+1 by omega,List.take_succ_cons]
        rfl
    have T1:∀ P M,E=P++M→(∀ p∈P,p.f < (off lb i:Int)∧p.t≤(off lb i:Int))→Apart (lb.flatten.length:Int) (off lb i:Int) M→mv E k (lb.drop i) (who.drop i) (off lb i:Int)=bl lb who k i M:=by
      intro P M e hP hA
      have hMm:∀ x∈M,EP lb la x:=fun x m=>hE x (by rw[e];exact List.mem_append_right _ m)
      have hsP:starts P k (off lb i:Int)=[]:=yCb_ fun p m=>by have:=(hP p m).1;omega
      have hP':∀ p∈P,p.f < (off lb (i+1):Int)∧p.t≤(off lb (i+1):Int):=fun p m=>by have:=hP p m;omega
      by_cases hq:Apart (lb.flatten.length:Int) ((off lb i:Int)+1) M
      · obtain⟨b1,b2⟩:=hbl M hMm hq
        have hs:starts E k (off lb i:Int)=[]:=by
          rw[e,y3b_,hsP,yCb_ fun x m=>by have:=(yQb_ hq x m).1;omega];rfl
        have hg:gone E (off lb i:Int)=false:=gone_no fun x m=>by
          rw[e] at m
          rcases List.mem_append.1 m with m|m
          · have:=hP x m;omega
          · have:=(yQb_ hq x m).1;omega
        rw[hstep,hs,hg,I1 P M e hP' b2,b1,ht1];rfl
      cases M with
      | nil =>
        refine absurd ?_ hq
        show _≤_
        have:=yIb_ (L:=lb) (show i+1≤lb.length by omega);have h2:=off_all (L:=lb) (Nat.le_refl _);omega
      | cons x M =>
        have a1:=hA.1
        have a2:=hA.2.1
        have a3:=hA.2.2.1
        have a4:=hA.2.2.2
        have hf:x.f=(off lb i:Int):=by
          rcases Int.lt_or_le (off lb i:Int) x.f with q|q
          · exact absurd (⟨by omega,hA.2⟩:Apart (lb.flatten.length:Int) ((off lb i:Int)+1) (x :: M)) hq
          · omega
        obtain⟨x1,x2,x3,x4,-,-⟩:=ep_ix hb (hMm x List.mem_cons_self)
        have haf:adv lb x.f=i:=by rw[hf];exact adv_at lb hn i hi
        have hs:starts E k (off lb i:Int)=List.replicate (lines x.x).length k:=by
          rw[e,y3b_,hsP]
          show []++((if x.f=_ then _ else [])++starts M k _)=_
          rw[if_pos hf,yCb_ fun y m=>by have:=(yQb_ a4 y m).1;omega];simp
        have hblx:bl lb who k i (x :: M)=List.replicate (lines x.x).length k++bl lb who k (adv lb x.t) M:=by
          show (who.drop i).take (adv lb x.f - i)++List.replicate _ k++bl lb who k (adv lb x.t) M=_
          rw[haf,Nat.sub_self,List.take_zero,List.nil_append]
        by_cases ht:x.t=(off lb i:Int)
        rotate_left
        · have hg:gone E (off lb i:Int)=true:=gone_yes (e:=x) (by rw[e];simp) (by omega) (by omega)
          have hlt:i < adv lb x.t:=by
            rcases Nat.lt_or_ge i (adv lb x.t) with q|q
            · exact q
            · have:=yIb_ (L:=lb) q;omega
          have hof:=yIb_ (L:=lb) (show i+1≤adv lb x.t from hlt)
          rw[hstep,hs,hg,I2 P x M e hP' (by omega) (by omega) a4,hblx]
          simp
        have hat:adv lb x.t=i:=by rw[ht];exact adv_at lb hn i hi
        obtain⟨b1,b2⟩:=hbl M (fun y m=>hMm y (List.mem_cons_of_mem _ m)) (by rw[← ht];exact a4)
        have hg:gone E (off lb i:Int)=false:=gone_no fun y m=>by
          rw[e] at m
          rcases List.mem_append.1 m with m|m
          · have:=hP y m;omega
          · rcases List.mem_cons.1 m with rfl|m
            · omega
            · have:=(yQb_ a4 y m).1;omega
        rw[hstep,hs,hg,ht1,I1 (P++[x]) M (by rw[e];simp) (fun p m=>by
          rcases List.mem_append.1 m with m|m
          · exact hP' p m
          · rw[List.mem_singleton.1 m];omega) b2,hblx,hat,b1]
        simp
    refine⟨T1,fun P e M eE hP hf ht hA=>?_⟩
    have hm:e∈E:=by rw[eE];simp
    obtain⟨x1,x2,x3,x4,-,-⟩:=ep_ix hb (hE e hm)
    by_cases hte:e.t=(off lb i:Int)
    · have hat:adv lb e.t=i:=by rw[hte];exact adv_at lb hn i hi
      rw[hat]
      exact T1 (P++[e]) M (by rw[eE];simp) (fun p m=>by
        rcases List.mem_append.1 m with m|m
        · exact hP p m
        · rw[List.mem_singleton.1 m];omega) (y1b_ hA (by omega))
    have hlt:i < adv lb e.t:=by
      rcases Nat.lt_or_ge i (adv lb e.t) with q|q
      · exact q
      · have:=yIb_ (L:=lb) q;omega
    have hof:=yIb_ (L:=lb) (show i+1≤adv lb e.t from hlt)
    have hs:starts E k (off lb i:Int)=[]:=by
      rw[eE,y3b_,yCb_ (E:=P) (fun p m=>by have:=(hP p m).1;omega)]
      show []++((if e.f=_ then _ else [])++starts M k _)=_
      rw[if_neg (by omega),yCb_ fun y m=>by have:=(yQb_ hA y m).1;omega];rfl
    have hg:gone E (off lb i:Int)=true:=gone_yes hm (by omega) (by omega)
    rw[hstep,hs,hg,I2 P e M eE (fun p m=>by have:=hP p m;omega) (by omega) (by omega) hA]
    simp
/-- the document's way and the program's give the same -/
theorem mv_edits (a b:List UInt8) (who:List Int) (k:Int) (hw:who.length=(lines a).length):mv (edits a b) k (lines a) who 0=bl (lines a) who k 0 (edits a b):=by
  have h:=(mv_bl (lines a) (lines b) (y2b_ a) who k hw (edits a b) (edits_ep a b) (lines a).length 0 (by omega) (Nat.zero_le _)).1 [] (edits a b) rfl (fun p m=>by cases m) (by rw[y6_];exact edits_apart a b)
  simpa [off] using h
end Go.Proofs.YthimblhfjfngiaaGreat.Tx

namespace Go.Proofs.YthimblhfjfngiaaGreat
theorem bl_lt:∀ (x y:List UInt8),Op.bytesLess x y=decide (x < y)
  | [],[]=>by simp [Op.bytesLess]
  | _ :: _,[]=>by simp [Op.bytesLess]
  | [],_ :: _=>by simp [Op.bytesLess]
  | a :: x,b :: y=>by
    rw[Op.bytesLess,bl_lt x y,Bool.eq_iff_iff]
    simp [List.cons_lt_cons_iff]
theorem bl_ne {x y:List UInt8} (h:Op.bytesLess y x=true):(x == y)=false:=by
  cases q:x == y with
  | false=>rfl
  | true=>rw[eq_of_beq q,bl_lt,decide_eq_true_eq] at h;exact absurd h (List.lt_irrefl _)
theorem bl_eq {x y:List UInt8} (h1:Op.bytesLess x y=false) (h2:Op.bytesLess y x=false):(x == y)=true:=by
  rw[bl_lt] at h1 h2
  exact beq_iff_eq.2 (List.le_antisymm (List.not_lt.1 (of_decide_eq_false h2)) (List.not_lt.1 (of_decide_eq_false h1)))
theorem bl_gtr (x y:List UInt8):(!(Op.bytesLess x y || x == y))=Op.bytesLess y x:=by
  cases h1:Op.bytesLess x y with
  | true =>
    cases h2:Op.bytesLess y x with
    | false=>rfl
    | true=>rw[bl_lt,decide_eq_true_eq] at h1 h2;exact absurd (List.lt_trans h1 h2) (List.lt_irrefl _)
  | false =>
    cases h2:Op.bytesLess y x with
    | false=>rw[bl_eq h1 h2];rfl
    | true=>rw[bl_ne h2];rfl
theorem run_gtr_str (P:Program) (T:TypeId) (x y:ByteArray) (w:World):Sem.run P (binOp .gtr T (.string x) (.string y)) w=.ok (.bool (Op.bytesLess y.toList x.toList)) w:=by
  rw[← bl_gtr]
  simp [binOp,Op.stringOp]
end Go.Proofs.YthimblhfjfngiaaGreat

namespace Go.Proofs.YthimblhfjfngiaaGreat.PText
open Go.RowKit Go.Proofs.YthimblhfjfngiaaGreatW.PrintWords Go.Proofs.YthimblhfjfngiaaGreatW.PrintLast Go.Proofs.YthimblhfjfngiaaGreatW.PrintMore
attribute [local go_sem] yW_ yX_ yab_ ybb_ yO_ yP_ yY_ yZ_   -- for this text's walks alone
set_option linter.unusedVariables false
set_option linter.unusedSimpArgs false

def yQ_.f (a0:ByteArray) (a1:ByteArray):Option (Int):=(cmp_isNaN_string.f a0).bind fun t342=>((cmp_isNaN_string.f a1).bind fun t343=>(if t342=true then (if t343=true then (some 0) else (some (-1))) else (if t343=true then (some 1) else (if (Op.bytesLess a0.toList a1.toList)=true then (some (-1)) else (if (Op.bytesLess a1.toList a0.toList)=true then (some 1) else (some 0))))))
set_option maxHeartbeats 8000000 in
set_option maxRecDepth 100000 in
theorem yQ_.calls (a0:ByteArray) (a1:ByteArray) (r:Int) (w:World) (h:yQ_.f a0 a1=some r) :
  Calls Tryz.prog 46 #[.string a0,.string a1] w fun e w'=>e=.returned (.int .i64 r)∧Drawn0 w w':=by
 have H:((cmp_isNaN_string.f a0).bind fun t342=>((cmp_isNaN_string.f a1).bind fun t343=>(if t342=true then (if t343=true then (some 0) else (some (-1))) else (if t343=true then (some 1) else (if (Op.bytesLess a0.toList a1.toList)=true then (some (-1)) else (if (Op.bytesLess a1.toList a0.toList)=true then (some 1) else (some 0)))))))=some r:=h
 clear h
 replace H:=Option.bind_eq_some_iff.mp H
 obtain⟨t342,A30,H⟩:=H
 replace H:((cmp_isNaN_string.f a1).bind fun t343=>(if t342=true then (if t343=true then (some 0) else (some (-1))) else (if t343=true then (some 1) else (if (Op.bytesLess a0.toList a1.toList)=true then (some (-1)) else (if (Op.bytesLess a1.toList a0.toList)=true then (some 1) else (some 0))))))=some r:=H
 have A3:=Aside0.mk A30
 clear A30
 replace H:=Option.bind_eq_some_iff.mp H
 obtain⟨t343,A40,H⟩:=H
 replace H:(if t342=true then (if t343=true then (some 0) else (some (-1))) else (if t343=true then (some 1) else (if (Op.bytesLess a0.toList a1.toList)=true then (some (-1)) else (if (Op.bytesLess a1.toList a0.toList)=true then (some 1) else (some 0)))))=some r:=H
 have A4:=Aside0.mk A40
 clear A40
 by_cases c5:t342=true
 ·subst c5
  have H1:(if t343=true then (some 0) else (some (-1)))=some r:=by rw[if_pos rfl] at H;exact H
  clear H
  have H:=H1
  clear H1
  by_cases c6:t343=true
  ·subst c6
   have H1:(some 0)=some r:=by rw[if_pos rfl] at H;exact H
   clear H
   have H:=H1
   clear H1
   obtain rfl:=Option.some.inj H
   go_enter Tryz.func46,Tryz.ntmps46
   go_wp2_with (first|((with_reducible refine yy_ (f:=68) rfl ?_);refine goesL_ (some 8) rfl rfl Tryz.func68 (by kernel_rfl) rfl #[.string a0] rfl (by (try simp only[List.map_toArray,List.map_cons,List.map_nil]);first|done|rfl|(simp only[List.length_drop,List.length_take];rfl)) ?_;(with_reducible refine (cmp_isNaN_string.calls a0 true _ A3.out).mono ?_);rintro e w' ⟨rfl,⟨nd,rfl⟩⟩;refine⟨_,rfl,?_⟩)|((with_reducible refine yy_ (f:=68) rfl ?_);refine goesL_ (some 10) rfl rfl Tryz.func68 (by kernel_rfl) rfl #[.string a1] rfl (by (try simp only[List.map_toArray,List.map_cons,List.map_nil]);first|done|rfl|(simp only[List.length_drop,List.length_take];rfl)) ?_;(with_reducible refine (cmp_isNaN_string.calls a1 true _ A4.out).mono ?_);rintro e w' ⟨rfl,⟨nd,rfl⟩⟩;refine⟨_,rfl,?_⟩))
   go_ret
   exact⟨by first|rfl|(simp;done)|(simp [*];done),by repeat (first|exact Drawn0.refl _|apply Drawn0.step)⟩
  replace c6:=Bool.eq_false_iff.mpr c6
  subst c6
  have H1:(some (-1))=some r:=by rw[if_neg (show ¬ (false=true) by decide)] at H;exact H
  clear H
  have H:=H1
  clear H1
  obtain rfl:=Option.some.inj H
  go_enter Tryz.func46,Tryz.ntmps46
  go_wp2_with (first|((with_reducible refine yy_ (f:=68) rfl ?_);refine goesL_ (some 8) rfl rfl Tryz.func68 (by kernel_rfl) rfl #[.string a0] rfl (by (try simp only[List.map_toArray,List.map_cons,List.map_nil]);first|done|rfl|(simp only[List.length_drop,List.length_take];rfl)) ?_;(with_reducible refine (cmp_isNaN_string.calls a0 true _ A3.out).mono ?_);rintro e w' ⟨rfl,⟨nd,rfl⟩⟩;refine⟨_,rfl,?_⟩)|((with_reducible refine yy_ (f:=68) rfl ?_);refine goesL_ (some 10) rfl rfl Tryz.func68 (by kernel_rfl) rfl #[.string a1] rfl (by (try simp only[List.map_toArray,List.map_cons,List.map_nil]);first|done|rfl|(simp only[List.length_drop,List.length_take];rfl)) ?_;(with_reducible refine (cmp_isNaN_string.calls a1 false _ A4.out).mono ?_);rintro e w' ⟨rfl,⟨nd,rfl⟩⟩;refine⟨_,rfl,?_⟩))
  go_ret
  exact⟨by first|rfl|(simp;done)|(simp [*];done),by repeat (first|exact Drawn0.refl _|apply Drawn0.step)⟩
 replace c5:=Bool.eq_false_iff.mpr c5
 subst c5
 have H1:(if t343=true then (some 1) else (if (Op.bytesLess a0.toList a1.toList)=true then (some (-1)) else (if (Op.bytesLess a1.toList a0.toList)=true then (some 1) else (some 0))))=some r:=by rw[if_neg (show ¬ (false=true) by decide)] at H;exact H
 clear H
 have H:=H1
 clear H1
 by_cases c7:t343=true
 ·subst c7
  have H1:(some 1)=some r:=by rw[if_pos rfl] at H;exact H
  clear H
  have H:=H1
  clear H1
  obtain rfl:=Option.some.inj H
  go_enter Tryz.func46,Tryz.ntmps46
  go_wp2_with (first|((with_reducible refine yy_ (f:=68) rfl ?_);refine goesL_ (some 8) rfl rfl Tryz.func68 (by kernel_rfl) rfl #[.string a0] rfl (by (try simp only[List.map_toArray,List.map_cons,List.map_nil]);first|done|rfl|(simp only[List.length_drop,List.length_take];rfl)) ?_;(with_reducible refine (cmp_isNaN_string.calls a0 false _ A3.out).mono ?_);rintro e w' ⟨rfl,⟨nd,rfl⟩⟩;refine⟨_,rfl,?_⟩)|((with_reducible refine yy_ (f:=68) rfl ?_);refine goesL_ (some 10) rfl rfl Tryz.func68 (by kernel_rfl) rfl #[.string a1] rfl (by (try simp only[List.map_toArray,List.map_cons,List.map_nil]);first|done|rfl|(simp only[List.length_drop,List.length_take];rfl)) ?_;(with_reducible refine (cmp_isNaN_string.calls a1 true _ A4.out).mono ?_);rintro e w' ⟨rfl,⟨nd,rfl⟩⟩;refine⟨_,rfl,?_⟩))
  go_ret
  exact⟨by first|rfl|(simp;done)|(simp [*];done),by repeat (first|exact Drawn0.refl _|apply Drawn0.step)⟩
 replace c7:=Bool.eq_false_iff.mpr c7
 subst c7
 have H1:(if (Op.bytesLess a0.toList a1.toList)=true then (some (-1)) else (if (Op.bytesLess a1.toList a0.toList)=true then (some 1) else (some 0)))=some r:=by rw[if_neg (show ¬ (false=true) by decide)] at H;exact H
 clear H
 have H:=H1
 clear H1
 by_cases c8:(Op.bytesLess a0.toList a1.toList)=true
 ·rw[if_pos c8] at H
  have c8b0:(Op.bytesLess a0.toList a1.toList)=true:=c8
  clear c8
  obtain rfl:=Option.some.inj H
  go_enter Tryz.func46,Tryz.ntmps46
  go_wp2_with (first|((with_reducible refine yy_ (f:=68) rfl ?_);refine goesL_ (some 8) rfl rfl Tryz.func68 (by kernel_rfl) rfl #[.string a0] rfl (by (try simp only[List.map_toArray,List.map_cons,List.map_nil]);first|done|rfl|(simp only[List.length_drop,List.length_take];rfl)) ?_;(with_reducible refine (cmp_isNaN_string.calls a0 false _ A3.out).mono ?_);rintro e w' ⟨rfl,⟨nd,rfl⟩⟩;refine⟨_,rfl,?_⟩)|((with_reducible refine yy_ (f:=68) rfl ?_);refine goesL_ (some 10) rfl rfl Tryz.func68 (by kernel_rfl) rfl #[.string a1] rfl (by (try simp only[List.map_toArray,List.map_cons,List.map_nil]);first|done|rfl|(simp only[List.length_drop,List.length_take];rfl)) ?_;(with_reducible refine (cmp_isNaN_string.calls a1 false _ A4.out).mono ?_);rintro e w' ⟨rfl,⟨nd,rfl⟩⟩;refine⟨_,rfl,?_⟩))
  go_ret
  exact⟨by first|rfl|(simp;done)|(simp [*];done),by repeat (first|exact Drawn0.refl _|apply Drawn0.step)⟩
 rw[if_neg c8] at H
 have c8b0:(Op.bytesLess a0.toList a1.toList)=false:=by simpa using c8
 clear c8
 by_cases c9:(Op.bytesLess a1.toList a0.toList)=true
 ·rw[if_pos c9] at H
  have c9b0:(Op.bytesLess a1.toList a0.toList)=true:=c9
  have c9g:=run_gtr_str Tryz.prog 9 a0 a1
  clear c9
  obtain rfl:=Option.some.inj H
  go_enter Tryz.func46,Tryz.ntmps46
  go_wp2_with (first|((with_reducible refine yy_ (f:=68) rfl ?_);refine goesL_ (some 8) rfl rfl Tryz.func68 (by kernel_rfl) rfl #[.string a0] rfl (by (try simp only[List.map_toArray,List.map_cons,List.map_nil]);first|done|rfl|(simp only[List.length_drop,List.length_take];rfl)) ?_;(with_reducible refine (cmp_isNaN_string.calls a0 false _ A3.out).mono ?_);rintro e w' ⟨rfl,⟨nd,rfl⟩⟩;refine⟨_,rfl,?_⟩)|((with_reducible refine yy_ (f:=68) rfl ?_);refine goesL_ (some 10) rfl rfl Tryz.func68 (by kernel_rfl) rfl #[.string a1] rfl (by (try simp only[List.map_toArray,List.map_cons,List.map_nil]);first|done|rfl|(simp only[List.length_drop,List.length_take];rfl)) ?_;(with_reducible refine (cmp_isNaN_string.calls a1 false _ A4.out).mono ?_);rintro e w' ⟨rfl,⟨nd,rfl⟩⟩;refine⟨_,rfl,?_⟩))
  go_ret
  exact⟨by first|rfl|(simp;done)|(simp [*];done),by repeat (first|exact Drawn0.refl _|apply Drawn0.step)⟩
 rw[if_neg c9] at H
 have c9b0:(Op.bytesLess a1.toList a0.toList)=false:=by simpa using c9
 have c9g:=run_gtr_str Tryz.prog 9 a0 a1
 clear c9
 obtain rfl:=Option.some.inj H
 go_enter Tryz.func46,Tryz.ntmps46
 go_wp2_with (first|((with_reducible refine yy_ (f:=68) rfl ?_);refine goesL_ (some 8) rfl rfl Tryz.func68 (by kernel_rfl) rfl #[.string a0] rfl (by (try simp only[List.map_toArray,List.map_cons,List.map_nil]);first|done|rfl|(simp only[List.length_drop,List.length_take];rfl)) ?_;(with_reducible refine (cmp_isNaN_string.calls a0 false _ A3.out).mono ?_);rintro e w' ⟨rfl,⟨nd,rfl⟩⟩;refine⟨_,rfl,?_⟩)|((with_reducible refine yy_ (f:=68) rfl ?_);refine goesL_ (some 10) rfl rfl Tryz.func68 (by kernel_rfl) rfl #[.string a1] rfl (by (try simp only[List.map_toArray,List.map_cons,List.map_nil]);first|done|rfl|(simp only[List.length_drop,List.length_take];rfl)) ?_;(with_reducible refine (cmp_isNaN_string.calls a1 false _ A4.out).mono ?_);rintro e w' ⟨rfl,⟨nd,rfl⟩⟩;refine⟨_,rfl,?_⟩))
 go_ret
 exact⟨by first|rfl|(simp;done)|(simp [*];done),by repeat (first|exact Drawn0.refl _|apply Drawn0.step)⟩

end Go.Proofs.YthimblhfjfngiaaGreat.PText

-- mended25

namespace Go.Proofs.YthimblhfjfngiaaGreat.PText
open Go.RowKit Go.Proofs.YthimblhfjfngiaaGreatW.PrintWords Go.Proofs.YthimblhfjfngiaaGreatW.PrintLast Go.Proofs.YthimblhfjfngiaaGreatW.PrintMore
attribute [local go_sem] yW_ yX_ yab_ ybb_ yO_ yP_ yY_ yZ_   -- for this text's walks alone
set_option linter.unusedVariables false
set_option linter.unusedSimpArgs false

def ydb_.f (k:Nat) (a0_0:Int) (a0_1:Int) (a0_2:ByteArray) (a1_0:Int) (a1_1:Int) (a1_2:ByteArray):Option (Int):=(cmp_Compare_int.f a0_0 a1_0).bind fun t349=>((cmp_Compare_int.f a0_1 a1_1).bind fun t350=>((yQ_.f a0_2 a1_2).bind fun t351=>((yS_.f k (([t349,t350,t351]:List Int))).bind fun t355=>(some t355))))
def ydb_.T1:Bool × List (List Nat × List Nat):=(true,[([],[]),([0],[0]),([],[]),([2],[2]),([1,3],[1,3]),([],[]),([5],[5]),([],[]),([7],[7]),([6,8,4],[6,8]),([],[]),([10],[10]),([],[]),([12],[12]),([11,13,9],[11,13]),([4,9,14],[4,9,14]),([15,14],[15]),([16,16,0,1,2,3,4,5,6,7,8,9,10,11,12,13,14,15,16],[16])])
def ydb_.B1:List Nat:=[0,1,0,4,15,0,32,0,128,511,0,1024,0,4096,16383,32767,65535,131071]
theorem ydb_.tab1:rtab .any (opsOf Tryz.f108 1)=ydb_.T1:=by kernel_rfl
theorem ydb_.bits1:waitsOk ydb_.T1.2 ydb_.B1=true:=by kernel_rfl
end Go.Proofs.YthimblhfjfngiaaGreat.PText

namespace Go.Proofs.YthimblhfjfngiaaGreat.PText
open Go.RowKit Go.Proofs.YthimblhfjfngiaaGreatW.PrintWords Go.Proofs.YthimblhfjfngiaaGreatW.PrintLast Go.Proofs.YthimblhfjfngiaaGreatW.PrintMore
attribute [local go_sem] yW_ yX_ yab_ ybb_ yO_ yP_ yY_ yZ_
set_option linter.unusedVariables false
set_option linter.unusedSimpArgs false
theorem grow_of_below {w w':World} (h:Below w.heap.size w w') (hd:w.drawn≤w'.drawn):∃ q os',w'=Sort.grow (w.drewN q) os':=by
  refine⟨w'.drawn - w.drawn,w'.heap.extract w.heap.size w'.heap.size,?_⟩
  obtain⟨h1,h2,h3,h4,h5⟩:=h
  have e:w'.heap=w.heap++w'.heap.extract w.heap.size w'.heap.size:=by
    apply Array.ext_getElem?
    intro i
    rcases Nat.lt_or_ge i w.heap.size with hi|hi
    · rw[h5 i hi,Array.getElem?_append_left hi]
    · rw[Array.getElem?_append_right hi,Array.getElem?_extract]
      by_cases hk:i < w'.heap.size
      · rw[if_pos (by omega)];congr 1;omega
      rw[if_neg (by omega),Array.getElem?_eq_none (by omega)]
  cases w' with
  | mk heap tape drawn os output =>
    simp only[Sort.grow,World.drewN] at *
    subst h1 h2 h3
    rw[World.mk.injEq]
    exact⟨e,rfl,by omega,rfl,rfl⟩
section
variable {P : Program} {o : Oper} {ops : Array Oper} {rest : List Oper} {a : Act} {Q : Exit → Act → World → Prop} {Kc : Act → World → Prop}
theorem box_eventD {W:World} (hgd:o.guard=none) {N:Tmp} (_hd:o.dst=some N) {cs:Array Value} {t:TypeId}
    (hrun:(execOp a.eval o).run P W=.ok (.value (.pointer (some ⟨W.heap.size,0,none⟩))) (W.alloc (.cells cs t (0,0))))
    (h:∀ g,g=W.heap.size→∀ w1,w1.heap[g]?=some (.cells cs t (0,0))→Below W.heap.size W w1→w1.drawn=W.drawn→wpList P ops Q rest (a.put o.dst (.pointer (some ⟨g,0,none⟩))) w1):wpList P ops Q (o :: rest) a W :=
  Kd.event_run hgd hrun (h _ rfl _ (blk_new W _) (yc_ (Below.refl _ _) _) rfl)
theorem Kd.R_lit_stepD {α:Type} (d:Kd α) {w0 W:World} (base e:Nat) (hw:Region.wanted o (yielded ops a.tmps)=true) {N:Tmp} (hd:o.dst=some N) {xs:List α} {inner:List Value} {ok okp:Nat→Prop}
    (hrun:(execOp a.eval o).run P W=.ok (.value (.slice (some ⟨W.heap.size,0,none⟩) xs.length xs.length)) (W.alloc (.cells inner.toArray e)))
    (hrep:Reps (d.M W base okp) d.sz xs inner) (hok:∀ k,okp k→ok k) (hfresh:ok W.heap.size) (HB:Below base w0 W) (hbase:base≤W.heap.size) (hm:xs.length≤9223372036854775807)
    (h:∀ v1 w1,d.R e w1 base ok v1 xs→Below base w0 w1→W.grownBy w1 none→(∃ b,v1.ownBlock=some b∧W.heap.size≤b)→w1.drawn=W.drawn→Kc (a.put o.dst v1) w1):if Region.wanted o (yielded ops a.tmps)=true then Oper.wp P o a W Kc Q else Kc (a.put o.dst undef) W:=by
  have q:=Kd.R_lit_step (Kc:=fun a' w'=>w'.drawn=W.drawn→Kc a' w') (Q:=Q) d base e hw hd hrun hrep hok hfresh HB hbase hm (fun v1 w1 p1 p2 p3 p4 p5=>h v1 w1 p1 p2 p3 p4 p5)
  rw[if_pos hw] at q ⊢
  unfold Oper.wp at q ⊢
  rw[hrun] at q ⊢
  exact q rfl
end
set_option maxHeartbeats 8000000 in
set_option maxRecDepth 100000 in
theorem ydb_.grows (k:Nat) (a0_0:Int) (a0_1:Int) (a0_2:ByteArray) (a1_0:Int) (a1_1:Int) (a1_2:ByteArray) (r:Int) (w:World) (h:ydb_.f k a0_0 a0_1 a0_2 a1_0 a1_1 a1_2=some r) :
    Calls Tryz.prog 108 #[.agg #[.int .i64 a0_0,.int .i64 a0_1,.string a0_2],.agg #[.int .i64 a1_0,.int .i64 a1_1,.string a1_2]] w fun e w'=>e=.returned (.int .i64 r)∧∃ q os',w'=Sort.grow (w.drewN q) os':=by
  have hu91:=Tryz.underlying91
  have HB:=Aside0.mk (Below.refl w.heap.size w)
  have HD:=Aside0.mk (Nat.le_refl w.drawn)
  have H:((cmp_Compare_int.f a0_0 a1_0).bind fun t349=>((cmp_Compare_int.f a0_1 a1_1).bind fun t350=>((yQ_.f a0_2 a1_2).bind fun t351=>((yS_.f k (([t349,t350,t351]:List Int))).bind fun t355=>(some t355)))))=some r:=h
  clear h
  replace H:=Option.bind_eq_some_iff.mp H
  obtain⟨t349,A30,H⟩:=H
  replace H:((cmp_Compare_int.f a0_1 a1_1).bind fun t350=>((yQ_.f a0_2 a1_2).bind fun t351=>((yS_.f k (([t349,t350,t351]:List Int))).bind fun t355=>(some t355))))=some r:=H
  have A3:=Aside0.mk A30
  clear A30
  replace H:=Option.bind_eq_some_iff.mp H
  obtain⟨t350,A40,H⟩:=H
  replace H:((yQ_.f a0_2 a1_2).bind fun t351=>((yS_.f k (([t349,t350,t351]:List Int))).bind fun t355=>(some t355)))=some r:=H
  have A4:=Aside0.mk A40
  clear A40
  replace H:=Option.bind_eq_some_iff.mp H
  obtain⟨t351,A50,H⟩:=H
  replace H:((yS_.f k (([t349,t350,t351]:List Int))).bind fun t355=>(some t355))=some r:=H
  have A5:=Aside0.mk A50
  clear A50
  obtain⟨y352,hy352⟩:∃ y_:List Int,y_=(([t349,t350,t351]:List Int)):=⟨_,rfl⟩
  replace H:((yS_.f k y352).bind fun t355=>(some t355))=some r:=by first|(rw[hy352];with_reducible exact H)|(have H2_:=(Option.bind_some _ _).symm.trans H;rw[hy352];with_reducible exact H2_)|(have H2_:=(Option.bind_some _ _).symm.trans H;with_reducible exact H2_)|with_reducible exact H|(rw[hy352];exact H)|exact H
  have Ny352:=Aside0.mk hy352
  clear hy352
  replace H:=Option.bind_eq_some_iff.mp H
  obtain⟨t355,A60,H⟩:=H
  replace H:(some t355)=some r:=H
  have A6:=Aside0.mk A60
  clear A60
  obtain rfl:=Option.some.inj H
  go_enter Tryz.func108,Tryz.ntmps108
  try go_wp2_with (first|((with_reducible refine yV_ (N:=2) rfl ?_);refine box_eventD ?hg (N:=2) ?hd (cs:=#[.int .i64 a0_0,.int .i64 a0_1,.string a0_2]) (t:=91) ?hr ?_;(case hd=>rfl);(case hg=>rfl);(case hr=>first|(go_simp;done)|(go_simp;rfl));intro gb347 hg w7 hbox hb hd_;have m_:=Aside0.mk (show w.drawn≤w7.drawn from by have h_:=HD.out;first|omega|(simp only[World.drewN,World.drew] at hd_;omega));clear HD;have HD:=m_;clear m_ hd_;have n0_:=Aside0.mk (yn_ (by repeat (first|(with_reducible first|exact HB.out|apply yc_|apply ya_|apply yb_)|exact HB.out)) hb);have n1_:=Aside0.mk (hbox);have n2_:=Aside0.mk ((by rw[hg];exact (yk_ (by repeat (first|(with_reducible first|exact HB.out|apply yc_|apply ya_|apply yb_)|exact HB.out))):w.heap.size≤gb347));have n3_:=Aside0.mk ((by rw[hg];exact (yk_ (by repeat (first|(with_reducible first|exact HB.out|apply yc_|apply ya_|apply yb_)|exact HB.out))):w.heap.size≤gb347));clear HB;have HB:=n0_;have BK347:=n1_;have GW347:=n2_;have GE347:=n3_;clear n0_ n1_ n2_ n3_;clear hb hbox hg)|((with_reducible refine yV_ (N:=3) rfl ?_);refine box_eventD ?hg (N:=3) ?hd (cs:=#[.int .i64 a1_0,.int .i64 a1_1,.string a1_2]) (t:=91) ?hr ?_;(case hd=>rfl);(case hg=>rfl);(case hr=>first|(go_simp;done)|(go_simp;rfl));intro gb348 hg w8 hbox hb hd_;have m_:=Aside0.mk (show w.drawn≤w8.drawn from by have h_:=HD.out;first|omega|(simp only[World.drewN,World.drew] at hd_;omega));clear HD;have HD:=m_;clear m_ hd_;have n0_:=Aside0.mk (yZb_ (g:=gb347) (o:=.cells #[.int .i64 a0_0,.int .i64 a0_1,.string a0_2] 91 (0,0)) (by (with_reducible repeat (first|refine yv_ ?_ _|refine yx_ ?_|refine yu_ ?_ _));exact BK347.out) hb);have n1_:=Aside0.mk (yn_ (by repeat (first|(with_reducible first|exact HB.out|apply yc_|apply ya_|apply yb_|refine yp_ ?_ GE347.out)|exact HB.out)) hb);have n2_:=Aside0.mk (hbox);have n3_:=Aside0.mk ((by rw[hg];exact (yk_ (by repeat (first|(with_reducible first|exact HB.out|apply yc_|apply ya_|apply yb_|refine yp_ ?_ GE347.out)|exact HB.out))):w.heap.size≤gb348));have n4_:=Aside0.mk ((by rw[hg];exact (yk_ (by repeat (first|(with_reducible first|exact HB.out|apply yc_|apply ya_|apply yb_|refine yp_ ?_ GE347.out)|exact HB.out))):w.heap.size≤gb348));have n5_:=Aside0.mk ((by rw[hg];exact Nat.ne_of_lt (blk_lt (g:=gb347) (o:=.cells #[.int .i64 a0_0,.int .i64 a0_1,.string a0_2] 91 (0,0)) (by (with_reducible repeat (first|refine yv_ ?_ _|refine yx_ ?_|refine yu_ ?_ _));exact BK347.out)):gb347≠gb348));have n6_:=Aside0.mk ((by rw[hg];exact Nat.ne_of_gt (blk_lt (g:=gb347) (o:=.cells #[.int .i64 a0_0,.int .i64 a0_1,.string a0_2] 91 (0,0)) (by (with_reducible repeat (first|refine yv_ ?_ _|refine yx_ ?_|refine yu_ ?_ _));exact BK347.out)):gb348≠gb347));clear BK347;clear HB;have BK347:=n0_;have HB:=n1_;have BK348:=n2_;have GW348:=n3_;have GE348:=n4_;have NB347_348:=n5_;have NB348_347:=n6_;clear n0_ n1_ n2_ n3_ n4_ n5_ n6_;clear hb hbox hg))
  have n0_:=Aside0.mk (yx_ BK347.out)
  have n1_:=Aside0.mk (yx_ BK348.out)
  have n2_:=Aside0.mk (yb_ HB.out)
  clear BK347
  clear BK348
  clear HB
  have BK347:=n0_
  have BK348:=n1_
  have HB:=n2_
  clear n0_ n1_ n2_
  refine start_ (n:=18) (S:=fun w'=>w'.cell? ⟨gb347,0,none⟩=some (.int .i64 a0_0)∧w'.cell? ⟨gb347,1,none⟩=some (.int .i64 a0_1)∧w'.cell? ⟨gb347,2,none⟩=some (.string a0_2)∧w'.cell? ⟨gb348,0,none⟩=some (.int .i64 a1_0)∧w'.cell? ⟨gb348,1,none⟩=some (.int .i64 a1_1)∧w'.cell? ⟨gb348,2,none⟩=some (.string a1_2)) (ds:=[]) #[false,false,false,false,false,false,false,false,false,false,false,false,false,false,false,false,false,false] (by kernel_rfl) rfl rfl ⟨(ym_ BK347.out 0).trans rfl,(ym_ BK347.out 1).trans rfl,(ym_ BK347.out 2).trans rfl,(ym_ BK348.out 0).trans rfl,(ym_ BK348.out 1).trans rfl,(ym_ BK348.out 2).trans rfl⟩ (fun hHeld=>?_);refine yhb_ ydb_.tab1 ydb_.bits1 (fun HT_ HW_=>?_)
  have m_:=Aside0.mk (show w.drawn≤w8.drew.drawn from Nat.le_trans HD.out (Nat.le_succ _))
  clear HD
  have HD:=m_
  clear m_
  generalize w8.drew=w9 at BK347 BK348 HB hHeld HD ⊢
  refine pure_ (i:=0) (N:=some 5) (v:=?_) (a':=?_) #[true,false,false,false,false,false,false,false,false,false,false,false,false,false,false,false,false,false] rfl rfl (any_of HT_.out (by kernel_rfl)) (fun _ _ _ h=>h) (Or.inl ⟨by rfl,?_⟩) ?_ ?_
  rotate_left
  · intro w'
    go_simp
    with_reducible rfl
  rotate_left
  · simp only[Act.put,List.setIfInBounds_toArray,List.set_cons_zero,List.set_cons_succ,i64_w,i32_w]
    rfl
  refine pure_ (i:=2) (N:=some 7) (v:=?_) (a':=?_) #[true,false,true,false,false,false,false,false,false,false,false,false,false,false,false,false,false,false] rfl rfl (any_of HT_.out (by kernel_rfl)) (fun _ _ _ h=>h) (Or.inl ⟨by rfl,?_⟩) ?_ ?_
  rotate_left
  · intro w'
    go_simp
    with_reducible rfl
  rotate_left
  · simp only[Act.put,List.setIfInBounds_toArray,List.set_cons_zero,List.set_cons_succ,i64_w,i32_w]
    rfl
  refine pure_ (i:=5) (N:=some 10) (v:=?_) (a':=?_) #[true,false,true,false,false,true,false,false,false,false,false,false,false,false,false,false,false,false] rfl rfl (any_of HT_.out (by kernel_rfl)) (fun _ _ _ h=>h) (Or.inl ⟨by rfl,?_⟩) ?_ ?_
  rotate_left
  · intro w'
    go_simp
    with_reducible rfl
  rotate_left
  · simp only[Act.put,List.setIfInBounds_toArray,List.set_cons_zero,List.set_cons_succ,i64_w,i32_w]
    rfl
  refine pure_ (i:=7) (N:=some 12) (v:=?_) (a':=?_) #[true,false,true,false,false,true,false,true,false,false,false,false,false,false,false,false,false,false] rfl rfl (any_of HT_.out (by kernel_rfl)) (fun _ _ _ h=>h) (Or.inl ⟨by rfl,?_⟩) ?_ ?_
  rotate_left
  · intro w'
    go_simp
    with_reducible rfl
  rotate_left
  · simp only[Act.put,List.setIfInBounds_toArray,List.set_cons_zero,List.set_cons_succ,i64_w,i32_w]
    rfl
  refine pure_ (i:=10) (N:=some 15) (v:=?_) (a':=?_) #[true,false,true,false,false,true,false,true,false,false,true,false,false,false,false,false,false,false] rfl rfl (any_of HT_.out (by kernel_rfl)) (fun _ _ _ h=>h) (Or.inl ⟨by rfl,?_⟩) ?_ ?_
  rotate_left
  · intro w'
    go_simp
    with_reducible rfl
  rotate_left
  · simp only[Act.put,List.setIfInBounds_toArray,List.set_cons_zero,List.set_cons_succ,i64_w,i32_w]
    rfl
  refine pure_ (i:=12) (N:=some 17) (v:=?_) (a':=?_) #[true,false,true,false,false,true,false,true,false,false,true,false,true,false,false,false,false,false] rfl rfl (any_of HT_.out (by kernel_rfl)) (fun _ _ _ h=>h) (Or.inl ⟨by rfl,?_⟩) ?_ ?_
  rotate_left
  · intro w'
    go_simp
    with_reducible rfl
  rotate_left
  · simp only[Act.put,List.setIfInBounds_toArray,List.set_cons_zero,List.set_cons_succ,i64_w,i32_w]
    rfl
  refine take_ (i:=1) (N:=some 6) (v:=?_) (a':=?_) #[true,true,true,false,false,true,false,true,false,false,true,false,true,false,false,false,false,false] rfl rfl (y7b_ HT_.out HW_.out (by kernel_rfl)) (fun _ _ _ h=>h) (Or.inl ⟨by rfl,?_⟩) hHeld ?_ ?_
  rotate_left
  · rintro w' ⟨s0,s1,s2,s3,s4,s5⟩
    go_simp
    with_reducible rfl
  rotate_left
  · simp only[Act.put,List.setIfInBounds_toArray,List.set_cons_zero,List.set_cons_succ,i64_w,i32_w]
    rfl
  refine take_ (i:=3) (N:=some 8) (v:=?_) (a':=?_) #[true,true,true,true,false,true,false,true,false,false,true,false,true,false,false,false,false,false] rfl rfl (y7b_ HT_.out HW_.out (by kernel_rfl)) (fun _ _ _ h=>h) (Or.inl ⟨by rfl,?_⟩) hHeld ?_ ?_
  rotate_left
  · rintro w' ⟨s0,s1,s2,s3,s4,s5⟩
    go_simp
    with_reducible rfl
  rotate_left
  · simp only[Act.put,List.setIfInBounds_toArray,List.set_cons_zero,List.set_cons_succ,i64_w,i32_w]
    rfl
  refine take_ (i:=6) (N:=some 11) (v:=?_) (a':=?_) #[true,true,true,true,false,true,true,true,false,false,true,false,true,false,false,false,false,false] rfl rfl (y7b_ HT_.out HW_.out (by kernel_rfl)) (fun _ _ _ h=>h) (Or.inl ⟨by rfl,?_⟩) hHeld ?_ ?_
  rotate_left
  · rintro w' ⟨s0,s1,s2,s3,s4,s5⟩
    go_simp
    with_reducible rfl
  rotate_left
  · simp only[Act.put,List.setIfInBounds_toArray,List.set_cons_zero,List.set_cons_succ,i64_w,i32_w]
    rfl
  refine take_ (i:=8) (N:=some 13) (v:=?_) (a':=?_) #[true,true,true,true,false,true,true,true,true,false,true,false,true,false,false,false,false,false] rfl rfl (y7b_ HT_.out HW_.out (by kernel_rfl)) (fun _ _ _ h=>h) (Or.inl ⟨by rfl,?_⟩) hHeld ?_ ?_
  rotate_left
  · rintro w' ⟨s0,s1,s2,s3,s4,s5⟩
    go_simp
    with_reducible rfl
  rotate_left
  · simp only[Act.put,List.setIfInBounds_toArray,List.set_cons_zero,List.set_cons_succ,i64_w,i32_w]
    rfl
  refine take_ (i:=11) (N:=some 16) (v:=?_) (a':=?_) #[true,true,true,true,false,true,true,true,true,false,true,true,true,false,false,false,false,false] rfl rfl (y7b_ HT_.out HW_.out (by kernel_rfl)) (fun _ _ _ h=>h) (Or.inl ⟨by rfl,?_⟩) hHeld ?_ ?_
  rotate_left
  · rintro w' ⟨s0,s1,s2,s3,s4,s5⟩
    go_simp
    with_reducible rfl
  rotate_left
  · simp only[Act.put,List.setIfInBounds_toArray,List.set_cons_zero,List.set_cons_succ,i64_w,i32_w]
    rfl
  refine take_ (i:=13) (N:=some 18) (v:=?_) (a':=?_) #[true,true,true,true,false,true,true,true,true,false,true,true,true,true,false,false,false,false] rfl rfl (y7b_ HT_.out HW_.out (by kernel_rfl)) (fun _ _ _ h=>h) (Or.inl ⟨by rfl,?_⟩) hHeld ?_ ?_
  rotate_left
  · rintro w' ⟨s0,s1,s2,s3,s4,s5⟩
    go_simp
    with_reducible rfl
  rotate_left
  · simp only[Act.put,List.setIfInBounds_toArray,List.set_cons_zero,List.set_cons_succ,i64_w,i32_w]
    rfl
  refine one_ (i:=4) (N:=some 9) #[true,true,true,true,true,true,true,true,true,false,true,true,true,true,false,false,false,false] rfl rfl (one_of HT_.out (by kernel_rfl)) (by decide) (fun K hK=>?_)
  refine goes_ Tryz.func124 (by kernel_rfl) rfl #[.int .i64 a0_0,.int .i64 a1_0] (by rfl) rfl rfl (by (try simp only[List.map_toArray,List.map_cons,List.map_nil]);first|done|rfl|(simp only[List.length_drop,List.length_take];rfl)) ?_
  with_reducible refine (cmp_Compare_int.calls a0_0 a1_0 t349 _ A3.out).mono ?_
  rintro e w' ⟨rfl,⟨nd,rfl⟩⟩
  refine⟨_,rfl,?_⟩
  refine hK.out _ _ ⟨(ym_ BK347.out 0).trans rfl,(ym_ BK347.out 1).trans rfl,(ym_ BK347.out 2).trans rfl,(ym_ BK348.out 0).trans rfl,(ym_ BK348.out 1).trans rfl,(ym_ BK348.out 2).trans rfl⟩ (fun hHeld=>?_)
  clear hK K
  refine norm_ (a':=?_) ?_ ?_
  rotate_left
  · show Act.put _ (some 9) _=_
    simp only[Act.put,List.setIfInBounds_toArray,List.set_cons_zero,List.set_cons_succ,i64_w,i32_w]
    rfl
  refine one_ (i:=9) (N:=some 14) #[true,true,true,true,true,true,true,true,true,true,true,true,true,true,false,false,false,false] rfl rfl (one_of HT_.out (by kernel_rfl)) (by decide) (fun K hK=>?_)
  refine goes_ Tryz.func124 (by kernel_rfl) rfl #[.int .i64 a0_1,.int .i64 a1_1] (by rfl) rfl rfl (by (try simp only[List.map_toArray,List.map_cons,List.map_nil]);first|done|rfl|(simp only[List.length_drop,List.length_take];rfl)) ?_
  with_reducible refine (cmp_Compare_int.calls a0_1 a1_1 t350 _ A4.out).mono ?_
  rintro e w' ⟨rfl,⟨nd,rfl⟩⟩
  refine⟨_,rfl,?_⟩
  refine hK.out _ _ ⟨(ym_ BK347.out 0).trans rfl,(ym_ BK347.out 1).trans rfl,(ym_ BK347.out 2).trans rfl,(ym_ BK348.out 0).trans rfl,(ym_ BK348.out 1).trans rfl,(ym_ BK348.out 2).trans rfl⟩ (fun hHeld=>?_)
  clear hK K
  refine norm_ (a':=?_) ?_ ?_
  rotate_left
  · show Act.put _ (some 14) _=_
    simp only[Act.put,List.setIfInBounds_toArray,List.set_cons_zero,List.set_cons_succ,i64_w,i32_w]
    rfl
  refine one_ (i:=14) (N:=some 19) #[true,true,true,true,true,true,true,true,true,true,true,true,true,true,true,false,false,false] rfl rfl (one_of HT_.out (by kernel_rfl)) (by decide) (fun K hK=>?_)
  refine goes_ Tryz.func46 (by kernel_rfl) rfl #[.string a0_2,.string a1_2] (by rfl) rfl rfl (by (try simp only[List.map_toArray,List.map_cons,List.map_nil]);first|done|rfl|(simp only[List.length_drop,List.length_take];rfl)) ?_
  with_reducible refine (yQ_.calls a0_2 a1_2 t351 _ A5.out).mono ?_
  rintro e w' ⟨rfl,⟨nd,rfl⟩⟩
  refine⟨_,rfl,?_⟩
  refine hK.out _ _ ⟨(ym_ BK347.out 0).trans rfl,(ym_ BK347.out 1).trans rfl,(ym_ BK347.out 2).trans rfl,(ym_ BK348.out 0).trans rfl,(ym_ BK348.out 1).trans rfl,(ym_ BK348.out 2).trans rfl⟩ (fun hHeld=>?_)
  clear hK K
  refine norm_ (a':=?_) ?_ ?_
  rotate_left
  · show Act.put _ (some 19) _=_
    simp only[Act.put,List.setIfInBounds_toArray,List.set_cons_zero,List.set_cons_succ,i64_w,i32_w]
    rfl
  refine one_ (i:=15) (N:=some 20) #[true,true,true,true,true,true,true,true,true,true,true,true,true,true,true,true,false,false] rfl rfl (one_of HT_.out (by kernel_rfl)) (by decide) (fun K hK=>?_)
  refine Kd.R_lit_stepD (Kd.int .i64) _ 3 ?hg (N:=20) ?hd (xs:=([t349,t350,t351]:List Int)) (inner:=[.int .i64 t349,.int .i64 t350,.int .i64 t351]) (ok:=fun _=>True) (okp:=fun _=>True) ?hr ?hp (fun _ hk=>hk) trivial (Below.refl _ _) (Nat.le_refl _) (by simp) ?_;(case hd=>rfl);(case hg=>rfl);(case hr=>first|(go_simp;done)|(go_simp;rfl));(case hp=>exact (Reps.one (show Kd.M (Kd.int .i64) _ _ _ t349 [.int .i64 t349] from rfl) (Reps.one (show Kd.M (Kd.int .i64) _ _ _ t350 [.int .i64 t350] from rfl) (Reps.one (show Kd.M (Kd.int .i64) _ _ _ t351 [.int .i64 t351] from rfl) (Reps.none _ _)))))
  intro v353 w10 ho11 hb hg_ hnew_ hd_
  have m_:=Aside0.mk (show w.drawn≤w10.drawn from by have h_:=HD.out;rw[hd_];first|omega|(simp only[World.drewN];omega))
  clear HD
  have HD:=m_
  clear m_ hd_
  clear hg_ hnew_
  (first|rw[← Ny352.out] at ho11|(simp only[Int.reduceToNat] at ho11;rw[← Ny352.out] at ho11))
  have n0_:=Aside0.mk (Kd.y1_ ho11 (yk_ (by repeat (first|(with_reducible first|exact HB.out|apply yc_|apply ya_|apply yb_|refine yp_ ?_ GE347.out|refine yp_ ?_ GE348.out)|exact HB.out))))
  have n1_:=Aside0.mk (yZb_ (g:=gb347) (o:=.cells #[.int .i64 a0_0,.int .i64 a0_1,.string a0_2] 91 (0,0)) (by (with_reducible repeat (first|refine yv_ ?_ _|refine yx_ ?_|refine yu_ ?_ _));exact BK347.out) hb)
  have n2_:=Aside0.mk (yZb_ (g:=gb348) (o:=.cells #[.int .i64 a1_0,.int .i64 a1_1,.string a1_2] 91 (0,0)) (by (with_reducible repeat (first|refine yv_ ?_ _|refine yx_ ?_|refine yu_ ?_ _));exact BK348.out) hb)
  have n3_:=Aside0.mk (yn_ (by repeat (first|(with_reducible first|exact HB.out|apply yc_|apply ya_|apply yb_|refine yp_ ?_ GE347.out|refine yp_ ?_ GE348.out)|exact HB.out)) hb)
  clear BK347
  clear BK348
  clear HB
  have HO354:=n0_
  have BK347:=n1_
  have BK348:=n2_
  have HB:=n3_
  clear n0_ n1_ n2_ n3_
  clear hb ho11
  obtain⟨Ao12,co12,eo12⟩:=Kd.yw_ HO354.out
  (first|subst eo12|(injection eo12 with f1_ f2_ f3_;have f4_:=f1_.symm;have f5_:=f3_.symm;clear f1_ f2_ f3_;subst f4_;subst f5_))
  refine hK.out _ _ ⟨(ym_ BK347.out 0).trans rfl,(ym_ BK347.out 1).trans rfl,(ym_ BK347.out 2).trans rfl,(ym_ BK348.out 0).trans rfl,(ym_ BK348.out 1).trans rfl,(ym_ BK348.out 2).trans rfl⟩ (fun hHeld=>?_)
  clear hK K
  refine norm_ (a':=?_) ?_ ?_
  rotate_left
  · show Act.put _ (some 20) _=_
    simp only[Act.put,List.setIfInBounds_toArray,List.set_cons_zero,List.set_cons_succ,i64_w,i32_w]
    rfl
  refine one_ (i:=16) (N:=some 21) #[true,true,true,true,true,true,true,true,true,true,true,true,true,true,true,true,true,false] rfl rfl (one_of HT_.out (by kernel_rfl)) (by decide) (fun K hK=>?_)
  refine goes_ Tryz.func123 (by kernel_rfl) rfl #[.slice Ao12 y352.length co12] (by rfl) rfl rfl (by (try simp only[List.map_toArray,List.map_cons,List.map_nil]);first|done|rfl|(simp only[List.length_drop,List.length_take];rfl)) ?_
  with_reducible refine (yS_.calls k _ _ y352 t355 _ ?side1 ?side2 A6.out).mono ?_
  (case side1=>repeat (first|exact (Kd.yj_ HO354.out).2.2|(with_reducible refine Kd.yN_ ?_ _)|(with_reducible refine Kd.y0_ ?_ _)|(with_reducible refine Kd.C_drew ?_)))
  (case side2=>exact (Kd.yj_ HO354.out).2.1)
  rintro e w' ⟨rfl,⟨nd,rfl⟩⟩
  refine⟨_,rfl,?_⟩
  refine hK.out _ _ ⟨(ym_ BK347.out 0).trans rfl,(ym_ BK347.out 1).trans rfl,(ym_ BK347.out 2).trans rfl,(ym_ BK348.out 0).trans rfl,(ym_ BK348.out 1).trans rfl,(ym_ BK348.out 2).trans rfl⟩ (fun hHeld=>?_)
  clear hK K
  refine norm_ (a':=?_) ?_ ?_
  rotate_left
  · show Act.put _ (some 21) _=_
    simp only[Act.put,List.setIfInBounds_toArray,List.set_cons_zero,List.set_cons_succ,i64_w,i32_w]
    rfl
  refine pure_ (i:=17) (N:=some 4) (v:=?_) (a':=?_) #[true,true,true,true,true,true,true,true,true,true,true,true,true,true,true,true,true,true] rfl rfl (any_of HT_.out (by kernel_rfl)) (fun _ _ _ h=>h) (Or.inl ⟨by rfl,?_⟩) ?_ ?_
  rotate_left
  · intro w'
    go_simp
    with_reducible rfl
  rotate_left
  · simp only[Act.put,List.setIfInBounds_toArray,List.set_cons_zero,List.set_cons_succ,i64_w,i32_w]
    rfl
  refine done_ (yzb_ HT_.out (by kernel_rfl)) ?_
  try go_wp2
  go_ret
  exact⟨by first|rfl|(simp [yA_,yB_] <;> rfl)|(simp [*,yA_,yB_] <;> rfl),grow_of_below (by repeat (first|(with_reducible first|exact HB.out|apply yc_|apply ya_|apply yb_|refine yp_ ?_ GE347.out|refine yp_ ?_ GE348.out)|exact HB.out)) (by have h_:=HD.out;first|omega|(simp only[World.drewN];omega))⟩
end Go.Proofs.YthimblhfjfngiaaGreat.PText

namespace Go.Proofs.YthimblhfjfngiaaGreat.PText
open Go.RowKit Go.Proofs.YthimblhfjfngiaaGreatW.PrintWords Go.Proofs.YthimblhfjfngiaaGreatW.PrintLast Go.Proofs.YthimblhfjfngiaaGreatW.PrintMore
set_option linter.unusedVariables false
set_option linter.unusedSimpArgs false
theorem C_none34 {w:World} {l:List S91} (h:Kd.C k91 w none l.length l):l=[]:=by
  cases l with
  | nil=>rfl
  | cons x r =>
    obtain⟨ad,_,q,_⟩:=Kd.C_get h z91 0 (Int.le_refl _) (by rw[List.length_cons];omega)
    cases q
set_option maxHeartbeats 8000000 in
set_option maxRecDepth 100000 in
theorem clone_calls (A0:Option Addr) (c0:Nat) (l0:List S91) (w:World) (hr0:Kd.C k91 w A0 l0.length l0) (hl:l0.length≤10000) :
    Calls Tryz.prog 106 #[.slice A0 l0.length c0] w fun e w'=>∃ v0_:Value,e=.returned v0_∧Kd.R k91 91 w' w.heap.size (fun _=>True) v0_ l0∧Below w.heap.size w w':=by
  have hnil:∀ w',Sem.run Tryz.prog (binOp .eql 68 (.slice A0 l0.length c0) (.slice none 0 0)) w'=.ok (.bool A0.isNone) w':=fun w'=>Go.Lib.run_eql_slice_nil w' 68 91 A0 l0.length c0 0 0 Tryz.underlying68
  have HR1:=Aside0.mk hr0
  clear hr0
  cases hA:A0.isNone with
  | true =>
    obtain rfl:A0=none:=by cases A0 with|none=>rfl|some a=>cases hA
    obtain rfl:=C_none34 HR1.out
    rw[hA] at hnil
    simp only[List.length_nil] at hnil ⊢
    go_enter Tryz.func106,Tryz.ntmps106
    go_wp2
    go_ret
    exact⟨_,rfl,Kd.R_nil _ _ _ _ _,Below.refl _ _⟩
  | false =>
    rw[hA] at hnil
    have HB:=Aside0.mk (Below.refl w.heap.size w)
    obtain⟨y467,hy467⟩:∃ y_:List (S91),y_=(([]:List (S91))):=⟨_,rfl⟩
    have Ny467:=Aside0.mk hy467
    have LMc8:=Aside0.mk (show y467.length+l0.length < 4398046511104 by rw[hy467];simp;omega)
    clear hy467
    obtain⟨y470,hy470⟩:∃ y_:List (S91),y_=(y467++l0):=⟨_,rfl⟩
    have Ny470:=Aside0.mk hy470
    clear hy470
    go_enter Tryz.func106,Tryz.ntmps106
    go_wp2_with (first|((with_reducible refine yV_ (N:=5) rfl ?_);refine Kd.R_lit k91 _ 91 ?hg (N:=5) ?hd (xs:=([]:List (S91))) (inner:=[]) (ok:=fun _=>True) (okp:=fun _=>True) ?hr ?hp (fun _ hk=>hk) trivial (Below.refl _ _) (Nat.le_refl _) (by simp) ?_;(case hd=>rfl);(case hg=>rfl);(case hr=>first|(go_simp;done)|(go_simp;rfl));(case hp=>exact (Reps.none _ _));intro v468 w13 ho14 hb hg_ hnew_;clear hg_ hnew_;(first|rw[← Ny467.out] at ho14|(simp only[Int.reduceToNat] at ho14;rw[← Ny467.out] at ho14));have n0_:=Aside0.mk (Kd.y1_ ho14 (yk_ (by repeat (first|(with_reducible first|exact HB.out|apply yc_|apply ya_|apply yb_)|exact HB.out))));have n1_:=Aside0.mk (yn_ (by repeat (first|(with_reducible first|exact HB.out|apply yc_|apply ya_|apply yb_)|exact HB.out)) hb);clear HB;have HO469:=n0_;have HB:=n1_;clear n0_ n1_;clear hb ho14)|((with_reducible refine yC_ (b:=.append) (xs:=#[.tmp 5,.tmp 6]) rfl ?_);at_builtin;refine Kd.R_append_rows k91 (w0:=w) w.heap.size rfl (.tmp 5) (.tmp 6) 68 91 (.agg #[(.int .i64 0),(.int .i64 0),(.string ⟨#[]⟩)]) 32 rfl Tryz.underlying68 info91 rfl (by decide) (by omega) v468 y467 l0 _ _ _ (fun _=>True) (fun _=>False) rfl rfl ?aO ?aR (fun _ _ h=>h) (fun _ h=>h.elim) ?aF ?aB ?aS ?aL ?_;(case aR=>repeat (first|exact (Kd.y2_ HR1.out HB.out)|(with_reducible refine Kd.yN_ ?_ _)|(with_reducible refine Kd.y0_ ?_ _)|(with_reducible refine Kd.C_drew ?_)));(case aB=>exact (by repeat (first|(with_reducible first|exact HB.out|apply yc_|apply ya_|apply yb_)|exact HB.out)));(case aF=>exact (fun _ _=>trivial));(case aO=>exact (by (with_reducible repeat (first|apply Kd.yg_|apply Kd.yh_|apply Kd.R_drew));exact HO469.out));(case aS=>exact (yk_ (by repeat (first|(with_reducible first|exact HB.out|apply yc_|apply ya_|apply yb_)|exact HB.out))));(case aL=>have:=LMc8.out;omega);intro v471 w15 ho hb hg hat;rw[← Ny470.out] at ho;have n0_:=Aside0.mk (hb);have n1_:=Aside0.mk (ho);clear HB;clear HO469;have HB:=n0_;have HO472:=n1_;clear n0_ n1_;clear ho hb hg hat))
    go_ret
    have e:y470=l0:=by rw[Ny470.out,Ny467.out];rfl
    rw[e] at HO472
    exact⟨_,rfl,HO472.out,HB.out⟩
end Go.Proofs.YthimblhfjfngiaaGreat.PText

namespace Go.Proofs.YthimblhfjfngiaaGreat.Tx
open Go.Lib
section
variable {α : Type} [DecidableEq α] [Inhabited α] {lt : α → α → Bool}
theorem compact_mem (d:Array α) (m:Nat) (a:α):a∈compactUpTo d m↔∃ j,j < m∧keeps d j=true∧d[j]! = a:=by
  unfold compactUpTo
  simp only[List.mem_map,List.mem_filter,List.mem_range]
  constructor
  · rintro ⟨j,⟨h1,h2⟩,h3⟩;exact⟨j,h1,h2,h3⟩
  · rintro ⟨j,h1,h2,h3⟩;exact⟨j,⟨h1,h2⟩,h3⟩
theorem compact_kept (d:Array α):∀ j,∃ i,i≤j∧keeps d i=true∧d[i]! = d[j]! := by
  intro j
  induction j with
  | zero=>exact⟨0,Nat.le_refl _,by simp [keeps],rfl⟩
  | succ j ih =>
    by_cases h:d[j+1]! = d[j]!
    rotate_left
    · exact⟨j+1,Nat.le_refl _,keeps_pos (by simpa using h),rfl⟩
    obtain⟨i,h1,h2,h3⟩:=ih
    exact⟨i,by omega,h2,by rw[h,h3]⟩
theorem compact_asc (h:Lin lt) (d:Array α) (hs:∀ i j,i < j→j < d.size→lt d[j]! d[i]! = false):∀ m,m≤d.size→Asc lt (compactUpTo d m)
  | 0,_=>by unfold compactUpTo;exact List.Pairwise.nil
  | m+1,hm=>by
    rw[compactUpTo_succ]
    have ih:=compact_asc h d hs m (by omega)
    by_cases hk:keeps d m=true
    rotate_left
    · rw[if_neg hk,List.append_nil];exact ih
    rw[if_pos hk]
    refine asc_append.2 ⟨ih,List.pairwise_singleton _ _,fun a ha b hb=>?_⟩
    rw[List.mem_singleton.1 hb]
    obtain⟨j,hj,_,rfl⟩:=(compact_mem d m a).1 ha
    have hne:d[m]! ≠ d[m - 1]! := by
      intro e
      rw[keeps_neg (by omega) e] at hk;cases hk
    cases q:lt d[j]! d[m]! with
    | true=>rfl
    | false =>
      have e:=h.tri q (hs j m hj (by omega))
      exfalso
      rcases Nat.lt_or_ge j (m - 1) with c|c
      · have h1:=hs j (m - 1) c (by omega)
        rw[e] at h1
        exact hne (h.tri (hs (m - 1) m (by omega) (by omega)) h1)
      · have:j=m - 1:=by omega
        subst this
        exact hne e.symm
theorem compact_ord (h:Lin lt) (d:Array α) (l:List α) (hs:∀ i j,i < j→j < d.size→lt d[j]! d[i]! = false) (hm:∀ a,a∈d.toList↔a∈l):compactUpTo d d.size=ord lt l:=by
  refine ord_of_asc h (compact_asc h d hs d.size (Nat.le_refl _)) fun a=>?_
  rw[← hm,compact_mem]
  constructor
  · rintro ⟨j,h1,_,rfl⟩
    rw[getElem!_pos d j h1]
    exact Array.mem_toList_iff.2 (Array.getElem_mem h1)
  · intro ha
    obtain⟨j,h1,rfl⟩:=List.getElem_of_mem ha
    obtain⟨i,h2,h3,h4⟩:=compact_kept d j
    have h1':j < d.size:=by simpa using h1
    refine⟨i,by omega,h3,?_⟩
    rw[h4,getElem!_pos d j h1',Array.getElem_toList]
end
end Go.Proofs.YthimblhfjfngiaaGreat.Tx

namespace Go.Proofs.YthimblhfjfngiaaGreat.PText
open Go.RowKit Go.Lib Go.Sort Go.Proofs.YthimblhfjfngiaaGreatW.PrintWords Go.Proofs.YthimblhfjfngiaaGreatW.PrintLast Go.Proofs.YthimblhfjfngiaaGreatW.PrintMore
set_option linter.unusedVariables false
set_option linter.unusedSimpArgs false
instance:Inhabited S91:=⟨z91⟩
theorem S91.ext' {a b:S91} (h0:a.f0=b.f0) (h1:a.f1=b.f1) (h2:a.f2=b.f2):a=b:=by cases a;cases b;simp_all
instance:DecidableEq S91:=fun a b=>decidable_of_iff (a.f0=b.f0∧a.f1=b.f1∧a.f2=b.f2) ⟨fun h=>S91.ext' h.1 h.2.1 h.2.2,fun h=>by subst h;exact⟨rfl,rfl,rfl⟩⟩
def enc34 (x:S91):List Value:=[.int .i64 x.f0,.int .i64 x.f1,.string x.f2]
theorem enc34_len (x:S91):(enc34 x).length=3:=rfl
theorem enc34_one (x:S91):∀ v∈enc34 x,v.oneCell'=true:=by
  intro v hv
  simp [enc34] at hv
  rcases hv with rfl|rfl|rfl <;> rfl
theorem holds34 {w:World} {blk:Nat} {d:Array S91} (h:HoldsK enc34 3 w blk 0 d) {i:Nat} (hi:i < d.size) :
    w.cell? ⟨blk,i * 3,none⟩=some (.int .i64 d[i]!.f0)∧w.cell? ⟨blk,i * 3+1,none⟩=some (.int .i64 d[i]!.f1)∧w.cell? ⟨blk,i * 3+2,none⟩=some (.string d[i]!.f2):=by
  have h0:=(h.cell hi (c:=0) (by omega)).1
  have h1:=(h.cell hi (c:=1) (by omega)).1
  have h2:=(h.cell hi (c:=2) (by omega)).1
  simp only[Nat.zero_add,Nat.add_zero] at h0 h1 h2
  exact⟨h0,h1,h2⟩
theorem frozen34 {w:World} {blk:Nat} {d:Array S91} (h:HoldsK enc34 3 w blk 0 d) {i:Nat} (hi:i < d.size) :
    w.frozen? ⟨blk,i * 3,none⟩=false∧w.frozen? ⟨blk,i * 3+1,none⟩=false∧w.frozen? ⟨blk,i * 3+2,none⟩=false:=by
  have h0:=(h.cell hi (c:=0) (by omega)).2
  have h1:=(h.cell hi (c:=1) (by omega)).2
  have h2:=(h.cell hi (c:=2) (by omega)).2
  simp only[Nat.zero_add,Nat.add_zero] at h0 h1 h2
  exact⟨h0,h1,h2⟩
theorem eqb34 (x y:S91):(x.f0 == y.f0 && (x.f1 == y.f1 && (x.f2.toList == y.f2.toList)))=decide (x=y):=by
  rw[Bool.eq_iff_iff]
  simp only[Bool.and_eq_true,beq_iff_eq,decide_eq_true_eq]
  constructor
  · rintro ⟨h0,h1,h2⟩
    refine S91.ext' h0 h1 ?_
    rw[Lib.toList_data,Lib.toList_data] at h2
    exact ByteArray.ext (Array.toList_inj.1 h2)
  · intro h;subst h;exact⟨rfl,rfl,rfl⟩
theorem eq34 (x y:S91) (w:World):Sem.run Tryz.prog (binOp .eql 91 (.agg #[.int .i64 x.f0,.int .i64 x.f1,.string x.f2]) (.agg #[.int .i64 y.f0,.int .i64 y.f1,.string y.f2])) w=.ok (.bool (decide (x=y))) w:=by
  rw[← eqb34]
  simp [binOp,Op.equal,Op.maxDepth,eqA91]
theorem ne34 (x y:S91) (w:World):Sem.run Tryz.prog (binOp .neq 91 (.agg #[.int .i64 x.f0,.int .i64 x.f1,.string x.f2]) (.agg #[.int .i64 y.f0,.int .i64 y.f1,.string y.f2])) w=.ok (.bool (!decide (x=y))) w:=by
  rw[← eqb34]
  simp [binOp,Op.equal,Op.maxDepth,eqA91]
theorem gd34 (op:BinOp) (a b:Operand) (xs ys:Array Value) (w:World):Sem.run Tryz.prog (eqGuard op 91 a b (.agg xs) (.agg ys)) w=.ok () w:=run_eqGuard_agg w op 91 a b xs ys (by kernel_rfl)
theorem setMany34 (dk:Array S91) (kk:Nat) (u:S91) (hk:kk < dk.size):setMany (flatK enc34 3 dk) (kk * 3) (enc34 u)=flatK enc34 3 (dk.setIfInBounds kk u):=by
  refine ext_get! (by simp) fun t ht=>?_
  have ht':t < dk.size * 3:=by simpa using ht
  rw[get_setMany _ _ _ t (by simpa using ht'),get_flatK _ _ _ t ht',get_flatK _ _ _ t (by simpa using ht')]
  have hb:=blk_iff 3 kk t (by omega)
  rw[show (enc34 u).length=3 from rfl]
  by_cases h:kk * 3≤t∧t < kk * 3+3
  rotate_left
  · rw[if_neg h,getElem!_set_other dk kk (t / 3) u fun e=>h (hb.2 e)]
  rw[if_pos h,hb.1 h,getElem!_set_same dk kk u hk]
  congr 1
  have:=hb.1 h;omega
theorem store34 {w wr:World} {q n blk kk:Nat} {dk:Array S91} (u:S91) (hwr:wr=putRowK enc34 3 (Sort.ahead w q) blk 0 dk) (hk:kk < dk.size) :
    (((wr.drewN n).setCell ⟨blk,kk * 3,none⟩ (.int .i64 u.f0)).setCell ⟨blk,kk * 3+1,none⟩ (.int .i64 u.f1)).setCell ⟨blk,kk * 3+2,none⟩ (.string u.f2)=putRowK enc34 3 (Sort.ahead w (q+n)) blk 0 (dk.setIfInBounds kk u):=by
  subst hwr
  rw[putRowK_drewN]
  have h:=setCells_putRow (Sort.ahead w (q+n)) blk 0 (enc34 u) (kk * 3) (flatK enc34 3 dk) (by rw[size_flatK,show (enc34 u).length=3 from rfl];omega)
  rw[setMany34 dk kk u hk,Nat.zero_add] at h
  exact h
theorem clear34 (W:World) (ty b o n c:Nat) (hn:0 < n) (hc:∀ j,j < n * 3→(W.cell? ⟨b,o+j,none⟩).isSome=true) (hf:∀ j,j < n * 3→W.frozen? ⟨b,o+j,none⟩=false) :
    ∃ zs:List Value,zs.length=n * 3∧(Builtin.clear_ #[68] ty #[.slice (some ⟨b,o,none⟩) n c]).run Tryz.prog W=.ok (.tuple #[]) (W.setCells b o zs):=by
  refine⟨(Builtin.zeroCells #[.int .i64 0,.int .i64 0,.string ⟨#[]⟩] n).toList,by simp [Builtin.zeroCells],?_⟩
  obtain⟨i0,hi,hz0,hz1,hz2⟩:=info_parts info91
  have hv:∀ w,(zeroValue 91).run Tryz.prog w=.ok (.agg #[.int .i64 0,.int .i64 0,.string ⟨#[]⟩]) w:=fun w=>by simp [zeroValue,typeInfo,hi,hz0]
  have hlen:(Builtin.zeroCells #[.int .i64 0,.int .i64 0,.string ⟨#[]⟩] n).toList.length=n * 3:=by simp [Builtin.zeroCells]
  have hst:=run_storeCells_cells (P:=Tryz.prog) b o (Builtin.zeroCells #[.int .i64 0,.int .i64 0,.string ⟨#[]⟩] n).toList 0 W (by rw[hlen];simpa using hc) (by rw[hlen];simpa using hf) (by
    intro v hv'
    simp only[Builtin.zeroCells,Array.toList_map,List.mem_map] at hv'
    obtain⟨a,_,rfl⟩:=hv'
    have:a % 3=0∨a % 3=1∨a % 3=2:=by omega
    rcases this with h|h|h <;> simp [h] <;> rfl)
  simp only[Nat.add_zero] at hst
  obtain⟨m,rfl⟩:∃ m,n=m+1:=⟨n - 1,by omega⟩
  simp [Builtin.clear_,run_underlying Tryz.underlying68,hv,hst,Value.cells]
set_option maxHeartbeats 4000000 in
set_option maxRecDepth 1000000 in
theorem compact_calls (blk cap:Nat) (d:Array S91) (w:World) (hH:HoldsK enc34 3 w blk 0 d) (hsz:d.size≤100000) (hcap:d.size≤cap) :
    Calls Tryz.prog 109 #[.slice (some ⟨blk,0,none⟩) d.size cap] w fun e w'=>e=.returned (.slice (some ⟨blk,0,none⟩) (compactUpTo d d.size).length cap) ∧
      ∃ q F,F.size=d.size * 3∧(∀ t,t < (compactUpTo d d.size).length * 3→F[t]! = (flatK enc34 3 (compactUpTo d d.size).toArray)[t]!)∧w'=putRow id (Sort.ahead w q) blk 0 F:=by
  have hu34:=Tryz.underlying91
  have same:∀ q,(∀ j,j < d.size→keeps d j=true)→(compactUpTo d d.size).length=d.size∧∃ F:Array Value,F.size=d.size * 3∧(∀ t,t < (compactUpTo d d.size).length * 3→F[t]! = (flatK enc34 3 (compactUpTo d d.size).toArray)[t]!)∧w.drewN q=putRow id (Sort.ahead w q) blk 0 F:=by
    intro q hall
    have e:compactUpTo d d.size=d.toList:=by rw[compactUpTo_all d _ hall,range_map_get]
    rw[e]
    refine⟨by simp,flatK enc34 3 d,size_flatK _ _ _,fun t _=>?_,?_⟩
    · rw[Array.toArray_toList]
    · exact (putRowK_self enc34 3 (Sort.ahead w q) blk 0 d (holdsK_ahead enc34 3 w q blk 0 d hH)).symm
  have HS:=Aside0.mk same
  clear same
  by_cases h2:d.size < 2
  · have HH:=Aside0.mk hH
    clear hH
    go_enter Tryz.func109,Tryz.ntmps109
    go_wp2
    go_ret
    obtain⟨e1,F,e2,e3,e4⟩:=HS.out 0 (fun j hj=>keeps_lt_one d j (by omega))
    exact⟨by rw[e1];rfl,0,F,e2,e3,e4⟩
  go_enter Tryz.func109,Tryz.ntmps109
  go_wp2
  go_loopg [3] d.size (fun g s3 wr=>∃ k q:Nat,1≤k∧k≤d.size∧d.size - k≤g∧s3=.int .i64 k∧wr=w.drewN q∧∀ j,j < k→keeps d j=true)
  case atStart=>exact⟨1,0,Nat.le_refl _,by omega,by omega,rfl,rfl,keeps_lt_one d⟩
  case round =>
    obtain⟨k,q,hk1,hk,hg,rfl,rfl,hall⟩:=hrel
    by_cases hlt:k < d.size
    rotate_left
    · have:k=d.size:=by omega
      subst this
      go_wp2
      go_ret
      obtain⟨e1,F,e2,e3,e4⟩:=HS.out q hall
      exact⟨by rw[e1];rfl,q,F,e2,e3,e4⟩
    obtain⟨c0,c1,c2⟩:=holds34 hH hlt
    obtain⟨i,hi⟩:∃ i,i=k - 1:=⟨_,rfl⟩
    have hid:i < d.size:=by omega
    obtain⟨p0,p1,p2⟩:=holds34 hH (i:=i) hid
    have A:=Aside0.mk hall
    have HH:=Aside0.mk hH
    clear hall hH
    generalize hx:d[k]! = x at c0 c1 c2
    generalize hy:d[i]! = y at p0 p1 p2
    have B:=Aside0.mk (show d[k]! = x∧d[i]! = y from ⟨hx,hy⟩)
    clear hx hy
    generalize hwq:w.drewN q=wq
    have D:∀ a,wq.cell? a=w.cell? a:=fun a=>by rw[← hwq];rfl
    rw[← D] at c0 c1 c2 p0 p1 p2
    clear D
    have HW:=Aside0.mk hwq
    clear hwq
    have hw:IntKind.i64.wrap ((k:Int) - 1)=(i:Int):=by
      have e:(k:Int) - 1=(i:Int):=by omega
      rw[e];simp [IntKind.wrap,IntKind.bits,IntKind.signed];omega
    have HI:=Aside0.mk hi
    clear hi
    have heq:=eq34 x y
    have hgd:=gd34
    by_cases hdup:x=y
    rotate_left
    · rw[decide_eq_false hdup] at heq
      have HD:=Aside0.mk hdup
      clear hdup
      go_wp2_with fail
      go_quiet (fail)
      go_wp2
      go_roundg (d.size - (k+1))
      case measure=>omega
      case rel =>
        refine⟨k+1,q+nq,by omega,by omega,Nat.le_refl _,by go_num,by rw[← HW.out,World.drewN_drewN],fun j hj=>?_⟩
        by_cases e:j=k
        rotate_left
        · exact A.out j (by omega)
        subst e
        exact keeps_pos (by rw[B.out.1,← HI.out,B.out.2];exact HD.out)
    rw[decide_eq_true hdup] at heq
    have HD:=Aside0.mk hdup
    clear hdup
    go_wp2_with fail
    go_quiet (fail)
    go_wp2
    clear c0 c1 c2 p0 p1 p2 heq hw
    go_loopg [3,5] d.size (fun g s3 s5 wr=>∃ (kk k2 q2:Nat) (dk:Array S91),s3=.int .i64 kk∧s5=.int .i64 k2∧1≤k2∧k+k2≤d.size∧d.size - (k+k2)≤g∧wr=putRowK enc34 3 (Sort.ahead w q2) blk 0 dk∧CompInv d (k+k2) kk dk)
    case atStart =>
      refine⟨k,1,q+nq,d,rfl,rfl,Nat.le_refl _,by omega,by omega,?_,CompInv.start A.out (keeps_neg (by omega) (by rw[B.out.1,← HI.out,B.out.2,HD.out]))⟩
      rw[← HW.out,World.drewN_drewN]
      exact (putRowK_self enc34 3 (Sort.ahead w (q+nq)) blk 0 d (holdsK_ahead enc34 3 w (q+nq) blk 0 d HH.out)).symm
    case round =>
      obtain⟨kk,k2,q2,dk,rfl,rfl,h1,hle,hg2,hwr,hI⟩:=hrel
      have hkk:=hI.lt
      have hds:=hI.size
      have hHk:HoldsK enc34 3 wr blk 0 dk:=by rw[hwr];exact holdsK_putRowK enc34 3 _ blk 0 d dk (holdsK_ahead enc34 3 w q2 blk 0 d HH.out) hds
      have W2:=Aside0.mk hwr
      have I2:=Aside0.mk hI
      have H2:=Aside0.mk hHk
      clear hwr
      by_cases hlt2:k+k2 < d.size
      rotate_left
      · have hend:k+k2=d.size:=by omega
        have hcl:=fun ty=>clear34 wr ty blk (kk * 3) (d.size - kk) (cap - kk) (by omega) (fun j hj=>by
          have h_:=(hHk (kk * 3+j) (by rw[size_flatK];omega)).1
          rw[Nat.zero_add] at h_;rw[h_];rfl) (fun j hj=>by
          have h_:=(hHk (kk * 3+j) (by rw[size_flatK];omega)).2
          rwa [Nat.zero_add] at h_)
        obtain⟨zs,hzl,hrun⟩:=hcl 0
        clear hHk hI
        go_wp2
        go_ret
        have hI:=I2.out
        rw[hend] at hI
        refine⟨by rw[hI.len];rfl,q2,setMany (flatK enc34 3 dk) (kk * 3) zs,by rw[size_setMany,size_flatK,hds],fun t ht=>?_,?_⟩
        · have ht':t < kk * 3:=by rw[hI.len] at ht;exact ht
          rw[get_setMany _ _ _ t (by rw[size_flatK];omega),if_neg (by omega),get_flatK _ _ _ t (by omega),get_flatK _ _ _ t (by rw[List.size_toArray];exact ht)]
          have h_:=hI.low (t / 3) (by omega)
          have e_:(compactUpTo d d.size).toArray[t / 3]! = dk[t / 3]! := by
            rw[getElem!_pos _ (t / 3) (by rw[List.size_toArray,hI.len];omega),List.getElem_toArray]
            exact (List.getElem?_eq_some_iff.1 h_).2
          rw[e_]
        · rw[W2.out]
          have h_:=setCells_putRow (Sort.ahead w q2) blk 0 zs (kk * 3) (flatK enc34 3 dk) (by rw[size_flatK,hzl];omega)
          rw[Nat.zero_add] at h_
          exact h_
      obtain⟨m0,m1,m2⟩:=holds34 hHk (i:=k+k2) (by omega)
      obtain⟨i2,hi2⟩:∃ i,i=k2 - 1:=⟨_,rfl⟩
      have hid2:k+i2 < d.size:=by omega
      have hid3:i2 < d.size - k:=by omega
      obtain⟨n0,n1,n2⟩:=holds34 hHk (i:=k+i2) (by omega)
      obtain⟨o0,o1,o2⟩:=holds34 hHk (i:=kk) (by omega)
      obtain⟨f0,f1,f2⟩:=frozen34 hHk (i:=kk) (by omega)
      rw[hI.high (k+k2) (by omega),Nat.add_mul] at m0 m1 m2
      rw[hI.high (k+i2) (by omega),Nat.add_mul] at n0 n1 n2
      clear hHk hI
      generalize hu:d[k+k2]! = u at m0 m1 m2
      generalize hv:d[k+i2]! = v at n0 n1 n2
      generalize dk[kk]! = old at o0 o1 o2
      have C:=Aside0.mk (show d[k+k2]! = u∧d[k+i2]! = v from ⟨hu,hv⟩)
      clear hu hv
      have hw2:IntKind.i64.wrap ((k2:Int) - 1)=(i2:Int):=by
        have e:(k2:Int) - 1=(i2:Int):=by omega
        rw[e];simp [IntKind.wrap,IntKind.bits,IntKind.signed];omega
      have HI2:=Aside0.mk hi2
      clear hi2
      have hne:=ne34 u v
      have key:d[k+k2 - 1]! = d[k+i2]! := by rw[HI2.out];congr 1;omega
      have K2:=Aside0.mk key
      clear key
      by_cases huv:u=v
      · rw[decide_eq_true huv] at hne
        have HU:=Aside0.mk huv
        clear huv
        go_wp2_with fail
        go_quiet (fail)
        go_wp2
        go_roundg (d.size - (k+(k2+1)))
        case measure=>omega
        case rel=>exact⟨kk,k2+1,q2+nq,dk,rfl,by go_num,by omega,by omega,Nat.le_refl _,by rw[W2.out];exact putRowK_drewN enc34 3 w q2 nq blk 0 dk,I2.out.skip (keeps_neg (by omega) (by rw[C.out.1,K2.out,C.out.2,HU.out]))⟩
      rw[decide_eq_false huv] at hne
      have HU:=Aside0.mk huv
      clear huv
      go_wp2_with fail
      go_quiet (fail)
      go_wp2
      go_roundg (d.size - (k+(k2+1)))
      case measure=>omega
      case rel=>exact⟨kk+1,k2+1,q2+nq,dk.setIfInBounds kk u,by go_num,by go_num,by omega,by omega,Nat.le_refl _,store34 u W2.out (by omega),by have h_:=I2.out.keep hlt2 (keeps_pos (by rw[C.out.1,K2.out,C.out.2];exact HU.out));rwa [C.out.1] at h_⟩
end Go.Proofs.YthimblhfjfngiaaGreat.PText

