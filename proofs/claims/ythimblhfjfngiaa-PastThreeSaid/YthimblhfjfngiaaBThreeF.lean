/- PastThree holds: for every three texts the statement answers true. Part 6 of 25. -/
import Derived.Test.YthimblhfjfngiaaBThreeE
namespace Go.Proofs.Ythimblhfjfngiaa.PText
open Go.RowKit Go.Proofs.YthimblhfjfngiaaW.PrintWords Go.Proofs.YthimblhfjfngiaaW.PrintLast Go.Proofs.YthimblhfjfngiaaW.PrintMore
attribute [local go_sem] y2_ y3_ yfb_ ygb_ yS_ yT_ y4_ y5_   -- for this text's walks alone
set_option linter.unusedVariables false
set_option linter.unusedSimpArgs false

mutual
def ye_.j0:Nat→List ByteArray→List ByteArray→Bool→Option ((List (S59)) × Int)
 | 0,_,_,_=>none
 | k+1,x6,x7,x34=>if x34=true then (some (([]:List (S59)),2)) else ((yd_.f k x6 x7).bind fun t289=>(ye_.l0 k t289 ([]:List (S59)) 0 0))
def ye_.l0:Nat→List (S106)→List (S59)→Int→Int→Option ((List (S59)) × Int)
 | 0,_,_,_,_=>none
 | k+1,x8,x9,x10,x11=>if x11 < (x8.length:Int) then (if 0≤x11 then (if ((rd_T106 x8 x11).f0)=32 then (ye_.l0 k x8 x9 (wrap64 (x10+(((rd_T106 x8 x11).f1).size:Int))) (wrap64 (x11+1))) else (ye_.l1 k x8 x9 x11 x10 x10 (⟨#[]⟩:ByteArray))) else (none)) else (some (x9,0))
def ye_.l1:Nat→List (S106)→List (S59)→Int→Int→Int→ByteArray→Option ((List (S59)) × Int)
 | 0,_,_,_,_,_,_=>none
 | k+1,x8,x9,x11,x295000,x295001,x295002=>if x11 < (x8.length:Int) then (if 0≤x11 then (ye_.j3 k x8 x9 x11 (((rd_T106 x8 x11).f0) != 32) x295000 x295001 x295002) else (none)) else (ye_.j3 k x8 x9 x11 false x295000 x295001 x295002)
def ye_.j3:Nat→List (S106)→List (S59)→Int→Bool→Int→Int→ByteArray→Option ((List (S59)) × Int)
 | 0,_,_,_,_,_,_,_=>none
 | k+1,x8,x9,x11,x72,x295000,x295001,x295002=>if x72=true then (if 0≤x11 then (if x11 < (x8.length:Int) then (if ((rd_T106 x8 x11).f0)=45 then (ye_.l1 k x8 x9 (wrap64 (x11+1)) x295000 (wrap64 (x295001+(((rd_T106 x8 x11).f1).size:Int))) x295002) else (if x295002.size+((rd_T106 x8 x11).f1).size≤9223372036854775807 then (ye_.l1 k x8 x9 (wrap64 (x11+1)) x295000 x295001 (x295002++((rd_T106 x8 x11).f1))) else (none))) else (none)) else (none)) else (if x9.length < 4398046511104 then (ye_.l0 k x8 (x9++[(⟨x295000,x295001,x295002⟩:S59)]) x295001 x11) else (none))
end
def ye_.f (k:Nat) (a0:ByteArray) (a1:ByteArray):Option ((List (S59)) × Int):=(yD_.f k a0).bind fun t283=>((yD_.f k a1).bind fun t286=>(if (a0.size:Int) > 200000 then (ye_.j0 k t283 t286 true) else (if (a1.size:Int) > 200000 then (ye_.j0 k t283 t286 true) else (if (t283.length:Int) > 2000 then (ye_.j0 k t283 t286 true) else (ye_.j0 k t283 t286 (decide ((t286.length:Int) > 2000)))))))
def ye_.T15:Bool × List (List Nat × List Nat):=(true,[([],[]),([0],[0]),([],[]),([],[]),([2,3],[2,3]),([4],[4]),([5],[5]),([6],[6]),([1,7],[1,7]),([0,1,2,3,4,5,6,7,8],[]),([9,8,0,1,2,3,4,5,6,7,8],[8,9])])
def ye_.B15:List Nat:=[0,1,0,0,12,28,60,124,255,511,1023]
theorem ye_.tab15:rtab .any (opsOf Try.f29 15)=ye_.T15:=by kernel_rfl
theorem ye_.bits15:waitsOk ye_.T15.2 ye_.B15=true:=by kernel_rfl
def ye_.T16:Bool × List (List Nat × List Nat):=(true,[([],[]),([0],[0]),([],[]),([],[]),([2,3],[2,3]),([4],[4]),([5],[5]),([1,6],[1,6]),([0,1,2,3,4,5,6,7],[]),([8,7,0,1,2,3,4,5,6,7],[7,8])])
def ye_.B16:List Nat:=[0,1,0,0,12,28,60,127,255,511]
theorem ye_.tab16:rtab .any (opsOf Try.f29 16)=ye_.T16:=by kernel_rfl
theorem ye_.bits16:waitsOk ye_.T16.2 ye_.B16=true:=by kernel_rfl
set_option maxHeartbeats 8000000 in
set_option maxRecDepth 100000 in
theorem ye_.calls (k:Nat) (a0:ByteArray) (a1:ByteArray) (r1:List (S59)) (r2:Int) (w:World) (h:ye_.f k a0 a1=some (r1,r2)) :
  Calls Try.prog 29 #[.string a0,.string a1] w fun e w'=>∃ v0_:Value,e=.returned (.tuple #[v0_,.int .i64 r2])∧Kd.R k59 59 w' w.heap.size (fun _=>True) v0_ r1∧Below w.heap.size w w':=by
 have hu59:=Try.underlying59
 have HB:=Aside0.mk (Below.refl w.heap.size w)
 have H:((yD_.f k a0).bind fun t283=>((yD_.f k a1).bind fun t286=>(if (a0.size:Int) > 200000 then (ye_.j0 k t283 t286 true) else (if (a1.size:Int) > 200000 then (ye_.j0 k t283 t286 true) else (if (t283.length:Int) > 2000 then (ye_.j0 k t283 t286 true) else (ye_.j0 k t283 t286 (decide ((t286.length:Int) > 2000))))))))=some (r1,r2):=h
 clear h
 replace H:=Option.bind_eq_some_iff.mp H
 obtain ⟨t283,A30,H⟩:=H
 replace H:((yD_.f k a1).bind fun t286=>(if (a0.size:Int) > 200000 then (ye_.j0 k t283 t286 true) else (if (a1.size:Int) > 200000 then (ye_.j0 k t283 t286 true) else (if (t283.length:Int) > 2000 then (ye_.j0 k t283 t286 true) else (ye_.j0 k t283 t286 (decide ((t286.length:Int) > 2000)))))))=some (r1,r2):=H
 have A3:=Aside0.mk A30
 clear A30
 replace H:=Option.bind_eq_some_iff.mp H
 obtain ⟨t286,A40,H⟩:=H
 replace H:(if (a0.size:Int) > 200000 then (ye_.j0 k t283 t286 true) else (if (a1.size:Int) > 200000 then (ye_.j0 k t283 t286 true) else (if (t283.length:Int) > 2000 then (ye_.j0 k t283 t286 true) else (ye_.j0 k t283 t286 (decide ((t286.length:Int) > 2000))))))=some (r1,r2):=H
 have A4:=Aside0.mk A40
 clear A40
 have HC5:=Aside0.mk H
 clear H
 go_enter Try.func29,Try.ntmps29
 go_upto_region 2 with (first|((with_reducible refine yt_ (f:=13) rfl ?_);refine goesL_ (some 14) rfl rfl Try.func13 (by kernel_rfl) rfl #[.string a0] rfl (by (try simp only [List.map_toArray,List.map_cons,List.map_nil]);first|done|rfl|(simp only [List.length_drop,List.length_take];rfl)) ?_;(with_reducible refine (yD_.calls k a0 t283 _ A3.out).mono ?_);rintro e w6 ⟨v284,rfl,ho0,hb⟩;refine ⟨_,rfl,?_⟩;have n0_:=Aside0.mk (Kd.yJ_ ho0 (yn_ (by repeat (with_reducible first|exact HB.out|apply yc_|apply ya_|apply yb_))));have n1_:=Aside0.mk (yp_ (by repeat (with_reducible first|exact HB.out|apply yc_|apply ya_|apply yb_)) hb);clear HB;have HO285:=n0_;have HB:=n1_;clear n0_ n1_;(try clear hb);(try clear hb2);(try clear hk);(try clear hi);(try clear ho0))|((with_reducible refine yt_ (f:=13) rfl ?_);refine goesL_ (some 16) rfl rfl Try.func13 (by kernel_rfl) rfl #[.string a1] rfl (by (try simp only [List.map_toArray,List.map_cons,List.map_nil]);first|done|rfl|(simp only [List.length_drop,List.length_take];rfl)) ?_;(with_reducible refine (yD_.calls k a1 t286 _ A4.out).mono ?_);rintro e w7 ⟨v287,rfl,ho0,hb⟩;refine ⟨_,rfl,?_⟩;have n0_:=Aside0.mk (Kd.yFb_ (by (with_reducible repeat (first|apply Kd.yg_|apply Kd.yh_|apply Kd.R_drew));exact HO285.out) (Kd.R_base ho0) hb);have n1_:=Aside0.mk (Kd.yJ_ (Kd.R_new' ho0 (Kd.R_lt (by (with_reducible repeat (first|apply Kd.yg_|apply Kd.yh_|apply Kd.R_drew));exact HO285.out))) (yn_ (by repeat (with_reducible first|exact HB.out|apply yc_|apply ya_|apply yb_))));have n2_:=Aside0.mk (yp_ (by repeat (with_reducible first|exact HB.out|apply yc_|apply ya_|apply yb_)) hb);clear HO285;clear HB;have HO285:=n0_;have HO288:=n1_;have HB:=n2_;clear n0_ n1_ n2_;(try clear hb);(try clear hb2);(try clear hk);(try clear hi);(try clear ho0)))
 (try simp only [Act.put,q1_,q2_,q3_])
 go_cut [34] (fun v34 wc=>∃ (kq:Nat) (x34_4:Bool),v34=.bool x34_4∧Aside0 (ye_.j0 kq t283 t286 x34_4=some (r1,r2))∧Aside0 (kq≤k)∧Aside0 (Kd.R Kd.string 9 wc w.heap.size (fun k_=>some k_ ≠ (v287:Value).ownBlock) v284 t283)∧Aside0 (Kd.R Kd.string 9 wc w.heap.size (fun k_=>some k_ ≠ (v284:Value).ownBlock) v287 t286)∧Aside0 (Below w.heap.size w wc))
 case first =>
  have H:=HC5.out
  clear HC5
  by_cases c8:(a0.size:Int) > 200000
  ·rw [if_pos c8] at H
   have c8b0:decide (200000 < (a0.size:Int))=true:=decide_eq_true c8
   have c8b1:decide (200000 < a0.size)=true:=decide_eq_true (by omega)
   clear c8
   (first|rw [c8b0]|(simp only [i64_w,i32_w];rw [c8b0])|skip)
   have H':=Aside0.mk H
   clear H
   go_wp2
   go_meet
   case rel=>exact ⟨_,(true),(by first|rfl|(simp;done)|(simp [*];done)),H',⟨by first|omega|exact Nat.le_refl _⟩,⟨by (with_reducible repeat (first|apply Kd.yg_|apply Kd.yh_|apply Kd.R_drew));exact Kd.R_mono HO285.out (fun _ hk=>hk.2)⟩,⟨by (with_reducible repeat (first|apply Kd.yg_|apply Kd.yh_|apply Kd.R_drew));exact Kd.R_mono HO288.out (fun _ hk=>hk.2)⟩,⟨by repeat (with_reducible first|exact HB.out|apply yc_|apply ya_|apply yb_)⟩⟩
  rw [if_neg c8] at H
  have c8b0:decide (200000 < (a0.size:Int))=false:=decide_eq_false c8
  have c8b1:decide (200000 < a0.size)=false:=decide_eq_false (by omega)
  clear c8
  (first|rw [c8b0]|(simp only [i64_w,i32_w];rw [c8b0])|skip)
  by_cases c9:(a1.size:Int) > 200000
  ·rw [if_pos c9] at H
   have c9b0:decide (200000 < (a1.size:Int))=true:=decide_eq_true c9
   have c9b1:decide (200000 < a1.size)=true:=decide_eq_true (by omega)
   clear c9
   have H':=Aside0.mk H
   clear H
   go_wp2
   go_meet
   case rel=>exact ⟨_,(true),(by first|rfl|(simp;done)|(simp [*];done)),H',⟨by first|omega|exact Nat.le_refl _⟩,⟨by (with_reducible repeat (first|apply Kd.yg_|apply Kd.yh_|apply Kd.R_drew));exact Kd.R_mono HO285.out (fun _ hk=>hk.2)⟩,⟨by (with_reducible repeat (first|apply Kd.yg_|apply Kd.yh_|apply Kd.R_drew));exact Kd.R_mono HO288.out (fun _ hk=>hk.2)⟩,⟨by repeat (with_reducible first|exact HB.out|apply yc_|apply ya_|apply yb_)⟩⟩
  rw [if_neg c9] at H
  have c9b0:decide (200000 < (a1.size:Int))=false:=decide_eq_false c9
  have c9b1:decide (200000 < a1.size)=false:=decide_eq_false (by omega)
  clear c9
  by_cases c10:(t283.length:Int) > 2000
  ·rw [if_pos c10] at H
   have c10b0:decide (2000 < (t283.length:Int))=true:=decide_eq_true c10
   have c10b1:decide (2000 < t283.length)=true:=decide_eq_true (by omega)
   clear c10
   have H':=Aside0.mk H
   clear H
   obtain ⟨Ao11,co11,eo11⟩:=Kd.yC_ HO285.out
   subst eo11
   go_wp2
   go_meet
   case rel=>exact ⟨_,(true),(by first|rfl|(simp;done)|(simp [*];done)),H',⟨by first|omega|exact Nat.le_refl _⟩,⟨by (with_reducible repeat (first|apply Kd.yg_|apply Kd.yh_|apply Kd.R_drew));exact Kd.R_mono HO285.out (fun _ hk=>hk.2)⟩,⟨by (with_reducible repeat (first|apply Kd.yg_|apply Kd.yh_|apply Kd.R_drew));exact Kd.R_mono HO288.out (fun _ hk=>hk.2)⟩,⟨by repeat (with_reducible first|exact HB.out|apply yc_|apply ya_|apply yb_)⟩⟩
  rw [if_neg c10] at H
  have c10b0:decide (2000 < (t283.length:Int))=false:=decide_eq_false c10
  have c10b1:decide (2000 < t283.length)=false:=decide_eq_false (by omega)
  clear c10
  have H':=Aside0.mk H
  clear H
  obtain ⟨Ao12,co12,eo12⟩:=Kd.yC_ HO285.out
  subst eo12
  obtain ⟨Ao13,co13,eo13⟩:=Kd.yC_ HO288.out
  subst eo13
  go_wp2
  go_meet
  case rel=>exact ⟨_,(decide ((t286.length:Int) > 2000)),(by first|rfl|(simp;done)|(simp [*];done)),H',⟨by first|omega|exact Nat.le_refl _⟩,⟨by (with_reducible repeat (first|apply Kd.yg_|apply Kd.yh_|apply Kd.R_drew));exact Kd.R_mono HO285.out (fun _ hk=>hk.2)⟩,⟨by (with_reducible repeat (first|apply Kd.yg_|apply Kd.yh_|apply Kd.R_drew));exact Kd.R_mono HO288.out (fun _ hk=>hk.2)⟩,⟨by repeat (with_reducible first|exact HB.out|apply yc_|apply ya_|apply yb_)⟩⟩
 case rest =>
  clear HC5
  try clear c1
  try clear c2
  try clear p2
  try clear c8
  try clear c8b0
  try clear c8b1
  try clear c9
  try clear c9b0
  try clear c9b1
  try clear c10
  try clear c10b0
  try clear c10b1
  try clear c13
  obtain ⟨kq,x34_4,rfl,HA,HJ4,HO_6,HO_7,HB⟩:=hcut
  cases kq with
  | zero=>exact absurd HA.out (by simp [ye_.j0])
  | succ kj4 =>
   have H:=HA.out
   clear HA
   simp only [ye_.j0] at H
   by_cases c14:x34_4=true
   ·subst c14
    have H1:(some (([]:List (S59)),2))=some (r1,r2):=by rw [if_pos rfl] at H;exact H
    clear H
    have H:=H1
    clear H1
    simp only [Option.some.injEq,Prod.mk.injEq] at H
    obtain ⟨rfl,rfl⟩:=H
    go_wp2
    go_ret2
    exact ⟨_,by first|rfl|(simp [yq_,yr_] <;> rfl)|(simp [*,yq_,yr_] <;> rfl),by first|exact Kd.R_nil _ _ _ _ _|exact Kd.N_nil _ _ _ _ _|exact Kd.V_nil _ _ _ _ _|exact Kd.Q_nil _ _ _ _ _|exact Kd.S_nil _ _ _ _ _,by repeat (with_reducible first|exact HB.out|apply yc_|apply ya_|apply yb_)⟩
   replace c14:=Bool.eq_false_iff.mpr c14
   subst c14
   have H1:((yd_.f kj4 t283 t286).bind fun t289=>(ye_.l0 kj4 t289 ([]:List (S59)) 0 0))=some (r1,r2):=by rw [if_neg (show ¬ (false=true) by decide)] at H;exact H
   clear H
   have H:=H1
   clear H1
   replace H:=Option.bind_eq_some_iff.mp H
   obtain ⟨t289,A150,H⟩:=H
   replace H:(ye_.l0 kj4 t289 ([]:List (S59)) 0 0)=some (r1,r2):=H
   have A15:=Aside0.mk A150
   clear A150
   have H':=Aside0.mk H
   clear H
   obtain ⟨Ao16,co16,eo16⟩:=Kd.yC_ HO_6.out
   subst eo16
   obtain ⟨Ao17,co17,eo17⟩:=Kd.yC_ HO_7.out
   subst eo17
   go_wp2_with (first|((with_reducible refine yt_ (f:=49) rfl ?_);refine goesL_ (some 37) rfl rfl Try.func49 (by kernel_rfl) rfl #[.slice Ao16 t283.length co16,.slice Ao17 t286.length co17] rfl (by (try simp only [List.map_toArray,List.map_cons,List.map_nil]);first|done|rfl|(simp only [List.length_drop,List.length_take];rfl)) ?_;(with_reducible refine (yd_.calls kj4 _ _ t283 _ _ t286 t289 _ ?side1 ?side2 ?side3 ?side4 A15.out).mono ?_);(case side1=>repeat (first|exact (Kd.ys_ HO_6.out).2.2|(with_reducible refine Kd.yK_ ?_ _)|(with_reducible refine Kd.y1_ ?_ _)|(with_reducible refine Kd.C_drew ?_)));(case side2=>exact (Kd.ys_ HO_6.out).2.1);(case side3=>repeat (first|exact (Kd.ys_ HO_7.out).2.2|(with_reducible refine Kd.yK_ ?_ _)|(with_reducible refine Kd.y1_ ?_ _)|(with_reducible refine Kd.C_drew ?_)));(case side4=>exact (Kd.ys_ HO_7.out).2.1);rintro e w18 ⟨v290,rfl,ho0,hb⟩;refine ⟨_,rfl,?_⟩;have n0_:=Aside0.mk (Kd.yV_ (by (with_reducible repeat (first|apply Kd.yg_|apply Kd.yh_|apply Kd.R_drew));exact HO_6.out) hb);have n1_:=Aside0.mk (Kd.yV_ (by (with_reducible repeat (first|apply Kd.yg_|apply Kd.yh_|apply Kd.R_drew));exact HO_7.out) hb);have n2_:=Aside0.mk (Kd.yJ_ ho0 (yn_ (by repeat (with_reducible first|exact HB.out|apply yc_|apply ya_|apply yb_))));have n3_:=Aside0.mk (yp_ (by repeat (with_reducible first|exact HB.out|apply yc_|apply ya_|apply yb_)) hb);clear HO_6;clear HO_7;clear HB;have HO_6:=n0_;have HO_7:=n1_;have HO291:=n2_;have HB:=n3_;clear n0_ n1_ n2_ n3_;(try clear hb);(try clear hb2);(try clear hk);(try clear hi);(try clear ho0)))
   try simp only [Act.put,List.setIfInBounds_toArray,List.set_cons_succ,List.set_cons_zero]
   go_loopg [9,10,11] kj4 (fun kq v9 v10 v11 w'=>∃ (x9_2:List (S59)) (x10_2:Int) (x11_2:Int),v10=.int .i64 x10_2∧v11=.int .i64 x11_2∧Aside0 (ye_.l0 kq t289 x9_2 x10_2 x11_2=some (r1,r2))∧Aside0 (kq≤kj4)∧Aside0 (Kd.R k106 106 w' w.heap.size (fun _=>True) v290 t289)∧Aside0 (Kd.R k59 59 w' w.heap.size (fun _=>True) v9 x9_2)∧Aside0 (Below w.heap.size w w'))
   case atStart=>exact ⟨(([]:List (S59))),(0),(0),(by first|rfl|(simp;done)|(simp [*];done)),(by first|rfl|(simp;done)|(simp [*];done)),H',⟨Nat.le_refl _⟩,⟨by (with_reducible repeat (first|apply Kd.yg_|apply Kd.yh_|apply Kd.R_drew));exact HO291.out⟩,⟨by first|exact Kd.R_nil _ _ _ _ _|exact Kd.N_nil _ _ _ _ _|exact Kd.V_nil _ _ _ _ _|exact Kd.Q_nil _ _ _ _ _|exact Kd.S_nil _ _ _ _ _⟩,⟨by repeat (with_reducible first|exact HB.out|apply yc_|apply ya_|apply yb_)⟩⟩
   case round =>
    clear H'
    try clear c1
    try clear c2
    try clear p2
    try clear c4
    try clear c8
    try clear c8b0
    try clear c8b1
    try clear c9
    try clear c9b0
    try clear c9b1
    try clear c10
    try clear c10b0
    try clear c10b1
    try clear c13
    try clear c14
    try clear p2
    obtain ⟨x9_2,x10_2,x11_2,rfl,rfl,HA,HK2,HO_8,HO_9,HB⟩:=hrel
    cases gk with
    | zero=>exact absurd HA.out (by simp [ye_.l0])
    | succ k2 =>
     have H:=HA.out
     clear HA
     simp only [ye_.l0] at H
     by_cases c19:x11_2 < (t289.length:Int)
     rotate_left
     ·rw [if_neg c19] at H
      have c19b0:decide (x11_2 < (t289.length:Int))=false:=decide_eq_false c19
      clear c19
      simp only [Option.some.injEq,Prod.mk.injEq] at H
      obtain ⟨rfl,rfl⟩:=H
      obtain ⟨Ao41,co41,eo41⟩:=Kd.yC_ HO_8.out
      subst eo41
      go_wp2
      go_ret2
      exact ⟨_,by first|rfl|(simp [yq_,yr_] <;> rfl)|(simp [*,yq_,yr_] <;> rfl),by (with_reducible repeat (first|apply Kd.yg_|apply Kd.yh_|apply Kd.R_drew));exact HO_9.out,by repeat (with_reducible first|exact HB.out|apply yc_|apply ya_|apply yb_)⟩
     rw [if_pos c19] at H
     have c19b0:decide (x11_2 < (t289.length:Int))=true:=decide_eq_true c19
     clear c19
     by_cases c20:0≤x11_2
     rotate_left
     ·rw [if_neg c20] at H
      exact absurd H (by simp)
     rw [if_pos c20] at H
     have c20b0:decide (0≤x11_2)=true:=decide_eq_true c20
     clear c20
     by_cases c21:((rd_T106 t289 x11_2).f0)=32
     ·rw [if_pos c21] at H
      have c21b0:(((rd_T106 t289 x11_2).f0) == 32)=true:=beq_iff_eq.mpr c21
      have c21b1:(((rd_T106 t289 x11_2).f0) != 32)=false:=bne_eq_false_iff_eq.mpr c21
      clear c21
      have H':=Aside0.mk H
      clear H
      obtain ⟨Ao22,co22,eo22⟩:=Kd.yC_ HO_8.out
      subst eo22
      have p292:0≤(x11_2:Int):=of_decide_eq_true (by assumption)
      have q292:x11_2 < (t289.length:Int):=of_decide_eq_true (by assumption)
      obtain ⟨ad292,e292,hx292_0,hx292_1⟩:=at_T106 (Kd.ys_ HO_8.out).2.2 x11_2 p292 q292
      cases e292
      replace p292:=eq_true p292
      replace q292:=eq_true q292
      have p293:0≤(x11_2:Int):=of_decide_eq_true (by assumption)
      have q293:x11_2 < (t289.length:Int):=of_decide_eq_true (by assumption)
      obtain ⟨ad293,e293,hx293_0,hx293_1⟩:=at_T106 (Kd.ys_ HO_8.out).2.2 x11_2 p293 q293
      obtain rfl:ad292=ad293:=(by injection e293)
      replace p293:=eq_true p293
      replace q293:=eq_true q293
      go_wp2
      go_roundg k2
      case measure=>have:=HJ4.out;have:=HK2.out;omega
      case rel=>exact ⟨(x9_2),(wrap64 (x10_2+(((rd_T106 t289 x11_2).f1).size:Int))),(wrap64 (x11_2+1)),(by first|rfl|(simp;done)|(simp [*];done)),(by first|rfl|(simp;done)|(simp [*];done)),H',⟨by have:=HJ4.out;have:=HK2.out;omega⟩,⟨by (with_reducible repeat (first|apply Kd.yg_|apply Kd.yh_|apply Kd.R_drew));exact HO_8.out⟩,⟨by (with_reducible repeat (first|apply Kd.yg_|apply Kd.yh_|apply Kd.R_drew));exact HO_9.out⟩,⟨by repeat (with_reducible first|exact HB.out|apply yc_|apply ya_|apply yb_)⟩⟩
     rw [if_neg c21] at H
     have c21b0:(((rd_T106 t289 x11_2).f0) == 32)=false:=beq_eq_false_iff_ne.mpr c21
     have c21b1:(((rd_T106 t289 x11_2).f0) != 32)=true:=bne_iff_ne.mpr c21
     have H':=Aside0.mk H
     clear H
     obtain ⟨Ao23,co23,eo23⟩:=Kd.yC_ HO_8.out
     subst eo23
     have p292:0≤(x11_2:Int):=of_decide_eq_true (by assumption)
     have q292:x11_2 < (t289.length:Int):=of_decide_eq_true (by assumption)
     obtain ⟨ad292,e292,hx292_0,hx292_1⟩:=at_T106 (Kd.ys_ HO_8.out).2.2 x11_2 p292 q292
     cases e292
     replace p292:=eq_true p292
     replace q292:=eq_true q292
     go_wp2_with (first|((with_reducible refine yL_ (N:=12) rfl ?_);(try (refine yLb_ (by rfl) ?_;dsimp only));refine y0_ ?hg (N:=12) ?hd (cs:=#[.int .i64 0,.int .i64 0,.string (⟨#[]⟩:ByteArray)]) (t:=59) ?hr ?_;(case hd=>rfl);(case hg=>rfl);(case hr=>first|(go_simp;done)|(go_simp;rfl));intro gb294 hg w24 hbox hb;have n0_:=Aside0.mk (Kd.yV_ (by (with_reducible repeat (first|apply Kd.yg_|apply Kd.yh_|apply Kd.R_drew));exact HO_8.out) hb);have n1_:=Aside0.mk (Kd.yV_ (Kd.y9b_ (by (with_reducible repeat (first|apply Kd.yg_|apply Kd.yh_|apply Kd.R_drew));exact HO_9.out) gb294 (Nat.le_of_eq hg.symm)) hb);have n2_:=Aside0.mk (yp_ (by repeat (with_reducible first|exact HB.out|apply yc_|apply ya_|apply yb_)) hb);have n3_:=Aside0.mk (hbox);have n4_:=Aside0.mk ((by rw [hg];exact (yn_ (by repeat (with_reducible first|exact HB.out|apply yc_|apply ya_|apply yb_))):w.heap.size≤gb294));have n5_:=Aside0.mk ((by rw [hg];exact (yn_ (by repeat (with_reducible first|exact HB.out|apply yc_|apply ya_|apply yb_))):w.heap.size≤gb294));clear HO_8;clear HO_9;clear HB;have HO_8:=n0_;have HO_9:=n1_;have HB:=n2_;have BK294:=n3_;have GW294:=n4_;have GE294:=n5_;clear n0_ n1_ n2_ n3_ n4_ n5_;clear hb hbox hg;have hcz25_0:w24.cell? ⟨gb294,0,none⟩=some (.int .i64 0):=(yk_ BK294.out 0).trans rfl;have hcz25_1:w24.cell? ⟨gb294,1,none⟩=some (.int .i64 0):=(yk_ BK294.out 1).trans rfl;have hcz25_2:w24.cell? ⟨gb294,2,none⟩=some (.string (⟨#[]⟩:ByteArray)):=(yk_ BK294.out 2).trans rfl;have hfz25_0:=ym_ BK294.out 0;have hfz25_1:=ym_ BK294.out 1;have hfz25_2:=ym_ BK294.out 2))
     try simp only [Act.put,List.setIfInBounds_toArray,List.set_cons_succ,List.set_cons_zero]
     go_loopg [11] k2 (fun kq v11 w'=>∃ (x11_3:Int) (x295001_3:Int) (x295002_3:ByteArray),v11=.int .i64 x11_3∧Aside0 (ye_.l1 kq t289 x9_2 x11_3 x10_2 x295001_3 x295002_3=some (r1,r2))∧Aside0 (kq≤k2)∧Aside0 (Kd.R k106 106 w' w.heap.size (fun _=>True) (.slice (some ad292) t289.length co23) t289)∧Aside0 (Kd.R k59 59 w' w.heap.size (fun k_=>k_ ≠ gb294) u9 x9_2)∧Aside0 (w'.heap[gb294]?=some (.cells #[.int .i64 x10_2,.int .i64 x295001_3,.string x295002_3] 59 (0,0)))∧Aside0 (Below w.heap.size w w'))
     case atStart=>exact ⟨(x11_2),(x10_2),((⟨#[]⟩:ByteArray)),(by first|rfl|(simp;done)|(simp [*];done)),H',⟨Nat.le_refl _⟩,⟨by (with_reducible repeat (first|apply Kd.yg_|apply Kd.yh_|apply Kd.R_drew));exact Kd.R_mono (Kd.R_far (p:=⟨gb294,2,none⟩) (Kd.R_far (p:=⟨gb294,1,none⟩) (Kd.R_far (p:=⟨gb294,0,none⟩) (Kd.yRb_ HO_8.out BK294.out (by decide)) (fun _ hk=>hk.2) (.int .i64 x10_2)) (fun _ hk=>hk.2) (.int .i64 x10_2)) (fun _ hk=>hk.2) (.string (⟨#[]⟩:ByteArray))) (fun _ hk=>trivial)⟩,⟨by (with_reducible repeat (first|apply Kd.yg_|apply Kd.yh_|apply Kd.R_drew));exact Kd.R_mono (Kd.R_far (p:=⟨gb294,2,none⟩) (Kd.R_far (p:=⟨gb294,1,none⟩) (Kd.R_far (p:=⟨gb294,0,none⟩) (Kd.R_mono HO_9.out (fun k_ hk=>(⟨hk,hk.2⟩:_∧k_ ≠ gb294))) (fun _ hk=>hk.2) (.int .i64 x10_2)) (fun _ hk=>hk.2) (.int .i64 x10_2)) (fun _ hk=>hk.2) (.string (⟨#[]⟩:ByteArray))) (fun _ hk=>hk.1.2)⟩,⟨by (with_reducible repeat (first|refine yx_ ?_ _|refine yA_ ?_|refine yw_ ?_ _));refine yqb_ (cs:=#[.int .i64 x10_2,.int .i64 x10_2,.string (⟨#[]⟩:ByteArray)]) ?_ 2 _ rfl;(with_reducible repeat (first|refine yx_ ?_ _|refine yA_ ?_|refine yw_ ?_ _));refine yqb_ (cs:=#[.int .i64 x10_2,.int .i64 0,.string (⟨#[]⟩:ByteArray)]) ?_ 1 _ rfl;(with_reducible repeat (first|refine yx_ ?_ _|refine yA_ ?_|refine yw_ ?_ _));refine yqb_ (cs:=#[.int .i64 0,.int .i64 0,.string (⟨#[]⟩:ByteArray)]) ?_ 0 _ rfl;(with_reducible repeat (first|refine yx_ ?_ _|refine yA_ ?_|refine yw_ ?_ _));exact BK294.out⟩,⟨by repeat (with_reducible first|exact HB.out|apply yc_|apply ya_|apply yb_|refine yo_ ?_ GE294.out)⟩⟩
     case round =>
      clear H'
      try clear c1
      try clear c2
      try clear p2
      try clear q2
      try clear hx2
      try clear c4
      try clear p6
      try clear c8
      try clear c8b0
      try clear c8b1
      try clear c9
      try clear c9b0
      try clear c9b1
      try clear c10
      try clear c10b0
      try clear c10b1
      try clear c13
      try clear c14
      try clear c19
      try clear c19b0
      try clear c20
      try clear c20b0
      try clear c21
      try clear c21b0
      try clear c21b1
      try clear hcz25_0
      try clear hcz25_1
      try clear hcz25_2
      try clear hfz25_0
      try clear hfz25_1
      try clear hfz25_2
      try clear hx292_0
      try clear hx292_1
      try clear hx293_0
      try clear hx293_1
      try clear p2
      try clear p292
      try clear p293
      try clear q292
      try clear q293
      obtain ⟨x11_3,x295001_3,x295002_3,rfl,HA,HK3,HO_8,HO_9,BK294,HB⟩:=hrel
      cases gk with
      | zero=>exact absurd HA.out (by simp [ye_.l1])
      | succ k3 =>
       have H:=HA.out
       clear HA
       simp only [ye_.l1] at H
       have HC26:=Aside0.mk H
       clear H
       go_upto_region 13 with (fail)
       go_cut [72] (fun v72 wc=>∃ (kq:Nat) (x72_25:Bool),v72=.bool x72_25∧Aside0 (ye_.j3 kq t289 x9_2 x11_3 x72_25 x10_2 x295001_3 x295002_3=some (r1,r2))∧Aside0 (kq≤k3)∧Aside0 (Kd.R k106 106 wc w.heap.size (fun _=>True) (.slice (some ad292) t289.length co23) t289)∧Aside0 (Kd.R k59 59 wc w.heap.size (fun k_=>k_ ≠ gb294) u9 x9_2)∧Aside0 (wc.heap[gb294]?=some (.cells #[.int .i64 x10_2,.int .i64 x295001_3,.string x295002_3] 59 (0,0)))∧Aside0 (Below w.heap.size w wc))
       case first =>
        have H:=HC26.out
        clear HC26
        by_cases c27:x11_3 < (t289.length:Int)
        rotate_left
        ·rw [if_neg c27] at H
         have c27b0:decide (x11_3 < (t289.length:Int))=false:=decide_eq_false c27
         clear c27
         (first|rw [c27b0]|(simp only [i64_w,i32_w];rw [c27b0])|skip)
         have H':=Aside0.mk H
         clear H
         go_wp2
         go_meet
         case rel=>exact ⟨_,(false),(by first|rfl|(simp;done)|(simp [*];done)),H',⟨by have:=HJ4.out;have:=HK2.out;have:=HK3.out;first|omega|exact Nat.le_refl _⟩,⟨by (with_reducible repeat (first|apply Kd.yg_|apply Kd.yh_|apply Kd.R_drew));exact HO_8.out⟩,⟨by (with_reducible repeat (first|apply Kd.yg_|apply Kd.yh_|apply Kd.R_drew));exact HO_9.out⟩,⟨by (with_reducible repeat (first|refine yx_ ?_ _|refine yA_ ?_|refine yw_ ?_ _));exact BK294.out⟩,⟨by repeat (with_reducible first|exact HB.out|apply yc_|apply ya_|apply yb_|refine yo_ ?_ GE294.out)⟩⟩
        rw [if_pos c27] at H
        have c27b0:decide (x11_3 < (t289.length:Int))=true:=decide_eq_true c27
        clear c27
        (first|rw [c27b0]|(simp only [i64_w,i32_w];rw [c27b0])|skip)
        by_cases c28:0≤x11_3
        rotate_left
        ·rw [if_neg c28] at H
         exact absurd H (by simp)
        rw [if_pos c28] at H
        have c28b0:decide (0≤x11_3)=true:=decide_eq_true c28
        clear c28
        have H':=Aside0.mk H
        clear H
        have p295:0≤(x11_3:Int):=of_decide_eq_true (by assumption)
        have q295:x11_3 < (t289.length:Int):=of_decide_eq_true (by assumption)
        obtain ⟨ad295,e295,hx295_0,hx295_1⟩:=at_T106 (Kd.ys_ HO_8.out).2.2 x11_3 p295 q295
        obtain rfl:ad292=ad295:=(by injection e295)
        replace p295:=eq_true p295
        replace q295:=eq_true q295
        go_wp2
        go_meet
        case rel=>exact ⟨_,((((rd_T106 t289 x11_3).f0) != 32)),(by first|rfl|(simp;done)|(simp [*];done)),H',⟨by have:=HJ4.out;have:=HK2.out;have:=HK3.out;first|omega|exact Nat.le_refl _⟩,⟨by (with_reducible repeat (first|apply Kd.yg_|apply Kd.yh_|apply Kd.R_drew));exact HO_8.out⟩,⟨by (with_reducible repeat (first|apply Kd.yg_|apply Kd.yh_|apply Kd.R_drew));exact HO_9.out⟩,⟨by (with_reducible repeat (first|refine yx_ ?_ _|refine yA_ ?_|refine yw_ ?_ _));exact BK294.out⟩,⟨by repeat (with_reducible first|exact HB.out|apply yc_|apply ya_|apply yb_|refine yo_ ?_ GE294.out)⟩⟩
       case rest =>
        clear HC26
        try clear c1
        try clear c2
        try clear p2
        try clear q2
        try clear hx2
        try clear c4
        try clear p6
        try clear c8
        try clear c8b0
        try clear c8b1
        try clear c9
        try clear c9b0
        try clear c9b1
        try clear c10
        try clear c10b0
        try clear c10b1
        try clear c13
        try clear c14
        try clear c19
        try clear c19b0
        try clear c20
        try clear c20b0
        try clear c21
        try clear c21b0
        try clear c21b1
        try clear c27
        try clear c27b0
        try clear c28
        try clear c28b0
        try clear hcz25_0
        try clear hcz25_1
        try clear hcz25_2
        try clear hfz25_0
        try clear hfz25_1
        try clear hfz25_2
        try clear hx292_0
        try clear hx292_1
        try clear hx293_0
        try clear hx293_1
        try clear hx295_0
        try clear hx295_1
        try clear p2
        try clear p292
        try clear p293
        try clear p295
        try clear p6
        try clear q2
        try clear q292
        try clear q293
        try clear q295
        obtain ⟨kq,x72_25,rfl,HA,HJ25,HO_8,HO_9,BK294,HB⟩:=hcut
        cases kq with
        | zero=>exact absurd HA.out (by simp [ye_.j3])
        | succ kj25 =>
         have H:=HA.out
         clear HA
         simp only [ye_.j3] at H
         by_cases c29:x72_25=true
         rotate_left
         ·replace c29:=Bool.eq_false_iff.mpr c29
          subst c29
          have H1:(if x9_2.length < 4398046511104 then (ye_.l0 kj25 t289 (x9_2++[(⟨x10_2,x295001_3,x295002_3⟩:S59)]) x295001_3 x11_3) else (none))=some (r1,r2):=by rw [if_neg (show ¬ (false=true) by decide)] at H;exact H
          clear H
          have H:=H1
          clear H1
          by_cases c38:x9_2.length < 4398046511104
          rotate_left
          ·rw [if_neg c38] at H
           exact absurd H (by simp)
          rw [if_pos c38] at H
          have LMc38:=Aside0.mk c38
          clear c38
          obtain ⟨y299,hy299⟩:∃ y_:List (S59),y_=(x9_2++[(⟨x10_2,x295001_3,x295002_3⟩:S59)]):=⟨_,rfl⟩
          replace H:(ye_.l0 kj25 t289 y299 x295001_3 x11_3)=some (r1,r2):=by first|(rw [hy299];with_reducible exact H)|(have H2_:=(Option.bind_some _ _).symm.trans H;rw [hy299];with_reducible exact H2_)|(have H2_:=(Option.bind_some _ _).symm.trans H;with_reducible exact H2_)|with_reducible exact H|(rw [hy299];exact H)|exact H
          have Ny299:=Aside0.mk hy299
          clear hy299
          have H':=Aside0.mk H
          clear H
          have hcz39_0:wc.cell? ⟨gb294,0,none⟩=some (.int .i64 x10_2):=(yk_ BK294.out 0).trans rfl
          have hcz39_1:wc.cell? ⟨gb294,1,none⟩=some (.int .i64 x295001_3):=(yk_ BK294.out 1).trans rfl
          have hcz39_2:wc.cell? ⟨gb294,2,none⟩=some (.string x295002_3):=(yk_ BK294.out 2).trans rfl
          have hfz39_0:=ym_ BK294.out 0
          have hfz39_1:=ym_ BK294.out 1
          have hfz39_2:=ym_ BK294.out 2
          go_wp2_with (first|((with_reducible refine yF_ (b:=.append) (xs:=#[.tmp 102,.tmp 104]) rfl ?_);(try (refine yLb_ (by rfl) ?_;dsimp only));at_builtin;refine Kd.y7_ k59 (w0:=w) w.heap.size rfl (.tmp 102) (.tmp 104) 55 59 (.agg #[(.int .i64 0),(.int .i64 0),(.string ⟨#[]⟩)]) 32 rfl Try.underlying55 info59 rfl (by decide) (by omega) u9 x9_2 (⟨x10_2,x295001_3,x295002_3⟩:S59) [.int .i64 x10_2,.int .i64 x295001_3,.string x295002_3] (fun k_=>k_ ≠ gb294) (fun _=>False) rfl rfl ?aP (fun _ hk=>hk.elim) ?aF ?aO ?aB ?aS ?aL ?_;(case aP=>exact yXb_ _ _ _ (⟨x10_2,x295001_3,x295002_3⟩:S59));(case aB=>exact (by repeat (with_reducible first|exact HB.out|apply yc_|apply ya_|apply yb_|refine yo_ ?_ GE294.out)));(case aF=>exact (fun k_ hk=>Kd.freshB (g:=gb294) (o:=.cells #[.int .i64 x10_2,.int .i64 x295001_3,.string x295002_3] 59 (0,0)) (by (with_reducible repeat (first|refine yx_ ?_ _|refine yA_ ?_|refine yw_ ?_ _));exact BK294.out) k_ hk));(case aO=>exact (by (with_reducible repeat (first|apply Kd.yg_|apply Kd.yh_|apply Kd.R_drew));exact HO_9.out));(case aS=>exact (yn_ (by repeat (with_reducible first|exact HB.out|apply yc_|apply ya_|apply yb_|refine yo_ ?_ GE294.out))));(case aL=>have:=LMc38.out;omega);intro v300 w40 ho hb hg hat;rw [← Ny299.out] at ho;have n0_:=Aside0.mk (Kd.ybb_ (by (with_reducible repeat (first|apply Kd.yg_|apply Kd.yh_|apply Kd.R_drew));exact HO_8.out) (Kd.yO_ (by (with_reducible repeat (first|apply Kd.yg_|apply Kd.yh_|apply Kd.R_drew));exact HO_9.out)) (by decide) hg);have n1_:=Aside0.mk (y1b_ (g:=gb294) (o:=.cells #[.int .i64 x10_2,.int .i64 x295001_3,.string x295002_3] 59 (0,0)) (by (with_reducible repeat (first|refine yx_ ?_ _|refine yA_ ?_|refine yw_ ?_ _));exact BK294.out) hg (Kd.R_away HO_9.out (fun _ hk=>hk)));have n2_:=Aside0.mk (hb);have n3_:=Aside0.mk (ho);clear HO_8;clear BK294;clear HB;clear HO_9;have HO_8:=n0_;have BK294:=n1_;have HB:=n2_;have HO301:=n3_;clear n0_ n1_ n2_ n3_;clear ho hb hg hat))
          go_roundg kj25
          case measure=>have:=HJ4.out;have:=HK2.out;have:=HK3.out;have:=HJ25.out;omega
          case rel=>exact ⟨(y299),(x295001_3),(x11_3),(by first|rfl|(simp;done)|(simp [*];done)),(by first|rfl|(simp;done)|(simp [*];done)),H',⟨by have:=HJ4.out;have:=HK2.out;have:=HK3.out;have:=HJ25.out;omega⟩,⟨by (with_reducible repeat (first|apply Kd.yg_|apply Kd.yh_|apply Kd.R_drew));exact HO_8.out⟩,⟨by (with_reducible repeat (first|apply Kd.yg_|apply Kd.yh_|apply Kd.R_drew));exact Kd.R_mono HO301.out (fun _ hk=>trivial)⟩,⟨by repeat (with_reducible first|exact HB.out|apply yc_|apply ya_|apply yb_|refine yo_ ?_ GE294.out)⟩⟩
         subst c29
         have H1:(if 0≤x11_3 then (if x11_3 < (t289.length:Int) then (if ((rd_T106 t289 x11_3).f0)=45 then (ye_.l1 kj25 t289 x9_2 (wrap64 (x11_3+1)) x10_2 (wrap64 (x295001_3+(((rd_T106 t289 x11_3).f1).size:Int))) x295002_3) else (if x295002_3.size+((rd_T106 t289 x11_3).f1).size≤9223372036854775807 then (ye_.l1 kj25 t289 x9_2 (wrap64 (x11_3+1)) x10_2 x295001_3 (x295002_3++((rd_T106 t289 x11_3).f1))) else (none))) else (none)) else (none))=some (r1,r2):=by rw [if_pos rfl] at H;exact H
         clear H
         have H:=H1
         clear H1
         by_cases c30:0≤x11_3
         rotate_left
         ·rw [if_neg c30] at H
          exact absurd H (by simp)
         rw [if_pos c30] at H
         have c30b0:decide (0≤x11_3)=true:=decide_eq_true c30
         clear c30
         by_cases c31:x11_3 < (t289.length:Int)
         rotate_left
         ·rw [if_neg c31] at H
          exact absurd H (by simp)
         rw [if_pos c31] at H
         have c31b0:decide (x11_3 < (t289.length:Int))=true:=decide_eq_true c31
         clear c31
         by_cases c32:((rd_T106 t289 x11_3).f0)=45
         ·rw [if_pos c32] at H
          have c32b0:(((rd_T106 t289 x11_3).f0) == 45)=true:=beq_iff_eq.mpr c32
          have c32b1:(((rd_T106 t289 x11_3).f0) != 45)=false:=bne_eq_false_iff_eq.mpr c32
          clear c32
          have H':=Aside0.mk H
          clear H
          have p296:0≤(x11_3:Int):=of_decide_eq_true (by assumption)
          have q296:x11_3 < (t289.length:Int):=of_decide_eq_true (by assumption)
          obtain ⟨ad296,e296,hx296_0,hx296_1⟩:=at_T106 (Kd.ys_ HO_8.out).2.2 x11_3 p296 q296
          obtain rfl:ad292=ad296:=(by injection e296)
          replace p296:=eq_true p296
          replace q296:=eq_true q296
          try go_wp2
          have n0_:=Aside0.mk (Kd.R_drew HO_8.out)
          have n1_:=Aside0.mk (Kd.R_drew HO_9.out)
          have n2_:=Aside0.mk (yA_ BK294.out)
          have n3_:=Aside0.mk (yb_ HB.out)
          clear HO_8
          clear HO_9
          clear BK294
          clear HB
          have HO_8:=n0_
          have HO_9:=n1_
          have BK294:=n2_
          have HB:=n3_
          clear n0_ n1_ n2_ n3_
          have p297:0≤(x11_3:Int):=of_decide_eq_true (by assumption)
          have q297:x11_3 < (t289.length:Int):=of_decide_eq_true (by assumption)
          obtain ⟨ad297,e297,hx297_0,hx297_1⟩:=at_T106 (Kd.ys_ HO_8.out).2.2 x11_3 p297 q297
          obtain rfl:ad292=ad297:=(by injection e297)
          replace p297:=eq_true p297
          replace q297:=eq_true q297
          refine start_ (n:=11) (S:=fun w'=>w'.cell? ⟨gb294,0,none⟩=some (.int .i64 x10_2)∧w'.cell? ⟨gb294,1,none⟩=some (.int .i64 x295001_3)∧w'.cell? ⟨gb294,2,none⟩=some (.string x295002_3)∧w'.cell? (ad292.add ((x11_3).toNat * 2))=some (.int .u8 ((rd_T106 t289 x11_3).f0))∧w'.cell? ⟨(ad292.add ((x11_3).toNat * 2)).block,(ad292.add ((x11_3).toNat * 2)).off+1,none⟩=some (.string ((rd_T106 t289 x11_3).f1))) (ds:=[10]) (bA 11 0) (by kernel_rfl) rfl rfl ⟨(yk_ BK294.out 0).trans rfl,(yk_ BK294.out 1).trans rfl,(yk_ BK294.out 2).trans rfl,hx297_0,hx297_1⟩ (fun hHeld=>?_);refine yP_ ye_.tab15 ye_.bits15 (fun HT_ HW_=>?_)
          generalize wc.drew=w33 at HO_8 HO_9 BK294 HB hx297_0 hx297_1 hHeld ⊢
          refine pu_ 0 79 (bA 11 1) HT_ ?_
          refine pu_ 2 81 (bA 11 5) HT_ ?_
          refine pu_ 3 82 (bA 11 13) HT_ ?_
          refine pu_ 4 83 (bA 11 29) HT_ ?_
          refine pu_ 5 84 (bA 11 61) HT_ ?_
          refine tk_ 1 80 (bA 11 63) rfl HT_ HW_ hHeld (by rintro w' ⟨s0,s1,s2,s3,s4⟩;go_simp;with_reducible rfl) ?_
          refine tk_ 6 85 (bA 11 127) rfl HT_ HW_ hHeld (by rintro w' ⟨s0,s1,s2,s3,s4⟩;go_simp;with_reducible rfl) ?_
          refine pu_ 7 86 (bA 11 255) HT_ ?_
          refine pu_ 8 87 (bA 11 511) HT_ ?_
          refine pu_ 9 88 (bA 11 1023) HT_ ?_
          refine last_ (i:=10) (N:=none) (bA 11 2047) rfl rfl (one_of HT_.out (by kernel_rfl)) (by decide) (fun K hK=>?_)
          have hs34:w33.cell? ⟨gb294,1,none⟩=some (.int .i64 x295001_3):=(yk_ BK294.out 1).trans rfl
          have hfs34:=ym_ BK294.out 1
          refine skip_ (w1:=?_) (by rfl) rfl ?_ ?_
          rotate_left
          ·go_simp
           rfl
          refine hK.out _ _ ?_
          clear hK K
          refine done_ (ydb_ HT_.out (by kernel_rfl)) ?_
          try go_wp2
          go_roundg kj25
          case measure=>have:=HJ4.out;have:=HK2.out;have:=HK3.out;have:=HJ25.out;omega
          case rel=>exact ⟨(wrap64 (x11_3+1)),(wrap64 (x295001_3+(((rd_T106 t289 x11_3).f1).size:Int))),(x295002_3),(by first|rfl|(simp;done)|(simp [*];done)),H',⟨by have:=HJ4.out;have:=HK2.out;have:=HK3.out;have:=HJ25.out;omega⟩,⟨by (with_reducible repeat (first|apply Kd.yg_|apply Kd.yh_|apply Kd.R_drew));exact Kd.R_mono (Kd.R_far (p:=⟨gb294,1,none⟩) (Kd.yRb_ HO_8.out BK294.out (by decide)) (fun _ hk=>hk.2) (.int .i64 (wrap64 (x295001_3+(((rd_T106 t289 x11_3).f1).size:Int))))) (fun _ hk=>trivial)⟩,⟨by (with_reducible repeat (first|apply Kd.yg_|apply Kd.yh_|apply Kd.R_drew));exact Kd.R_mono (Kd.R_far (p:=⟨gb294,1,none⟩) (Kd.R_mono HO_9.out (fun k_ hk=>(⟨hk,hk⟩:_∧k_ ≠ gb294))) (fun _ hk=>hk.2) (.int .i64 (wrap64 (x295001_3+(((rd_T106 t289 x11_3).f1).size:Int))))) (fun _ hk=>hk.1)⟩,⟨by (with_reducible repeat (first|refine yx_ ?_ _|refine yA_ ?_|refine yw_ ?_ _));refine yqb_ (cs:=#[.int .i64 x10_2,.int .i64 x295001_3,.string x295002_3]) ?_ 1 _ rfl;(with_reducible repeat (first|refine yx_ ?_ _|refine yA_ ?_|refine yw_ ?_ _));exact BK294.out⟩,⟨by repeat (with_reducible first|exact HB.out|apply yc_|apply ya_|apply yb_|refine yo_ ?_ GE294.out)⟩⟩
         rw [if_neg c32] at H
         have c32b0:(((rd_T106 t289 x11_3).f0) == 45)=false:=beq_eq_false_iff_ne.mpr c32
         have c32b1:(((rd_T106 t289 x11_3).f0) != 45)=true:=bne_iff_ne.mpr c32
         by_cases c35:x295002_3.size+((rd_T106 t289 x11_3).f1).size≤9223372036854775807
         rotate_left
         ·rw [if_neg c35] at H
          exact absurd H (by simp)
         rw [if_pos c35] at H
         have c35b0:=eq_true c35
         have c35b1:decide (x295002_3.size+((rd_T106 t289 x11_3).f1).size≤9223372036854775807)=true:=decide_eq_true c35
         try have c35b2:(9223372036854775807 < x295002_3.size+((rd_T106 t289 x11_3).f1).size)=False:=eq_false (Nat.not_lt.2 c35)
         have H':=Aside0.mk H
         clear H
         have p296:0≤(x11_3:Int):=of_decide_eq_true (by assumption)
         have q296:x11_3 < (t289.length:Int):=of_decide_eq_true (by assumption)
         obtain ⟨ad296,e296,hx296_0,hx296_1⟩:=at_T106 (Kd.ys_ HO_8.out).2.2 x11_3 p296 q296
         obtain rfl:ad292=ad296:=(by injection e296)
         replace p296:=eq_true p296
         replace q296:=eq_true q296
         try go_wp2
         have n0_:=Aside0.mk (Kd.R_drew HO_8.out)
         have n1_:=Aside0.mk (Kd.R_drew HO_9.out)
         have n2_:=Aside0.mk (yA_ BK294.out)
         have n3_:=Aside0.mk (yb_ HB.out)
         clear HO_8
         clear HO_9
         clear BK294
         clear HB
         have HO_8:=n0_
         have HO_9:=n1_
         have BK294:=n2_
         have HB:=n3_
         clear n0_ n1_ n2_ n3_
         have p298:0≤(x11_3:Int):=of_decide_eq_true (by assumption)
         have q298:x11_3 < (t289.length:Int):=of_decide_eq_true (by assumption)
         obtain ⟨ad298,e298,hx298_0,hx298_1⟩:=at_T106 (Kd.ys_ HO_8.out).2.2 x11_3 p298 q298
         obtain rfl:ad292=ad298:=(by injection e298)
         replace p298:=eq_true p298
         replace q298:=eq_true q298
         refine start_ (n:=10) (S:=fun w'=>w'.cell? ⟨gb294,0,none⟩=some (.int .i64 x10_2)∧w'.cell? ⟨gb294,1,none⟩=some (.int .i64 x295001_3)∧w'.cell? ⟨gb294,2,none⟩=some (.string x295002_3)∧w'.cell? (ad292.add ((x11_3).toNat * 2))=some (.int .u8 ((rd_T106 t289 x11_3).f0))∧w'.cell? ⟨(ad292.add ((x11_3).toNat * 2)).block,(ad292.add ((x11_3).toNat * 2)).off+1,none⟩=some (.string ((rd_T106 t289 x11_3).f1))) (ds:=[9]) (bA 10 0) (by kernel_rfl) rfl rfl ⟨(yk_ BK294.out 0).trans rfl,(yk_ BK294.out 1).trans rfl,(yk_ BK294.out 2).trans rfl,hx298_0,hx298_1⟩ (fun hHeld=>?_);refine yP_ ye_.tab16 ye_.bits16 (fun HT_ HW_=>?_)
         generalize wc.drew=w36 at HO_8 HO_9 BK294 HB hx298_0 hx298_1 hHeld ⊢
         refine pu_ 0 89 (bA 10 1) HT_ ?_
         refine pu_ 2 91 (bA 10 5) HT_ ?_
         refine pu_ 3 92 (bA 10 13) HT_ ?_
         refine pu_ 4 93 (bA 10 29) HT_ ?_
         refine pu_ 5 94 (bA 10 61) HT_ ?_
         refine tk_ 1 90 (bA 10 63) rfl HT_ HW_ hHeld (by rintro w' ⟨s0,s1,s2,s3,s4⟩;go_simp;with_reducible rfl) ?_
         refine tk_ 6 95 (bA 10 127) rfl HT_ HW_ hHeld (by rintro w' ⟨s0,s1,s2,s3,s4⟩;go_simp;with_reducible rfl) ?_
         refine pu_ 7 96 (bA 10 255) HT_ ?_
         refine pu_ 8 97 (bA 10 511) HT_ ?_
         refine last_ (i:=9) (N:=none) (bA 10 1023) rfl rfl (one_of HT_.out (by kernel_rfl)) (by decide) (fun K hK=>?_)
         have hs37:w36.cell? ⟨gb294,2,none⟩=some (.string x295002_3):=(yk_ BK294.out 2).trans rfl
         have hfs37:=ym_ BK294.out 2
         refine skip_ (w1:=?_) (by rfl) rfl ?_ ?_
         rotate_left
         ·go_simp
          rfl
         refine hK.out _ _ ?_
         clear hK K
         refine done_ (ydb_ HT_.out (by kernel_rfl)) ?_
         try go_wp2
         go_roundg kj25
         case measure=>have:=HJ4.out;have:=HK2.out;have:=HK3.out;have:=HJ25.out;omega
         case rel=>exact ⟨(wrap64 (x11_3+1)),(x295001_3),(x295002_3++((rd_T106 t289 x11_3).f1)),(by first|rfl|(simp;done)|(simp [*];done)),H',⟨by have:=HJ4.out;have:=HK2.out;have:=HK3.out;have:=HJ25.out;omega⟩,⟨by (with_reducible repeat (first|apply Kd.yg_|apply Kd.yh_|apply Kd.R_drew));exact Kd.R_mono (Kd.R_far (p:=⟨gb294,2,none⟩) (Kd.yRb_ HO_8.out BK294.out (by decide)) (fun _ hk=>hk.2) (.string (x295002_3++((rd_T106 t289 x11_3).f1)))) (fun _ hk=>trivial)⟩,⟨by (with_reducible repeat (first|apply Kd.yg_|apply Kd.yh_|apply Kd.R_drew));exact Kd.R_mono (Kd.R_far (p:=⟨gb294,2,none⟩) (Kd.R_mono HO_9.out (fun k_ hk=>(⟨hk,hk⟩:_∧k_ ≠ gb294))) (fun _ hk=>hk.2) (.string (x295002_3++((rd_T106 t289 x11_3).f1)))) (fun _ hk=>hk.1)⟩,⟨by (with_reducible repeat (first|refine yx_ ?_ _|refine yA_ ?_|refine yw_ ?_ _));refine yqb_ (cs:=#[.int .i64 x10_2,.int .i64 x295001_3,.string x295002_3]) ?_ 2 _ rfl;(with_reducible repeat (first|refine yx_ ?_ _|refine yA_ ?_|refine yw_ ?_ _));exact BK294.out⟩,⟨by repeat (with_reducible first|exact HB.out|apply yc_|apply ya_|apply yb_|refine yo_ ?_ GE294.out)⟩⟩

end Go.Proofs.Ythimblhfjfngiaa.PText

namespace Go.Proofs.Ythimblhfjfngiaa.PText
open Go.RowKit Go.Proofs.YthimblhfjfngiaaW.PrintWords Go.Proofs.YthimblhfjfngiaaW.PrintLast Go.Proofs.YthimblhfjfngiaaW.PrintMore
attribute [local go_sem] y2_ y3_ yfb_ ygb_ yS_ yT_ y4_ y5_   -- for this text's walks alone
set_option linter.unusedVariables false
set_option linter.unusedSimpArgs false

theorem eqA59 (d:Nat) (w:World) (x0 y0:Int) (x1 y1:Int) (x2 y2:ByteArray) :
  (Op.equalIn (d+2) 59 (.agg #[.int .i64 x0,.int .i64 x1,.string x2]) (.agg #[.int .i64 y0,.int .i64 y1,.string y2])).run Try.prog w=.ok (x0 == y0 && (x1 == y1 && (x2.toList == y2.toList))) w:=by
 refine eqA_of Try.underlying59 (by kernel_rfl) ?_
 refine eqf_cons (by rfl) (by go_simp;rfl) (by go_simp;rfl) (by go_simp) ?_
 refine eqf_cons (by rfl) (by go_simp;rfl) (by go_simp;rfl) (by go_simp) ?_
 exact eqf_last (by rfl) (by go_simp;rfl) (by go_simp;rfl) (by go_simp)
end Go.Proofs.Ythimblhfjfngiaa.PText

namespace Go.Proofs.Ythimblhfjfngiaa.PText
open Go.RowKit Go.Proofs.YthimblhfjfngiaaW.PrintWords Go.Proofs.YthimblhfjfngiaaW.PrintLast Go.Proofs.YthimblhfjfngiaaW.PrintMore
attribute [local go_sem] y2_ y3_ yfb_ ygb_ yS_ yT_ y4_ y5_   -- for this text's walks alone
set_option linter.unusedVariables false
set_option linter.unusedSimpArgs false

attribute [local go_sem high] eqA59
def yob_.f (a0_0:Int) (a0_1:Int) (a0_2:ByteArray) (a1_0:Int) (a1_1:Int) (a1_2:ByteArray):Option (Bool):=if (!(a0_0 == a1_0) || (!(a0_1 == a1_1) || (!(a0_2.toList == a1_2.toList))))=true then (if a0_0≤a1_1 then (some (decide (a1_0≤a0_1))) else (some false)) else (some false)
set_option maxHeartbeats 8000000 in
set_option maxRecDepth 100000 in
theorem yob_.calls (a0_0:Int) (a0_1:Int) (a0_2:ByteArray) (a1_0:Int) (a1_1:Int) (a1_2:ByteArray) (r:Bool) (w:World) (h:yob_.f a0_0 a0_1 a0_2 a1_0 a1_1 a1_2=some r) :
  Calls Try.prog 31 #[.agg #[.int .i64 a0_0,.int .i64 a0_1,.string a0_2],.agg #[.int .i64 a1_0,.int .i64 a1_1,.string a1_2]] w fun e w'=>e=.returned (.bool r)∧Below w.heap.size w w':=by
 have hu59:=Try.underlying59
 have HB:=Aside0.mk (Below.refl w.heap.size w)
 have H:(if (!(a0_0 == a1_0) || (!(a0_1 == a1_1) || (!(a0_2.toList == a1_2.toList))))=true then (if a0_0≤a1_1 then (some (decide (a1_0≤a0_1))) else (some false)) else (some false))=some r:=h
 clear h
 by_cases c3:(!(a0_0 == a1_0) || (!(a0_1 == a1_1) || (!(a0_2.toList == a1_2.toList))))=true
 rotate_left
 ·rw [if_neg c3] at H
  have c3b0:(!(a0_0 == a1_0) || (!(a0_1 == a1_1) || (!(a0_2.toList == a1_2.toList))))=false:=by simpa using c3
  clear c3
  obtain rfl:=Option.some.inj H
  go_enter Try.func31,Try.ntmps31
  go_wp2_with (first|((with_reducible refine yL_ (N:=2) rfl ?_);refine y0_ ?hg (N:=2) ?hd (cs:=#[.int .i64 a0_0,.int .i64 a0_1,.string a0_2]) (t:=59) ?hr ?_;(case hd=>rfl);(case hg=>rfl);(case hr=>first|(go_simp;done)|(go_simp;rfl));intro gb302 hg w15 hbox hb;have n0_:=Aside0.mk (yp_ (by repeat (with_reducible first|exact HB.out|apply yc_|apply ya_|apply yb_)) hb);have n1_:=Aside0.mk (hbox);have n2_:=Aside0.mk ((by rw [hg];exact (yn_ (by repeat (with_reducible first|exact HB.out|apply yc_|apply ya_|apply yb_))):w.heap.size≤gb302));have n3_:=Aside0.mk ((by rw [hg];exact (yn_ (by repeat (with_reducible first|exact HB.out|apply yc_|apply ya_|apply yb_))):w.heap.size≤gb302));clear HB;have HB:=n0_;have BK302:=n1_;have GW302:=n2_;have GE302:=n3_;clear n0_ n1_ n2_ n3_;clear hb hbox hg)|((with_reducible refine yL_ (N:=3) rfl ?_);refine y0_ ?hg (N:=3) ?hd (cs:=#[.int .i64 a1_0,.int .i64 a1_1,.string a1_2]) (t:=59) ?hr ?_;(case hd=>rfl);(case hg=>rfl);(case hr=>first|(go_simp;done)|(go_simp;rfl));intro gb303 hg w16 hbox hb;have n0_:=Aside0.mk (yrb_ (g:=gb302) (o:=.cells #[.int .i64 a0_0,.int .i64 a0_1,.string a0_2] 59 (0,0)) (by (with_reducible repeat (first|refine yx_ ?_ _|refine yA_ ?_|refine yw_ ?_ _));exact BK302.out) hb);have n1_:=Aside0.mk (yp_ (by repeat (with_reducible first|exact HB.out|apply yc_|apply ya_|apply yb_|refine yo_ ?_ GE302.out)) hb);have n2_:=Aside0.mk (hbox);have n3_:=Aside0.mk ((by rw [hg];exact (yn_ (by repeat (with_reducible first|exact HB.out|apply yc_|apply ya_|apply yb_|refine yo_ ?_ GE302.out))):w.heap.size≤gb303));have n4_:=Aside0.mk ((by rw [hg];exact (yn_ (by repeat (with_reducible first|exact HB.out|apply yc_|apply ya_|apply yb_|refine yo_ ?_ GE302.out))):w.heap.size≤gb303));have n5_:=Aside0.mk ((by rw [hg];exact Nat.ne_of_lt (blk_lt (g:=gb302) (o:=.cells #[.int .i64 a0_0,.int .i64 a0_1,.string a0_2] 59 (0,0)) (by (with_reducible repeat (first|refine yx_ ?_ _|refine yA_ ?_|refine yw_ ?_ _));exact BK302.out)):gb302 ≠ gb303));have n6_:=Aside0.mk ((by rw [hg];exact Nat.ne_of_gt (blk_lt (g:=gb302) (o:=.cells #[.int .i64 a0_0,.int .i64 a0_1,.string a0_2] 59 (0,0)) (by (with_reducible repeat (first|refine yx_ ?_ _|refine yA_ ?_|refine yw_ ?_ _));exact BK302.out)):gb303 ≠ gb302));clear BK302;clear HB;have BK302:=n0_;have HB:=n1_;have BK303:=n2_;have GW303:=n3_;have GE303:=n4_;have NB302_303:=n5_;have NB303_302:=n6_;clear n0_ n1_ n2_ n3_ n4_ n5_ n6_;clear hb hbox hg;have hnb17:=NB302_303.out;have hnc17:=NB303_302.out;have hcz18_0:w16.cell? ⟨gb302,0,none⟩=some (.int .i64 a0_0):=(yk_ BK302.out 0).trans rfl;have hcz18_1:w16.cell? ⟨gb302,1,none⟩=some (.int .i64 a0_1):=(yk_ BK302.out 1).trans rfl;have hcz18_2:w16.cell? ⟨gb302,2,none⟩=some (.string a0_2):=(yk_ BK302.out 2).trans rfl;have hfz18_0:=ym_ BK302.out 0;have hfz18_1:=ym_ BK302.out 1;have hfz18_2:=ym_ BK302.out 2;have hcz19_0:w16.cell? ⟨gb303,0,none⟩=some (.int .i64 a1_0):=(yk_ BK303.out 0).trans rfl;have hcz19_1:w16.cell? ⟨gb303,1,none⟩=some (.int .i64 a1_1):=(yk_ BK303.out 1).trans rfl;have hcz19_2:w16.cell? ⟨gb303,2,none⟩=some (.string a1_2):=(yk_ BK303.out 2).trans rfl;have hfz19_0:=ym_ BK303.out 0;have hfz19_1:=ym_ BK303.out 1;have hfz19_2:=ym_ BK303.out 2))
  go_ret
  exact ⟨by first|rfl|(simp [yq_,yr_] <;> rfl)|(simp [*,yq_,yr_] <;> rfl),by repeat (with_reducible first|exact HB.out|apply yc_|apply ya_|apply yb_|refine yo_ ?_ GE302.out|refine yo_ ?_ GE303.out)⟩
 rw [if_pos c3] at H
 have c3b0:(!(a0_0 == a1_0) || (!(a0_1 == a1_1) || (!(a0_2.toList == a1_2.toList))))=true:=c3
 clear c3
 by_cases c4:a0_0≤a1_1
 ·rw [if_pos c4] at H
  have c4b0:decide (a0_0≤a1_1)=true:=decide_eq_true c4
  clear c4
  obtain rfl:=Option.some.inj H
  go_enter Try.func31,Try.ntmps31
  go_wp2_with (first|((with_reducible refine yL_ (N:=2) rfl ?_);refine y0_ ?hg (N:=2) ?hd (cs:=#[.int .i64 a0_0,.int .i64 a0_1,.string a0_2]) (t:=59) ?hr ?_;(case hd=>rfl);(case hg=>rfl);(case hr=>first|(go_simp;done)|(go_simp;rfl));intro gb302 hg w5 hbox hb;have n0_:=Aside0.mk (yp_ (by repeat (with_reducible first|exact HB.out|apply yc_|apply ya_|apply yb_)) hb);have n1_:=Aside0.mk (hbox);have n2_:=Aside0.mk ((by rw [hg];exact (yn_ (by repeat (with_reducible first|exact HB.out|apply yc_|apply ya_|apply yb_))):w.heap.size≤gb302));have n3_:=Aside0.mk ((by rw [hg];exact (yn_ (by repeat (with_reducible first|exact HB.out|apply yc_|apply ya_|apply yb_))):w.heap.size≤gb302));clear HB;have HB:=n0_;have BK302:=n1_;have GW302:=n2_;have GE302:=n3_;clear n0_ n1_ n2_ n3_;clear hb hbox hg)|((with_reducible refine yL_ (N:=3) rfl ?_);refine y0_ ?hg (N:=3) ?hd (cs:=#[.int .i64 a1_0,.int .i64 a1_1,.string a1_2]) (t:=59) ?hr ?_;(case hd=>rfl);(case hg=>rfl);(case hr=>first|(go_simp;done)|(go_simp;rfl));intro gb303 hg w6 hbox hb;have n0_:=Aside0.mk (yrb_ (g:=gb302) (o:=.cells #[.int .i64 a0_0,.int .i64 a0_1,.string a0_2] 59 (0,0)) (by (with_reducible repeat (first|refine yx_ ?_ _|refine yA_ ?_|refine yw_ ?_ _));exact BK302.out) hb);have n1_:=Aside0.mk (yp_ (by repeat (with_reducible first|exact HB.out|apply yc_|apply ya_|apply yb_|refine yo_ ?_ GE302.out)) hb);have n2_:=Aside0.mk (hbox);have n3_:=Aside0.mk ((by rw [hg];exact (yn_ (by repeat (with_reducible first|exact HB.out|apply yc_|apply ya_|apply yb_|refine yo_ ?_ GE302.out))):w.heap.size≤gb303));have n4_:=Aside0.mk ((by rw [hg];exact (yn_ (by repeat (with_reducible first|exact HB.out|apply yc_|apply ya_|apply yb_|refine yo_ ?_ GE302.out))):w.heap.size≤gb303));have n5_:=Aside0.mk ((by rw [hg];exact Nat.ne_of_lt (blk_lt (g:=gb302) (o:=.cells #[.int .i64 a0_0,.int .i64 a0_1,.string a0_2] 59 (0,0)) (by (with_reducible repeat (first|refine yx_ ?_ _|refine yA_ ?_|refine yw_ ?_ _));exact BK302.out)):gb302 ≠ gb303));have n6_:=Aside0.mk ((by rw [hg];exact Nat.ne_of_gt (blk_lt (g:=gb302) (o:=.cells #[.int .i64 a0_0,.int .i64 a0_1,.string a0_2] 59 (0,0)) (by (with_reducible repeat (first|refine yx_ ?_ _|refine yA_ ?_|refine yw_ ?_ _));exact BK302.out)):gb303 ≠ gb302));clear BK302;clear HB;have BK302:=n0_;have HB:=n1_;have BK303:=n2_;have GW303:=n3_;have GE303:=n4_;have NB302_303:=n5_;have NB303_302:=n6_;clear n0_ n1_ n2_ n3_ n4_ n5_ n6_;clear hb hbox hg;have hnb7:=NB302_303.out;have hnc7:=NB303_302.out;have hcz8_0:w6.cell? ⟨gb302,0,none⟩=some (.int .i64 a0_0):=(yk_ BK302.out 0).trans rfl;have hcz8_1:w6.cell? ⟨gb302,1,none⟩=some (.int .i64 a0_1):=(yk_ BK302.out 1).trans rfl;have hcz8_2:w6.cell? ⟨gb302,2,none⟩=some (.string a0_2):=(yk_ BK302.out 2).trans rfl;have hfz8_0:=ym_ BK302.out 0;have hfz8_1:=ym_ BK302.out 1;have hfz8_2:=ym_ BK302.out 2;have hcz9_0:w6.cell? ⟨gb303,0,none⟩=some (.int .i64 a1_0):=(yk_ BK303.out 0).trans rfl;have hcz9_1:w6.cell? ⟨gb303,1,none⟩=some (.int .i64 a1_1):=(yk_ BK303.out 1).trans rfl;have hcz9_2:w6.cell? ⟨gb303,2,none⟩=some (.string a1_2):=(yk_ BK303.out 2).trans rfl;have hfz9_0:=ym_ BK303.out 0;have hfz9_1:=ym_ BK303.out 1;have hfz9_2:=ym_ BK303.out 2))
  go_ret
  exact ⟨by first|rfl|(simp [yq_,yr_] <;> rfl)|(simp [*,yq_,yr_] <;> rfl),by repeat (with_reducible first|exact HB.out|apply yc_|apply ya_|apply yb_|refine yo_ ?_ GE302.out|refine yo_ ?_ GE303.out)⟩
 rw [if_neg c4] at H
 have c4b0:decide (a0_0≤a1_1)=false:=decide_eq_false c4
 clear c4
 obtain rfl:=Option.some.inj H
 go_enter Try.func31,Try.ntmps31
 go_wp2_with (first|((with_reducible refine yL_ (N:=2) rfl ?_);refine y0_ ?hg (N:=2) ?hd (cs:=#[.int .i64 a0_0,.int .i64 a0_1,.string a0_2]) (t:=59) ?hr ?_;(case hd=>rfl);(case hg=>rfl);(case hr=>first|(go_simp;done)|(go_simp;rfl));intro gb302 hg w10 hbox hb;have n0_:=Aside0.mk (yp_ (by repeat (with_reducible first|exact HB.out|apply yc_|apply ya_|apply yb_)) hb);have n1_:=Aside0.mk (hbox);have n2_:=Aside0.mk ((by rw [hg];exact (yn_ (by repeat (with_reducible first|exact HB.out|apply yc_|apply ya_|apply yb_))):w.heap.size≤gb302));have n3_:=Aside0.mk ((by rw [hg];exact (yn_ (by repeat (with_reducible first|exact HB.out|apply yc_|apply ya_|apply yb_))):w.heap.size≤gb302));clear HB;have HB:=n0_;have BK302:=n1_;have GW302:=n2_;have GE302:=n3_;clear n0_ n1_ n2_ n3_;clear hb hbox hg)|((with_reducible refine yL_ (N:=3) rfl ?_);refine y0_ ?hg (N:=3) ?hd (cs:=#[.int .i64 a1_0,.int .i64 a1_1,.string a1_2]) (t:=59) ?hr ?_;(case hd=>rfl);(case hg=>rfl);(case hr=>first|(go_simp;done)|(go_simp;rfl));intro gb303 hg w11 hbox hb;have n0_:=Aside0.mk (yrb_ (g:=gb302) (o:=.cells #[.int .i64 a0_0,.int .i64 a0_1,.string a0_2] 59 (0,0)) (by (with_reducible repeat (first|refine yx_ ?_ _|refine yA_ ?_|refine yw_ ?_ _));exact BK302.out) hb);have n1_:=Aside0.mk (yp_ (by repeat (with_reducible first|exact HB.out|apply yc_|apply ya_|apply yb_|refine yo_ ?_ GE302.out)) hb);have n2_:=Aside0.mk (hbox);have n3_:=Aside0.mk ((by rw [hg];exact (yn_ (by repeat (with_reducible first|exact HB.out|apply yc_|apply ya_|apply yb_|refine yo_ ?_ GE302.out))):w.heap.size≤gb303));have n4_:=Aside0.mk ((by rw [hg];exact (yn_ (by repeat (with_reducible first|exact HB.out|apply yc_|apply ya_|apply yb_|refine yo_ ?_ GE302.out))):w.heap.size≤gb303));have n5_:=Aside0.mk ((by rw [hg];exact Nat.ne_of_lt (blk_lt (g:=gb302) (o:=.cells #[.int .i64 a0_0,.int .i64 a0_1,.string a0_2] 59 (0,0)) (by (with_reducible repeat (first|refine yx_ ?_ _|refine yA_ ?_|refine yw_ ?_ _));exact BK302.out)):gb302 ≠ gb303));have n6_:=Aside0.mk ((by rw [hg];exact Nat.ne_of_gt (blk_lt (g:=gb302) (o:=.cells #[.int .i64 a0_0,.int .i64 a0_1,.string a0_2] 59 (0,0)) (by (with_reducible repeat (first|refine yx_ ?_ _|refine yA_ ?_|refine yw_ ?_ _));exact BK302.out)):gb303 ≠ gb302));clear BK302;clear HB;have BK302:=n0_;have HB:=n1_;have BK303:=n2_;have GW303:=n3_;have GE303:=n4_;have NB302_303:=n5_;have NB303_302:=n6_;clear n0_ n1_ n2_ n3_ n4_ n5_ n6_;clear hb hbox hg;have hnb12:=NB302_303.out;have hnc12:=NB303_302.out;have hcz13_0:w11.cell? ⟨gb302,0,none⟩=some (.int .i64 a0_0):=(yk_ BK302.out 0).trans rfl;have hcz13_1:w11.cell? ⟨gb302,1,none⟩=some (.int .i64 a0_1):=(yk_ BK302.out 1).trans rfl;have hcz13_2:w11.cell? ⟨gb302,2,none⟩=some (.string a0_2):=(yk_ BK302.out 2).trans rfl;have hfz13_0:=ym_ BK302.out 0;have hfz13_1:=ym_ BK302.out 1;have hfz13_2:=ym_ BK302.out 2;have hcz14_0:w11.cell? ⟨gb303,0,none⟩=some (.int .i64 a1_0):=(yk_ BK303.out 0).trans rfl;have hcz14_1:w11.cell? ⟨gb303,1,none⟩=some (.int .i64 a1_1):=(yk_ BK303.out 1).trans rfl;have hcz14_2:w11.cell? ⟨gb303,2,none⟩=some (.string a1_2):=(yk_ BK303.out 2).trans rfl;have hfz14_0:=ym_ BK303.out 0;have hfz14_1:=ym_ BK303.out 1;have hfz14_2:=ym_ BK303.out 2))
 go_ret
 exact ⟨by first|rfl|(simp [yq_,yr_] <;> rfl)|(simp [*,yq_,yr_] <;> rfl),by repeat (with_reducible first|exact HB.out|apply yc_|apply ya_|apply yb_|refine yo_ ?_ GE302.out|refine yo_ ?_ GE303.out)⟩

end Go.Proofs.Ythimblhfjfngiaa.PText

namespace Go.Proofs.Ythimblhfjfngiaa.PText
open Go.RowKit Go.Proofs.YthimblhfjfngiaaW.PrintWords Go.Proofs.YthimblhfjfngiaaW.PrintLast Go.Proofs.YthimblhfjfngiaaW.PrintMore
attribute [local go_sem] y2_ y3_ yfb_ ygb_ yS_ yT_ y4_ y5_   -- for this text's walks alone
set_option linter.unusedVariables false
set_option linter.unusedSimpArgs false

mutual
def yj_.l0:Nat→List (S59)→List (S59)→List (S67)→Int→Option ((List (S67)) × Int)
 | 0,_,_,_,_=>none
 | k+1,x8,x10,x11,x12=>if x12 < (x8.length:Int) then (yj_.l1 k x8 x10 x11 x12 0) else (some (x11,0))
def yj_.l1:Nat→List (S59)→List (S59)→List (S67)→Int→Int→Option ((List (S67)) × Int)
 | 0,_,_,_,_,_=>none
 | k+1,x8,x10,x11,x12,x13=>if x13 < (x10.length:Int) then (if 0≤x12 then (if x12 < (x8.length:Int) then (if 0≤x13 then ((yob_.f ((rd_T59 x8 x12).f0) ((rd_T59 x8 x12).f1) ((rd_T59 x8 x12).f2) ((rd_T59 x10 x13).f0) ((rd_T59 x10 x13).f1) ((rd_T59 x10 x13).f2)).bind fun t314=>(if t314=true then (if x11.length < 8796093022208 then (yj_.l1 k x8 x10 (x11++[(⟨x12,x13⟩:S67)]) x12 (wrap64 (x13+1))) else (none)) else (yj_.l1 k x8 x10 x11 x12 (wrap64 (x13+1))))) else (none)) else (none)) else (none)) else (yj_.l0 k x8 x10 x11 (wrap64 (x12+1)))
end
def yj_.f (k:Nat) (a0:ByteArray) (a1:ByteArray) (a2:ByteArray):Option ((List (S67)) × Int):=(ye_.f k a0 a1).bind fun bt304=>(if bt304.2=0 then ((ye_.f k a0 a2).bind fun bt308=>(if bt308.2=0 then (yj_.l0 k bt304.1 bt308.1 ([]:List (S67)) 0) else (some (([]:List (S67)),bt308.2)))) else (some (([]:List (S67)),bt304.2)))
def yj_.T14:Bool × List (List Nat × List Nat):=(true,[([],[]),([],[]),([0,1],[0,1]),([2],[2]),([],[]),([],[]),([4,5],[4,5]),([6],[6]),([3,7],[3,7])])
def yj_.B14:List Nat:=[0,0,3,7,0,0,48,112,255]
theorem yj_.tab14:rtab .any (opsOf Try.f9 14)=yj_.T14:=by kernel_rfl
theorem yj_.bits14:waitsOk yj_.T14.2 yj_.B14=true:=by kernel_rfl
set_option maxHeartbeats 8000000 in
set_option maxRecDepth 100000 in
theorem yj_.calls (k:Nat) (a0:ByteArray) (a1:ByteArray) (a2:ByteArray) (r1:List (S67)) (r2:Int) (w:World) (h:yj_.f k a0 a1 a2=some (r1,r2)) :
  Calls Try.prog 9 #[.string a0,.string a1,.string a2] w fun e w'=>∃ v0_:Value,e=.returned (.tuple #[v0_,.int .i64 r2])∧Kd.R k67 67 w' w.heap.size (fun _=>True) v0_ r1∧Below w.heap.size w w':=by
 have hu59:=Try.underlying59
 have hu67:=Try.underlying67
 have HB:=Aside0.mk (Below.refl w.heap.size w)
 have H:((ye_.f k a0 a1).bind fun bt304=>(if bt304.2=0 then ((ye_.f k a0 a2).bind fun bt308=>(if bt308.2=0 then (yj_.l0 k bt304.1 bt308.1 ([]:List (S67)) 0) else (some (([]:List (S67)),bt308.2)))) else (some (([]:List (S67)),bt304.2))))=some (r1,r2):=h
 clear h
 replace H:=Option.bind_eq_some_iff.mp H
 obtain ⟨⟨t304,t305⟩,A40,H⟩:=H
 replace H:(if t305=0 then ((ye_.f k a0 a2).bind fun bt308=>(if bt308.2=0 then (yj_.l0 k t304 bt308.1 ([]:List (S67)) 0) else (some (([]:List (S67)),bt308.2)))) else (some (([]:List (S67)),t305)))=some (r1,r2):=H
 have A4:=Aside0.mk A40
 clear A40
 by_cases c5:t305=0
 rotate_left
 ·rw [if_neg c5] at H
  have c5b0:(t305 == 0)=false:=beq_eq_false_iff_ne.mpr c5
  have c5b1:(t305 != 0)=true:=bne_iff_ne.mpr c5
  simp only [Option.some.injEq,Prod.mk.injEq] at H
  obtain ⟨rfl,rfl⟩:=H
  go_enter Try.func9,Try.ntmps9
  go_wp2_with (first|((with_reducible refine yt_ (f:=29) rfl ?_);refine goesL_ (some 17) rfl rfl Try.func29 (by kernel_rfl) rfl #[.string a0,.string a1] rfl (by (try simp only [List.map_toArray,List.map_cons,List.map_nil]);first|done|rfl|(simp only [List.length_drop,List.length_take];rfl)) ?_;(with_reducible refine (ye_.calls k a0 a1 t304 t305 _ A4.out).mono ?_);rintro e w30 ⟨v306,rfl,ho0,hb⟩;refine ⟨_,rfl,?_⟩;have n0_:=Aside0.mk (Kd.yJ_ ho0 (yn_ (by repeat (with_reducible first|exact HB.out|apply yc_|apply ya_|apply yb_))));have n1_:=Aside0.mk (yp_ (by repeat (with_reducible first|exact HB.out|apply yc_|apply ya_|apply yb_)) hb);clear HB;have HO307:=n0_;have HB:=n1_;clear n0_ n1_;(try clear hb);(try clear hb2);(try clear hk);(try clear hi);(try clear ho0)))
  go_ret2
  exact ⟨_,by first|rfl|(simp [yq_,yr_] <;> rfl)|(simp [*,yq_,yr_] <;> rfl),by first|exact Kd.R_nil _ _ _ _ _|exact Kd.N_nil _ _ _ _ _|exact Kd.V_nil _ _ _ _ _|exact Kd.Q_nil _ _ _ _ _|exact Kd.S_nil _ _ _ _ _,by repeat (with_reducible first|exact HB.out|apply yc_|apply ya_|apply yb_)⟩
 rw [if_pos c5] at H
 have c5b0:(t305 == 0)=true:=beq_iff_eq.mpr c5
 have c5b1:(t305 != 0)=false:=bne_eq_false_iff_eq.mpr c5
 clear c5
 replace H:=Option.bind_eq_some_iff.mp H
 obtain ⟨⟨t308,t309⟩,A60,H⟩:=H
 replace H:(if t309=0 then (yj_.l0 k t304 t308 ([]:List (S67)) 0) else (some (([]:List (S67)),t309)))=some (r1,r2):=H
 have A6:=Aside0.mk A60
 clear A60
 by_cases c7:t309=0
 rotate_left
 ·rw [if_neg c7] at H
  have c7b0:(t309 == 0)=false:=beq_eq_false_iff_ne.mpr c7
  have c7b1:(t309 != 0)=true:=bne_iff_ne.mpr c7
  simp only [Option.some.injEq,Prod.mk.injEq] at H
  obtain ⟨rfl,rfl⟩:=H
  go_enter Try.func9,Try.ntmps9
  go_wp2_with (first|((with_reducible refine yt_ (f:=29) rfl ?_);refine goesL_ (some 17) rfl rfl Try.func29 (by kernel_rfl) rfl #[.string a0,.string a1] rfl (by (try simp only [List.map_toArray,List.map_cons,List.map_nil]);first|done|rfl|(simp only [List.length_drop,List.length_take];rfl)) ?_;(with_reducible refine (ye_.calls k a0 a1 t304 t305 _ A4.out).mono ?_);rintro e w28 ⟨v306,rfl,ho0,hb⟩;refine ⟨_,rfl,?_⟩;have n0_:=Aside0.mk (Kd.yJ_ ho0 (yn_ (by repeat (with_reducible first|exact HB.out|apply yc_|apply ya_|apply yb_))));have n1_:=Aside0.mk (yp_ (by repeat (with_reducible first|exact HB.out|apply yc_|apply ya_|apply yb_)) hb);clear HB;have HO307:=n0_;have HB:=n1_;clear n0_ n1_;(try clear hb);(try clear hb2);(try clear hk);(try clear hi);(try clear ho0))|((with_reducible refine yt_ (f:=29) rfl ?_);refine goesL_ (some 26) rfl rfl Try.func29 (by kernel_rfl) rfl #[.string a0,.string a2] rfl (by (try simp only [List.map_toArray,List.map_cons,List.map_nil]);first|done|rfl|(simp only [List.length_drop,List.length_take];rfl)) ?_;(with_reducible refine (ye_.calls k a0 a2 t308 t309 _ A6.out).mono ?_);rintro e w29 ⟨v310,rfl,ho0,hb⟩;refine ⟨_,rfl,?_⟩;have n0_:=Aside0.mk (Kd.yFb_ (by (with_reducible repeat (first|apply Kd.yg_|apply Kd.yh_|apply Kd.R_drew));exact HO307.out) (Kd.R_base ho0) hb);have n1_:=Aside0.mk (Kd.yJ_ (Kd.R_new' ho0 (Kd.R_lt (by (with_reducible repeat (first|apply Kd.yg_|apply Kd.yh_|apply Kd.R_drew));exact HO307.out))) (yn_ (by repeat (with_reducible first|exact HB.out|apply yc_|apply ya_|apply yb_))));have n2_:=Aside0.mk (yp_ (by repeat (with_reducible first|exact HB.out|apply yc_|apply ya_|apply yb_)) hb);clear HO307;clear HB;have HO307:=n0_;have HO311:=n1_;have HB:=n2_;clear n0_ n1_ n2_;(try clear hb);(try clear hb2);(try clear hk);(try clear hi);(try clear ho0)))
  go_ret2
  exact ⟨_,by first|rfl|(simp [yq_,yr_] <;> rfl)|(simp [*,yq_,yr_] <;> rfl),by first|exact Kd.R_nil _ _ _ _ _|exact Kd.N_nil _ _ _ _ _|exact Kd.V_nil _ _ _ _ _|exact Kd.Q_nil _ _ _ _ _|exact Kd.S_nil _ _ _ _ _,by repeat (with_reducible first|exact HB.out|apply yc_|apply ya_|apply yb_)⟩
 rw [if_pos c7] at H
 have c7b0:(t309 == 0)=true:=beq_iff_eq.mpr c7
 have c7b1:(t309 != 0)=false:=bne_eq_false_iff_eq.mpr c7
 clear c7
 have H':=Aside0.mk H
 clear H
 go_enter Try.func9,Try.ntmps9
 go_wp2_with (first|((with_reducible refine yt_ (f:=29) rfl ?_);refine goesL_ (some 17) rfl rfl Try.func29 (by kernel_rfl) rfl #[.string a0,.string a1] rfl (by (try simp only [List.map_toArray,List.map_cons,List.map_nil]);first|done|rfl|(simp only [List.length_drop,List.length_take];rfl)) ?_;(with_reducible refine (ye_.calls k a0 a1 t304 t305 _ A4.out).mono ?_);rintro e w8 ⟨v306,rfl,ho0,hb⟩;refine ⟨_,rfl,?_⟩;have n0_:=Aside0.mk (Kd.yJ_ ho0 (yn_ (by repeat (with_reducible first|exact HB.out|apply yc_|apply ya_|apply yb_))));have n1_:=Aside0.mk (yp_ (by repeat (with_reducible first|exact HB.out|apply yc_|apply ya_|apply yb_)) hb);clear HB;have HO307:=n0_;have HB:=n1_;clear n0_ n1_;(try clear hb);(try clear hb2);(try clear hk);(try clear hi);(try clear ho0))|((with_reducible refine yt_ (f:=29) rfl ?_);refine goesL_ (some 26) rfl rfl Try.func29 (by kernel_rfl) rfl #[.string a0,.string a2] rfl (by (try simp only [List.map_toArray,List.map_cons,List.map_nil]);first|done|rfl|(simp only [List.length_drop,List.length_take];rfl)) ?_;(with_reducible refine (ye_.calls k a0 a2 t308 t309 _ A6.out).mono ?_);rintro e w9 ⟨v310,rfl,ho0,hb⟩;refine ⟨_,rfl,?_⟩;have n0_:=Aside0.mk (Kd.yFb_ (by (with_reducible repeat (first|apply Kd.yg_|apply Kd.yh_|apply Kd.R_drew));exact HO307.out) (Kd.R_base ho0) hb);have n1_:=Aside0.mk (Kd.yJ_ (Kd.R_new' ho0 (Kd.R_lt (by (with_reducible repeat (first|apply Kd.yg_|apply Kd.yh_|apply Kd.R_drew));exact HO307.out))) (yn_ (by repeat (with_reducible first|exact HB.out|apply yc_|apply ya_|apply yb_))));have n2_:=Aside0.mk (yp_ (by repeat (with_reducible first|exact HB.out|apply yc_|apply ya_|apply yb_)) hb);clear HO307;clear HB;have HO307:=n0_;have HO311:=n1_;have HB:=n2_;clear n0_ n1_ n2_;(try clear hb);(try clear hb2);(try clear hk);(try clear hi);(try clear ho0)))
 try simp only [Act.put,List.setIfInBounds_toArray,List.set_cons_succ,List.set_cons_zero]
 go_loopg [11,12] k (fun kq v11 v12 w'=>∃ (x11_1:List (S67)) (x12_1:Int),v12=.int .i64 x12_1∧Aside0 (yj_.l0 kq t304 t308 x11_1 x12_1=some (r1,r2))∧Aside0 (kq≤k)∧Aside0 (Kd.R k59 59 w' w.heap.size (fun k_=>some k_ ≠ (v310:Value).ownBlock) v306 t304)∧Aside0 (Kd.R k59 59 w' w.heap.size (fun k_=>some k_ ≠ (v306:Value).ownBlock) v310 t308)∧Aside0 (Kd.R k67 67 w' w.heap.size (fun _=>True) v11 x11_1)∧Aside0 (Below w.heap.size w w'))
 case atStart=>exact ⟨(([]:List (S67))),(0),(by first|rfl|(simp;done)|(simp [*];done)),H',⟨Nat.le_refl _⟩,⟨by (with_reducible repeat (first|apply Kd.yg_|apply Kd.yh_|apply Kd.R_drew));exact Kd.R_mono HO307.out (fun _ hk=>hk.2)⟩,⟨by (with_reducible repeat (first|apply Kd.yg_|apply Kd.yh_|apply Kd.R_drew));exact Kd.R_mono HO311.out (fun _ hk=>hk.2)⟩,⟨by first|exact Kd.R_nil _ _ _ _ _|exact Kd.N_nil _ _ _ _ _|exact Kd.V_nil _ _ _ _ _|exact Kd.Q_nil _ _ _ _ _|exact Kd.S_nil _ _ _ _ _⟩,⟨by repeat (with_reducible first|exact HB.out|apply yc_|apply ya_|apply yb_)⟩⟩
 case round =>
  clear H'
  try clear c2
  try clear p2
  try clear c5
  try clear c5b0
  try clear c5b1
  try clear c7
  try clear c7b0
  try clear c7b1
  try clear c9
  obtain ⟨x11_1,x12_1,rfl,HA,HK1,HO_8,HO_10,HO_11,HB⟩:=hrel
  cases gk with
  | zero=>exact absurd HA.out (by simp [yj_.l0])
  | succ k1 =>
   have H:=HA.out
   clear HA
   simp only [yj_.l0] at H
   by_cases c10:x12_1 < (t304.length:Int)
   rotate_left
   ·rw [if_neg c10] at H
    have c10b0:decide (x12_1 < (t304.length:Int))=false:=decide_eq_false c10
    clear c10
    simp only [Option.some.injEq,Prod.mk.injEq] at H
    obtain ⟨rfl,rfl⟩:=H
    obtain ⟨Ao27,co27,eo27⟩:=Kd.yC_ HO_8.out
    subst eo27
    go_wp2
    go_ret2
    exact ⟨_,by first|rfl|(simp [yq_,yr_] <;> rfl)|(simp [*,yq_,yr_] <;> rfl),by (with_reducible repeat (first|apply Kd.yg_|apply Kd.yh_|apply Kd.R_drew));exact HO_11.out,by repeat (with_reducible first|exact HB.out|apply yc_|apply ya_|apply yb_)⟩
   rw [if_pos c10] at H
   have c10b0:decide (x12_1 < (t304.length:Int))=true:=decide_eq_true c10
   clear c10
   have H':=Aside0.mk H
   clear H
   obtain ⟨Ao11,co11,eo11⟩:=Kd.yC_ HO_8.out
   subst eo11
   go_wp2
   try simp only [Act.put,List.setIfInBounds_toArray,List.set_cons_succ,List.set_cons_zero]
   go_loopg [11,13] k1 (fun kq v11 v13 w'=>∃ (x11_2:List (S67)) (x13_2:Int),v13=.int .i64 x13_2∧Aside0 (yj_.l1 kq t304 t308 x11_2 x12_1 x13_2=some (r1,r2))∧Aside0 (kq≤k1)∧Aside0 (Kd.R k59 59 w' w.heap.size (fun k_=>some k_ ≠ (v310:Value).ownBlock) (.slice Ao11 t304.length co11) t304)∧Aside0 (Kd.R k59 59 w' w.heap.size (fun k_=>some k_ ≠ ((.slice Ao11 t304.length co11):Value).ownBlock) v310 t308)∧Aside0 (Kd.R k67 67 w' w.heap.size (fun _=>True) v11 x11_2)∧Aside0 (Below w.heap.size w w'))
   case atStart=>exact ⟨(x11_1),(0),(by first|rfl|(simp;done)|(simp [*];done)),H',⟨Nat.le_refl _⟩,⟨by (with_reducible repeat (first|apply Kd.yg_|apply Kd.yh_|apply Kd.R_drew));exact HO_8.out⟩,⟨by (with_reducible repeat (first|apply Kd.yg_|apply Kd.yh_|apply Kd.R_drew));exact HO_10.out⟩,⟨by (with_reducible repeat (first|apply Kd.yg_|apply Kd.yh_|apply Kd.R_drew));exact HO_11.out⟩,⟨by repeat (with_reducible first|exact HB.out|apply yc_|apply ya_|apply yb_)⟩⟩
   case round =>
    clear H'
    try clear c1
    try clear c2
    try clear p2
    try clear c5
    try clear c5b0
    try clear c5b1
    try clear c7
    try clear c7b0
    try clear c7b1
    try clear c9
    try clear c10
    try clear c10b0
    try clear p2
    obtain ⟨x11_2,x13_2,rfl,HA,HK2,HO_8,HO_10,HO_11,HB⟩:=hrel
    cases gk with
    | zero=>exact absurd HA.out (by simp [yj_.l1])
    | succ k2 =>
     have H:=HA.out
     clear HA
     simp only [yj_.l1] at H
     by_cases c12:x13_2 < (t308.length:Int)
     rotate_left
     ·rw [if_neg c12] at H
      have c12b0:decide (x13_2 < (t308.length:Int))=false:=decide_eq_false c12
      clear c12
      have H':=Aside0.mk H
      clear H
      obtain ⟨Ao26,co26,eo26⟩:=Kd.yC_ HO_10.out
      subst eo26
      go_wp2
      go_roundg k2
      case measure=>have:=HK1.out;have:=HK2.out;omega
      case rel=>exact ⟨(x11_2),(wrap64 (x12_1+1)),(by first|rfl|(simp;done)|(simp [*];done)),H',⟨by have:=HK1.out;have:=HK2.out;omega⟩,⟨by (with_reducible repeat (first|apply Kd.yg_|apply Kd.yh_|apply Kd.R_drew));exact HO_8.out⟩,⟨by (with_reducible repeat (first|apply Kd.yg_|apply Kd.yh_|apply Kd.R_drew));exact HO_10.out⟩,⟨by (with_reducible repeat (first|apply Kd.yg_|apply Kd.yh_|apply Kd.R_drew));exact HO_11.out⟩,⟨by repeat (with_reducible first|exact HB.out|apply yc_|apply ya_|apply yb_)⟩⟩
     rw [if_pos c12] at H
     have c12b0:decide (x13_2 < (t308.length:Int))=true:=decide_eq_true c12
     clear c12
     by_cases c13:0≤x12_1
     rotate_left
     ·rw [if_neg c13] at H
      exact absurd H (by simp)
     rw [if_pos c13] at H
     have c13b0:decide (0≤x12_1)=true:=decide_eq_true c13
     clear c13
     by_cases c14:x12_1 < (t304.length:Int)
     rotate_left
     ·rw [if_neg c14] at H
      exact absurd H (by simp)
     rw [if_pos c14] at H
     have c14b0:decide (x12_1 < (t304.length:Int))=true:=decide_eq_true c14
     clear c14
     by_cases c15:0≤x13_2
     rotate_left
     ·rw [if_neg c15] at H
      exact absurd H (by simp)
     rw [if_pos c15] at H
     have c15b0:decide (0≤x13_2)=true:=decide_eq_true c15
     clear c15
     replace H:=Option.bind_eq_some_iff.mp H
     obtain ⟨t314,A160,H⟩:=H
     replace H:(if t314=true then (if x11_2.length < 8796093022208 then (yj_.l1 k2 t304 t308 (x11_2++[(⟨x12_1,x13_2⟩:S67)]) x12_1 (wrap64 (x13_2+1))) else (none)) else (yj_.l1 k2 t304 t308 x11_2 x12_1 (wrap64 (x13_2+1))))=some (r1,r2):=H
     have A16:=Aside0.mk A160
     clear A160
     by_cases c17:t314=true
     rotate_left
     ·replace c17:=Bool.eq_false_iff.mpr c17
      subst c17
      have H1:(yj_.l1 k2 t304 t308 x11_2 x12_1 (wrap64 (x13_2+1)))=some (r1,r2):=by rw [if_neg (show ¬ (false=true) by decide)] at H;exact H
      clear H
      have H:=H1
      clear H1
      have H':=Aside0.mk H
      clear H
      obtain ⟨Ao23,co23,eo23⟩:=Kd.yC_ HO_10.out
      subst eo23
      try go_wp2
      have n0_:=Aside0.mk (Kd.R_drew HO_8.out)
      have n1_:=Aside0.mk (Kd.R_drew HO_10.out)
      have n2_:=Aside0.mk (Kd.R_drew HO_11.out)
      have n3_:=Aside0.mk (yb_ HB.out)
      clear HO_8
      clear HO_10
      clear HO_11
      clear HB
      have HO_8:=n0_
      have HO_10:=n1_
      have HO_11:=n2_
      have HB:=n3_
      clear n0_ n1_ n2_ n3_
      have p312:0≤(x12_1:Int):=of_decide_eq_true (by assumption)
      have q312:x12_1 < (t304.length:Int):=of_decide_eq_true (by assumption)
      obtain ⟨ad312,e312,hx312_0,hx312_1,hx312_2⟩:=at_T59 (Kd.ys_ HO_8.out).2.2 x12_1 p312 q312
      cases e312
      replace p312:=eq_true p312
      replace q312:=eq_true q312
      have p313:0≤(x13_2:Int):=of_decide_eq_true (by assumption)
      have q313:x13_2 < (t308.length:Int):=of_decide_eq_true (by assumption)
      obtain ⟨ad313,e313,hx313_0,hx313_1,hx313_2⟩:=at_T59 (Kd.ys_ HO_10.out).2.2 x13_2 p313 q313
      cases e313
      replace p313:=eq_true p313
      replace q313:=eq_true q313
      refine start_ (n:=9) (S:=fun w'=>w'.cell? (ad312.add ((x12_1).toNat * 3))=some (.int .i64 ((rd_T59 t304 x12_1).f0))∧w'.cell? ⟨(ad312.add ((x12_1).toNat * 3)).block,(ad312.add ((x12_1).toNat * 3)).off+1,none⟩=some (.int .i64 ((rd_T59 t304 x12_1).f1))∧w'.cell? ⟨(ad312.add ((x12_1).toNat * 3)).block,(ad312.add ((x12_1).toNat * 3)).off+2,none⟩=some (.string ((rd_T59 t304 x12_1).f2))∧w'.cell? (ad313.add ((x13_2).toNat * 3))=some (.int .i64 ((rd_T59 t308 x13_2).f0))∧w'.cell? ⟨(ad313.add ((x13_2).toNat * 3)).block,(ad313.add ((x13_2).toNat * 3)).off+1,none⟩=some (.int .i64 ((rd_T59 t308 x13_2).f1))∧w'.cell? ⟨(ad313.add ((x13_2).toNat * 3)).block,(ad313.add ((x13_2).toNat * 3)).off+2,none⟩=some (.string ((rd_T59 t308 x13_2).f2))) (ds:=[]) (bA 9 0) (by kernel_rfl) rfl rfl ⟨hx312_0,hx312_1,hx312_2,hx313_0,hx313_1,hx313_2⟩ (fun hHeld=>?_);refine yP_ yj_.tab14 yj_.bits14 (fun HT_ HW_=>?_)
      generalize wr.drew=w24 at HO_8 HO_10 HO_11 HB hx312_0 hx312_1 hx312_2 hx313_0 hx313_1 hx313_2 hHeld ⊢
      refine pu_ 0 44 (bA 9 1) HT_ ?_
      refine pu_ 1 45 (bA 9 3) HT_ ?_
      refine pu_ 2 46 (bA 9 7) HT_ ?_
      refine pu_ 4 48 (bA 9 23) HT_ ?_
      refine pu_ 5 49 (bA 9 55) HT_ ?_
      refine pu_ 6 50 (bA 9 119) HT_ ?_
      refine tk_ 3 47 (bA 9 127) rfl HT_ HW_ hHeld (by rintro w' ⟨s0,s1,s2,s3,s4,s5⟩;go_simp;with_reducible rfl) ?_
      refine tk_ 7 51 (bA 9 255) rfl HT_ HW_ hHeld (by rintro w' ⟨s0,s1,s2,s3,s4,s5⟩;go_simp;with_reducible rfl) ?_
      refine one_ (i:=8) (N:=some 52) (bA 9 511) rfl rfl (one_of HT_.out (by kernel_rfl)) (by decide) (fun K hK=>?_)
      refine goes_ Try.func31 (by kernel_rfl) rfl #[.agg #[.int .i64 ((rd_T59 t304 x12_1).f0),.int .i64 ((rd_T59 t304 x12_1).f1),.string ((rd_T59 t304 x12_1).f2)],.agg #[.int .i64 ((rd_T59 t308 x13_2).f0),.int .i64 ((rd_T59 t308 x13_2).f1),.string ((rd_T59 t308 x13_2).f2)]] (by rfl) rfl rfl (by (try simp only [List.map_toArray,List.map_cons,List.map_nil]);first|done|rfl|(simp only [List.length_drop,List.length_take];rfl)) ?_
      with_reducible refine (yob_.calls ((rd_T59 t304 x12_1).f0) ((rd_T59 t304 x12_1).f1) ((rd_T59 t304 x12_1).f2) ((rd_T59 t308 x13_2).f0) ((rd_T59 t308 x13_2).f1) ((rd_T59 t308 x13_2).f2) false _ A16.out).mono ?_
      rintro e w25 ⟨rfl,hb⟩
      have HS0_:=(hb.cell (World.block_lt_of_cell? _ _ (hHeld.1))).trans (hHeld.1)
      have HS1_:=(hb.cell (World.block_lt_of_cell? _ _ (hHeld.2.1))).trans (hHeld.2.1)
      have HS2_:=(hb.cell (World.block_lt_of_cell? _ _ (hHeld.2.2.1))).trans (hHeld.2.2.1)
      have HS3_:=(hb.cell (World.block_lt_of_cell? _ _ (hHeld.2.2.2.1))).trans (hHeld.2.2.2.1)
      have HS4_:=(hb.cell (World.block_lt_of_cell? _ _ (hHeld.2.2.2.2.1))).trans (hHeld.2.2.2.2.1)
      have HS5_:=(hb.cell (World.block_lt_of_cell? _ _ (hHeld.2.2.2.2.2))).trans (hHeld.2.2.2.2.2)
      refine ⟨_,rfl,?_⟩
      have n0_:=Aside0.mk (Kd.yV_ (by (with_reducible repeat (first|apply Kd.yg_|apply Kd.yh_|apply Kd.R_drew));exact HO_8.out) hb)
      have n1_:=Aside0.mk (Kd.yV_ (by (with_reducible repeat (first|apply Kd.yg_|apply Kd.yh_|apply Kd.R_drew));exact HO_10.out) hb)
      have n2_:=Aside0.mk (Kd.yV_ (by (with_reducible repeat (first|apply Kd.yg_|apply Kd.yh_|apply Kd.R_drew));exact HO_11.out) hb)
      have n3_:=Aside0.mk (yp_ (by repeat (with_reducible first|exact HB.out|apply yc_|apply ya_|apply yb_)) hb)
      clear HO_8
      clear HO_10
      clear HO_11
      clear HB
      have HO_8:=n0_
      have HO_10:=n1_
      have HO_11:=n2_
      have HB:=n3_
      clear n0_ n1_ n2_ n3_
      (try clear hb)
      (try clear hb2)
      (try clear hk)
      (try clear hi)
      refine hK.out _ _ ⟨HS0_,HS1_,HS2_,HS3_,HS4_,HS5_⟩ (fun hHeld=>?_)
      clear hK K
      refine norm_ (a':=?_) ?_ ?_
      rotate_left
      ·show Act.put _ (some 52) _=_
       simp only [Act.put,q1_,q2_,q3_,i64_w,i32_w]
       rfl
      refine done_ (ydb_ HT_.out (by kernel_rfl)) ?_
      try go_wp2
      go_roundg k2
      case measure=>have:=HK1.out;have:=HK2.out;omega
      case rel=>exact ⟨(x11_2),(wrap64 (x13_2+1)),(by first|rfl|(simp;done)|(simp [*];done)),H',⟨by have:=HK1.out;have:=HK2.out;omega⟩,⟨by (with_reducible repeat (first|apply Kd.yg_|apply Kd.yh_|apply Kd.R_drew));exact HO_8.out⟩,⟨by (with_reducible repeat (first|apply Kd.yg_|apply Kd.yh_|apply Kd.R_drew));exact HO_10.out⟩,⟨by (with_reducible repeat (first|apply Kd.yg_|apply Kd.yh_|apply Kd.R_drew));exact HO_11.out⟩,⟨by repeat (with_reducible first|exact HB.out|apply yc_|apply ya_|apply yb_)⟩⟩
     subst c17
     have H1:(if x11_2.length < 8796093022208 then (yj_.l1 k2 t304 t308 (x11_2++[(⟨x12_1,x13_2⟩:S67)]) x12_1 (wrap64 (x13_2+1))) else (none))=some (r1,r2):=by rw [if_pos rfl] at H;exact H
     clear H
     have H:=H1
     clear H1
     by_cases c18:x11_2.length < 8796093022208
     rotate_left
     ·rw [if_neg c18] at H
      exact absurd H (by simp)
     rw [if_pos c18] at H
     have LMc18:=Aside0.mk c18
     clear c18
     obtain ⟨y315,hy315⟩:∃ y_:List (S67),y_=(x11_2++[(⟨x12_1,x13_2⟩:S67)]):=⟨_,rfl⟩
     replace H:(yj_.l1 k2 t304 t308 y315 x12_1 (wrap64 (x13_2+1)))=some (r1,r2):=by first|(rw [hy315];with_reducible exact H)|(have H2_:=(Option.bind_some _ _).symm.trans H;rw [hy315];with_reducible exact H2_)|(have H2_:=(Option.bind_some _ _).symm.trans H;with_reducible exact H2_)|with_reducible exact H|(rw [hy315];exact H)|exact H
     have Ny315:=Aside0.mk hy315
     clear hy315
     have H':=Aside0.mk H
     clear H
     obtain ⟨Ao19,co19,eo19⟩:=Kd.yC_ HO_10.out
     subst eo19
     try go_wp2
     have n0_:=Aside0.mk (Kd.R_drew HO_8.out)
     have n1_:=Aside0.mk (Kd.R_drew HO_10.out)
     have n2_:=Aside0.mk (Kd.R_drew HO_11.out)
     have n3_:=Aside0.mk (yb_ HB.out)
     clear HO_8
     clear HO_10
     clear HO_11
     clear HB
     have HO_8:=n0_
     have HO_10:=n1_
     have HO_11:=n2_
     have HB:=n3_
     clear n0_ n1_ n2_ n3_
     have p312:0≤(x12_1:Int):=of_decide_eq_true (by assumption)
     have q312:x12_1 < (t304.length:Int):=of_decide_eq_true (by assumption)
     obtain ⟨ad312,e312,hx312_0,hx312_1,hx312_2⟩:=at_T59 (Kd.ys_ HO_8.out).2.2 x12_1 p312 q312
     cases e312
     replace p312:=eq_true p312
     replace q312:=eq_true q312
     have p313:0≤(x13_2:Int):=of_decide_eq_true (by assumption)
     have q313:x13_2 < (t308.length:Int):=of_decide_eq_true (by assumption)
     obtain ⟨ad313,e313,hx313_0,hx313_1,hx313_2⟩:=at_T59 (Kd.ys_ HO_10.out).2.2 x13_2 p313 q313
     cases e313
     replace p313:=eq_true p313
     replace q313:=eq_true q313
     refine start_ (n:=9) (S:=fun w'=>w'.cell? (ad312.add ((x12_1).toNat * 3))=some (.int .i64 ((rd_T59 t304 x12_1).f0))∧w'.cell? ⟨(ad312.add ((x12_1).toNat * 3)).block,(ad312.add ((x12_1).toNat * 3)).off+1,none⟩=some (.int .i64 ((rd_T59 t304 x12_1).f1))∧w'.cell? ⟨(ad312.add ((x12_1).toNat * 3)).block,(ad312.add ((x12_1).toNat * 3)).off+2,none⟩=some (.string ((rd_T59 t304 x12_1).f2))∧w'.cell? (ad313.add ((x13_2).toNat * 3))=some (.int .i64 ((rd_T59 t308 x13_2).f0))∧w'.cell? ⟨(ad313.add ((x13_2).toNat * 3)).block,(ad313.add ((x13_2).toNat * 3)).off+1,none⟩=some (.int .i64 ((rd_T59 t308 x13_2).f1))∧w'.cell? ⟨(ad313.add ((x13_2).toNat * 3)).block,(ad313.add ((x13_2).toNat * 3)).off+2,none⟩=some (.string ((rd_T59 t308 x13_2).f2))) (ds:=[]) (bA 9 0) (by kernel_rfl) rfl rfl ⟨hx312_0,hx312_1,hx312_2,hx313_0,hx313_1,hx313_2⟩ (fun hHeld=>?_);refine yP_ yj_.tab14 yj_.bits14 (fun HT_ HW_=>?_)
     generalize wr.drew=w20 at HO_8 HO_10 HO_11 HB hx312_0 hx312_1 hx312_2 hx313_0 hx313_1 hx313_2 hHeld ⊢
     refine pu_ 0 44 (bA 9 1) HT_ ?_
     refine pu_ 1 45 (bA 9 3) HT_ ?_
     refine pu_ 2 46 (bA 9 7) HT_ ?_
     refine pu_ 4 48 (bA 9 23) HT_ ?_
     refine pu_ 5 49 (bA 9 55) HT_ ?_
     refine pu_ 6 50 (bA 9 119) HT_ ?_
     refine tk_ 3 47 (bA 9 127) rfl HT_ HW_ hHeld (by rintro w' ⟨s0,s1,s2,s3,s4,s5⟩;go_simp;with_reducible rfl) ?_
     refine tk_ 7 51 (bA 9 255) rfl HT_ HW_ hHeld (by rintro w' ⟨s0,s1,s2,s3,s4,s5⟩;go_simp;with_reducible rfl) ?_
     refine one_ (i:=8) (N:=some 52) (bA 9 511) rfl rfl (one_of HT_.out (by kernel_rfl)) (by decide) (fun K hK=>?_)
     refine goes_ Try.func31 (by kernel_rfl) rfl #[.agg #[.int .i64 ((rd_T59 t304 x12_1).f0),.int .i64 ((rd_T59 t304 x12_1).f1),.string ((rd_T59 t304 x12_1).f2)],.agg #[.int .i64 ((rd_T59 t308 x13_2).f0),.int .i64 ((rd_T59 t308 x13_2).f1),.string ((rd_T59 t308 x13_2).f2)]] (by rfl) rfl rfl (by (try simp only [List.map_toArray,List.map_cons,List.map_nil]);first|done|rfl|(simp only [List.length_drop,List.length_take];rfl)) ?_
     with_reducible refine (yob_.calls ((rd_T59 t304 x12_1).f0) ((rd_T59 t304 x12_1).f1) ((rd_T59 t304 x12_1).f2) ((rd_T59 t308 x13_2).f0) ((rd_T59 t308 x13_2).f1) ((rd_T59 t308 x13_2).f2) true _ A16.out).mono ?_
     rintro e w21 ⟨rfl,hb⟩
     have HS0_:=(hb.cell (World.block_lt_of_cell? _ _ (hHeld.1))).trans (hHeld.1)
     have HS1_:=(hb.cell (World.block_lt_of_cell? _ _ (hHeld.2.1))).trans (hHeld.2.1)
     have HS2_:=(hb.cell (World.block_lt_of_cell? _ _ (hHeld.2.2.1))).trans (hHeld.2.2.1)
     have HS3_:=(hb.cell (World.block_lt_of_cell? _ _ (hHeld.2.2.2.1))).trans (hHeld.2.2.2.1)
     have HS4_:=(hb.cell (World.block_lt_of_cell? _ _ (hHeld.2.2.2.2.1))).trans (hHeld.2.2.2.2.1)
     have HS5_:=(hb.cell (World.block_lt_of_cell? _ _ (hHeld.2.2.2.2.2))).trans (hHeld.2.2.2.2.2)
     refine ⟨_,rfl,?_⟩
     have n0_:=Aside0.mk (Kd.yV_ (by (with_reducible repeat (first|apply Kd.yg_|apply Kd.yh_|apply Kd.R_drew));exact HO_8.out) hb)
     have n1_:=Aside0.mk (Kd.yV_ (by (with_reducible repeat (first|apply Kd.yg_|apply Kd.yh_|apply Kd.R_drew));exact HO_10.out) hb)
     have n2_:=Aside0.mk (Kd.yV_ (by (with_reducible repeat (first|apply Kd.yg_|apply Kd.yh_|apply Kd.R_drew));exact HO_11.out) hb)
     have n3_:=Aside0.mk (yp_ (by repeat (with_reducible first|exact HB.out|apply yc_|apply ya_|apply yb_)) hb)
     clear HO_8
     clear HO_10
     clear HO_11
     clear HB
     have HO_8:=n0_
     have HO_10:=n1_
     have HO_11:=n2_
     have HB:=n3_
     clear n0_ n1_ n2_ n3_
     (try clear hb)
     (try clear hb2)
     (try clear hk)
     (try clear hi)
     refine hK.out _ _ ⟨HS0_,HS1_,HS2_,HS3_,HS4_,HS5_⟩ (fun hHeld=>?_)
     clear hK K
     refine norm_ (a':=?_) ?_ ?_
     rotate_left
     ·show Act.put _ (some 52) _=_
      simp only [Act.put,q1_,q2_,q3_,i64_w,i32_w]
      rfl
     refine done_ (ydb_ HT_.out (by kernel_rfl)) ?_
     try go_wp2_with (first|((with_reducible refine yF_ (b:=.append) (xs:=#[.tmp 53,.tmp 57]) rfl ?_);at_builtin;refine Kd.y7_ k67 (w0:=w) w.heap.size rfl (.tmp 53) (.tmp 57) 25 67 (.agg #[(.int .i64 0),(.int .i64 0)]) 16 rfl Try.underlying25 info67 rfl (by decide) (by omega) u11 x11_2 (⟨x12_1,x13_2⟩:S67) [.int .i64 x12_1,.int .i64 x13_2] (fun _=>True) (fun _=>False) rfl rfl ?aP (fun _ hk=>hk.elim) ?aF ?aO ?aB ?aS ?aL ?_;(case aP=>exact k67_mkM _ _ _ (⟨x12_1,x13_2⟩:S67));(case aB=>exact (by repeat (with_reducible first|exact HB.out|apply yc_|apply ya_|apply yb_)));(case aF=>exact (fun _ _=>trivial));(case aO=>exact (by (with_reducible repeat (first|apply Kd.yg_|apply Kd.yh_|apply Kd.R_drew));exact HO_11.out));(case aS=>exact (yn_ (by repeat (with_reducible first|exact HB.out|apply yc_|apply ya_|apply yb_))));(case aL=>have:=LMc18.out;omega);intro v316 w22 ho hb hg hat;rw [← Ny315.out] at ho;have n0_:=Aside0.mk (Kd.ybb_ (by (with_reducible repeat (first|apply Kd.yg_|apply Kd.yh_|apply Kd.R_drew));exact HO_8.out) (Kd.yO_ (by (with_reducible repeat (first|apply Kd.yg_|apply Kd.yh_|apply Kd.R_drew));exact HO_11.out)) (by decide) hg);have n1_:=Aside0.mk (Kd.ybb_ (by (with_reducible repeat (first|apply Kd.yg_|apply Kd.yh_|apply Kd.R_drew));exact HO_10.out) (Kd.yO_ (by (with_reducible repeat (first|apply Kd.yg_|apply Kd.yh_|apply Kd.R_drew));exact HO_11.out)) (by decide) hg);have n2_:=Aside0.mk (hb);have n3_:=Aside0.mk (ho);clear HO_8;clear HO_10;clear HB;clear HO_11;have HO_8:=n0_;have HO_10:=n1_;have HB:=n2_;have HO317:=n3_;clear n0_ n1_ n2_ n3_;clear ho hb hg hat))
     go_roundg k2
     case measure=>have:=HK1.out;have:=HK2.out;omega
     case rel=>exact ⟨(y315),(wrap64 (x13_2+1)),(by first|rfl|(simp;done)|(simp [*];done)),H',⟨by have:=HK1.out;have:=HK2.out;omega⟩,⟨by (with_reducible repeat (first|apply Kd.yg_|apply Kd.yh_|apply Kd.R_drew));exact HO_8.out⟩,⟨by (with_reducible repeat (first|apply Kd.yg_|apply Kd.yh_|apply Kd.R_drew));exact HO_10.out⟩,⟨by (with_reducible repeat (first|apply Kd.yg_|apply Kd.yh_|apply Kd.R_drew));exact HO317.out⟩,⟨by repeat (with_reducible first|exact HB.out|apply yc_|apply ya_|apply yb_)⟩⟩

end Go.Proofs.Ythimblhfjfngiaa.PText

namespace Go.Proofs.Ythimblhfjfngiaa.PText
open Go.RowKit Go.Proofs.YthimblhfjfngiaaW.PrintWords Go.Proofs.YthimblhfjfngiaaW.PrintLast Go.Proofs.YthimblhfjfngiaaW.PrintMore
attribute [local go_sem] y2_ y3_ yfb_ ygb_ yS_ yT_ y4_ y5_   -- for this text's walks alone
set_option linter.unusedVariables false
set_option linter.unusedSimpArgs false

def yG_.j0:Nat→Bool→Int→Int→ByteArray→Int→Int→ByteArray→Option (Bool)
 | 0,_,_,_,_,_,_,_=>none
 | k+1,x5,x319000,x319001,x319002,x320000,x320001,x320002=>if x5=true then (some (x319000 == x320000)) else (if x319000=x319001 then (if x319000 > x320000 then (some (decide (x319000 < x320001))) else (some false)) else (if x320000=x320001 then (if x320000 > x319000 then (some (decide (x320000 < x319001))) else (some false)) else (if x319000 < x320001 then (some (decide (x320000 < x319001))) else (some false))))
def yG_.f (k:Nat) (a0_0:Int) (a0_1:Int) (a0_2:ByteArray) (a1_0:Int) (a1_1:Int) (a1_2:ByteArray):Option (Bool):=if a0_0=a0_1 then (yG_.j0 k (a1_0 == a1_1) a0_0 a0_1 a0_2 a1_0 a1_1 a1_2) else (yG_.j0 k false a0_0 a0_1 a0_2 a1_0 a1_1 a1_2)
set_option maxHeartbeats 8000000 in
set_option maxRecDepth 100000 in
theorem yG_.calls (k:Nat) (a0_0:Int) (a0_1:Int) (a0_2:ByteArray) (a1_0:Int) (a1_1:Int) (a1_2:ByteArray) (r:Bool) (w:World) (h:yG_.f k a0_0 a0_1 a0_2 a1_0 a1_1 a1_2=some r) :
  Calls Try.prog 69 #[.agg #[.int .i64 a0_0,.int .i64 a0_1,.string a0_2],.agg #[.int .i64 a1_0,.int .i64 a1_1,.string a1_2]] w fun e w'=>e=.returned (.bool r)∧Below w.heap.size w w':=by
 have hu59:=Try.underlying59
 have HB:=Aside0.mk (Below.refl w.heap.size w)
 have H:(if a0_0=a0_1 then (yG_.j0 k (a1_0 == a1_1) a0_0 a0_1 a0_2 a1_0 a1_1 a1_2) else (yG_.j0 k false a0_0 a0_1 a0_2 a1_0 a1_1 a1_2))=some r:=h
 clear h
 have HC3:=Aside0.mk H
 clear H
 go_enter Try.func69,Try.ntmps69
 go_upto_region 1 with (first|((with_reducible refine yL_ (N:=2) rfl ?_);refine y0_ ?hg (N:=2) ?hd (cs:=#[.int .i64 a0_0,.int .i64 a0_1,.string a0_2]) (t:=59) ?hr ?_;(case hd=>rfl);(case hg=>rfl);(case hr=>first|(go_simp;done)|(go_simp;rfl));intro gb318 hg w4 hbox hb;have n0_:=Aside0.mk (yp_ (by repeat (with_reducible first|exact HB.out|apply yc_|apply ya_|apply yb_)) hb);have n1_:=Aside0.mk (hbox);have n2_:=Aside0.mk ((by rw [hg];exact (yn_ (by repeat (with_reducible first|exact HB.out|apply yc_|apply ya_|apply yb_))):w.heap.size≤gb318));have n3_:=Aside0.mk ((by rw [hg];exact (yn_ (by repeat (with_reducible first|exact HB.out|apply yc_|apply ya_|apply yb_))):w.heap.size≤gb318));clear HB;have HB:=n0_;have BK318:=n1_;have GW318:=n2_;have GE318:=n3_;clear n0_ n1_ n2_ n3_;clear hb hbox hg)|((with_reducible refine yL_ (N:=3) rfl ?_);refine y0_ ?hg (N:=3) ?hd (cs:=#[.int .i64 a1_0,.int .i64 a1_1,.string a1_2]) (t:=59) ?hr ?_;(case hd=>rfl);(case hg=>rfl);(case hr=>first|(go_simp;done)|(go_simp;rfl));intro gb319 hg w5 hbox hb;have n0_:=Aside0.mk (yrb_ (g:=gb318) (o:=.cells #[.int .i64 a0_0,.int .i64 a0_1,.string a0_2] 59 (0,0)) (by (with_reducible repeat (first|refine yx_ ?_ _|refine yA_ ?_|refine yw_ ?_ _));exact BK318.out) hb);have n1_:=Aside0.mk (yp_ (by repeat (with_reducible first|exact HB.out|apply yc_|apply ya_|apply yb_|refine yo_ ?_ GE318.out)) hb);have n2_:=Aside0.mk (hbox);have n3_:=Aside0.mk ((by rw [hg];exact (yn_ (by repeat (with_reducible first|exact HB.out|apply yc_|apply ya_|apply yb_|refine yo_ ?_ GE318.out))):w.heap.size≤gb319));have n4_:=Aside0.mk ((by rw [hg];exact (yn_ (by repeat (with_reducible first|exact HB.out|apply yc_|apply ya_|apply yb_|refine yo_ ?_ GE318.out))):w.heap.size≤gb319));have n5_:=Aside0.mk ((by rw [hg];exact Nat.ne_of_lt (blk_lt (g:=gb318) (o:=.cells #[.int .i64 a0_0,.int .i64 a0_1,.string a0_2] 59 (0,0)) (by (with_reducible repeat (first|refine yx_ ?_ _|refine yA_ ?_|refine yw_ ?_ _));exact BK318.out)):gb318 ≠ gb319));have n6_:=Aside0.mk ((by rw [hg];exact Nat.ne_of_gt (blk_lt (g:=gb318) (o:=.cells #[.int .i64 a0_0,.int .i64 a0_1,.string a0_2] 59 (0,0)) (by (with_reducible repeat (first|refine yx_ ?_ _|refine yA_ ?_|refine yw_ ?_ _));exact BK318.out)):gb319 ≠ gb318));clear BK318;clear HB;have BK318:=n0_;have HB:=n1_;have BK319:=n2_;have GW319:=n3_;have GE319:=n4_;have NB318_319:=n5_;have NB319_318:=n6_;clear n0_ n1_ n2_ n3_ n4_ n5_ n6_;clear hb hbox hg))
 (try simp only [Act.put,q1_,q2_,q3_])
 go_cut [5] (fun v5 wc=>∃ (kq:Nat) (x5_2:Bool),v5=.bool x5_2∧Aside0 (yG_.j0 kq x5_2 a0_0 a0_1 a0_2 a1_0 a1_1 a1_2=some r)∧Aside0 (kq≤k)∧Aside0 (wc.heap[gb318]?=some (.cells #[.int .i64 a0_0,.int .i64 a0_1,.string a0_2] 59 (0,0)))∧Aside0 (wc.heap[gb319]?=some (.cells #[.int .i64 a1_0,.int .i64 a1_1,.string a1_2] 59 (0,0)))∧Aside0 (Below w.heap.size w wc))
 case first =>
  have H:=HC3.out
  clear HC3
  by_cases c6:a0_0=a0_1
  rotate_left
  ·rw [if_neg c6] at H
   have c6b0:(a0_0 == a0_1)=false:=beq_eq_false_iff_ne.mpr c6
   have c6b1:(a0_0 != a0_1)=true:=bne_iff_ne.mpr c6
   (first|rw [c6b0]|(simp only [i64_w,i32_w];rw [c6b0])|skip)
   have H':=Aside0.mk H
   clear H
   have hnb10:=NB318_319.out
   have hnc10:=NB319_318.out
   have hcz11_0:w5.cell? ⟨gb318,0,none⟩=some (.int .i64 a0_0):=(yk_ BK318.out 0).trans rfl
   have hcz11_1:w5.cell? ⟨gb318,1,none⟩=some (.int .i64 a0_1):=(yk_ BK318.out 1).trans rfl
   have hcz11_2:w5.cell? ⟨gb318,2,none⟩=some (.string a0_2):=(yk_ BK318.out 2).trans rfl
   have hfz11_0:=ym_ BK318.out 0
   have hfz11_1:=ym_ BK318.out 1
   have hfz11_2:=ym_ BK318.out 2
   go_wp2
   go_meet
   case rel=>exact ⟨_,(false),(by first|rfl|(simp;done)|(simp [*];done)),H',⟨by first|omega|exact Nat.le_refl _⟩,⟨by (with_reducible repeat (first|refine yx_ ?_ _|refine yA_ ?_|refine yw_ ?_ _));exact BK318.out⟩,⟨by (with_reducible repeat (first|refine yx_ ?_ _|refine yA_ ?_|refine yw_ ?_ _));exact BK319.out⟩,⟨by repeat (with_reducible first|exact HB.out|apply yc_|apply ya_|apply yb_|refine yo_ ?_ GE318.out|refine yo_ ?_ GE319.out)⟩⟩
  rw [if_pos c6] at H
  have c6b0:(a0_0 == a0_1)=true:=beq_iff_eq.mpr c6
  have c6b1:(a0_0 != a0_1)=false:=bne_eq_false_iff_eq.mpr c6
  clear c6
  (first|rw [c6b0]|(simp only [i64_w,i32_w];rw [c6b0])|skip)
  have H':=Aside0.mk H
  clear H
  have hnb7:=NB318_319.out
  have hnc7:=NB319_318.out
  have hcz8_0:w5.cell? ⟨gb318,0,none⟩=some (.int .i64 a0_0):=(yk_ BK318.out 0).trans rfl
  have hcz8_1:w5.cell? ⟨gb318,1,none⟩=some (.int .i64 a0_1):=(yk_ BK318.out 1).trans rfl
  have hcz8_2:w5.cell? ⟨gb318,2,none⟩=some (.string a0_2):=(yk_ BK318.out 2).trans rfl
  have hfz8_0:=ym_ BK318.out 0
  have hfz8_1:=ym_ BK318.out 1
  have hfz8_2:=ym_ BK318.out 2
  have hcz9_0:w5.cell? ⟨gb319,0,none⟩=some (.int .i64 a1_0):=(yk_ BK319.out 0).trans rfl
  have hcz9_1:w5.cell? ⟨gb319,1,none⟩=some (.int .i64 a1_1):=(yk_ BK319.out 1).trans rfl
  have hcz9_2:w5.cell? ⟨gb319,2,none⟩=some (.string a1_2):=(yk_ BK319.out 2).trans rfl
  have hfz9_0:=ym_ BK319.out 0
  have hfz9_1:=ym_ BK319.out 1
  have hfz9_2:=ym_ BK319.out 2
  go_wp2
  go_meet
  case rel=>exact ⟨_,((a1_0 == a1_1)),(by first|rfl|(simp;done)|(simp [*];done)),H',⟨by first|omega|exact Nat.le_refl _⟩,⟨by (with_reducible repeat (first|refine yx_ ?_ _|refine yA_ ?_|refine yw_ ?_ _));exact BK318.out⟩,⟨by (with_reducible repeat (first|refine yx_ ?_ _|refine yA_ ?_|refine yw_ ?_ _));exact BK319.out⟩,⟨by repeat (with_reducible first|exact HB.out|apply yc_|apply ya_|apply yb_|refine yo_ ?_ GE318.out|refine yo_ ?_ GE319.out)⟩⟩
 case rest =>
  clear HC3
  try clear c1
  try clear p2
  try clear c6
  try clear c6b0
  try clear c6b1
  try clear c7
  try clear c10
  try clear hcz11_0
  try clear hcz11_1
  try clear hcz11_2
  try clear hcz8_0
  try clear hcz8_1
  try clear hcz8_2
  try clear hcz9_0
  try clear hcz9_1
  try clear hcz9_2
  try clear hfz11_0
  try clear hfz11_1
  try clear hfz11_2
  try clear hfz8_0
  try clear hfz8_1
  try clear hfz8_2
  try clear hfz9_0
  try clear hfz9_1
  try clear hfz9_2
  obtain ⟨kq,x5_2,rfl,HA,HJ2,BK318,BK319,HB⟩:=hcut
  cases kq with
  | zero=>exact absurd HA.out (by simp [yG_.j0])
  | succ kj2 =>
   have H:=HA.out
   clear HA
   simp only [yG_.j0] at H
   by_cases c12:x5_2=true
   ·subst c12
    have H1:(some (a0_0 == a1_0))=some r:=by rw [if_pos rfl] at H;exact H
    clear H
    have H:=H1
    clear H1
    obtain rfl:=Option.some.inj H
    have hnb13:=NB318_319.out
    have hnc13:=NB319_318.out
    have hcz14_0:wc.cell? ⟨gb318,0,none⟩=some (.int .i64 a0_0):=(yk_ BK318.out 0).trans rfl
    have hcz14_1:wc.cell? ⟨gb318,1,none⟩=some (.int .i64 a0_1):=(yk_ BK318.out 1).trans rfl
    have hcz14_2:wc.cell? ⟨gb318,2,none⟩=some (.string a0_2):=(yk_ BK318.out 2).trans rfl
    have hfz14_0:=ym_ BK318.out 0
    have hfz14_1:=ym_ BK318.out 1
    have hfz14_2:=ym_ BK318.out 2
    have hcz15_0:wc.cell? ⟨gb319,0,none⟩=some (.int .i64 a1_0):=(yk_ BK319.out 0).trans rfl
    have hcz15_1:wc.cell? ⟨gb319,1,none⟩=some (.int .i64 a1_1):=(yk_ BK319.out 1).trans rfl
    have hcz15_2:wc.cell? ⟨gb319,2,none⟩=some (.string a1_2):=(yk_ BK319.out 2).trans rfl
    have hfz15_0:=ym_ BK319.out 0
    have hfz15_1:=ym_ BK319.out 1
    have hfz15_2:=ym_ BK319.out 2
    go_wp2
    go_ret
    exact ⟨by first|rfl|(simp [yq_,yr_] <;> rfl)|(simp [*,yq_,yr_] <;> rfl),by repeat (with_reducible first|exact HB.out|apply yc_|apply ya_|apply yb_|refine yo_ ?_ GE318.out|refine yo_ ?_ GE319.out)⟩
   replace c12:=Bool.eq_false_iff.mpr c12
   subst c12
   have H1:(if a0_0=a0_1 then (if a0_0 > a1_0 then (some (decide (a0_0 < a1_1))) else (some false)) else (if a1_0=a1_1 then (if a1_0 > a0_0 then (some (decide (a1_0 < a0_1))) else (some false)) else (if a0_0 < a1_1 then (some (decide (a1_0 < a0_1))) else (some false))))=some r:=by rw [if_neg (show ¬ (false=true) by decide)] at H;exact H
   clear H
   have H:=H1
   clear H1
   by_cases c16:a0_0=a0_1
   ·rw [if_pos c16] at H
    have c16b0:(a0_0 == a0_1)=true:=beq_iff_eq.mpr c16
    have c16b1:(a0_0 != a0_1)=false:=bne_eq_false_iff_eq.mpr c16
    clear c16
    by_cases c17:a0_0 > a1_0
    ·rw [if_pos c17] at H
     have c17b0:decide (a1_0 < a0_0)=true:=decide_eq_true c17
     clear c17
     obtain rfl:=Option.some.inj H
     have hnb18:=NB318_319.out
     have hnc18:=NB319_318.out
     have hcz19_0:wc.cell? ⟨gb318,0,none⟩=some (.int .i64 a0_0):=(yk_ BK318.out 0).trans rfl
     have hcz19_1:wc.cell? ⟨gb318,1,none⟩=some (.int .i64 a0_1):=(yk_ BK318.out 1).trans rfl
     have hcz19_2:wc.cell? ⟨gb318,2,none⟩=some (.string a0_2):=(yk_ BK318.out 2).trans rfl
     have hfz19_0:=ym_ BK318.out 0
     have hfz19_1:=ym_ BK318.out 1
     have hfz19_2:=ym_ BK318.out 2
     have hcz20_0:wc.cell? ⟨gb319,0,none⟩=some (.int .i64 a1_0):=(yk_ BK319.out 0).trans rfl
     have hcz20_1:wc.cell? ⟨gb319,1,none⟩=some (.int .i64 a1_1):=(yk_ BK319.out 1).trans rfl
     have hcz20_2:wc.cell? ⟨gb319,2,none⟩=some (.string a1_2):=(yk_ BK319.out 2).trans rfl
     have hfz20_0:=ym_ BK319.out 0
     have hfz20_1:=ym_ BK319.out 1
     have hfz20_2:=ym_ BK319.out 2
     go_wp2
     go_ret
     exact ⟨by first|rfl|(simp [yq_,yr_] <;> rfl)|(simp [*,yq_,yr_] <;> rfl),by repeat (with_reducible first|exact HB.out|apply yc_|apply ya_|apply yb_|refine yo_ ?_ GE318.out|refine yo_ ?_ GE319.out)⟩
    rw [if_neg c17] at H
    have c17b0:decide (a1_0 < a0_0)=false:=decide_eq_false c17
    clear c17
    obtain rfl:=Option.some.inj H
    have hnb21:=NB318_319.out
    have hnc21:=NB319_318.out
    have hcz22_0:wc.cell? ⟨gb318,0,none⟩=some (.int .i64 a0_0):=(yk_ BK318.out 0).trans rfl
    have hcz22_1:wc.cell? ⟨gb318,1,none⟩=some (.int .i64 a0_1):=(yk_ BK318.out 1).trans rfl
    have hcz22_2:wc.cell? ⟨gb318,2,none⟩=some (.string a0_2):=(yk_ BK318.out 2).trans rfl
    have hfz22_0:=ym_ BK318.out 0
    have hfz22_1:=ym_ BK318.out 1
    have hfz22_2:=ym_ BK318.out 2
    have hcz23_0:wc.cell? ⟨gb319,0,none⟩=some (.int .i64 a1_0):=(yk_ BK319.out 0).trans rfl
    have hcz23_1:wc.cell? ⟨gb319,1,none⟩=some (.int .i64 a1_1):=(yk_ BK319.out 1).trans rfl
    have hcz23_2:wc.cell? ⟨gb319,2,none⟩=some (.string a1_2):=(yk_ BK319.out 2).trans rfl
    have hfz23_0:=ym_ BK319.out 0
    have hfz23_1:=ym_ BK319.out 1
    have hfz23_2:=ym_ BK319.out 2
    go_wp2
    go_ret
    exact ⟨by first|rfl|(simp [yq_,yr_] <;> rfl)|(simp [*,yq_,yr_] <;> rfl),by repeat (with_reducible first|exact HB.out|apply yc_|apply ya_|apply yb_|refine yo_ ?_ GE318.out|refine yo_ ?_ GE319.out)⟩
   rw [if_neg c16] at H
   have c16b0:(a0_0 == a0_1)=false:=beq_eq_false_iff_ne.mpr c16
   have c16b1:(a0_0 != a0_1)=true:=bne_iff_ne.mpr c16
   by_cases c24:a1_0=a1_1
   rotate_left
   ·rw [if_neg c24] at H
    have c24b0:(a1_0 == a1_1)=false:=beq_eq_false_iff_ne.mpr c24
    have c24b1:(a1_0 != a1_1)=true:=bne_iff_ne.mpr c24
    by_cases c32:a0_0 < a1_1
    ·rw [if_pos c32] at H
     have c32b0:decide (a0_0 < a1_1)=true:=decide_eq_true c32
     clear c32
     obtain rfl:=Option.some.inj H
     have hnb33:=NB318_319.out
     have hnc33:=NB319_318.out
     have hcz34_0:wc.cell? ⟨gb318,0,none⟩=some (.int .i64 a0_0):=(yk_ BK318.out 0).trans rfl
     have hcz34_1:wc.cell? ⟨gb318,1,none⟩=some (.int .i64 a0_1):=(yk_ BK318.out 1).trans rfl
     have hcz34_2:wc.cell? ⟨gb318,2,none⟩=some (.string a0_2):=(yk_ BK318.out 2).trans rfl
     have hfz34_0:=ym_ BK318.out 0
     have hfz34_1:=ym_ BK318.out 1
     have hfz34_2:=ym_ BK318.out 2
     have hcz35_0:wc.cell? ⟨gb319,0,none⟩=some (.int .i64 a1_0):=(yk_ BK319.out 0).trans rfl
     have hcz35_1:wc.cell? ⟨gb319,1,none⟩=some (.int .i64 a1_1):=(yk_ BK319.out 1).trans rfl
     have hcz35_2:wc.cell? ⟨gb319,2,none⟩=some (.string a1_2):=(yk_ BK319.out 2).trans rfl
     have hfz35_0:=ym_ BK319.out 0
     have hfz35_1:=ym_ BK319.out 1
     have hfz35_2:=ym_ BK319.out 2
     go_wp2
     go_ret
     exact ⟨by first|rfl|(simp [yq_,yr_] <;> rfl)|(simp [*,yq_,yr_] <;> rfl),by repeat (with_reducible first|exact HB.out|apply yc_|apply ya_|apply yb_|refine yo_ ?_ GE318.out|refine yo_ ?_ GE319.out)⟩
    rw [if_neg c32] at H
    have c32b0:decide (a0_0 < a1_1)=false:=decide_eq_false c32
    clear c32
    obtain rfl:=Option.some.inj H
    have hnb36:=NB318_319.out
    have hnc36:=NB319_318.out
    have hcz37_0:wc.cell? ⟨gb318,0,none⟩=some (.int .i64 a0_0):=(yk_ BK318.out 0).trans rfl
    have hcz37_1:wc.cell? ⟨gb318,1,none⟩=some (.int .i64 a0_1):=(yk_ BK318.out 1).trans rfl
    have hcz37_2:wc.cell? ⟨gb318,2,none⟩=some (.string a0_2):=(yk_ BK318.out 2).trans rfl
    have hfz37_0:=ym_ BK318.out 0
    have hfz37_1:=ym_ BK318.out 1
    have hfz37_2:=ym_ BK318.out 2
    have hcz38_0:wc.cell? ⟨gb319,0,none⟩=some (.int .i64 a1_0):=(yk_ BK319.out 0).trans rfl
    have hcz38_1:wc.cell? ⟨gb319,1,none⟩=some (.int .i64 a1_1):=(yk_ BK319.out 1).trans rfl
    have hcz38_2:wc.cell? ⟨gb319,2,none⟩=some (.string a1_2):=(yk_ BK319.out 2).trans rfl
    have hfz38_0:=ym_ BK319.out 0
    have hfz38_1:=ym_ BK319.out 1
    have hfz38_2:=ym_ BK319.out 2
    go_wp2
    go_ret
    exact ⟨by first|rfl|(simp [yq_,yr_] <;> rfl)|(simp [*,yq_,yr_] <;> rfl),by repeat (with_reducible first|exact HB.out|apply yc_|apply ya_|apply yb_|refine yo_ ?_ GE318.out|refine yo_ ?_ GE319.out)⟩
   rw [if_pos c24] at H
   have c24b0:(a1_0 == a1_1)=true:=beq_iff_eq.mpr c24
   have c24b1:(a1_0 != a1_1)=false:=bne_eq_false_iff_eq.mpr c24
   clear c24
   by_cases c25:a1_0 > a0_0
   ·rw [if_pos c25] at H
    have c25b0:decide (a0_0 < a1_0)=true:=decide_eq_true c25
    clear c25
    obtain rfl:=Option.some.inj H
    have hnb26:=NB318_319.out
    have hnc26:=NB319_318.out
    have hcz27_0:wc.cell? ⟨gb318,0,none⟩=some (.int .i64 a0_0):=(yk_ BK318.out 0).trans rfl
    have hcz27_1:wc.cell? ⟨gb318,1,none⟩=some (.int .i64 a0_1):=(yk_ BK318.out 1).trans rfl
    have hcz27_2:wc.cell? ⟨gb318,2,none⟩=some (.string a0_2):=(yk_ BK318.out 2).trans rfl
    have hfz27_0:=ym_ BK318.out 0
    have hfz27_1:=ym_ BK318.out 1
    have hfz27_2:=ym_ BK318.out 2
    have hcz28_0:wc.cell? ⟨gb319,0,none⟩=some (.int .i64 a1_0):=(yk_ BK319.out 0).trans rfl
    have hcz28_1:wc.cell? ⟨gb319,1,none⟩=some (.int .i64 a1_1):=(yk_ BK319.out 1).trans rfl
    have hcz28_2:wc.cell? ⟨gb319,2,none⟩=some (.string a1_2):=(yk_ BK319.out 2).trans rfl
    have hfz28_0:=ym_ BK319.out 0
    have hfz28_1:=ym_ BK319.out 1
    have hfz28_2:=ym_ BK319.out 2
    go_wp2
    go_ret
    exact ⟨by first|rfl|(simp [yq_,yr_] <;> rfl)|(simp [*,yq_,yr_] <;> rfl),by repeat (with_reducible first|exact HB.out|apply yc_|apply ya_|apply yb_|refine yo_ ?_ GE318.out|refine yo_ ?_ GE319.out)⟩
   rw [if_neg c25] at H
   have c25b0:decide (a0_0 < a1_0)=false:=decide_eq_false c25
   clear c25
   obtain rfl:=Option.some.inj H
   have hnb29:=NB318_319.out
   have hnc29:=NB319_318.out
   have hcz30_0:wc.cell? ⟨gb318,0,none⟩=some (.int .i64 a0_0):=(yk_ BK318.out 0).trans rfl
   have hcz30_1:wc.cell? ⟨gb318,1,none⟩=some (.int .i64 a0_1):=(yk_ BK318.out 1).trans rfl
   have hcz30_2:wc.cell? ⟨gb318,2,none⟩=some (.string a0_2):=(yk_ BK318.out 2).trans rfl
   have hfz30_0:=ym_ BK318.out 0
   have hfz30_1:=ym_ BK318.out 1
   have hfz30_2:=ym_ BK318.out 2
   have hcz31_0:wc.cell? ⟨gb319,0,none⟩=some (.int .i64 a1_0):=(yk_ BK319.out 0).trans rfl
   have hcz31_1:wc.cell? ⟨gb319,1,none⟩=some (.int .i64 a1_1):=(yk_ BK319.out 1).trans rfl
   have hcz31_2:wc.cell? ⟨gb319,2,none⟩=some (.string a1_2):=(yk_ BK319.out 2).trans rfl
   have hfz31_0:=ym_ BK319.out 0
   have hfz31_1:=ym_ BK319.out 1
   have hfz31_2:=ym_ BK319.out 2
   go_wp2
   go_ret
   exact ⟨by first|rfl|(simp [yq_,yr_] <;> rfl)|(simp [*,yq_,yr_] <;> rfl),by repeat (with_reducible first|exact HB.out|apply yc_|apply ya_|apply yb_|refine yo_ ?_ GE318.out|refine yo_ ?_ GE319.out)⟩

end Go.Proofs.Ythimblhfjfngiaa.PText

namespace Go.Proofs.Ythimblhfjfngiaa.PText
open Go.RowKit Go.Proofs.YthimblhfjfngiaaW.PrintWords Go.Proofs.YthimblhfjfngiaaW.PrintLast Go.Proofs.YthimblhfjfngiaaW.PrintMore
attribute [local go_sem] y2_ y3_ yfb_ ygb_ yS_ yT_ y4_ y5_   -- for this text's walks alone
set_option linter.unusedVariables false
set_option linter.unusedSimpArgs false

attribute [local go_sem high] eqA59
mutual
def yi_.j0:Nat→ByteArray→List (S59)→Bool→Option (Int)
 | 0,_,_,_=>none
 | k+1,x0,x1,x15=>if x15=true then (some 2) else (yi_.l0 k x0 x1 0)
def yi_.l0:Nat→ByteArray→List (S59)→Int→Option (Int)
 | 0,_,_,_=>none
 | k+1,x0,x1,x5=>if x5 < (x1.length:Int) then (if 0≤x5 then (if ((rd_T59 x1 x5).f0) < 0 then (some 1) else (if ((rd_T59 x1 x5).f1) > (x0.size:Int) then (some 1) else (if ((rd_T59 x1 x5).f0) > ((rd_T59 x1 x5).f1) then (some 1) else (yi_.l0 k x0 x1 (wrap64 (x5+1)))))) else (none)) else (yi_.l1 k x1 0)
def yi_.l1:Nat→List (S59)→Int→Option (Int)
 | 0,_,_=>none
 | k+1,x1,x6=>if x6 < (x1.length:Int) then (yi_.l2 k x1 x6 0) else (some 0)
def yi_.l2:Nat→List (S59)→Int→Int→Option (Int)
 | 0,_,_,_=>none
 | k+1,x1,x6,x7=>if x7 < x6 then (if 0≤x6 then (if x6 < (x1.length:Int) then (if 0≤x7 then (if x7 < (x1.length:Int) then (if (!(((rd_T59 x1 x6).f0) == ((rd_T59 x1 x7).f0)) || (!(((rd_T59 x1 x6).f1) == ((rd_T59 x1 x7).f1)) || (!((((rd_T59 x1 x6).f2).toList) == (((rd_T59 x1 x7).f2).toList)))))=true then ((yG_.f k ((rd_T59 x1 x6).f0) ((rd_T59 x1 x6).f1) ((rd_T59 x1 x6).f2) ((rd_T59 x1 x7).f0) ((rd_T59 x1 x7).f1) ((rd_T59 x1 x7).f2)).bind fun t328=>(if t328=true then (some 10) else (yi_.l2 k x1 x6 (wrap64 (x7+1))))) else (yi_.l2 k x1 x6 (wrap64 (x7+1)))) else (none)) else (none)) else (none)) else (none)) else (yi_.l1 k x1 (wrap64 (x6+1)))
end
def yi_.f (k:Nat) (a0:ByteArray) (l1:List (S59)):Option (Int):=if (a0.size:Int) > 200000 then (yi_.j0 k a0 l1 true) else (yi_.j0 k a0 l1 (decide ((l1.length:Int) > 10000)))
def yi_.T6:Bool × List (List Nat × List Nat):=(true,[([],[]),([],[]),([0,1],[0,1]),([2],[2]),([3],[3]),([4],[4]),([5],[5]),([6],[6]),([6],[6]),([7,8,6],[6,7,8]),([9,6],[6,9]),([10,6],[6,10]),([6],[6]),([12,6],[6,12]),([11,13,6],[6,11,13]),([6,14],[6,14]),([15,6],[15]),([16],[16]),([16],[16]),([17,18,16],[16,17,18]),([19,16],[16,19]),([20,16],[16,20]),([16],[16]),([16],[16]),([22,23,16],[16,22,23]),([24,16],[16,24]),([25,16],[16,25]),([21,26,16],[16,21,26]),([16,27],[16,27])])
def yi_.B6:List Nat:=[0,0,3,7,15,31,63,127,127,511,1023,2047,127,4223,16383,32767,65535,131071,131071,524287,1048575,2097151,131071,131071,12713983,29491199,63045631,134217727,268435455]
theorem yi_.tab6:rtab .any (opsOf Try.f50 6)=yi_.T6:=by kernel_rfl
theorem yi_.bits6:waitsOk yi_.T6.2 yi_.B6=true:=by kernel_rfl
def yi_.T14:Bool × List (List Nat × List Nat):=(true,[([],[]),([],[]),([0,1],[0,1]),([2],[2]),([],[]),([],[]),([4,5],[4,5]),([6],[6]),([3,7],[3,7]),([8],[8]),([9],[9]),([9],[9]),([10,11,9],[9,10,11]),([12,9],[9,12]),([9],[9]),([9],[9]),([14,15,9],[9,14,15]),([16,9],[9,16]),([13,17,9,9],[9,13,17]),([9,18],[9,18])])
def yi_.B14:List Nat:=[0,0,3,7,0,0,48,112,255,511,1023,1023,4095,8191,1023,1023,50175,115711,262143,524287]
theorem yi_.tab14:rtab .any (opsOf Try.f50 14)=yi_.T14:=by kernel_rfl
theorem yi_.bits14:waitsOk yi_.T14.2 yi_.B14=true:=by kernel_rfl
set_option maxHeartbeats 8000000 in
set_option maxRecDepth 100000 in
theorem yi_.calls (k:Nat) (a0:ByteArray) (A1:Option Addr) (c1:Nat) (l1:List (S59)) (r:Int) (w:World) (hr1:Kd.C k59 w A1 l1.length l1) (hc1:l1.length≤c1) (h:yi_.f k a0 l1=some r) :
  Calls Try.prog 50 #[.string a0,.slice A1 l1.length c1] w fun e w'=>e=.returned (.int .i64 r)∧Below w.heap.size w w':=by
 have hu59:=Try.underlying59
 have HR1:=Aside0.mk hr1
 have HC1:=Aside0.mk hc1
 clear hr1 hc1
 have HB:=Aside0.mk (Below.refl w.heap.size w)
 have H:(if (a0.size:Int) > 200000 then (yi_.j0 k a0 l1 true) else (yi_.j0 k a0 l1 (decide ((l1.length:Int) > 10000))))=some r:=h
 clear h
 have HC3:=Aside0.mk H
 clear H
 go_enter Try.func50,Try.ntmps50
 go_upto_region 1 with (fail)
 go_cut [15] (fun v15 wc=>∃ (kq:Nat) (x15_2:Bool),v15=.bool x15_2∧Aside0 (yi_.j0 kq a0 l1 x15_2=some r)∧Aside0 (kq≤k)∧Aside0 (Below w.heap.size w wc))
 case first =>
  have H:=HC3.out
  clear HC3
  by_cases c4:(a0.size:Int) > 200000
  ·rw [if_pos c4] at H
   have c4b0:decide (200000 < (a0.size:Int))=true:=decide_eq_true c4
   have c4b1:decide (200000 < a0.size)=true:=decide_eq_true (by omega)
   clear c4
   (first|rw [c4b0]|(simp only [i64_w,i32_w];rw [c4b0])|skip)
   have H':=Aside0.mk H
   clear H
   go_wp2
   go_meet
   case rel=>exact ⟨_,(true),(by first|rfl|(simp;done)|(simp [*];done)),H',⟨by first|omega|exact Nat.le_refl _⟩,⟨by repeat (with_reducible first|exact HB.out|apply yc_|apply ya_|apply yb_)⟩⟩
  rw [if_neg c4] at H
  have c4b0:decide (200000 < (a0.size:Int))=false:=decide_eq_false c4
  have c4b1:decide (200000 < a0.size)=false:=decide_eq_false (by omega)
  clear c4
  (first|rw [c4b0]|(simp only [i64_w,i32_w];rw [c4b0])|skip)
  have H':=Aside0.mk H
  clear H
  go_wp2
  go_meet
  case rel=>exact ⟨_,(decide ((l1.length:Int) > 10000)),(by first|rfl|(simp;done)|(simp [*];done)),H',⟨by first|omega|exact Nat.le_refl _⟩,⟨by repeat (with_reducible first|exact HB.out|apply yc_|apply ya_|apply yb_)⟩⟩
 case rest =>
  clear HC3
  try clear c1
  try clear p2
  try clear c4
  try clear c4b0
  try clear c4b1
  obtain ⟨kq,x15_2,rfl,HA,HJ2,HB⟩:=hcut
  cases kq with
  | zero=>exact absurd HA.out (by simp [yi_.j0])
  | succ kj2 =>
   have H:=HA.out
   clear HA
   simp only [yi_.j0] at H
   by_cases c5:x15_2=true
   ·subst c5
    have H1:(some 2)=some r:=by rw [if_pos rfl] at H;exact H
    clear H
    have H:=H1
    clear H1
    obtain rfl:=Option.some.inj H
    go_wp2
    go_ret
    exact ⟨by first|rfl|(simp [yq_,yr_] <;> rfl)|(simp [*,yq_,yr_] <;> rfl),by repeat (with_reducible first|exact HB.out|apply yc_|apply ya_|apply yb_)⟩
   replace c5:=Bool.eq_false_iff.mpr c5
   subst c5
   have H1:(yi_.l0 kj2 a0 l1 0)=some r:=by rw [if_neg (show ¬ (false=true) by decide)] at H;exact H
   clear H
   have H:=H1
   clear H1
   have H':=Aside0.mk H
   clear H
   go_wp2
   try simp only [Act.put,List.setIfInBounds_toArray,List.set_cons_succ,List.set_cons_zero]
   go_loopg [5] kj2 (fun kq v5 w'=>∃ (x5_2:Int),v5=.int .i64 x5_2∧Aside0 (yi_.l0 kq a0 l1 x5_2=some r)∧Aside0 (kq≤kj2)∧Aside0 (Below w.heap.size w w'))
   case atStart=>exact ⟨(0),(by first|rfl|(simp;done)|(simp [*];done)),H',⟨Nat.le_refl _⟩,⟨by repeat (with_reducible first|exact HB.out|apply yc_|apply ya_|apply yb_)⟩⟩
   case round =>
    clear H'
    try clear c1
    try clear p2
    try clear c4
    try clear c4b0
    try clear c4b1
    try clear c5
    try clear p2
    obtain ⟨x5_2,rfl,HA,HK2,HB⟩:=hrel
    cases gk with
    | zero=>exact absurd HA.out (by simp [yi_.l0])
    | succ k2 =>
     have H:=HA.out
     clear HA
     simp only [yi_.l0] at H
     by_cases c6:x5_2 < (l1.length:Int)
     ·rw [if_pos c6] at H
      have c6b0:decide (x5_2 < (l1.length:Int))=true:=decide_eq_true c6
      clear c6
      by_cases c7:0≤x5_2
      rotate_left
      ·rw [if_neg c7] at H
       exact absurd H (by simp)
      rw [if_pos c7] at H
      have c7b0:decide (0≤x5_2)=true:=decide_eq_true c7
      clear c7
      by_cases c8:((rd_T59 l1 x5_2).f0) < 0
      ·rw [if_pos c8] at H
       have c8b0:decide (((rd_T59 l1 x5_2).f0) < 0)=true:=decide_eq_true c8
       clear c8
       obtain rfl:=Option.some.inj H
       try go_wp2
       have n0_:=Aside0.mk (yb_ HB.out)
       clear HB
       have HB:=n0_
       clear n0_
       have p320:0≤(x5_2:Int):=of_decide_eq_true (by assumption)
       have q320:x5_2 < (l1.length:Int):=of_decide_eq_true (by assumption)
       obtain ⟨ad320,e320,hx320_0,hx320_1,hx320_2⟩:=at_T59 HR1.out x5_2 p320 q320
       have hw320_2:=hx320_2
       have hw320_1:=hx320_1
       have hw320_0:=hx320_0
       cases e320
       replace hx320_0:=(HB.out.cell (World.block_lt_of_cell? w _ hx320_0)).trans hx320_0
       replace hx320_1:=(HB.out.cell (World.block_lt_of_cell? w _ hx320_1)).trans hx320_1
       replace hx320_2:=(HB.out.cell (World.block_lt_of_cell? w _ hx320_2)).trans hx320_2
       replace p320:=eq_true p320
       replace q320:=eq_true q320
       refine start_ (n:=29) (S:=fun w'=>w'.cell? (ad320.add ((x5_2).toNat * 3))=some (.int .i64 ((rd_T59 l1 x5_2).f0))∧w'.cell? ⟨(ad320.add ((x5_2).toNat * 3)).block,(ad320.add ((x5_2).toNat * 3)).off+1,none⟩=some (.int .i64 ((rd_T59 l1 x5_2).f1))∧w'.cell? ⟨(ad320.add ((x5_2).toNat * 3)).block,(ad320.add ((x5_2).toNat * 3)).off+2,none⟩=some (.string ((rd_T59 l1 x5_2).f2))) (ds:=[]) (bA 29 0) (by kernel_rfl) rfl rfl ⟨((HB.out.cell (World.block_lt_of_cell? w _ hw320_0)).trans hw320_0),((HB.out.cell (World.block_lt_of_cell? w _ hw320_1)).trans hw320_1),((HB.out.cell (World.block_lt_of_cell? w _ hw320_2)).trans hw320_2)⟩ (fun hHeld=>?_);refine yP_ yi_.tab6 yi_.bits6 (fun HT_ HW_=>?_)
       generalize wr.drew=w9 at HB hx320_0 hx320_1 hx320_2 hHeld ⊢
       refine pu_ 0 22 (bA 29 1) HT_ ?_
       refine pu_ 1 23 (bA 29 3) HT_ ?_
       refine pu_ 2 24 (bA 29 7) HT_ ?_
       refine pu_ 3 25 (bA 29 15) HT_ ?_
       refine tk_ 4 26 (bA 29 31) rfl HT_ HW_ hHeld (by rintro w' ⟨s0,s1,s2⟩;go_simp;with_reducible rfl) ?_
       refine pu_ 5 27 (bA 29 63) HT_ ?_
       refine pu_ 6 28 (bA 29 127) HT_ ?_
       refine pz_ 7 29 (bA 29 255) HT_ ?_
       refine pz_ 8 30 (bA 29 511) HT_ ?_
       refine pz_ 9 31 (bA 29 1023) HT_ ?_
       refine pz_ 10 32 (bA 29 2047) HT_ ?_
       refine pz_ 11 33 (bA 29 4095) HT_ ?_
       refine pz_ 12 34 (bA 29 8191) HT_ ?_
       refine pz_ 13 35 (bA 29 16383) HT_ ?_
       refine pz_ 14 36 (bA 29 32767) HT_ ?_
       refine pu_ 15 37 (bA 29 65535) HT_ ?_
       refine pu_ 16 38 (bA 29 131071) HT_ ?_
       refine pz_ 17 39 (bA 29 262143) HT_ ?_
       refine pz_ 18 40 (bA 29 524287) HT_ ?_
       refine pz_ 19 41 (bA 29 1048575) HT_ ?_
       refine pz_ 20 42 (bA 29 2097151) HT_ ?_
       refine pz_ 21 43 (bA 29 4194303) HT_ ?_
       refine pz_ 22 44 (bA 29 8388607) HT_ ?_
       refine pz_ 23 45 (bA 29 16777215) HT_ ?_
       refine pz_ 24 46 (bA 29 33554431) HT_ ?_
       refine pz_ 25 47 (bA 29 67108863) HT_ ?_
       refine pz_ 26 48 (bA 29 134217727) HT_ ?_
       refine pz_ 27 49 (bA 29 268435455) HT_ ?_
       refine pu_ 28 50 (bA 29 536870911) HT_ ?_
       refine done_ (ydb_ HT_.out (by kernel_rfl)) ?_
       try go_wp2
       go_ret
       exact ⟨by first|rfl|(simp [yq_,yr_] <;> rfl)|(simp [*,yq_,yr_] <;> rfl),by repeat (with_reducible first|exact HB.out|apply yc_|apply ya_|apply yb_)⟩
      rw [if_neg c8] at H
      have c8b0:decide (((rd_T59 l1 x5_2).f0) < 0)=false:=decide_eq_false c8
      clear c8
      by_cases c10:((rd_T59 l1 x5_2).f1) > (a0.size:Int)
      ·rw [if_pos c10] at H
       have c10b0:decide ((a0.size:Int) < ((rd_T59 l1 x5_2).f1))=true:=decide_eq_true c10
       clear c10
       obtain rfl:=Option.some.inj H
       try go_wp2
       have n0_:=Aside0.mk (yb_ HB.out)
       clear HB
       have HB:=n0_
       clear n0_
       have p320:0≤(x5_2:Int):=of_decide_eq_true (by assumption)
       have q320:x5_2 < (l1.length:Int):=of_decide_eq_true (by assumption)
       obtain ⟨ad320,e320,hx320_0,hx320_1,hx320_2⟩:=at_T59 HR1.out x5_2 p320 q320
       have hw320_2:=hx320_2
       have hw320_1:=hx320_1
       have hw320_0:=hx320_0
       cases e320
       replace hx320_0:=(HB.out.cell (World.block_lt_of_cell? w _ hx320_0)).trans hx320_0
       replace hx320_1:=(HB.out.cell (World.block_lt_of_cell? w _ hx320_1)).trans hx320_1
       replace hx320_2:=(HB.out.cell (World.block_lt_of_cell? w _ hx320_2)).trans hx320_2
       replace p320:=eq_true p320
       replace q320:=eq_true q320
       have p321:0≤(x5_2:Int):=of_decide_eq_true (by assumption)
       have q321:x5_2 < (l1.length:Int):=of_decide_eq_true (by assumption)
       obtain ⟨ad321,e321,hx321_0,hx321_1,hx321_2⟩:=at_T59 HR1.out x5_2 p321 q321
       have hw321_2:=hx321_2
       have hw321_1:=hx321_1
       have hw321_0:=hx321_0
       obtain rfl:ad320=ad321:=(by injection e321)
       replace hx321_0:=(HB.out.cell (World.block_lt_of_cell? w _ hx321_0)).trans hx321_0
       replace hx321_1:=(HB.out.cell (World.block_lt_of_cell? w _ hx321_1)).trans hx321_1
       replace hx321_2:=(HB.out.cell (World.block_lt_of_cell? w _ hx321_2)).trans hx321_2
       replace p321:=eq_true p321
       replace q321:=eq_true q321
       refine start_ (n:=29) (S:=fun w'=>w'.cell? (ad320.add ((x5_2).toNat * 3))=some (.int .i64 ((rd_T59 l1 x5_2).f0))∧w'.cell? ⟨(ad320.add ((x5_2).toNat * 3)).block,(ad320.add ((x5_2).toNat * 3)).off+1,none⟩=some (.int .i64 ((rd_T59 l1 x5_2).f1))∧w'.cell? ⟨(ad320.add ((x5_2).toNat * 3)).block,(ad320.add ((x5_2).toNat * 3)).off+2,none⟩=some (.string ((rd_T59 l1 x5_2).f2))∧w'.cell? (ad320.add ((x5_2).toNat * 3))=some (.int .i64 ((rd_T59 l1 x5_2).f0))∧w'.cell? ⟨(ad320.add ((x5_2).toNat * 3)).block,(ad320.add ((x5_2).toNat * 3)).off+1,none⟩=some (.int .i64 ((rd_T59 l1 x5_2).f1))∧w'.cell? ⟨(ad320.add ((x5_2).toNat * 3)).block,(ad320.add ((x5_2).toNat * 3)).off+2,none⟩=some (.string ((rd_T59 l1 x5_2).f2))) (ds:=[]) (bA 29 0) (by kernel_rfl) rfl rfl ⟨((HB.out.cell (World.block_lt_of_cell? w _ hw320_0)).trans hw320_0),((HB.out.cell (World.block_lt_of_cell? w _ hw320_1)).trans hw320_1),((HB.out.cell (World.block_lt_of_cell? w _ hw320_2)).trans hw320_2),((HB.out.cell (World.block_lt_of_cell? w _ hw321_0)).trans hw321_0),((HB.out.cell (World.block_lt_of_cell? w _ hw321_1)).trans hw321_1),((HB.out.cell (World.block_lt_of_cell? w _ hw321_2)).trans hw321_2)⟩ (fun hHeld=>?_);refine yP_ yi_.tab6 yi_.bits6 (fun HT_ HW_=>?_)
       generalize wr.drew=w11 at HB hx320_0 hx320_1 hx320_2 hx321_0 hx321_1 hx321_2 hHeld ⊢
       refine pu_ 0 22 (bA 29 1) HT_ ?_
       refine pu_ 1 23 (bA 29 3) HT_ ?_
       refine pu_ 2 24 (bA 29 7) HT_ ?_
       refine pu_ 3 25 (bA 29 15) HT_ ?_
       refine tk_ 4 26 (bA 29 31) rfl HT_ HW_ hHeld (by rintro w' ⟨s0,s1,s2,s3,s4,s5⟩;go_simp;with_reducible rfl) ?_
       refine pu_ 5 27 (bA 29 63) HT_ ?_
       refine pu_ 6 28 (bA 29 127) HT_ ?_
       refine pu_ 7 29 (bA 29 255) HT_ ?_
       refine pu_ 8 30 (bA 29 511) HT_ ?_
       refine pu_ 9 31 (bA 29 1023) HT_ ?_
       refine pu_ 10 32 (bA 29 2047) HT_ ?_
       refine pu_ 12 34 (bA 29 6143) HT_ ?_
       refine pu_ 13 35 (bA 29 14335) HT_ ?_
       refine tk_ 11 33 (bA 29 16383) rfl HT_ HW_ hHeld (by rintro w' ⟨s0,s1,s2,s3,s4,s5⟩;go_simp;with_reducible rfl) ?_
       refine pu_ 14 36 (bA 29 32767) HT_ ?_
       refine pu_ 15 37 (bA 29 65535) HT_ ?_
       refine pu_ 16 38 (bA 29 131071) HT_ ?_
       refine pz_ 17 39 (bA 29 262143) HT_ ?_
       refine pz_ 18 40 (bA 29 524287) HT_ ?_
       refine pz_ 19 41 (bA 29 1048575) HT_ ?_
       refine pz_ 20 42 (bA 29 2097151) HT_ ?_
       refine pz_ 21 43 (bA 29 4194303) HT_ ?_
       refine pz_ 22 44 (bA 29 8388607) HT_ ?_
       refine pz_ 23 45 (bA 29 16777215) HT_ ?_
       refine pz_ 24 46 (bA 29 33554431) HT_ ?_
       refine pz_ 25 47 (bA 29 67108863) HT_ ?_
       refine pz_ 26 48 (bA 29 134217727) HT_ ?_
       refine pz_ 27 49 (bA 29 268435455) HT_ ?_
       refine pu_ 28 50 (bA 29 536870911) HT_ ?_
       refine done_ (ydb_ HT_.out (by kernel_rfl)) ?_
       try go_wp2
       go_ret
       exact ⟨by first|rfl|(simp [yq_,yr_] <;> rfl)|(simp [*,yq_,yr_] <;> rfl),by repeat (with_reducible first|exact HB.out|apply yc_|apply ya_|apply yb_)⟩
      rw [if_neg c10] at H
      have c10b0:decide ((a0.size:Int) < ((rd_T59 l1 x5_2).f1))=false:=decide_eq_false c10
      clear c10
      by_cases c12:((rd_T59 l1 x5_2).f0) > ((rd_T59 l1 x5_2).f1)
      ·rw [if_pos c12] at H
       have c12b0:decide (((rd_T59 l1 x5_2).f1) < ((rd_T59 l1 x5_2).f0))=true:=decide_eq_true c12
       clear c12
       obtain rfl:=Option.some.inj H
       try go_wp2
       have n0_:=Aside0.mk (yb_ HB.out)
       clear HB
       have HB:=n0_
       clear n0_
       have p320:0≤(x5_2:Int):=of_decide_eq_true (by assumption)
       have q320:x5_2 < (l1.length:Int):=of_decide_eq_true (by assumption)
       obtain ⟨ad320,e320,hx320_0,hx320_1,hx320_2⟩:=at_T59 HR1.out x5_2 p320 q320
       have hw320_2:=hx320_2
       have hw320_1:=hx320_1
       have hw320_0:=hx320_0
       cases e320
       replace hx320_0:=(HB.out.cell (World.block_lt_of_cell? w _ hx320_0)).trans hx320_0
       replace hx320_1:=(HB.out.cell (World.block_lt_of_cell? w _ hx320_1)).trans hx320_1
       replace hx320_2:=(HB.out.cell (World.block_lt_of_cell? w _ hx320_2)).trans hx320_2
       replace p320:=eq_true p320
       replace q320:=eq_true q320
       have p321:0≤(x5_2:Int):=of_decide_eq_true (by assumption)
       have q321:x5_2 < (l1.length:Int):=of_decide_eq_true (by assumption)
       obtain ⟨ad321,e321,hx321_0,hx321_1,hx321_2⟩:=at_T59 HR1.out x5_2 p321 q321
       have hw321_2:=hx321_2
       have hw321_1:=hx321_1
       have hw321_0:=hx321_0
       obtain rfl:ad320=ad321:=(by injection e321)
       replace hx321_0:=(HB.out.cell (World.block_lt_of_cell? w _ hx321_0)).trans hx321_0
       replace hx321_1:=(HB.out.cell (World.block_lt_of_cell? w _ hx321_1)).trans hx321_1
       replace hx321_2:=(HB.out.cell (World.block_lt_of_cell? w _ hx321_2)).trans hx321_2
       replace p321:=eq_true p321
       replace q321:=eq_true q321
       have p322:0≤(x5_2:Int):=of_decide_eq_true (by assumption)
       have q322:x5_2 < (l1.length:Int):=of_decide_eq_true (by assumption)
       obtain ⟨ad322,e322,hx322_0,hx322_1,hx322_2⟩:=at_T59 HR1.out x5_2 p322 q322
       have hw322_2:=hx322_2
       have hw322_1:=hx322_1
       have hw322_0:=hx322_0
       obtain rfl:ad320=ad322:=(by injection e322)
       replace hx322_0:=(HB.out.cell (World.block_lt_of_cell? w _ hx322_0)).trans hx322_0
       replace hx322_1:=(HB.out.cell (World.block_lt_of_cell? w _ hx322_1)).trans hx322_1
       replace hx322_2:=(HB.out.cell (World.block_lt_of_cell? w _ hx322_2)).trans hx322_2
       replace p322:=eq_true p322
       replace q322:=eq_true q322
       have p323:0≤(x5_2:Int):=of_decide_eq_true (by assumption)
       have q323:x5_2 < (l1.length:Int):=of_decide_eq_true (by assumption)
       obtain ⟨ad323,e323,hx323_0,hx323_1,hx323_2⟩:=at_T59 HR1.out x5_2 p323 q323
       have hw323_2:=hx323_2
       have hw323_1:=hx323_1
       have hw323_0:=hx323_0
       obtain rfl:ad320=ad323:=(by injection e323)
       replace hx323_0:=(HB.out.cell (World.block_lt_of_cell? w _ hx323_0)).trans hx323_0
       replace hx323_1:=(HB.out.cell (World.block_lt_of_cell? w _ hx323_1)).trans hx323_1
       replace hx323_2:=(HB.out.cell (World.block_lt_of_cell? w _ hx323_2)).trans hx323_2
       replace p323:=eq_true p323
       replace q323:=eq_true q323
       refine start_ (n:=29) (S:=fun w'=>w'.cell? (ad320.add ((x5_2).toNat * 3))=some (.int .i64 ((rd_T59 l1 x5_2).f0))∧w'.cell? ⟨(ad320.add ((x5_2).toNat * 3)).block,(ad320.add ((x5_2).toNat * 3)).off+1,none⟩=some (.int .i64 ((rd_T59 l1 x5_2).f1))∧w'.cell? ⟨(ad320.add ((x5_2).toNat * 3)).block,(ad320.add ((x5_2).toNat * 3)).off+2,none⟩=some (.string ((rd_T59 l1 x5_2).f2))∧w'.cell? (ad320.add ((x5_2).toNat * 3))=some (.int .i64 ((rd_T59 l1 x5_2).f0))∧w'.cell? ⟨(ad320.add ((x5_2).toNat * 3)).block,(ad320.add ((x5_2).toNat * 3)).off+1,none⟩=some (.int .i64 ((rd_T59 l1 x5_2).f1))∧w'.cell? ⟨(ad320.add ((x5_2).toNat * 3)).block,(ad320.add ((x5_2).toNat * 3)).off+2,none⟩=some (.string ((rd_T59 l1 x5_2).f2))∧w'.cell? (ad320.add ((x5_2).toNat * 3))=some (.int .i64 ((rd_T59 l1 x5_2).f0))∧w'.cell? ⟨(ad320.add ((x5_2).toNat * 3)).block,(ad320.add ((x5_2).toNat * 3)).off+1,none⟩=some (.int .i64 ((rd_T59 l1 x5_2).f1))∧w'.cell? ⟨(ad320.add ((x5_2).toNat * 3)).block,(ad320.add ((x5_2).toNat * 3)).off+2,none⟩=some (.string ((rd_T59 l1 x5_2).f2))∧w'.cell? (ad320.add ((x5_2).toNat * 3))=some (.int .i64 ((rd_T59 l1 x5_2).f0))∧w'.cell? ⟨(ad320.add ((x5_2).toNat * 3)).block,(ad320.add ((x5_2).toNat * 3)).off+1,none⟩=some (.int .i64 ((rd_T59 l1 x5_2).f1))∧w'.cell? ⟨(ad320.add ((x5_2).toNat * 3)).block,(ad320.add ((x5_2).toNat * 3)).off+2,none⟩=some (.string ((rd_T59 l1 x5_2).f2))) (ds:=[]) (bA 29 0) (by kernel_rfl) rfl rfl ⟨((HB.out.cell (World.block_lt_of_cell? w _ hw320_0)).trans hw320_0),((HB.out.cell (World.block_lt_of_cell? w _ hw320_1)).trans hw320_1),((HB.out.cell (World.block_lt_of_cell? w _ hw320_2)).trans hw320_2),((HB.out.cell (World.block_lt_of_cell? w _ hw321_0)).trans hw321_0),((HB.out.cell (World.block_lt_of_cell? w _ hw321_1)).trans hw321_1),((HB.out.cell (World.block_lt_of_cell? w _ hw321_2)).trans hw321_2),((HB.out.cell (World.block_lt_of_cell? w _ hw322_0)).trans hw322_0),((HB.out.cell (World.block_lt_of_cell? w _ hw322_1)).trans hw322_1),((HB.out.cell (World.block_lt_of_cell? w _ hw322_2)).trans hw322_2),((HB.out.cell (World.block_lt_of_cell? w _ hw323_0)).trans hw323_0),((HB.out.cell (World.block_lt_of_cell? w _ hw323_1)).trans hw323_1),((HB.out.cell (World.block_lt_of_cell? w _ hw323_2)).trans hw323_2)⟩ (fun hHeld=>?_);refine yP_ yi_.tab6 yi_.bits6 (fun HT_ HW_=>?_)
       generalize wr.drew=w13 at HB hx320_0 hx320_1 hx320_2 hx321_0 hx321_1 hx321_2 hx322_0 hx322_1 hx322_2 hx323_0 hx323_1 hx323_2 hHeld ⊢
       refine pu_ 0 22 (bA 29 1) HT_ ?_
       refine pu_ 1 23 (bA 29 3) HT_ ?_
       refine pu_ 2 24 (bA 29 7) HT_ ?_
       refine pu_ 3 25 (bA 29 15) HT_ ?_
       refine tk_ 4 26 (bA 29 31) rfl HT_ HW_ hHeld (by rintro w' ⟨s0,s1,s2,s3,s4,s5,s6,s7,s8,s9,s10,s11⟩;go_simp;with_reducible rfl) ?_
       refine pu_ 5 27 (bA 29 63) HT_ ?_
       refine pu_ 6 28 (bA 29 127) HT_ ?_
       refine pu_ 7 29 (bA 29 255) HT_ ?_
       refine pu_ 8 30 (bA 29 511) HT_ ?_
       refine pu_ 9 31 (bA 29 1023) HT_ ?_
       refine pu_ 10 32 (bA 29 2047) HT_ ?_
       refine pu_ 12 34 (bA 29 6143) HT_ ?_
       refine pu_ 13 35 (bA 29 14335) HT_ ?_
       refine tk_ 11 33 (bA 29 16383) rfl HT_ HW_ hHeld (by rintro w' ⟨s0,s1,s2,s3,s4,s5,s6,s7,s8,s9,s10,s11⟩;go_simp;with_reducible rfl) ?_
       refine pu_ 14 36 (bA 29 32767) HT_ ?_
       refine pu_ 15 37 (bA 29 65535) HT_ ?_
       refine pu_ 16 38 (bA 29 131071) HT_ ?_
       refine pu_ 17 39 (bA 29 262143) HT_ ?_
       refine pu_ 18 40 (bA 29 524287) HT_ ?_
       refine pu_ 19 41 (bA 29 1048575) HT_ ?_
       refine pu_ 20 42 (bA 29 2097151) HT_ ?_
       refine pu_ 22 44 (bA 29 6291455) HT_ ?_
       refine pu_ 23 45 (bA 29 14680063) HT_ ?_
       refine pu_ 24 46 (bA 29 31457279) HT_ ?_
       refine pu_ 25 47 (bA 29 65011711) HT_ ?_
       refine tk_ 21 43 (bA 29 67108863) rfl HT_ HW_ hHeld (by rintro w' ⟨s0,s1,s2,s3,s4,s5,s6,s7,s8,s9,s10,s11⟩;go_simp;with_reducible rfl) ?_
       refine tk_ 26 48 (bA 29 134217727) rfl HT_ HW_ hHeld (by rintro w' ⟨s0,s1,s2,s3,s4,s5,s6,s7,s8,s9,s10,s11⟩;go_simp;with_reducible rfl) ?_
       refine pu_ 27 49 (bA 29 268435455) HT_ ?_
       refine pu_ 28 50 (bA 29 536870911) HT_ ?_
       refine done_ (ydb_ HT_.out (by kernel_rfl)) ?_
       try go_wp2
       go_ret
       exact ⟨by first|rfl|(simp [yq_,yr_] <;> rfl)|(simp [*,yq_,yr_] <;> rfl),by repeat (with_reducible first|exact HB.out|apply yc_|apply ya_|apply yb_)⟩
      rw [if_neg c12] at H
      have c12b0:decide (((rd_T59 l1 x5_2).f1) < ((rd_T59 l1 x5_2).f0))=false:=decide_eq_false c12
      clear c12
      have H':=Aside0.mk H
      clear H
      try go_wp2
      have n0_:=Aside0.mk (yb_ HB.out)
      clear HB
      have HB:=n0_
      clear n0_
      have p320:0≤(x5_2:Int):=of_decide_eq_true (by assumption)
      have q320:x5_2 < (l1.length:Int):=of_decide_eq_true (by assumption)
      obtain ⟨ad320,e320,hx320_0,hx320_1,hx320_2⟩:=at_T59 HR1.out x5_2 p320 q320
      have hw320_2:=hx320_2
      have hw320_1:=hx320_1
      have hw320_0:=hx320_0
      cases e320
      replace hx320_0:=(HB.out.cell (World.block_lt_of_cell? w _ hx320_0)).trans hx320_0
      replace hx320_1:=(HB.out.cell (World.block_lt_of_cell? w _ hx320_1)).trans hx320_1
      replace hx320_2:=(HB.out.cell (World.block_lt_of_cell? w _ hx320_2)).trans hx320_2
      replace p320:=eq_true p320
      replace q320:=eq_true q320
      have p321:0≤(x5_2:Int):=of_decide_eq_true (by assumption)
      have q321:x5_2 < (l1.length:Int):=of_decide_eq_true (by assumption)
      obtain ⟨ad321,e321,hx321_0,hx321_1,hx321_2⟩:=at_T59 HR1.out x5_2 p321 q321
      have hw321_2:=hx321_2
      have hw321_1:=hx321_1
      have hw321_0:=hx321_0
      obtain rfl:ad320=ad321:=(by injection e321)
      replace hx321_0:=(HB.out.cell (World.block_lt_of_cell? w _ hx321_0)).trans hx321_0
      replace hx321_1:=(HB.out.cell (World.block_lt_of_cell? w _ hx321_1)).trans hx321_1
      replace hx321_2:=(HB.out.cell (World.block_lt_of_cell? w _ hx321_2)).trans hx321_2
      replace p321:=eq_true p321
      replace q321:=eq_true q321
      have p322:0≤(x5_2:Int):=of_decide_eq_true (by assumption)
      have q322:x5_2 < (l1.length:Int):=of_decide_eq_true (by assumption)
      obtain ⟨ad322,e322,hx322_0,hx322_1,hx322_2⟩:=at_T59 HR1.out x5_2 p322 q322
      have hw322_2:=hx322_2
      have hw322_1:=hx322_1
      have hw322_0:=hx322_0
      obtain rfl:ad320=ad322:=(by injection e322)
      replace hx322_0:=(HB.out.cell (World.block_lt_of_cell? w _ hx322_0)).trans hx322_0
      replace hx322_1:=(HB.out.cell (World.block_lt_of_cell? w _ hx322_1)).trans hx322_1
      replace hx322_2:=(HB.out.cell (World.block_lt_of_cell? w _ hx322_2)).trans hx322_2
      replace p322:=eq_true p322
      replace q322:=eq_true q322
      have p323:0≤(x5_2:Int):=of_decide_eq_true (by assumption)
      have q323:x5_2 < (l1.length:Int):=of_decide_eq_true (by assumption)
      obtain ⟨ad323,e323,hx323_0,hx323_1,hx323_2⟩:=at_T59 HR1.out x5_2 p323 q323
      have hw323_2:=hx323_2
      have hw323_1:=hx323_1
      have hw323_0:=hx323_0
      obtain rfl:ad320=ad323:=(by injection e323)
      replace hx323_0:=(HB.out.cell (World.block_lt_of_cell? w _ hx323_0)).trans hx323_0
      replace hx323_1:=(HB.out.cell (World.block_lt_of_cell? w _ hx323_1)).trans hx323_1
      replace hx323_2:=(HB.out.cell (World.block_lt_of_cell? w _ hx323_2)).trans hx323_2
      replace p323:=eq_true p323
      replace q323:=eq_true q323
      refine start_ (n:=29) (S:=fun w'=>w'.cell? (ad320.add ((x5_2).toNat * 3))=some (.int .i64 ((rd_T59 l1 x5_2).f0))∧w'.cell? ⟨(ad320.add ((x5_2).toNat * 3)).block,(ad320.add ((x5_2).toNat * 3)).off+1,none⟩=some (.int .i64 ((rd_T59 l1 x5_2).f1))∧w'.cell? ⟨(ad320.add ((x5_2).toNat * 3)).block,(ad320.add ((x5_2).toNat * 3)).off+2,none⟩=some (.string ((rd_T59 l1 x5_2).f2))∧w'.cell? (ad320.add ((x5_2).toNat * 3))=some (.int .i64 ((rd_T59 l1 x5_2).f0))∧w'.cell? ⟨(ad320.add ((x5_2).toNat * 3)).block,(ad320.add ((x5_2).toNat * 3)).off+1,none⟩=some (.int .i64 ((rd_T59 l1 x5_2).f1))∧w'.cell? ⟨(ad320.add ((x5_2).toNat * 3)).block,(ad320.add ((x5_2).toNat * 3)).off+2,none⟩=some (.string ((rd_T59 l1 x5_2).f2))∧w'.cell? (ad320.add ((x5_2).toNat * 3))=some (.int .i64 ((rd_T59 l1 x5_2).f0))∧w'.cell? ⟨(ad320.add ((x5_2).toNat * 3)).block,(ad320.add ((x5_2).toNat * 3)).off+1,none⟩=some (.int .i64 ((rd_T59 l1 x5_2).f1))∧w'.cell? ⟨(ad320.add ((x5_2).toNat * 3)).block,(ad320.add ((x5_2).toNat * 3)).off+2,none⟩=some (.string ((rd_T59 l1 x5_2).f2))∧w'.cell? (ad320.add ((x5_2).toNat * 3))=some (.int .i64 ((rd_T59 l1 x5_2).f0))∧w'.cell? ⟨(ad320.add ((x5_2).toNat * 3)).block,(ad320.add ((x5_2).toNat * 3)).off+1,none⟩=some (.int .i64 ((rd_T59 l1 x5_2).f1))∧w'.cell? ⟨(ad320.add ((x5_2).toNat * 3)).block,(ad320.add ((x5_2).toNat * 3)).off+2,none⟩=some (.string ((rd_T59 l1 x5_2).f2))) (ds:=[]) (bA 29 0) (by kernel_rfl) rfl rfl ⟨((HB.out.cell (World.block_lt_of_cell? w _ hw320_0)).trans hw320_0),((HB.out.cell (World.block_lt_of_cell? w _ hw320_1)).trans hw320_1),((HB.out.cell (World.block_lt_of_cell? w _ hw320_2)).trans hw320_2),((HB.out.cell (World.block_lt_of_cell? w _ hw321_0)).trans hw321_0),((HB.out.cell (World.block_lt_of_cell? w _ hw321_1)).trans hw321_1),((HB.out.cell (World.block_lt_of_cell? w _ hw321_2)).trans hw321_2),((HB.out.cell (World.block_lt_of_cell? w _ hw322_0)).trans hw322_0),((HB.out.cell (World.block_lt_of_cell? w _ hw322_1)).trans hw322_1),((HB.out.cell (World.block_lt_of_cell? w _ hw322_2)).trans hw322_2),((HB.out.cell (World.block_lt_of_cell? w _ hw323_0)).trans hw323_0),((HB.out.cell (World.block_lt_of_cell? w _ hw323_1)).trans hw323_1),((HB.out.cell (World.block_lt_of_cell? w _ hw323_2)).trans hw323_2)⟩ (fun hHeld=>?_);refine yP_ yi_.tab6 yi_.bits6 (fun HT_ HW_=>?_)
      generalize wr.drew=w14 at HB hx320_0 hx320_1 hx320_2 hx321_0 hx321_1 hx321_2 hx322_0 hx322_1 hx322_2 hx323_0 hx323_1 hx323_2 hHeld ⊢
      refine pu_ 0 22 (bA 29 1) HT_ ?_
      refine pu_ 1 23 (bA 29 3) HT_ ?_
      refine pu_ 2 24 (bA 29 7) HT_ ?_
      refine pu_ 3 25 (bA 29 15) HT_ ?_
      refine tk_ 4 26 (bA 29 31) rfl HT_ HW_ hHeld (by rintro w' ⟨s0,s1,s2,s3,s4,s5,s6,s7,s8,s9,s10,s11⟩;go_simp;with_reducible rfl) ?_
      refine pu_ 5 27 (bA 29 63) HT_ ?_
      refine pu_ 6 28 (bA 29 127) HT_ ?_
      refine pu_ 7 29 (bA 29 255) HT_ ?_
      refine pu_ 8 30 (bA 29 511) HT_ ?_
      refine pu_ 9 31 (bA 29 1023) HT_ ?_
      refine pu_ 10 32 (bA 29 2047) HT_ ?_
      refine pu_ 12 34 (bA 29 6143) HT_ ?_
      refine pu_ 13 35 (bA 29 14335) HT_ ?_
      refine tk_ 11 33 (bA 29 16383) rfl HT_ HW_ hHeld (by rintro w' ⟨s0,s1,s2,s3,s4,s5,s6,s7,s8,s9,s10,s11⟩;go_simp;with_reducible rfl) ?_
      refine pu_ 14 36 (bA 29 32767) HT_ ?_
      refine pu_ 15 37 (bA 29 65535) HT_ ?_
      refine pu_ 16 38 (bA 29 131071) HT_ ?_
      refine pu_ 17 39 (bA 29 262143) HT_ ?_
      refine pu_ 18 40 (bA 29 524287) HT_ ?_
      refine pu_ 19 41 (bA 29 1048575) HT_ ?_
      refine pu_ 20 42 (bA 29 2097151) HT_ ?_
      refine pu_ 22 44 (bA 29 6291455) HT_ ?_
      refine pu_ 23 45 (bA 29 14680063) HT_ ?_
      refine pu_ 24 46 (bA 29 31457279) HT_ ?_
      refine pu_ 25 47 (bA 29 65011711) HT_ ?_
      refine tk_ 21 43 (bA 29 67108863) rfl HT_ HW_ hHeld (by rintro w' ⟨s0,s1,s2,s3,s4,s5,s6,s7,s8,s9,s10,s11⟩;go_simp;with_reducible rfl) ?_
      refine tk_ 26 48 (bA 29 134217727) rfl HT_ HW_ hHeld (by rintro w' ⟨s0,s1,s2,s3,s4,s5,s6,s7,s8,s9,s10,s11⟩;go_simp;with_reducible rfl) ?_
      refine pu_ 27 49 (bA 29 268435455) HT_ ?_
      refine pu_ 28 50 (bA 29 536870911) HT_ ?_
      refine done_ (ydb_ HT_.out (by kernel_rfl)) ?_
      try go_wp2
      go_roundg k2
      case measure=>have:=HJ2.out;have:=HK2.out;omega
      case rel=>exact ⟨(wrap64 (x5_2+1)),(by first|rfl|(simp;done)|(simp [*];done)),H',⟨by have:=HJ2.out;have:=HK2.out;omega⟩,⟨by repeat (with_reducible first|exact HB.out|apply yc_|apply ya_|apply yb_)⟩⟩
     rw [if_neg c6] at H
     have c6b0:decide (x5_2 < (l1.length:Int))=false:=decide_eq_false c6
     clear c6
     have H':=Aside0.mk H
     clear H
     go_wp2
     try simp only [Act.put,List.setIfInBounds_toArray,List.set_cons_succ,List.set_cons_zero]
     go_loopg [6] k2 (fun kq v6 w'=>∃ (x6_3:Int),v6=.int .i64 x6_3∧Aside0 (yi_.l1 kq l1 x6_3=some r)∧Aside0 (kq≤k2)∧Aside0 (Below w.heap.size w w'))
     case atStart=>exact ⟨(0),(by first|rfl|(simp;done)|(simp [*];done)),H',⟨Nat.le_refl _⟩,⟨by repeat (with_reducible first|exact HB.out|apply yc_|apply ya_|apply yb_)⟩⟩
     case round =>
      clear H'
      try clear c1
      try clear p2
      try clear p3
      try clear q3
      try clear hx3
      try clear c6
      try clear c6b0
      try clear p6
      try clear c7
      try clear c12
      try clear c12b0
      try clear hx320_0
      try clear hx320_1
      try clear hx320_2
      try clear hx321_0
      try clear hx321_1
      try clear hx321_2
      try clear hx322_0
      try clear hx322_1
      try clear hx322_2
      try clear hx323_0
      try clear hx323_1
      try clear hx323_2
      try clear p320
      try clear p321
      try clear p322
      try clear p323
      try clear q320
      try clear q321
      try clear q322
      try clear q323
      obtain ⟨x6_3,rfl,HA,HK3,HB⟩:=hrel
      cases gk with
      | zero=>exact absurd HA.out (by simp [yi_.l1])
      | succ k3 =>
       have H:=HA.out
       clear HA
       simp only [yi_.l1] at H
       by_cases c15:x6_3 < (l1.length:Int)
       rotate_left
       ·rw [if_neg c15] at H
        have c15b0:decide (x6_3 < (l1.length:Int))=false:=decide_eq_false c15
        clear c15
        obtain rfl:=Option.some.inj H
        go_wp2
        go_ret
        exact ⟨by first|rfl|(simp [yq_,yr_] <;> rfl)|(simp [*,yq_,yr_] <;> rfl),by repeat (with_reducible first|exact HB.out|apply yc_|apply ya_|apply yb_)⟩
       rw [if_pos c15] at H
       have c15b0:decide (x6_3 < (l1.length:Int))=true:=decide_eq_true c15
       clear c15
       have H':=Aside0.mk H
       clear H
       go_wp2
       try simp only [Act.put,List.setIfInBounds_toArray,List.set_cons_succ,List.set_cons_zero]
       go_loopg [7] k3 (fun kq v7 w'=>∃ (x7_4:Int),v7=.int .i64 x7_4∧Aside0 (yi_.l2 kq l1 x6_3 x7_4=some r)∧Aside0 (kq≤k3)∧Aside0 (Below w.heap.size w w'))
       case atStart=>exact ⟨(0),(by first|rfl|(simp;done)|(simp [*];done)),H',⟨Nat.le_refl _⟩,⟨by repeat (with_reducible first|exact HB.out|apply yc_|apply ya_|apply yb_)⟩⟩
       case round =>
        clear H'
        try clear c1
        try clear p2
        try clear p3
        try clear q3
        try clear hx3
        try clear c6
        try clear c6b0
        try clear p6
        try clear c7
        try clear c12
        try clear c12b0
        try clear c15
        try clear c15b0
        try clear hx320_0
        try clear hx320_1
        try clear hx320_2
        try clear hx321_0
        try clear hx321_1
        try clear hx321_2
        try clear hx322_0
        try clear hx322_1
        try clear hx322_2
        try clear hx323_0
        try clear hx323_1
        try clear hx323_2
        try clear p2
        try clear p3
        try clear p320
        try clear p321
        try clear p322
        try clear p323
        try clear p6
        try clear q3
        try clear q320
        try clear q321
        try clear q322
        try clear q323
        obtain ⟨x7_4,rfl,HA,HK4,HB⟩:=hrel
        cases gk with
        | zero=>exact absurd HA.out (by simp [yi_.l2])
        | succ k4 =>
         have H:=HA.out
         clear HA
         simp only [yi_.l2] at H
         by_cases c16:x7_4 < x6_3
         rotate_left
         ·rw [if_neg c16] at H
          have c16b0:decide (x7_4 < x6_3)=false:=decide_eq_false c16
          clear c16
          have H':=Aside0.mk H
          clear H
          go_wp2
          go_roundg k4
          case measure=>have:=HJ2.out;have:=HK2.out;have:=HK3.out;have:=HK4.out;omega
          case rel=>exact ⟨(wrap64 (x6_3+1)),(by first|rfl|(simp;done)|(simp [*];done)),H',⟨by have:=HJ2.out;have:=HK2.out;have:=HK3.out;have:=HK4.out;omega⟩,⟨by repeat (with_reducible first|exact HB.out|apply yc_|apply ya_|apply yb_)⟩⟩
         rw [if_pos c16] at H
         have c16b0:decide (x7_4 < x6_3)=true:=decide_eq_true c16
         clear c16
         by_cases c17:0≤x6_3
         rotate_left
         ·rw [if_neg c17] at H
          exact absurd H (by simp)
         rw [if_pos c17] at H
         have c17b0:decide (0≤x6_3)=true:=decide_eq_true c17
         clear c17
         by_cases c18:x6_3 < (l1.length:Int)
         rotate_left
         ·rw [if_neg c18] at H
          exact absurd H (by simp)
         rw [if_pos c18] at H
         have c18b0:decide (x6_3 < (l1.length:Int))=true:=decide_eq_true c18
         clear c18
         by_cases c19:0≤x7_4
         rotate_left
         ·rw [if_neg c19] at H
          exact absurd H (by simp)
         rw [if_pos c19] at H
         have c19b0:decide (0≤x7_4)=true:=decide_eq_true c19
         clear c19
         by_cases c20:x7_4 < (l1.length:Int)
         rotate_left
         ·rw [if_neg c20] at H
          exact absurd H (by simp)
         rw [if_pos c20] at H
         have c20b0:decide (x7_4 < (l1.length:Int))=true:=decide_eq_true c20
         clear c20
         by_cases c21:(!(((rd_T59 l1 x6_3).f0) == ((rd_T59 l1 x7_4).f0)) || (!(((rd_T59 l1 x6_3).f1) == ((rd_T59 l1 x7_4).f1)) || (!((((rd_T59 l1 x6_3).f2).toList) == (((rd_T59 l1 x7_4).f2).toList)))))=true
         rotate_left
         ·rw [if_neg c21] at H
          have c21b0:(!(((rd_T59 l1 x6_3).f0) == ((rd_T59 l1 x7_4).f0)) || (!(((rd_T59 l1 x6_3).f1) == ((rd_T59 l1 x7_4).f1)) || (!((((rd_T59 l1 x6_3).f2).toList) == (((rd_T59 l1 x7_4).f2).toList)))))=false:=by simpa using c21
          clear c21
          have H':=Aside0.mk H
          clear H
          try go_wp2
          have n0_:=Aside0.mk (yb_ HB.out)
          clear HB
          have HB:=n0_
          clear n0_
          have p324:0≤(x6_3:Int):=of_decide_eq_true (by assumption)
          have q324:x6_3 < (l1.length:Int):=of_decide_eq_true (by assumption)
          obtain ⟨ad324,e324,hx324_0,hx324_1,hx324_2⟩:=at_T59 HR1.out x6_3 p324 q324
          have hw324_2:=hx324_2
          have hw324_1:=hx324_1
          have hw324_0:=hx324_0
          cases e324
          replace hx324_0:=(HB.out.cell (World.block_lt_of_cell? w _ hx324_0)).trans hx324_0
          replace hx324_1:=(HB.out.cell (World.block_lt_of_cell? w _ hx324_1)).trans hx324_1
          replace hx324_2:=(HB.out.cell (World.block_lt_of_cell? w _ hx324_2)).trans hx324_2
          replace p324:=eq_true p324
          replace q324:=eq_true q324
          have p325:0≤(x7_4:Int):=of_decide_eq_true (by assumption)
          have q325:x7_4 < (l1.length:Int):=of_decide_eq_true (by assumption)
          obtain ⟨ad325,e325,hx325_0,hx325_1,hx325_2⟩:=at_T59 HR1.out x7_4 p325 q325
          have hw325_2:=hx325_2
          have hw325_1:=hx325_1
          have hw325_0:=hx325_0
          obtain rfl:ad324=ad325:=(by injection e325)
          replace hx325_0:=(HB.out.cell (World.block_lt_of_cell? w _ hx325_0)).trans hx325_0
          replace hx325_1:=(HB.out.cell (World.block_lt_of_cell? w _ hx325_1)).trans hx325_1
          replace hx325_2:=(HB.out.cell (World.block_lt_of_cell? w _ hx325_2)).trans hx325_2
          replace p325:=eq_true p325
          replace q325:=eq_true q325
          refine start_ (n:=20) (S:=fun w'=>w'.cell? (ad324.add ((x6_3).toNat * 3))=some (.int .i64 ((rd_T59 l1 x6_3).f0))∧w'.cell? ⟨(ad324.add ((x6_3).toNat * 3)).block,(ad324.add ((x6_3).toNat * 3)).off+1,none⟩=some (.int .i64 ((rd_T59 l1 x6_3).f1))∧w'.cell? ⟨(ad324.add ((x6_3).toNat * 3)).block,(ad324.add ((x6_3).toNat * 3)).off+2,none⟩=some (.string ((rd_T59 l1 x6_3).f2))∧w'.cell? (ad324.add ((x7_4).toNat * 3))=some (.int .i64 ((rd_T59 l1 x7_4).f0))∧w'.cell? ⟨(ad324.add ((x7_4).toNat * 3)).block,(ad324.add ((x7_4).toNat * 3)).off+1,none⟩=some (.int .i64 ((rd_T59 l1 x7_4).f1))∧w'.cell? ⟨(ad324.add ((x7_4).toNat * 3)).block,(ad324.add ((x7_4).toNat * 3)).off+2,none⟩=some (.string ((rd_T59 l1 x7_4).f2))) (ds:=[]) (bA 20 0) (by kernel_rfl) rfl rfl ⟨((HB.out.cell (World.block_lt_of_cell? w _ hw324_0)).trans hw324_0),((HB.out.cell (World.block_lt_of_cell? w _ hw324_1)).trans hw324_1),((HB.out.cell (World.block_lt_of_cell? w _ hw324_2)).trans hw324_2),((HB.out.cell (World.block_lt_of_cell? w _ hw325_0)).trans hw325_0),((HB.out.cell (World.block_lt_of_cell? w _ hw325_1)).trans hw325_1),((HB.out.cell (World.block_lt_of_cell? w _ hw325_2)).trans hw325_2)⟩ (fun hHeld=>?_);refine yP_ yi_.tab14 yi_.bits14 (fun HT_ HW_=>?_)
          generalize wr.drew=w28 at HB hx324_0 hx324_1 hx324_2 hx325_0 hx325_1 hx325_2 hHeld ⊢
          refine pu_ 0 62 (bA 20 1) HT_ ?_
          refine pu_ 1 63 (bA 20 3) HT_ ?_
          refine pu_ 2 64 (bA 20 7) HT_ ?_
          refine pu_ 4 66 (bA 20 23) HT_ ?_
          refine pu_ 5 67 (bA 20 55) HT_ ?_
          refine pu_ 6 68 (bA 20 119) HT_ ?_
          refine tk_ 3 65 (bA 20 127) rfl HT_ HW_ hHeld (by rintro w' ⟨s0,s1,s2,s3,s4,s5⟩;go_simp;with_reducible rfl) ?_
          refine tk_ 7 69 (bA 20 255) rfl HT_ HW_ hHeld (by rintro w' ⟨s0,s1,s2,s3,s4,s5⟩;go_simp;with_reducible rfl) ?_
          refine pu_ 8 70 (bA 20 511) HT_ ?_
          refine pu_ 9 71 (bA 20 1023) HT_ ?_
          refine pz_ 10 72 (bA 20 2047) HT_ ?_
          refine pz_ 11 73 (bA 20 4095) HT_ ?_
          refine pz_ 12 74 (bA 20 8191) HT_ ?_
          refine pz_ 13 75 (bA 20 16383) HT_ ?_
          refine pz_ 14 76 (bA 20 32767) HT_ ?_
          refine pz_ 15 77 (bA 20 65535) HT_ ?_
          refine pz_ 16 78 (bA 20 131071) HT_ ?_
          refine pz_ 17 79 (bA 20 262143) HT_ ?_
          refine pz_ 18 80 (bA 20 524287) HT_ ?_
          refine pu_ 19 81 (bA 20 1048575) HT_ ?_
          refine done_ (ydb_ HT_.out (by kernel_rfl)) ?_
          try go_wp2
          go_roundg k4
          case measure=>have:=HJ2.out;have:=HK2.out;have:=HK3.out;have:=HK4.out;omega
          case rel=>exact ⟨(wrap64 (x7_4+1)),(by first|rfl|(simp;done)|(simp [*];done)),H',⟨by have:=HJ2.out;have:=HK2.out;have:=HK3.out;have:=HK4.out;omega⟩,⟨by repeat (with_reducible first|exact HB.out|apply yc_|apply ya_|apply yb_)⟩⟩
         rw [if_pos c21] at H
         have c21b0:(!(((rd_T59 l1 x6_3).f0) == ((rd_T59 l1 x7_4).f0)) || (!(((rd_T59 l1 x6_3).f1) == ((rd_T59 l1 x7_4).f1)) || (!((((rd_T59 l1 x6_3).f2).toList) == (((rd_T59 l1 x7_4).f2).toList)))))=true:=c21
         clear c21
         replace H:=Option.bind_eq_some_iff.mp H
         obtain ⟨t328,A220,H⟩:=H
         replace H:(if t328=true then (some 10) else (yi_.l2 k4 l1 x6_3 (wrap64 (x7_4+1))))=some r:=H
         have A22:=Aside0.mk A220
         clear A220
         by_cases c23:t328=true
         ·subst c23
          have H1:(some 10)=some r:=by rw [if_pos rfl] at H;exact H
          clear H
          have H:=H1
          clear H1
          obtain rfl:=Option.some.inj H
          try go_wp2
          have n0_:=Aside0.mk (yb_ HB.out)
          clear HB
          have HB:=n0_
          clear n0_
          have p324:0≤(x6_3:Int):=of_decide_eq_true (by assumption)
          have q324:x6_3 < (l1.length:Int):=of_decide_eq_true (by assumption)
          obtain ⟨ad324,e324,hx324_0,hx324_1,hx324_2⟩:=at_T59 HR1.out x6_3 p324 q324
          have hw324_2:=hx324_2
          have hw324_1:=hx324_1
          have hw324_0:=hx324_0
          cases e324
          replace hx324_0:=(HB.out.cell (World.block_lt_of_cell? w _ hx324_0)).trans hx324_0
          replace hx324_1:=(HB.out.cell (World.block_lt_of_cell? w _ hx324_1)).trans hx324_1
          replace hx324_2:=(HB.out.cell (World.block_lt_of_cell? w _ hx324_2)).trans hx324_2
          replace p324:=eq_true p324
          replace q324:=eq_true q324
          have p325:0≤(x7_4:Int):=of_decide_eq_true (by assumption)
          have q325:x7_4 < (l1.length:Int):=of_decide_eq_true (by assumption)
          obtain ⟨ad325,e325,hx325_0,hx325_1,hx325_2⟩:=at_T59 HR1.out x7_4 p325 q325
          have hw325_2:=hx325_2
          have hw325_1:=hx325_1
          have hw325_0:=hx325_0
          obtain rfl:ad324=ad325:=(by injection e325)
          replace hx325_0:=(HB.out.cell (World.block_lt_of_cell? w _ hx325_0)).trans hx325_0
          replace hx325_1:=(HB.out.cell (World.block_lt_of_cell? w _ hx325_1)).trans hx325_1
          replace hx325_2:=(HB.out.cell (World.block_lt_of_cell? w _ hx325_2)).trans hx325_2
          replace p325:=eq_true p325
          replace q325:=eq_true q325
          have p326:0≤(x6_3:Int):=of_decide_eq_true (by assumption)
          have q326:x6_3 < (l1.length:Int):=of_decide_eq_true (by assumption)
          obtain ⟨ad326,e326,hx326_0,hx326_1,hx326_2⟩:=at_T59 HR1.out x6_3 p326 q326
          have hw326_2:=hx326_2
          have hw326_1:=hx326_1
          have hw326_0:=hx326_0
          obtain rfl:ad324=ad326:=(by injection e326)
          replace hx326_0:=(HB.out.cell (World.block_lt_of_cell? w _ hx326_0)).trans hx326_0
          replace hx326_1:=(HB.out.cell (World.block_lt_of_cell? w _ hx326_1)).trans hx326_1
          replace hx326_2:=(HB.out.cell (World.block_lt_of_cell? w _ hx326_2)).trans hx326_2
          replace p326:=eq_true p326
          replace q326:=eq_true q326
          have p327:0≤(x7_4:Int):=of_decide_eq_true (by assumption)
          have q327:x7_4 < (l1.length:Int):=of_decide_eq_true (by assumption)
          obtain ⟨ad327,e327,hx327_0,hx327_1,hx327_2⟩:=at_T59 HR1.out x7_4 p327 q327
          have hw327_2:=hx327_2
          have hw327_1:=hx327_1
          have hw327_0:=hx327_0
          obtain rfl:ad324=ad327:=(by injection e327)
          replace hx327_0:=(HB.out.cell (World.block_lt_of_cell? w _ hx327_0)).trans hx327_0
          replace hx327_1:=(HB.out.cell (World.block_lt_of_cell? w _ hx327_1)).trans hx327_1
          replace hx327_2:=(HB.out.cell (World.block_lt_of_cell? w _ hx327_2)).trans hx327_2
          replace p327:=eq_true p327
          replace q327:=eq_true q327
          refine start_ (n:=20) (S:=fun w'=>w'.cell? (ad324.add ((x6_3).toNat * 3))=some (.int .i64 ((rd_T59 l1 x6_3).f0))∧w'.cell? ⟨(ad324.add ((x6_3).toNat * 3)).block,(ad324.add ((x6_3).toNat * 3)).off+1,none⟩=some (.int .i64 ((rd_T59 l1 x6_3).f1))∧w'.cell? ⟨(ad324.add ((x6_3).toNat * 3)).block,(ad324.add ((x6_3).toNat * 3)).off+2,none⟩=some (.string ((rd_T59 l1 x6_3).f2))∧w'.cell? (ad324.add ((x7_4).toNat * 3))=some (.int .i64 ((rd_T59 l1 x7_4).f0))∧w'.cell? ⟨(ad324.add ((x7_4).toNat * 3)).block,(ad324.add ((x7_4).toNat * 3)).off+1,none⟩=some (.int .i64 ((rd_T59 l1 x7_4).f1))∧w'.cell? ⟨(ad324.add ((x7_4).toNat * 3)).block,(ad324.add ((x7_4).toNat * 3)).off+2,none⟩=some (.string ((rd_T59 l1 x7_4).f2))∧w'.cell? (ad324.add ((x6_3).toNat * 3))=some (.int .i64 ((rd_T59 l1 x6_3).f0))∧w'.cell? ⟨(ad324.add ((x6_3).toNat * 3)).block,(ad324.add ((x6_3).toNat * 3)).off+1,none⟩=some (.int .i64 ((rd_T59 l1 x6_3).f1))∧w'.cell? ⟨(ad324.add ((x6_3).toNat * 3)).block,(ad324.add ((x6_3).toNat * 3)).off+2,none⟩=some (.string ((rd_T59 l1 x6_3).f2))∧w'.cell? (ad324.add ((x7_4).toNat * 3))=some (.int .i64 ((rd_T59 l1 x7_4).f0))∧w'.cell? ⟨(ad324.add ((x7_4).toNat * 3)).block,(ad324.add ((x7_4).toNat * 3)).off+1,none⟩=some (.int .i64 ((rd_T59 l1 x7_4).f1))∧w'.cell? ⟨(ad324.add ((x7_4).toNat * 3)).block,(ad324.add ((x7_4).toNat * 3)).off+2,none⟩=some (.string ((rd_T59 l1 x7_4).f2))) (ds:=[]) (bA 20 0) (by kernel_rfl) rfl rfl ⟨((HB.out.cell (World.block_lt_of_cell? w _ hw324_0)).trans hw324_0),((HB.out.cell (World.block_lt_of_cell? w _ hw324_1)).trans hw324_1),((HB.out.cell (World.block_lt_of_cell? w _ hw324_2)).trans hw324_2),((HB.out.cell (World.block_lt_of_cell? w _ hw325_0)).trans hw325_0),((HB.out.cell (World.block_lt_of_cell? w _ hw325_1)).trans hw325_1),((HB.out.cell (World.block_lt_of_cell? w _ hw325_2)).trans hw325_2),((HB.out.cell (World.block_lt_of_cell? w _ hw326_0)).trans hw326_0),((HB.out.cell (World.block_lt_of_cell? w _ hw326_1)).trans hw326_1),((HB.out.cell (World.block_lt_of_cell? w _ hw326_2)).trans hw326_2),((HB.out.cell (World.block_lt_of_cell? w _ hw327_0)).trans hw327_0),((HB.out.cell (World.block_lt_of_cell? w _ hw327_1)).trans hw327_1),((HB.out.cell (World.block_lt_of_cell? w _ hw327_2)).trans hw327_2)⟩ (fun hHeld=>?_);refine yP_ yi_.tab14 yi_.bits14 (fun HT_ HW_=>?_)
          generalize wr.drew=w24 at HB hx324_0 hx324_1 hx324_2 hx325_0 hx325_1 hx325_2 hx326_0 hx326_1 hx326_2 hx327_0 hx327_1 hx327_2 hHeld ⊢
          refine pu_ 0 62 (bA 20 1) HT_ ?_
          refine pu_ 1 63 (bA 20 3) HT_ ?_
          refine pu_ 2 64 (bA 20 7) HT_ ?_
          refine pu_ 4 66 (bA 20 23) HT_ ?_
          refine pu_ 5 67 (bA 20 55) HT_ ?_
          refine pu_ 6 68 (bA 20 119) HT_ ?_
          refine tk_ 3 65 (bA 20 127) rfl HT_ HW_ hHeld (by rintro w' ⟨s0,s1,s2,s3,s4,s5,s6,s7,s8,s9,s10,s11⟩;go_simp;with_reducible rfl) ?_
          refine tk_ 7 69 (bA 20 255) rfl HT_ HW_ hHeld (by rintro w' ⟨s0,s1,s2,s3,s4,s5,s6,s7,s8,s9,s10,s11⟩;go_simp;with_reducible rfl) ?_
          refine pu_ 8 70 (bA 20 511) HT_ ?_
          refine pu_ 9 71 (bA 20 1023) HT_ ?_
          refine pu_ 10 72 (bA 20 2047) HT_ ?_
          refine pu_ 11 73 (bA 20 4095) HT_ ?_
          refine pu_ 12 74 (bA 20 8191) HT_ ?_
          refine pu_ 14 76 (bA 20 24575) HT_ ?_
          refine pu_ 15 77 (bA 20 57343) HT_ ?_
          refine pu_ 16 78 (bA 20 122879) HT_ ?_
          refine tk_ 13 75 (bA 20 131071) rfl HT_ HW_ hHeld (by rintro w' ⟨s0,s1,s2,s3,s4,s5,s6,s7,s8,s9,s10,s11⟩;go_simp;with_reducible rfl) ?_
          refine tk_ 17 79 (bA 20 262143) rfl HT_ HW_ hHeld (by rintro w' ⟨s0,s1,s2,s3,s4,s5,s6,s7,s8,s9,s10,s11⟩;go_simp;with_reducible rfl) ?_
          refine one_ (i:=18) (N:=some 80) (bA 20 524287) rfl rfl (one_of HT_.out (by kernel_rfl)) (by decide) (fun K hK=>?_)
          refine goes_ Try.func69 (by kernel_rfl) rfl #[.agg #[.int .i64 ((rd_T59 l1 x6_3).f0),.int .i64 ((rd_T59 l1 x6_3).f1),.string ((rd_T59 l1 x6_3).f2)],.agg #[.int .i64 ((rd_T59 l1 x7_4).f0),.int .i64 ((rd_T59 l1 x7_4).f1),.string ((rd_T59 l1 x7_4).f2)]] (by rfl) rfl rfl (by (try simp only [List.map_toArray,List.map_cons,List.map_nil]);first|done|rfl|(simp only [List.length_drop,List.length_take];rfl)) ?_
          with_reducible refine (yG_.calls k4 ((rd_T59 l1 x6_3).f0) ((rd_T59 l1 x6_3).f1) ((rd_T59 l1 x6_3).f2) ((rd_T59 l1 x7_4).f0) ((rd_T59 l1 x7_4).f1) ((rd_T59 l1 x7_4).f2) true _ A22.out).mono ?_
          rintro e w25 ⟨rfl,hb⟩
          refine ⟨_,rfl,?_⟩
          have n0_:=Aside0.mk (yp_ (by repeat (with_reducible first|exact HB.out|apply yc_|apply ya_|apply yb_)) hb)
          clear HB
          have HB:=n0_
          clear n0_
          (try clear hb)
          (try clear hb2)
          (try clear hk)
          (try clear hi)
          refine hK.out _ _ ⟨((HB.out.cell (World.block_lt_of_cell? w _ hw324_0)).trans hw324_0),((HB.out.cell (World.block_lt_of_cell? w _ hw324_1)).trans hw324_1),((HB.out.cell (World.block_lt_of_cell? w _ hw324_2)).trans hw324_2),((HB.out.cell (World.block_lt_of_cell? w _ hw325_0)).trans hw325_0),((HB.out.cell (World.block_lt_of_cell? w _ hw325_1)).trans hw325_1),((HB.out.cell (World.block_lt_of_cell? w _ hw325_2)).trans hw325_2),((HB.out.cell (World.block_lt_of_cell? w _ hw326_0)).trans hw326_0),((HB.out.cell (World.block_lt_of_cell? w _ hw326_1)).trans hw326_1),((HB.out.cell (World.block_lt_of_cell? w _ hw326_2)).trans hw326_2),((HB.out.cell (World.block_lt_of_cell? w _ hw327_0)).trans hw327_0),((HB.out.cell (World.block_lt_of_cell? w _ hw327_1)).trans hw327_1),((HB.out.cell (World.block_lt_of_cell? w _ hw327_2)).trans hw327_2)⟩ (fun hHeld=>?_)
          clear hK K
          refine norm_ (a':=?_) ?_ ?_
          rotate_left
          ·show Act.put _ (some 80) _=_
           simp only [Act.put,q1_,q2_,q3_,i64_w,i32_w]
           rfl
          refine pu_ 19 81 (bA 20 1048575) HT_ ?_
          refine done_ (ydb_ HT_.out (by kernel_rfl)) ?_
          try go_wp2
          go_ret
          exact ⟨by first|rfl|(simp [yq_,yr_] <;> rfl)|(simp [*,yq_,yr_] <;> rfl),by repeat (with_reducible first|exact HB.out|apply yc_|apply ya_|apply yb_)⟩
         replace c23:=Bool.eq_false_iff.mpr c23
         subst c23
         have H1:(yi_.l2 k4 l1 x6_3 (wrap64 (x7_4+1)))=some r:=by rw [if_neg (show ¬ (false=true) by decide)] at H;exact H
         clear H
         have H:=H1
         clear H1
         have H':=Aside0.mk H
         clear H
         try go_wp2
         have n0_:=Aside0.mk (yb_ HB.out)
         clear HB
         have HB:=n0_
         clear n0_
         have p324:0≤(x6_3:Int):=of_decide_eq_true (by assumption)
         have q324:x6_3 < (l1.length:Int):=of_decide_eq_true (by assumption)
         obtain ⟨ad324,e324,hx324_0,hx324_1,hx324_2⟩:=at_T59 HR1.out x6_3 p324 q324
         have hw324_2:=hx324_2
         have hw324_1:=hx324_1
         have hw324_0:=hx324_0
         cases e324
         replace hx324_0:=(HB.out.cell (World.block_lt_of_cell? w _ hx324_0)).trans hx324_0
         replace hx324_1:=(HB.out.cell (World.block_lt_of_cell? w _ hx324_1)).trans hx324_1
         replace hx324_2:=(HB.out.cell (World.block_lt_of_cell? w _ hx324_2)).trans hx324_2
         replace p324:=eq_true p324
         replace q324:=eq_true q324
         have p325:0≤(x7_4:Int):=of_decide_eq_true (by assumption)
         have q325:x7_4 < (l1.length:Int):=of_decide_eq_true (by assumption)
         obtain ⟨ad325,e325,hx325_0,hx325_1,hx325_2⟩:=at_T59 HR1.out x7_4 p325 q325
         have hw325_2:=hx325_2
         have hw325_1:=hx325_1
         have hw325_0:=hx325_0
         obtain rfl:ad324=ad325:=(by injection e325)
         replace hx325_0:=(HB.out.cell (World.block_lt_of_cell? w _ hx325_0)).trans hx325_0
         replace hx325_1:=(HB.out.cell (World.block_lt_of_cell? w _ hx325_1)).trans hx325_1
         replace hx325_2:=(HB.out.cell (World.block_lt_of_cell? w _ hx325_2)).trans hx325_2
         replace p325:=eq_true p325
         replace q325:=eq_true q325
         have p326:0≤(x6_3:Int):=of_decide_eq_true (by assumption)
         have q326:x6_3 < (l1.length:Int):=of_decide_eq_true (by assumption)
         obtain ⟨ad326,e326,hx326_0,hx326_1,hx326_2⟩:=at_T59 HR1.out x6_3 p326 q326
         have hw326_2:=hx326_2
         have hw326_1:=hx326_1
         have hw326_0:=hx326_0
         obtain rfl:ad324=ad326:=(by injection e326)
         replace hx326_0:=(HB.out.cell (World.block_lt_of_cell? w _ hx326_0)).trans hx326_0
         replace hx326_1:=(HB.out.cell (World.block_lt_of_cell? w _ hx326_1)).trans hx326_1
         replace hx326_2:=(HB.out.cell (World.block_lt_of_cell? w _ hx326_2)).trans hx326_2
         replace p326:=eq_true p326
         replace q326:=eq_true q326
         have p327:0≤(x7_4:Int):=of_decide_eq_true (by assumption)
         have q327:x7_4 < (l1.length:Int):=of_decide_eq_true (by assumption)
         obtain ⟨ad327,e327,hx327_0,hx327_1,hx327_2⟩:=at_T59 HR1.out x7_4 p327 q327
         have hw327_2:=hx327_2
         have hw327_1:=hx327_1
         have hw327_0:=hx327_0
         obtain rfl:ad324=ad327:=(by injection e327)
         replace hx327_0:=(HB.out.cell (World.block_lt_of_cell? w _ hx327_0)).trans hx327_0
         replace hx327_1:=(HB.out.cell (World.block_lt_of_cell? w _ hx327_1)).trans hx327_1
         replace hx327_2:=(HB.out.cell (World.block_lt_of_cell? w _ hx327_2)).trans hx327_2
         replace p327:=eq_true p327
         replace q327:=eq_true q327
         refine start_ (n:=20) (S:=fun w'=>w'.cell? (ad324.add ((x6_3).toNat * 3))=some (.int .i64 ((rd_T59 l1 x6_3).f0))∧w'.cell? ⟨(ad324.add ((x6_3).toNat * 3)).block,(ad324.add ((x6_3).toNat * 3)).off+1,none⟩=some (.int .i64 ((rd_T59 l1 x6_3).f1))∧w'.cell? ⟨(ad324.add ((x6_3).toNat * 3)).block,(ad324.add ((x6_3).toNat * 3)).off+2,none⟩=some (.string ((rd_T59 l1 x6_3).f2))∧w'.cell? (ad324.add ((x7_4).toNat * 3))=some (.int .i64 ((rd_T59 l1 x7_4).f0))∧w'.cell? ⟨(ad324.add ((x7_4).toNat * 3)).block,(ad324.add ((x7_4).toNat * 3)).off+1,none⟩=some (.int .i64 ((rd_T59 l1 x7_4).f1))∧w'.cell? ⟨(ad324.add ((x7_4).toNat * 3)).block,(ad324.add ((x7_4).toNat * 3)).off+2,none⟩=some (.string ((rd_T59 l1 x7_4).f2))∧w'.cell? (ad324.add ((x6_3).toNat * 3))=some (.int .i64 ((rd_T59 l1 x6_3).f0))∧w'.cell? ⟨(ad324.add ((x6_3).toNat * 3)).block,(ad324.add ((x6_3).toNat * 3)).off+1,none⟩=some (.int .i64 ((rd_T59 l1 x6_3).f1))∧w'.cell? ⟨(ad324.add ((x6_3).toNat * 3)).block,(ad324.add ((x6_3).toNat * 3)).off+2,none⟩=some (.string ((rd_T59 l1 x6_3).f2))∧w'.cell? (ad324.add ((x7_4).toNat * 3))=some (.int .i64 ((rd_T59 l1 x7_4).f0))∧w'.cell? ⟨(ad324.add ((x7_4).toNat * 3)).block,(ad324.add ((x7_4).toNat * 3)).off+1,none⟩=some (.int .i64 ((rd_T59 l1 x7_4).f1))∧w'.cell? ⟨(ad324.add ((x7_4).toNat * 3)).block,(ad324.add ((x7_4).toNat * 3)).off+2,none⟩=some (.string ((rd_T59 l1 x7_4).f2))) (ds:=[]) (bA 20 0) (by kernel_rfl) rfl rfl ⟨((HB.out.cell (World.block_lt_of_cell? w _ hw324_0)).trans hw324_0),((HB.out.cell (World.block_lt_of_cell? w _ hw324_1)).trans hw324_1),((HB.out.cell (World.block_lt_of_cell? w _ hw324_2)).trans hw324_2),((HB.out.cell (World.block_lt_of_cell? w _ hw325_0)).trans hw325_0),((HB.out.cell (World.block_lt_of_cell? w _ hw325_1)).trans hw325_1),((HB.out.cell (World.block_lt_of_cell? w _ hw325_2)).trans hw325_2),((HB.out.cell (World.block_lt_of_cell? w _ hw326_0)).trans hw326_0),((HB.out.cell (World.block_lt_of_cell? w _ hw326_1)).trans hw326_1),((HB.out.cell (World.block_lt_of_cell? w _ hw326_2)).trans hw326_2),((HB.out.cell (World.block_lt_of_cell? w _ hw327_0)).trans hw327_0),((HB.out.cell (World.block_lt_of_cell? w _ hw327_1)).trans hw327_1),((HB.out.cell (World.block_lt_of_cell? w _ hw327_2)).trans hw327_2)⟩ (fun hHeld=>?_);refine yP_ yi_.tab14 yi_.bits14 (fun HT_ HW_=>?_)
         generalize wr.drew=w26 at HB hx324_0 hx324_1 hx324_2 hx325_0 hx325_1 hx325_2 hx326_0 hx326_1 hx326_2 hx327_0 hx327_1 hx327_2 hHeld ⊢
         refine pu_ 0 62 (bA 20 1) HT_ ?_
         refine pu_ 1 63 (bA 20 3) HT_ ?_
         refine pu_ 2 64 (bA 20 7) HT_ ?_
         refine pu_ 4 66 (bA 20 23) HT_ ?_
         refine pu_ 5 67 (bA 20 55) HT_ ?_
         refine pu_ 6 68 (bA 20 119) HT_ ?_
         refine tk_ 3 65 (bA 20 127) rfl HT_ HW_ hHeld (by rintro w' ⟨s0,s1,s2,s3,s4,s5,s6,s7,s8,s9,s10,s11⟩;go_simp;with_reducible rfl) ?_
         refine tk_ 7 69 (bA 20 255) rfl HT_ HW_ hHeld (by rintro w' ⟨s0,s1,s2,s3,s4,s5,s6,s7,s8,s9,s10,s11⟩;go_simp;with_reducible rfl) ?_
         refine pu_ 8 70 (bA 20 511) HT_ ?_
         refine pu_ 9 71 (bA 20 1023) HT_ ?_
         refine pu_ 10 72 (bA 20 2047) HT_ ?_
         refine pu_ 11 73 (bA 20 4095) HT_ ?_
         refine pu_ 12 74 (bA 20 8191) HT_ ?_
         refine pu_ 14 76 (bA 20 24575) HT_ ?_
         refine pu_ 15 77 (bA 20 57343) HT_ ?_
         refine pu_ 16 78 (bA 20 122879) HT_ ?_
         refine tk_ 13 75 (bA 20 131071) rfl HT_ HW_ hHeld (by rintro w' ⟨s0,s1,s2,s3,s4,s5,s6,s7,s8,s9,s10,s11⟩;go_simp;with_reducible rfl) ?_
         refine tk_ 17 79 (bA 20 262143) rfl HT_ HW_ hHeld (by rintro w' ⟨s0,s1,s2,s3,s4,s5,s6,s7,s8,s9,s10,s11⟩;go_simp;with_reducible rfl) ?_
         refine one_ (i:=18) (N:=some 80) (bA 20 524287) rfl rfl (one_of HT_.out (by kernel_rfl)) (by decide) (fun K hK=>?_)
         refine goes_ Try.func69 (by kernel_rfl) rfl #[.agg #[.int .i64 ((rd_T59 l1 x6_3).f0),.int .i64 ((rd_T59 l1 x6_3).f1),.string ((rd_T59 l1 x6_3).f2)],.agg #[.int .i64 ((rd_T59 l1 x7_4).f0),.int .i64 ((rd_T59 l1 x7_4).f1),.string ((rd_T59 l1 x7_4).f2)]] (by rfl) rfl rfl (by (try simp only [List.map_toArray,List.map_cons,List.map_nil]);first|done|rfl|(simp only [List.length_drop,List.length_take];rfl)) ?_
         with_reducible refine (yG_.calls k4 ((rd_T59 l1 x6_3).f0) ((rd_T59 l1 x6_3).f1) ((rd_T59 l1 x6_3).f2) ((rd_T59 l1 x7_4).f0) ((rd_T59 l1 x7_4).f1) ((rd_T59 l1 x7_4).f2) false _ A22.out).mono ?_
         rintro e w27 ⟨rfl,hb⟩
         refine ⟨_,rfl,?_⟩
         have n0_:=Aside0.mk (yp_ (by repeat (with_reducible first|exact HB.out|apply yc_|apply ya_|apply yb_)) hb)
         clear HB
         have HB:=n0_
         clear n0_
         (try clear hb)
         (try clear hb2)
         (try clear hk)
         (try clear hi)
         refine hK.out _ _ ⟨((HB.out.cell (World.block_lt_of_cell? w _ hw324_0)).trans hw324_0),((HB.out.cell (World.block_lt_of_cell? w _ hw324_1)).trans hw324_1),((HB.out.cell (World.block_lt_of_cell? w _ hw324_2)).trans hw324_2),((HB.out.cell (World.block_lt_of_cell? w _ hw325_0)).trans hw325_0),((HB.out.cell (World.block_lt_of_cell? w _ hw325_1)).trans hw325_1),((HB.out.cell (World.block_lt_of_cell? w _ hw325_2)).trans hw325_2),((HB.out.cell (World.block_lt_of_cell? w _ hw326_0)).trans hw326_0),((HB.out.cell (World.block_lt_of_cell? w _ hw326_1)).trans hw326_1),((HB.out.cell (World.block_lt_of_cell? w _ hw326_2)).trans hw326_2),((HB.out.cell (World.block_lt_of_cell? w _ hw327_0)).trans hw327_0),((HB.out.cell (World.block_lt_of_cell? w _ hw327_1)).trans hw327_1),((HB.out.cell (World.block_lt_of_cell? w _ hw327_2)).trans hw327_2)⟩ (fun hHeld=>?_)
         clear hK K
         refine norm_ (a':=?_) ?_ ?_
         rotate_left
         ·show Act.put _ (some 80) _=_
          simp only [Act.put,q1_,q2_,q3_,i64_w,i32_w]
          rfl
         refine pu_ 19 81 (bA 20 1048575) HT_ ?_
         refine done_ (ydb_ HT_.out (by kernel_rfl)) ?_
         try go_wp2
         go_roundg k4
         case measure=>have:=HJ2.out;have:=HK2.out;have:=HK3.out;have:=HK4.out;omega
         case rel=>exact ⟨(wrap64 (x7_4+1)),(by first|rfl|(simp;done)|(simp [*];done)),H',⟨by have:=HJ2.out;have:=HK2.out;have:=HK3.out;have:=HK4.out;omega⟩,⟨by repeat (with_reducible first|exact HB.out|apply yc_|apply ya_|apply yb_)⟩⟩

end Go.Proofs.Ythimblhfjfngiaa.PText

namespace Go.Proofs.Ythimblhfjfngiaa.PText
open Go.RowKit Go.Proofs.YthimblhfjfngiaaW.PrintWords Go.Proofs.YthimblhfjfngiaaW.PrintLast Go.Proofs.YthimblhfjfngiaaW.PrintMore
attribute [local go_sem] y2_ y3_ yfb_ ygb_ yS_ yT_ y4_ y5_   -- for this text's walks alone
set_option linter.unusedVariables false
set_option linter.unusedSimpArgs false

def y9_.f (a0_0:Int) (a0_1:Int) (a0_2:ByteArray) (a1_0:Int) (a1_1:Int) (a1_2:ByteArray):Option (Bool):=if a0_0=a1_0 then (if a0_1=a1_1 then (some (Op.bytesLess a0_2.toList a1_2.toList)) else (some (decide (a0_1 < a1_1)))) else (some (decide (a0_0 < a1_0)))
set_option maxHeartbeats 8000000 in
set_option maxRecDepth 100000 in
theorem y9_.calls (a0_0:Int) (a0_1:Int) (a0_2:ByteArray) (a1_0:Int) (a1_1:Int) (a1_2:ByteArray) (r:Bool) (w:World) (h:y9_.f a0_0 a0_1 a0_2 a1_0 a1_1 a1_2=some r) :
  Calls Try.prog 87 #[.agg #[.int .i64 a0_0,.int .i64 a0_1,.string a0_2],.agg #[.int .i64 a1_0,.int .i64 a1_1,.string a1_2]] w fun e w'=>e=.returned (.bool r)∧Below w.heap.size w w':=by
 have hu59:=Try.underlying59
 have HB:=Aside0.mk (Below.refl w.heap.size w)
 have H:(if a0_0=a1_0 then (if a0_1=a1_1 then (some (Op.bytesLess a0_2.toList a1_2.toList)) else (some (decide (a0_1 < a1_1)))) else (some (decide (a0_0 < a1_0))))=some r:=h
 clear h
 by_cases c3:a0_0=a1_0
 rotate_left
 ·rw [if_neg c3] at H
  have c3b0:(a0_0 == a1_0)=false:=beq_eq_false_iff_ne.mpr c3
  have c3b1:(a0_0 != a1_0)=true:=bne_iff_ne.mpr c3
  obtain rfl:=Option.some.inj H
  go_enter Try.func87,Try.ntmps87
  go_wp2_with (first|((with_reducible refine yL_ (N:=2) rfl ?_);refine y0_ ?hg (N:=2) ?hd (cs:=#[.int .i64 a0_0,.int .i64 a0_1,.string a0_2]) (t:=59) ?hr ?_;(case hd=>rfl);(case hg=>rfl);(case hr=>first|(go_simp;done)|(go_simp;rfl));intro gb329 hg w15 hbox hb;have n0_:=Aside0.mk (yp_ (by repeat (with_reducible first|exact HB.out|apply yc_|apply ya_|apply yb_)) hb);have n1_:=Aside0.mk (hbox);have n2_:=Aside0.mk ((by rw [hg];exact (yn_ (by repeat (with_reducible first|exact HB.out|apply yc_|apply ya_|apply yb_))):w.heap.size≤gb329));have n3_:=Aside0.mk ((by rw [hg];exact (yn_ (by repeat (with_reducible first|exact HB.out|apply yc_|apply ya_|apply yb_))):w.heap.size≤gb329));clear HB;have HB:=n0_;have BK329:=n1_;have GW329:=n2_;have GE329:=n3_;clear n0_ n1_ n2_ n3_;clear hb hbox hg)|((with_reducible refine yL_ (N:=3) rfl ?_);refine y0_ ?hg (N:=3) ?hd (cs:=#[.int .i64 a1_0,.int .i64 a1_1,.string a1_2]) (t:=59) ?hr ?_;(case hd=>rfl);(case hg=>rfl);(case hr=>first|(go_simp;done)|(go_simp;rfl));intro gb330 hg w16 hbox hb;have n0_:=Aside0.mk (yrb_ (g:=gb329) (o:=.cells #[.int .i64 a0_0,.int .i64 a0_1,.string a0_2] 59 (0,0)) (by (with_reducible repeat (first|refine yx_ ?_ _|refine yA_ ?_|refine yw_ ?_ _));exact BK329.out) hb);have n1_:=Aside0.mk (yp_ (by repeat (with_reducible first|exact HB.out|apply yc_|apply ya_|apply yb_|refine yo_ ?_ GE329.out)) hb);have n2_:=Aside0.mk (hbox);have n3_:=Aside0.mk ((by rw [hg];exact (yn_ (by repeat (with_reducible first|exact HB.out|apply yc_|apply ya_|apply yb_|refine yo_ ?_ GE329.out))):w.heap.size≤gb330));have n4_:=Aside0.mk ((by rw [hg];exact (yn_ (by repeat (with_reducible first|exact HB.out|apply yc_|apply ya_|apply yb_|refine yo_ ?_ GE329.out))):w.heap.size≤gb330));have n5_:=Aside0.mk ((by rw [hg];exact Nat.ne_of_lt (blk_lt (g:=gb329) (o:=.cells #[.int .i64 a0_0,.int .i64 a0_1,.string a0_2] 59 (0,0)) (by (with_reducible repeat (first|refine yx_ ?_ _|refine yA_ ?_|refine yw_ ?_ _));exact BK329.out)):gb329 ≠ gb330));have n6_:=Aside0.mk ((by rw [hg];exact Nat.ne_of_gt (blk_lt (g:=gb329) (o:=.cells #[.int .i64 a0_0,.int .i64 a0_1,.string a0_2] 59 (0,0)) (by (with_reducible repeat (first|refine yx_ ?_ _|refine yA_ ?_|refine yw_ ?_ _));exact BK329.out)):gb330 ≠ gb329));clear BK329;clear HB;have BK329:=n0_;have HB:=n1_;have BK330:=n2_;have GW330:=n3_;have GE330:=n4_;have NB329_330:=n5_;have NB330_329:=n6_;clear n0_ n1_ n2_ n3_ n4_ n5_ n6_;clear hb hbox hg;have hnb17:=NB329_330.out;have hnc17:=NB330_329.out;have hcz18_0:w16.cell? ⟨gb329,0,none⟩=some (.int .i64 a0_0):=(yk_ BK329.out 0).trans rfl;have hcz18_1:w16.cell? ⟨gb329,1,none⟩=some (.int .i64 a0_1):=(yk_ BK329.out 1).trans rfl;have hcz18_2:w16.cell? ⟨gb329,2,none⟩=some (.string a0_2):=(yk_ BK329.out 2).trans rfl;have hfz18_0:=ym_ BK329.out 0;have hfz18_1:=ym_ BK329.out 1;have hfz18_2:=ym_ BK329.out 2;have hcz19_0:w16.cell? ⟨gb330,0,none⟩=some (.int .i64 a1_0):=(yk_ BK330.out 0).trans rfl;have hcz19_1:w16.cell? ⟨gb330,1,none⟩=some (.int .i64 a1_1):=(yk_ BK330.out 1).trans rfl;have hcz19_2:w16.cell? ⟨gb330,2,none⟩=some (.string a1_2):=(yk_ BK330.out 2).trans rfl;have hfz19_0:=ym_ BK330.out 0;have hfz19_1:=ym_ BK330.out 1;have hfz19_2:=ym_ BK330.out 2))
  go_ret
  exact ⟨by first|rfl|(simp [yq_,yr_] <;> rfl)|(simp [*,yq_,yr_] <;> rfl),by repeat (with_reducible first|exact HB.out|apply yc_|apply ya_|apply yb_|refine yo_ ?_ GE329.out|refine yo_ ?_ GE330.out)⟩
 rw [if_pos c3] at H
 have c3b0:(a0_0 == a1_0)=true:=beq_iff_eq.mpr c3
 have c3b1:(a0_0 != a1_0)=false:=bne_eq_false_iff_eq.mpr c3
 clear c3
 by_cases c4:a0_1=a1_1
 ·rw [if_pos c4] at H
  have c4b0:(a0_1 == a1_1)=true:=beq_iff_eq.mpr c4
  have c4b1:(a0_1 != a1_1)=false:=bne_eq_false_iff_eq.mpr c4
  clear c4
  obtain rfl:=Option.some.inj H
  go_enter Try.func87,Try.ntmps87
  go_wp2_with (first|((with_reducible refine yL_ (N:=2) rfl ?_);refine y0_ ?hg (N:=2) ?hd (cs:=#[.int .i64 a0_0,.int .i64 a0_1,.string a0_2]) (t:=59) ?hr ?_;(case hd=>rfl);(case hg=>rfl);(case hr=>first|(go_simp;done)|(go_simp;rfl));intro gb329 hg w5 hbox hb;have n0_:=Aside0.mk (yp_ (by repeat (with_reducible first|exact HB.out|apply yc_|apply ya_|apply yb_)) hb);have n1_:=Aside0.mk (hbox);have n2_:=Aside0.mk ((by rw [hg];exact (yn_ (by repeat (with_reducible first|exact HB.out|apply yc_|apply ya_|apply yb_))):w.heap.size≤gb329));have n3_:=Aside0.mk ((by rw [hg];exact (yn_ (by repeat (with_reducible first|exact HB.out|apply yc_|apply ya_|apply yb_))):w.heap.size≤gb329));clear HB;have HB:=n0_;have BK329:=n1_;have GW329:=n2_;have GE329:=n3_;clear n0_ n1_ n2_ n3_;clear hb hbox hg)|((with_reducible refine yL_ (N:=3) rfl ?_);refine y0_ ?hg (N:=3) ?hd (cs:=#[.int .i64 a1_0,.int .i64 a1_1,.string a1_2]) (t:=59) ?hr ?_;(case hd=>rfl);(case hg=>rfl);(case hr=>first|(go_simp;done)|(go_simp;rfl));intro gb330 hg w6 hbox hb;have n0_:=Aside0.mk (yrb_ (g:=gb329) (o:=.cells #[.int .i64 a0_0,.int .i64 a0_1,.string a0_2] 59 (0,0)) (by (with_reducible repeat (first|refine yx_ ?_ _|refine yA_ ?_|refine yw_ ?_ _));exact BK329.out) hb);have n1_:=Aside0.mk (yp_ (by repeat (with_reducible first|exact HB.out|apply yc_|apply ya_|apply yb_|refine yo_ ?_ GE329.out)) hb);have n2_:=Aside0.mk (hbox);have n3_:=Aside0.mk ((by rw [hg];exact (yn_ (by repeat (with_reducible first|exact HB.out|apply yc_|apply ya_|apply yb_|refine yo_ ?_ GE329.out))):w.heap.size≤gb330));have n4_:=Aside0.mk ((by rw [hg];exact (yn_ (by repeat (with_reducible first|exact HB.out|apply yc_|apply ya_|apply yb_|refine yo_ ?_ GE329.out))):w.heap.size≤gb330));have n5_:=Aside0.mk ((by rw [hg];exact Nat.ne_of_lt (blk_lt (g:=gb329) (o:=.cells #[.int .i64 a0_0,.int .i64 a0_1,.string a0_2] 59 (0,0)) (by (with_reducible repeat (first|refine yx_ ?_ _|refine yA_ ?_|refine yw_ ?_ _));exact BK329.out)):gb329 ≠ gb330));have n6_:=Aside0.mk ((by rw [hg];exact Nat.ne_of_gt (blk_lt (g:=gb329) (o:=.cells #[.int .i64 a0_0,.int .i64 a0_1,.string a0_2] 59 (0,0)) (by (with_reducible repeat (first|refine yx_ ?_ _|refine yA_ ?_|refine yw_ ?_ _));exact BK329.out)):gb330 ≠ gb329));clear BK329;clear HB;have BK329:=n0_;have HB:=n1_;have BK330:=n2_;have GW330:=n3_;have GE330:=n4_;have NB329_330:=n5_;have NB330_329:=n6_;clear n0_ n1_ n2_ n3_ n4_ n5_ n6_;clear hb hbox hg;have hnb7:=NB329_330.out;have hnc7:=NB330_329.out;have hcz8_0:w6.cell? ⟨gb329,0,none⟩=some (.int .i64 a0_0):=(yk_ BK329.out 0).trans rfl;have hcz8_1:w6.cell? ⟨gb329,1,none⟩=some (.int .i64 a0_1):=(yk_ BK329.out 1).trans rfl;have hcz8_2:w6.cell? ⟨gb329,2,none⟩=some (.string a0_2):=(yk_ BK329.out 2).trans rfl;have hfz8_0:=ym_ BK329.out 0;have hfz8_1:=ym_ BK329.out 1;have hfz8_2:=ym_ BK329.out 2;have hcz9_0:w6.cell? ⟨gb330,0,none⟩=some (.int .i64 a1_0):=(yk_ BK330.out 0).trans rfl;have hcz9_1:w6.cell? ⟨gb330,1,none⟩=some (.int .i64 a1_1):=(yk_ BK330.out 1).trans rfl;have hcz9_2:w6.cell? ⟨gb330,2,none⟩=some (.string a1_2):=(yk_ BK330.out 2).trans rfl;have hfz9_0:=ym_ BK330.out 0;have hfz9_1:=ym_ BK330.out 1;have hfz9_2:=ym_ BK330.out 2))
  go_ret
  exact ⟨by first|rfl|(simp [yq_,yr_] <;> rfl)|(simp [*,yq_,yr_] <;> rfl),by repeat (with_reducible first|exact HB.out|apply yc_|apply ya_|apply yb_|refine yo_ ?_ GE329.out|refine yo_ ?_ GE330.out)⟩
 rw [if_neg c4] at H
 have c4b0:(a0_1 == a1_1)=false:=beq_eq_false_iff_ne.mpr c4
 have c4b1:(a0_1 != a1_1)=true:=bne_iff_ne.mpr c4
 obtain rfl:=Option.some.inj H
 go_enter Try.func87,Try.ntmps87
 go_wp2_with (first|((with_reducible refine yL_ (N:=2) rfl ?_);refine y0_ ?hg (N:=2) ?hd (cs:=#[.int .i64 a0_0,.int .i64 a0_1,.string a0_2]) (t:=59) ?hr ?_;(case hd=>rfl);(case hg=>rfl);(case hr=>first|(go_simp;done)|(go_simp;rfl));intro gb329 hg w10 hbox hb;have n0_:=Aside0.mk (yp_ (by repeat (with_reducible first|exact HB.out|apply yc_|apply ya_|apply yb_)) hb);have n1_:=Aside0.mk (hbox);have n2_:=Aside0.mk ((by rw [hg];exact (yn_ (by repeat (with_reducible first|exact HB.out|apply yc_|apply ya_|apply yb_))):w.heap.size≤gb329));have n3_:=Aside0.mk ((by rw [hg];exact (yn_ (by repeat (with_reducible first|exact HB.out|apply yc_|apply ya_|apply yb_))):w.heap.size≤gb329));clear HB;have HB:=n0_;have BK329:=n1_;have GW329:=n2_;have GE329:=n3_;clear n0_ n1_ n2_ n3_;clear hb hbox hg)|((with_reducible refine yL_ (N:=3) rfl ?_);refine y0_ ?hg (N:=3) ?hd (cs:=#[.int .i64 a1_0,.int .i64 a1_1,.string a1_2]) (t:=59) ?hr ?_;(case hd=>rfl);(case hg=>rfl);(case hr=>first|(go_simp;done)|(go_simp;rfl));intro gb330 hg w11 hbox hb;have n0_:=Aside0.mk (yrb_ (g:=gb329) (o:=.cells #[.int .i64 a0_0,.int .i64 a0_1,.string a0_2] 59 (0,0)) (by (with_reducible repeat (first|refine yx_ ?_ _|refine yA_ ?_|refine yw_ ?_ _));exact BK329.out) hb);have n1_:=Aside0.mk (yp_ (by repeat (with_reducible first|exact HB.out|apply yc_|apply ya_|apply yb_|refine yo_ ?_ GE329.out)) hb);have n2_:=Aside0.mk (hbox);have n3_:=Aside0.mk ((by rw [hg];exact (yn_ (by repeat (with_reducible first|exact HB.out|apply yc_|apply ya_|apply yb_|refine yo_ ?_ GE329.out))):w.heap.size≤gb330));have n4_:=Aside0.mk ((by rw [hg];exact (yn_ (by repeat (with_reducible first|exact HB.out|apply yc_|apply ya_|apply yb_|refine yo_ ?_ GE329.out))):w.heap.size≤gb330));have n5_:=Aside0.mk ((by rw [hg];exact Nat.ne_of_lt (blk_lt (g:=gb329) (o:=.cells #[.int .i64 a0_0,.int .i64 a0_1,.string a0_2] 59 (0,0)) (by (with_reducible repeat (first|refine yx_ ?_ _|refine yA_ ?_|refine yw_ ?_ _));exact BK329.out)):gb329 ≠ gb330));have n6_:=Aside0.mk ((by rw [hg];exact Nat.ne_of_gt (blk_lt (g:=gb329) (o:=.cells #[.int .i64 a0_0,.int .i64 a0_1,.string a0_2] 59 (0,0)) (by (with_reducible repeat (first|refine yx_ ?_ _|refine yA_ ?_|refine yw_ ?_ _));exact BK329.out)):gb330 ≠ gb329));clear BK329;clear HB;have BK329:=n0_;have HB:=n1_;have BK330:=n2_;have GW330:=n3_;have GE330:=n4_;have NB329_330:=n5_;have NB330_329:=n6_;clear n0_ n1_ n2_ n3_ n4_ n5_ n6_;clear hb hbox hg;have hnb12:=NB329_330.out;have hnc12:=NB330_329.out;have hcz13_0:w11.cell? ⟨gb329,0,none⟩=some (.int .i64 a0_0):=(yk_ BK329.out 0).trans rfl;have hcz13_1:w11.cell? ⟨gb329,1,none⟩=some (.int .i64 a0_1):=(yk_ BK329.out 1).trans rfl;have hcz13_2:w11.cell? ⟨gb329,2,none⟩=some (.string a0_2):=(yk_ BK329.out 2).trans rfl;have hfz13_0:=ym_ BK329.out 0;have hfz13_1:=ym_ BK329.out 1;have hfz13_2:=ym_ BK329.out 2;have hcz14_0:w11.cell? ⟨gb330,0,none⟩=some (.int .i64 a1_0):=(yk_ BK330.out 0).trans rfl;have hcz14_1:w11.cell? ⟨gb330,1,none⟩=some (.int .i64 a1_1):=(yk_ BK330.out 1).trans rfl;have hcz14_2:w11.cell? ⟨gb330,2,none⟩=some (.string a1_2):=(yk_ BK330.out 2).trans rfl;have hfz14_0:=ym_ BK330.out 0;have hfz14_1:=ym_ BK330.out 1;have hfz14_2:=ym_ BK330.out 2))
 go_ret
 exact ⟨by first|rfl|(simp [yq_,yr_] <;> rfl)|(simp [*,yq_,yr_] <;> rfl),by repeat (with_reducible first|exact HB.out|apply yc_|apply ya_|apply yb_|refine yo_ ?_ GE329.out|refine yo_ ?_ GE330.out)⟩

end Go.Proofs.Ythimblhfjfngiaa.PText

namespace Go.Proofs.Ythimblhfjfngiaa.PText
open Go.RowKit Go.Proofs.YthimblhfjfngiaaW.PrintWords Go.Proofs.YthimblhfjfngiaaW.PrintLast Go.Proofs.YthimblhfjfngiaaW.PrintMore
attribute [local go_sem] y2_ y3_ yfb_ ygb_ yS_ yT_ y4_ y5_   -- for this text's walks alone
set_option linter.unusedVariables false
set_option linter.unusedSimpArgs false

attribute [local go_sem high] eqA59
mutual
def yf_.l0:Nat→List (S59)→List (S59)→Int→Option ((List (S59)))
 | 0,_,_,_=>none
 | k+1,x0,x3,x4=>if x4 < (x0.length:Int) then (yf_.l1 k x0 x3 x4 false 0) else (some x3)
def yf_.l1:Nat→List (S59)→List (S59)→Int→Bool→Int→Option ((List (S59)))
 | 0,_,_,_,_,_=>none
 | k+1,x0,x3,x4,x5,x6=>if x6 < (x3.length:Int) then (if x5=true then (yf_.l1 k x0 x3 x4 true (wrap64 (x6+1))) else (if 0≤x6 then (if 0≤x4 then (if x4 < (x0.length:Int) then (yf_.l1 k x0 x3 x4 (((rd_T59 x3 x6).f0) == ((rd_T59 x0 x4).f0) && (((rd_T59 x3 x6).f1) == ((rd_T59 x0 x4).f1) && ((((rd_T59 x3 x6).f2).toList) == (((rd_T59 x0 x4).f2).toList)))) (wrap64 (x6+1))) else (none)) else (none)) else (none))) else (if x5=true then (yf_.l0 k x0 x3 (wrap64 (x4+1))) else (if 0≤x4 then (if x4 < (x0.length:Int) then (if x3.length < 4398046511104 then ((some (x3++[(⟨(rd_T59 x0 x4).f0,(rd_T59 x0 x4).f1,(rd_T59 x0 x4).f2⟩:S59)]:List (S59))).bind fun y334=>(yf_.l2 k x0 y334 x4 (wrap64 ((y334.length:Int) - 1)))) else (none)) else (none)) else (none)))
def yf_.l2:Nat→List (S59)→List (S59)→Int→Int→Option ((List (S59)))
 | 0,_,_,_,_=>none
 | k+1,x0,x3,x4,x7=>if x7 > 0 then (if 0≤x7 then (if x7 < (x3.length:Int) then (if 0≤(wrap64 (x7 - 1)) then (if (wrap64 (x7 - 1)) < (x3.length:Int) then ((y9_.f ((rd_T59 x3 x7).f0) ((rd_T59 x3 x7).f1) ((rd_T59 x3 x7).f2) ((rd_T59 x3 (wrap64 (x7 - 1))).f0) ((rd_T59 x3 (wrap64 (x7 - 1))).f1) ((rd_T59 x3 (wrap64 (x7 - 1))).f2)).bind fun t339=>(if t339=true then (yf_.l2 k x0 ((x3.set (x7:Int).toNat (⟨(rd_T59 x3 (wrap64 (x7 - 1))).f0,(rd_T59 x3 (wrap64 (x7 - 1))).f1,(rd_T59 x3 (wrap64 (x7 - 1))).f2⟩:S59)).set ((wrap64 (x7 - 1)):Int).toNat (⟨(rd_T59 x3 x7).f0,(rd_T59 x3 x7).f1,(rd_T59 x3 x7).f2⟩:S59)) x4 (wrap64 (x7 - 1))) else (yf_.l0 k x0 x3 (wrap64 (x4+1))))) else (none)) else (none)) else (none)) else (none)) else (yf_.l0 k x0 x3 (wrap64 (x4+1)))
end
def yf_.f (k:Nat) (l0:List (S59)):Option ((List (S59))):=yf_.l0 k l0 ([]:List (S59)) 0
def yf_.T9:Bool × List (List Nat × List Nat):=(true,[([],[]),([0],[0]),([1],[1]),([1],[1]),([2,3,1],[1,2,3]),([4,1],[1,4]),([1],[1]),([1],[1]),([6,7,1],[1,6,7]),([8,1],[1,8]),([5,9,1],[1,5,9]),([1,10],[1,10]),([11,1,0,1,2,3,4,5,6,7,8,9,10,11],[0,11])])
def yf_.B9:List Nat:=[0,1,3,3,15,31,3,3,195,451,1023,2047,4095]
theorem yf_.tab9:rtab .any (opsOf Try.f70 9)=yf_.T9:=by kernel_rfl
theorem yf_.bits9:waitsOk yf_.T9.2 yf_.B9=true:=by kernel_rfl
def yf_.T13:Bool × List (List Nat × List Nat):=(true,[([],[]),([0],[0]),([1],[1]),([2],[2]),([2],[2]),([3,4,2],[2,3,4]),([5,2],[2,5]),([2],[2]),([2],[2]),([8,2],[2,8]),([7,9,2],[2,7,9]),([10,2],[2,10]),([6,11,2,2],[2,6,11]),([2,12],[2,12])])
def yf_.B13:List Nat:=[0,1,3,7,7,31,63,7,7,263,903,1927,4095,8191]
theorem yf_.tab13:rtab .any (opsOf Try.f70 13)=yf_.T13:=by kernel_rfl
theorem yf_.bits13:waitsOk yf_.T13.2 yf_.B13=true:=by kernel_rfl
set_option maxHeartbeats 8000000 in
set_option maxRecDepth 100000 in
theorem yf_.calls (k:Nat) (A0:Option Addr) (c0:Nat) (l0:List (S59)) (r:List (S59)) (w:World) (hr0:Kd.C k59 w A0 l0.length l0) (hc0:l0.length≤c0) (h:yf_.f k l0=some r) :
  Calls Try.prog 70 #[.slice A0 l0.length c0] w fun e w'=>∃ v0_:Value,e=.returned (v0_)∧Kd.R k59 59 w' w.heap.size (fun _=>True) v0_ r∧Below w.heap.size w w':=by
 have hu59:=Try.underlying59
 have HR0:=Aside0.mk hr0
 have HC0:=Aside0.mk hc0
 clear hr0 hc0
 have HB:=Aside0.mk (Below.refl w.heap.size w)
 have H:(yf_.l0 k l0 ([]:List (S59)) 0)=some r:=h
 clear h
 have H':=Aside0.mk H
 clear H
 go_enter Try.func70,Try.ntmps70
 go_wp2
 try simp only [Act.put,List.setIfInBounds_toArray,List.set_cons_succ,List.set_cons_zero]
 go_loopg [3,4] k (fun kq v3 v4 w'=>∃ (x3_1:List (S59)) (x4_1:Int),v4=.int .i64 x4_1∧Aside0 (yf_.l0 kq l0 x3_1 x4_1=some r)∧Aside0 (kq≤k)∧Aside0 (Kd.R k59 59 w' w.heap.size (fun _=>True) v3 x3_1)∧Aside0 (Below w.heap.size w w'))
 case atStart=>exact ⟨(([]:List (S59))),(0),(by first|rfl|(simp;done)|(simp [*];done)),H',⟨Nat.le_refl _⟩,⟨by first|exact Kd.R_nil _ _ _ _ _|exact Kd.N_nil _ _ _ _ _|exact Kd.V_nil _ _ _ _ _|exact Kd.Q_nil _ _ _ _ _|exact Kd.S_nil _ _ _ _ _⟩,⟨by repeat (with_reducible first|exact HB.out|apply yc_|apply ya_|apply yb_)⟩⟩
 case round =>
  clear H'
  obtain ⟨x3_1,x4_1,rfl,HA,HK1,HO_3,HB⟩:=hrel
  cases gk with
  | zero=>exact absurd HA.out (by simp [yf_.l0])
  | succ k1 =>
   have H:=HA.out
   clear HA
   simp only [yf_.l0] at H
   by_cases c2:x4_1 < (l0.length:Int)
   rotate_left
   ·rw [if_neg c2] at H
    have c2b0:decide (x4_1 < (l0.length:Int))=false:=decide_eq_false c2
    clear c2
    obtain rfl:=Option.some.inj H
    go_wp2
    go_ret
    exact ⟨_,by first|rfl|(simp [yq_,yr_] <;> rfl)|(simp [*,yq_,yr_] <;> rfl),by (with_reducible repeat (first|apply Kd.yg_|apply Kd.yh_|apply Kd.R_drew));exact HO_3.out,by repeat (with_reducible first|exact HB.out|apply yc_|apply ya_|apply yb_)⟩
   rw [if_pos c2] at H
   have c2b0:decide (x4_1 < (l0.length:Int))=true:=decide_eq_true c2
   clear c2
   have H':=Aside0.mk H
   clear H
   go_wp2
   try simp only [Act.put,List.setIfInBounds_toArray,List.set_cons_succ,List.set_cons_zero]
   go_loopg [5,6] k1 (fun kq v5 v6 w'=>∃ (x5_2:Bool) (x6_2:Int),v5=.bool x5_2∧v6=.int .i64 x6_2∧Aside0 (yf_.l1 kq l0 x3_1 x4_1 x5_2 x6_2=some r)∧Aside0 (kq≤k1)∧Aside0 (Kd.R k59 59 w' w.heap.size (fun _=>True) u3 x3_1)∧Aside0 (Below w.heap.size w w'))
   case atStart=>exact ⟨(false),(0),(by first|rfl|(simp;done)|(simp [*];done)),(by first|rfl|(simp;done)|(simp [*];done)),H',⟨Nat.le_refl _⟩,⟨by (with_reducible repeat (first|apply Kd.yg_|apply Kd.yh_|apply Kd.R_drew));exact HO_3.out⟩,⟨by repeat (with_reducible first|exact HB.out|apply yc_|apply ya_|apply yb_)⟩⟩
   case round =>
    clear H'
    try clear c2
    try clear c2b0
    try clear p2
    obtain ⟨x5_2,x6_2,rfl,rfl,HA,HK2,HO_3,HB⟩:=hrel
    cases gk with
    | zero=>exact absurd HA.out (by simp [yf_.l1])
    | succ k2 =>
     have H:=HA.out
     clear HA
     simp only [yf_.l1] at H
     by_cases c3:x6_2 < (x3_1.length:Int)
     ·rw [if_pos c3] at H
      have c3b0:decide (x6_2 < (x3_1.length:Int))=true:=decide_eq_true c3
      clear c3
      by_cases c4:x5_2=true
      ·subst c4
       have H1:(yf_.l1 k2 l0 x3_1 x4_1 true (wrap64 (x6_2+1)))=some r:=by rw [if_pos rfl] at H;exact H
       clear H
       have H:=H1
       clear H1
       have H':=Aside0.mk H
       clear H
       obtain ⟨Ao5,co5,eo5⟩:=Kd.yC_ HO_3.out
       subst eo5
       try go_wp2
       have n0_:=Aside0.mk (Kd.R_drew HO_3.out)
       have n1_:=Aside0.mk (yb_ HB.out)
       clear HO_3
       clear HB
       have HO_3:=n0_
       have HB:=n1_
       clear n0_ n1_
       refine start_ (n:=13) (S:=fun w'=>True) (ds:=[]) (bA 13 0) (by kernel_rfl) rfl rfl trivial (fun hHeld=>?_);refine yP_ yf_.tab9 yf_.bits9 (fun HT_ HW_=>?_)
       generalize wr.drew=w6 at HO_3 HB hHeld ⊢
       refine pu_ 0 21 (bA 13 1) HT_ ?_
       refine pu_ 1 22 (bA 13 3) HT_ ?_
       refine pz_ 2 23 (bA 13 7) HT_ ?_
       refine pz_ 3 24 (bA 13 15) HT_ ?_
       refine pz_ 4 25 (bA 13 31) HT_ ?_
       refine pz_ 5 26 (bA 13 63) HT_ ?_
       refine pz_ 6 27 (bA 13 127) HT_ ?_
       refine pz_ 7 28 (bA 13 255) HT_ ?_
       refine pz_ 8 29 (bA 13 511) HT_ ?_
       refine pz_ 9 30 (bA 13 1023) HT_ ?_
       refine pz_ 10 31 (bA 13 2047) HT_ ?_
       refine pu_ 11 32 (bA 13 4095) HT_ ?_
       refine pu_ 12 5 (bA 13 8191) HT_ ?_
       refine done_ (ydb_ HT_.out (by kernel_rfl)) ?_
       try go_wp2
       go_roundg k2
       case measure=>have:=HK1.out;have:=HK2.out;omega
       case rel=>exact ⟨(true),(wrap64 (x6_2+1)),(by first|rfl|(simp;done)|(simp [*];done)),(by first|rfl|(simp;done)|(simp [*];done)),H',⟨by have:=HK1.out;have:=HK2.out;omega⟩,⟨by (with_reducible repeat (first|apply Kd.yg_|apply Kd.yh_|apply Kd.R_drew));exact HO_3.out⟩,⟨by repeat (with_reducible first|exact HB.out|apply yc_|apply ya_|apply yb_)⟩⟩
      replace c4:=Bool.eq_false_iff.mpr c4
      subst c4
      have H1:(if 0≤x6_2 then (if 0≤x4_1 then (if x4_1 < (l0.length:Int) then (yf_.l1 k2 l0 x3_1 x4_1 (((rd_T59 x3_1 x6_2).f0) == ((rd_T59 l0 x4_1).f0) && (((rd_T59 x3_1 x6_2).f1) == ((rd_T59 l0 x4_1).f1) && ((((rd_T59 x3_1 x6_2).f2).toList) == (((rd_T59 l0 x4_1).f2).toList)))) (wrap64 (x6_2+1))) else (none)) else (none)) else (none))=some r:=by rw [if_neg (show ¬ (false=true) by decide)] at H;exact H
      clear H
      have H:=H1
      clear H1
      by_cases c7:0≤x6_2
      rotate_left
      ·rw [if_neg c7] at H
       exact absurd H (by simp)
      rw [if_pos c7] at H
      have c7b0:decide (0≤x6_2)=true:=decide_eq_true c7
      clear c7
      by_cases c8:0≤x4_1
      rotate_left
      ·rw [if_neg c8] at H
       exact absurd H (by simp)
      rw [if_pos c8] at H
      have c8b0:decide (0≤x4_1)=true:=decide_eq_true c8
      clear c8
      by_cases c9:x4_1 < (l0.length:Int)
      rotate_left
      ·rw [if_neg c9] at H
       exact absurd H (by simp)
      rw [if_pos c9] at H
      have c9b0:decide (x4_1 < (l0.length:Int))=true:=decide_eq_true c9
      clear c9
      have H':=Aside0.mk H
      clear H
      obtain ⟨Ao10,co10,eo10⟩:=Kd.yC_ HO_3.out
      subst eo10
      try go_wp2
      have n0_:=Aside0.mk (Kd.R_drew HO_3.out)
      have n1_:=Aside0.mk (yb_ HB.out)
      clear HO_3
      clear HB
      have HO_3:=n0_
      have HB:=n1_
      clear n0_ n1_
      have p331:0≤(x6_2:Int):=of_decide_eq_true (by assumption)
      have q331:x6_2 < (x3_1.length:Int):=of_decide_eq_true (by assumption)
      obtain ⟨ad331,e331,hx331_0,hx331_1,hx331_2⟩:=at_T59 (Kd.ys_ HO_3.out).2.2 x6_2 p331 q331
      cases e331
      replace p331:=eq_true p331
      replace q331:=eq_true q331
      have p332:0≤(x4_1:Int):=of_decide_eq_true (by assumption)
      have q332:x4_1 < (l0.length:Int):=of_decide_eq_true (by assumption)
      obtain ⟨ad332,e332,hx332_0,hx332_1,hx332_2⟩:=at_T59 HR0.out x4_1 p332 q332
      have hw332_2:=hx332_2
      have hw332_1:=hx332_1
      have hw332_0:=hx332_0
      cases e332
      replace hx332_0:=(HB.out.cell (World.block_lt_of_cell? w _ hx332_0)).trans hx332_0
      replace hx332_1:=(HB.out.cell (World.block_lt_of_cell? w _ hx332_1)).trans hx332_1
      replace hx332_2:=(HB.out.cell (World.block_lt_of_cell? w _ hx332_2)).trans hx332_2
      replace p332:=eq_true p332
      replace q332:=eq_true q332
      refine start_ (n:=13) (S:=fun w'=>w'.cell? (ad331.add ((x6_2).toNat * 3))=some (.int .i64 ((rd_T59 x3_1 x6_2).f0))∧w'.cell? ⟨(ad331.add ((x6_2).toNat * 3)).block,(ad331.add ((x6_2).toNat * 3)).off+1,none⟩=some (.int .i64 ((rd_T59 x3_1 x6_2).f1))∧w'.cell? ⟨(ad331.add ((x6_2).toNat * 3)).block,(ad331.add ((x6_2).toNat * 3)).off+2,none⟩=some (.string ((rd_T59 x3_1 x6_2).f2))∧w'.cell? (ad332.add ((x4_1).toNat * 3))=some (.int .i64 ((rd_T59 l0 x4_1).f0))∧w'.cell? ⟨(ad332.add ((x4_1).toNat * 3)).block,(ad332.add ((x4_1).toNat * 3)).off+1,none⟩=some (.int .i64 ((rd_T59 l0 x4_1).f1))∧w'.cell? ⟨(ad332.add ((x4_1).toNat * 3)).block,(ad332.add ((x4_1).toNat * 3)).off+2,none⟩=some (.string ((rd_T59 l0 x4_1).f2))) (ds:=[]) (bA 13 0) (by kernel_rfl) rfl rfl ⟨hx331_0,hx331_1,hx331_2,((HB.out.cell (World.block_lt_of_cell? w _ hw332_0)).trans hw332_0),((HB.out.cell (World.block_lt_of_cell? w _ hw332_1)).trans hw332_1),((HB.out.cell (World.block_lt_of_cell? w _ hw332_2)).trans hw332_2)⟩ (fun hHeld=>?_);refine yP_ yf_.tab9 yf_.bits9 (fun HT_ HW_=>?_)
      generalize wr.drew=w11 at HO_3 HB hx331_0 hx331_1 hx331_2 hx332_0 hx332_1 hx332_2 hHeld ⊢
      refine pu_ 0 21 (bA 13 1) HT_ ?_
      refine pu_ 1 22 (bA 13 3) HT_ ?_
      refine pu_ 2 23 (bA 13 7) HT_ ?_
      refine pu_ 3 24 (bA 13 15) HT_ ?_
      refine pu_ 4 25 (bA 13 31) HT_ ?_
      refine pu_ 6 27 (bA 13 95) HT_ ?_
      refine pu_ 7 28 (bA 13 223) HT_ ?_
      refine pu_ 8 29 (bA 13 479) HT_ ?_
      refine tk_ 5 26 (bA 13 511) rfl HT_ HW_ hHeld (by rintro w' ⟨s0,s1,s2,s3,s4,s5⟩;go_simp;with_reducible rfl) ?_
      refine tk_ 9 30 (bA 13 1023) rfl HT_ HW_ hHeld (by rintro w' ⟨s0,s1,s2,s3,s4,s5⟩;go_simp;with_reducible rfl) ?_
      refine pu_ 10 31 (bA 13 2047) HT_ ?_
      refine pu_ 11 32 (bA 13 4095) HT_ ?_
      refine pu_ 12 5 (bA 13 8191) HT_ ?_
      refine done_ (ydb_ HT_.out (by kernel_rfl)) ?_
      try go_wp2
      go_roundg k2
      case measure=>have:=HK1.out;have:=HK2.out;omega
      case rel=>exact ⟨((((rd_T59 x3_1 x6_2).f0) == ((rd_T59 l0 x4_1).f0) && (((rd_T59 x3_1 x6_2).f1) == ((rd_T59 l0 x4_1).f1) && ((((rd_T59 x3_1 x6_2).f2).toList) == (((rd_T59 l0 x4_1).f2).toList))))),(wrap64 (x6_2+1)),(by first|rfl|(simp;done)|(simp [*];done)),(by first|rfl|(simp;done)|(simp [*];done)),H',⟨by have:=HK1.out;have:=HK2.out;omega⟩,⟨by (with_reducible repeat (first|apply Kd.yg_|apply Kd.yh_|apply Kd.R_drew));exact HO_3.out⟩,⟨by repeat (with_reducible first|exact HB.out|apply yc_|apply ya_|apply yb_)⟩⟩
     rw [if_neg c3] at H
     have c3b0:decide (x6_2 < (x3_1.length:Int))=false:=decide_eq_false c3
     clear c3
     by_cases c12:x5_2=true
     ·subst c12
      have H1:(yf_.l0 k2 l0 x3_1 (wrap64 (x4_1+1)))=some r:=by rw [if_pos rfl] at H;exact H
      clear H
      have H:=H1
      clear H1
      have H':=Aside0.mk H
      clear H
      obtain ⟨Ao13,co13,eo13⟩:=Kd.yC_ HO_3.out
      subst eo13
      go_wp2
      go_roundg k2
      case measure=>have:=HK1.out;have:=HK2.out;omega
      case rel=>exact ⟨(x3_1),(wrap64 (x4_1+1)),(by first|rfl|(simp;done)|(simp [*];done)),H',⟨by have:=HK1.out;have:=HK2.out;omega⟩,⟨by (with_reducible repeat (first|apply Kd.yg_|apply Kd.yh_|apply Kd.R_drew));exact HO_3.out⟩,⟨by repeat (with_reducible first|exact HB.out|apply yc_|apply ya_|apply yb_)⟩⟩
     replace c12:=Bool.eq_false_iff.mpr c12
     subst c12
     have H1:(if 0≤x4_1 then (if x4_1 < (l0.length:Int) then (if x3_1.length < 4398046511104 then ((some (x3_1++[(⟨(rd_T59 l0 x4_1).f0,(rd_T59 l0 x4_1).f1,(rd_T59 l0 x4_1).f2⟩:S59)]:List (S59))).bind fun y334=>(yf_.l2 k2 l0 y334 x4_1 (wrap64 ((y334.length:Int) - 1)))) else (none)) else (none)) else (none))=some r:=by rw [if_neg (show ¬ (false=true) by decide)] at H;exact H
     clear H
     have H:=H1
     clear H1
     by_cases c14:0≤x4_1
     rotate_left
     ·rw [if_neg c14] at H
      exact absurd H (by simp)
     rw [if_pos c14] at H
     have c14b0:decide (0≤x4_1)=true:=decide_eq_true c14
     clear c14
     by_cases c15:x4_1 < (l0.length:Int)
     rotate_left
     ·rw [if_neg c15] at H
      exact absurd H (by simp)
     rw [if_pos c15] at H
     have c15b0:decide (x4_1 < (l0.length:Int))=true:=decide_eq_true c15
     clear c15
     by_cases c16:x3_1.length < 4398046511104
     rotate_left
     ·rw [if_neg c16] at H
      exact absurd H (by simp)
     rw [if_pos c16] at H
     have LMc16:=Aside0.mk c16
     clear c16
     obtain ⟨y334,hy334⟩:∃ y_:List (S59),y_=(x3_1++[(⟨(rd_T59 l0 x4_1).f0,(rd_T59 l0 x4_1).f1,(rd_T59 l0 x4_1).f2⟩:S59)]):=⟨_,rfl⟩
     replace H:(yf_.l2 k2 l0 y334 x4_1 (wrap64 ((y334.length:Int) - 1)))=some r:=by first|(rw [hy334];with_reducible exact H)|(have H2_:=(Option.bind_some _ _).symm.trans H;rw [hy334];with_reducible exact H2_)|(have H2_:=(Option.bind_some _ _).symm.trans H;with_reducible exact H2_)|with_reducible exact H|(rw [hy334];exact H)|exact H
     have Ny334:=Aside0.mk hy334
     clear hy334
     have H':=Aside0.mk H
     clear H
     obtain ⟨Ao17,co17,eo17⟩:=Kd.yC_ HO_3.out
     subst eo17
     have p333:0≤(x4_1:Int):=of_decide_eq_true (by assumption)
     have q333:x4_1 < (l0.length:Int):=of_decide_eq_true (by assumption)
     obtain ⟨ad333,e333,hx333_0,hx333_1,hx333_2⟩:=at_T59 HR0.out x4_1 p333 q333
     cases e333
     replace hx333_0:=(HB.out.cell (World.block_lt_of_cell? w _ hx333_0)).trans hx333_0
     replace hx333_1:=(HB.out.cell (World.block_lt_of_cell? w _ hx333_1)).trans hx333_1
     replace hx333_2:=(HB.out.cell (World.block_lt_of_cell? w _ hx333_2)).trans hx333_2
     replace p333:=eq_true p333
     replace q333:=eq_true q333
     go_wp2_with (first|((with_reducible refine yF_ (b:=.append) (xs:=#[.tmp 34,.tmp 39]) rfl ?_);at_builtin;refine Kd.y7_ k59 (w0:=w) w.heap.size rfl (.tmp 34) (.tmp 39) 55 59 (.agg #[(.int .i64 0),(.int .i64 0),(.string ⟨#[]⟩)]) 32 rfl Try.underlying55 info59 rfl (by decide) (by omega) (.slice Ao17 x3_1.length co17) x3_1 (⟨(rd_T59 l0 x4_1).f0,(rd_T59 l0 x4_1).f1,(rd_T59 l0 x4_1).f2⟩:S59) [.int .i64 ((rd_T59 l0 x4_1).f0),.int .i64 ((rd_T59 l0 x4_1).f1),.string ((rd_T59 l0 x4_1).f2)] (fun _=>True) (fun _=>False) rfl rfl ?aP (fun _ hk=>hk.elim) ?aF ?aO ?aB ?aS ?aL ?_;(case aP=>exact yXb_ _ _ _ (⟨(rd_T59 l0 x4_1).f0,(rd_T59 l0 x4_1).f1,(rd_T59 l0 x4_1).f2⟩:S59));(case aB=>exact (by repeat (with_reducible first|exact HB.out|apply yc_|apply ya_|apply yb_)));(case aF=>exact (fun _ _=>trivial));(case aO=>exact (by (with_reducible repeat (first|apply Kd.yg_|apply Kd.yh_|apply Kd.R_drew));exact HO_3.out));(case aS=>exact (yn_ (by repeat (with_reducible first|exact HB.out|apply yc_|apply ya_|apply yb_))));(case aL=>have:=LMc16.out;omega);intro v335 w18 ho hb hg hat;rw [← Ny334.out] at ho;have n0_:=Aside0.mk (hb);have n1_:=Aside0.mk (ho);clear HB;clear HO_3;have HB:=n0_;have HO336:=n1_;clear n0_ n1_;clear ho hb hg hat;obtain ⟨Ao19,co19,eo19⟩:=Kd.yC_ HO336.out;subst eo19))
     try simp only [Act.put,List.setIfInBounds_toArray,List.set_cons_succ,List.set_cons_zero]
     go_loopg [7] k2 (fun kq v7 w'=>∃ (x3_3:List (S59)) (x7_3:Int),v7=.int .i64 x7_3∧Aside0 (yf_.l2 kq l0 x3_3 x4_1 x7_3=some r)∧Aside0 (kq≤k2)∧Aside0 (Kd.R k59 59 w' w.heap.size (fun _=>True) (.slice Ao19 y334.length co19) x3_3)∧Aside0 (Below w.heap.size w w'))
     case atStart=>exact ⟨(y334),(wrap64 ((y334.length:Int) - 1)),(by first|rfl|(simp;done)|(simp [*];done)),H',⟨Nat.le_refl _⟩,⟨by (with_reducible repeat (first|apply Kd.yg_|apply Kd.yh_|apply Kd.R_drew));exact HO336.out⟩,⟨by repeat (with_reducible first|exact HB.out|apply yc_|apply ya_|apply yb_)⟩⟩
     case round =>
      clear H'
      try clear c1
      try clear c2
      try clear c2b0
      try clear p2
      try clear c3
      try clear c3b0
      try clear p3
      try clear q3
      try clear hx3
      try clear c4
      try clear p6
      try clear c7
      try clear c7b0
      try clear c8
      try clear c8b0
      try clear c9
      try clear c9b0
      try clear c12
      try clear c14
      try clear c14b0
      try clear c15
      try clear c15b0
      try clear c16
      try clear hx331_0
      try clear hx331_1
      try clear hx331_2
      try clear hx332_0
      try clear hx332_1
      try clear hx332_2
      try clear hx333_0
      try clear hx333_1
      try clear hx333_2
      try clear p2
      try clear p331
      try clear p332
      try clear p333
      try clear q331
      try clear q332
      try clear q333
      obtain ⟨x3_3,x7_3,rfl,HA,HK3,HO_3,HB⟩:=hrel
      have hl3_3:=(Kd.ys_ HO_3.out).1
      rw [hl3_3] at HO_3
      (try simp only [hl3_3])
      cases gk with
      | zero=>exact absurd HA.out (by simp [yf_.l2])
      | succ k3 =>
       have H:=HA.out
       clear HA
       simp only [yf_.l2] at H
       by_cases c20:x7_3 > 0
       rotate_left
       ·rw [if_neg c20] at H
        have c20b0:decide (0 < x7_3)=false:=decide_eq_false c20
        clear c20
        have H':=Aside0.mk H
        clear H
        try go_wp2
        have n0_:=Aside0.mk (Kd.R_drew HO_3.out)
        have n1_:=Aside0.mk (yb_ HB.out)
        clear HO_3
        clear HB
        have HO_3:=n0_
        have HB:=n1_
        clear n0_ n1_
        refine start_ (n:=14) (S:=fun w'=>True) (ds:=[]) (bA 14 0) (by kernel_rfl) rfl rfl trivial (fun hHeld=>?_);refine yP_ yf_.tab13 yf_.bits13 (fun HT_ HW_=>?_)
        generalize wr.drew=w42 at HO_3 HB hHeld ⊢
        refine pu_ 0 44 (bA 14 1) HT_ ?_
        refine pu_ 1 45 (bA 14 3) HT_ ?_
        refine pu_ 2 46 (bA 14 7) HT_ ?_
        refine pz_ 3 47 (bA 14 15) HT_ ?_
        refine pz_ 4 48 (bA 14 31) HT_ ?_
        refine pz_ 5 49 (bA 14 63) HT_ ?_
        refine pz_ 6 50 (bA 14 127) HT_ ?_
        refine pz_ 7 51 (bA 14 255) HT_ ?_
        refine pz_ 8 52 (bA 14 511) HT_ ?_
        refine pz_ 9 53 (bA 14 1023) HT_ ?_
        refine pz_ 10 54 (bA 14 2047) HT_ ?_
        refine pz_ 11 55 (bA 14 4095) HT_ ?_
        refine pz_ 12 56 (bA 14 8191) HT_ ?_
        refine pu_ 13 57 (bA 14 16383) HT_ ?_
        refine done_ (ydb_ HT_.out (by kernel_rfl)) ?_
        try go_wp2
        (try simp only [← hl3_3])
        go_roundg k3
        case measure=>have:=HK1.out;have:=HK2.out;have:=HK3.out;omega
        case rel=>exact ⟨(x3_3),(wrap64 (x4_1+1)),(by first|rfl|(simp;done)|(simp [*];done)),H',⟨by have:=HK1.out;have:=HK2.out;have:=HK3.out;omega⟩,⟨by (try simp only [hl3_3]);(with_reducible repeat (first|apply Kd.yg_|apply Kd.yh_|apply Kd.R_drew));exact HO_3.out⟩,⟨by repeat (with_reducible first|exact HB.out|apply yc_|apply ya_|apply yb_)⟩⟩
       rw [if_pos c20] at H
       have c20b0:decide (0 < x7_3)=true:=decide_eq_true c20
       clear c20
       by_cases c21:0≤x7_3
       rotate_left
       ·rw [if_neg c21] at H
        exact absurd H (by simp)
       rw [if_pos c21] at H
       have c21b0:decide (0≤x7_3)=true:=decide_eq_true c21
       clear c21
       by_cases c22:x7_3 < (x3_3.length:Int)
       rotate_left
       ·rw [if_neg c22] at H
        exact absurd H (by simp)
       rw [if_pos c22] at H
       have c22b0:decide (x7_3 < (x3_3.length:Int))=true:=decide_eq_true c22
       clear c22
       obtain ⟨ji23,hji23⟩:∃ j_:Int,(wrap64 (x7_3 - 1))=j_:=⟨_,rfl⟩
       replace H:(if 0≤(ji23) then (if (ji23) < (x3_3.length:Int) then ((y9_.f ((rd_T59 x3_3 x7_3).f0) ((rd_T59 x3_3 x7_3).f1) ((rd_T59 x3_3 x7_3).f2) ((rd_T59 x3_3 (ji23)).f0) ((rd_T59 x3_3 (ji23)).f1) ((rd_T59 x3_3 (ji23)).f2)).bind fun t339=>(if t339=true then (yf_.l2 k3 l0 ((x3_3.set (x7_3:Int).toNat (⟨(rd_T59 x3_3 (ji23)).f0,(rd_T59 x3_3 (ji23)).f1,(rd_T59 x3_3 (ji23)).f2⟩:S59)).set ((ji23):Int).toNat (⟨(rd_T59 x3_3 x7_3).f0,(rd_T59 x3_3 x7_3).f1,(rd_T59 x3_3 x7_3).f2⟩:S59)) x4_1 ji23) else (yf_.l0 k3 l0 x3_3 (wrap64 (x4_1+1))))) else (none)) else (none))=some r:=by first|(rw [hji23] at H;exact H)|(simp only [hji23] at H ⊢;exact H)
       have hji23w:(IntKind.i64.wrap (x7_3 - 1))=ji23:=(i64_w _).trans hji23
       by_cases c24:0≤(ji23)
       rotate_left
       ·rw [if_neg c24] at H
        exact absurd H (by simp)
       rw [if_pos c24] at H
       have c24b0:decide (0≤(ji23))=true:=decide_eq_true c24
       clear c24
       by_cases c25:(ji23) < (x3_3.length:Int)
       rotate_left
       ·rw [if_neg c25] at H
        exact absurd H (by simp)
       rw [if_pos c25] at H
       have c25b0:decide ((ji23) < (x3_3.length:Int))=true:=decide_eq_true c25
       clear c25
       replace H:=Option.bind_eq_some_iff.mp H
       obtain ⟨t339,A260,H⟩:=H
       replace H:(if t339=true then (yf_.l2 k3 l0 ((x3_3.set (x7_3:Int).toNat (⟨(rd_T59 x3_3 (ji23)).f0,(rd_T59 x3_3 (ji23)).f1,(rd_T59 x3_3 (ji23)).f2⟩:S59)).set ((ji23):Int).toNat (⟨(rd_T59 x3_3 x7_3).f0,(rd_T59 x3_3 x7_3).f1,(rd_T59 x3_3 x7_3).f2⟩:S59)) x4_1 ji23) else (yf_.l0 k3 l0 x3_3 (wrap64 (x4_1+1))))=some r:=H
       have A26:=Aside0.mk A260
       clear A260
       by_cases c27:t339=true
       rotate_left
       ·replace c27:=Bool.eq_false_iff.mpr c27
        subst c27
        have H1:(yf_.l0 k3 l0 x3_3 (wrap64 (x4_1+1)))=some r:=by rw [if_neg (show ¬ (false=true) by decide)] at H;exact H
        clear H
        have H:=H1
        clear H1
        have H':=Aside0.mk H
        clear H
        try go_wp2
        have n0_:=Aside0.mk (Kd.R_drew HO_3.out)
        have n1_:=Aside0.mk (yb_ HB.out)
        clear HO_3
        clear HB
        have HO_3:=n0_
        have HB:=n1_
        clear n0_ n1_
        have p337:0≤(x7_3:Int):=of_decide_eq_true (by assumption)
        have q337:x7_3 < (x3_3.length:Int):=of_decide_eq_true (by assumption)
        obtain ⟨ad337,e337,hx337_0,hx337_1,hx337_2⟩:=at_T59 (Kd.ys_ HO_3.out).2.2 x7_3 p337 q337
        cases e337
        replace p337:=eq_true p337
        replace q337:=eq_true q337
        have p338:0≤((ji23):Int):=of_decide_eq_true (by assumption)
        have q338:(ji23) < (x3_3.length:Int):=of_decide_eq_true (by assumption)
        obtain ⟨ad338,e338,hx338_0,hx338_1,hx338_2⟩:=at_T59 (Kd.ys_ HO_3.out).2.2 (ji23) p338 q338
        obtain rfl:ad337=ad338:=(by injection e338)
        replace p338:=eq_true p338
        replace q338:=eq_true q338
        refine start_ (n:=14) (S:=fun w'=>w'.cell? (ad337.add ((x7_3).toNat * 3))=some (.int .i64 ((rd_T59 x3_3 x7_3).f0))∧w'.cell? ⟨(ad337.add ((x7_3).toNat * 3)).block,(ad337.add ((x7_3).toNat * 3)).off+1,none⟩=some (.int .i64 ((rd_T59 x3_3 x7_3).f1))∧w'.cell? ⟨(ad337.add ((x7_3).toNat * 3)).block,(ad337.add ((x7_3).toNat * 3)).off+2,none⟩=some (.string ((rd_T59 x3_3 x7_3).f2))∧w'.cell? (ad337.add (((ji23)).toNat * 3))=some (.int .i64 ((rd_T59 x3_3 (ji23)).f0))∧w'.cell? ⟨(ad337.add (((ji23)).toNat * 3)).block,(ad337.add (((ji23)).toNat * 3)).off+1,none⟩=some (.int .i64 ((rd_T59 x3_3 (ji23)).f1))∧w'.cell? ⟨(ad337.add (((ji23)).toNat * 3)).block,(ad337.add (((ji23)).toNat * 3)).off+2,none⟩=some (.string ((rd_T59 x3_3 (ji23)).f2))) (ds:=[]) (bA 14 0) (by kernel_rfl) rfl rfl ⟨hx337_0,hx337_1,hx337_2,hx338_0,hx338_1,hx338_2⟩ (fun hHeld=>?_);refine yP_ yf_.tab13 yf_.bits13 (fun HT_ HW_=>?_)
        generalize wr.drew=w40 at HO_3 HB hx337_0 hx337_1 hx337_2 hx338_0 hx338_1 hx338_2 hHeld ⊢
        refine pu_ 0 44 (bA 14 1) HT_ ?_
        refine pu_ 1 45 (bA 14 3) HT_ ?_
        refine pu_ 2 46 (bA 14 7) HT_ ?_
        refine pu_ 3 47 (bA 14 15) HT_ ?_
        refine pu_ 4 48 (bA 14 31) HT_ ?_
        refine pu_ 5 49 (bA 14 63) HT_ ?_
        refine pu_ 7 51 (bA 14 191) HT_ ?_
        refine pu_ 8 52 (bA 14 447) HT_ ?_
        refine pu_ 9 53 (bA 14 959) HT_ ?_
        refine pu_ 10 54 (bA 14 1983) HT_ ?_
        refine tk_ 6 50 (bA 14 2047) rfl HT_ HW_ hHeld (by rintro w' ⟨s0,s1,s2,s3,s4,s5⟩;go_simp;with_reducible rfl) ?_
        refine tk_ 11 55 (bA 14 4095) rfl HT_ HW_ hHeld (by rintro w' ⟨s0,s1,s2,s3,s4,s5⟩;go_simp;with_reducible rfl) ?_
        refine one_ (i:=12) (N:=some 56) (bA 14 8191) rfl rfl (one_of HT_.out (by kernel_rfl)) (by decide) (fun K hK=>?_)
        refine goes_ Try.func87 (by kernel_rfl) rfl #[.agg #[.int .i64 ((rd_T59 x3_3 x7_3).f0),.int .i64 ((rd_T59 x3_3 x7_3).f1),.string ((rd_T59 x3_3 x7_3).f2)],.agg #[.int .i64 ((rd_T59 x3_3 (ji23)).f0),.int .i64 ((rd_T59 x3_3 (ji23)).f1),.string ((rd_T59 x3_3 (ji23)).f2)]] (by rfl) rfl rfl (by (try simp only [List.map_toArray,List.map_cons,List.map_nil]);first|done|(simp only [hji23];rfl)|rfl|(simp only [List.length_drop,List.length_take];rfl)) ?_
        with_reducible refine (y9_.calls ((rd_T59 x3_3 x7_3).f0) ((rd_T59 x3_3 x7_3).f1) ((rd_T59 x3_3 x7_3).f2) ((rd_T59 x3_3 (ji23)).f0) ((rd_T59 x3_3 (ji23)).f1) ((rd_T59 x3_3 (ji23)).f2) false _ A26.out).mono ?_
        rintro e w41 ⟨rfl,hb⟩
        have HS0_:=(hb.cell (World.block_lt_of_cell? _ _ (hHeld.1))).trans (hHeld.1)
        have HS1_:=(hb.cell (World.block_lt_of_cell? _ _ (hHeld.2.1))).trans (hHeld.2.1)
        have HS2_:=(hb.cell (World.block_lt_of_cell? _ _ (hHeld.2.2.1))).trans (hHeld.2.2.1)
        have HS3_:=(hb.cell (World.block_lt_of_cell? _ _ (hHeld.2.2.2.1))).trans (hHeld.2.2.2.1)
        have HS4_:=(hb.cell (World.block_lt_of_cell? _ _ (hHeld.2.2.2.2.1))).trans (hHeld.2.2.2.2.1)
        have HS5_:=(hb.cell (World.block_lt_of_cell? _ _ (hHeld.2.2.2.2.2))).trans (hHeld.2.2.2.2.2)
        refine ⟨_,rfl,?_⟩
        have n0_:=Aside0.mk (Kd.yV_ (by (with_reducible repeat (first|apply Kd.yg_|apply Kd.yh_|apply Kd.R_drew));exact HO_3.out) hb)
        have n1_:=Aside0.mk (yp_ (by repeat (with_reducible first|exact HB.out|apply yc_|apply ya_|apply yb_)) hb)
        clear HO_3
        clear HB
        have HO_3:=n0_
        have HB:=n1_
        clear n0_ n1_
        (try clear hb)
        (try clear hb2)
        (try clear hk)
        (try clear hi)
        refine hK.out _ _ ⟨HS0_,HS1_,HS2_,HS3_,HS4_,HS5_⟩ (fun hHeld=>?_)
        clear hK K
        refine norm_ (a':=?_) ?_ ?_
        rotate_left
        ·show Act.put _ (some 56) _=_
         simp only [Act.put,q1_,q2_,q3_,i64_w,i32_w]
         rfl
        refine pu_ 13 57 (bA 14 16383) HT_ ?_
        refine done_ (ydb_ HT_.out (by kernel_rfl)) ?_
        try go_wp2
        (try simp only [← hl3_3])
        go_roundg k3
        case measure=>have:=HK1.out;have:=HK2.out;have:=HK3.out;omega
        case rel=>exact ⟨(x3_3),(wrap64 (x4_1+1)),(by first|rfl|(simp;done)|(simp [*];done)),H',⟨by have:=HK1.out;have:=HK2.out;have:=HK3.out;omega⟩,⟨by (try simp only [hl3_3]);(with_reducible repeat (first|apply Kd.yg_|apply Kd.yh_|apply Kd.R_drew));exact HO_3.out⟩,⟨by repeat (with_reducible first|exact HB.out|apply yc_|apply ya_|apply yb_)⟩⟩
       subst c27
       have H1:(yf_.l2 k3 l0 ((x3_3.set (x7_3:Int).toNat (⟨(rd_T59 x3_3 (ji23)).f0,(rd_T59 x3_3 (ji23)).f1,(rd_T59 x3_3 (ji23)).f2⟩:S59)).set ((ji23):Int).toNat (⟨(rd_T59 x3_3 x7_3).f0,(rd_T59 x3_3 x7_3).f1,(rd_T59 x3_3 x7_3).f2⟩:S59)) x4_1 ji23)=some r:=by rw [if_pos rfl] at H;exact H
       clear H
       have H:=H1
       clear H1
       obtain ⟨y343,hy343⟩:∃ y_:List (S59),y_=(x3_3.set (x7_3:Int).toNat (⟨(rd_T59 x3_3 (ji23)).f0,(rd_T59 x3_3 (ji23)).f1,(rd_T59 x3_3 (ji23)).f2⟩:S59)):=⟨_,rfl⟩
       replace H:(yf_.l2 k3 l0 (y343.set ((ji23):Int).toNat (⟨(rd_T59 x3_3 x7_3).f0,(rd_T59 x3_3 x7_3).f1,(rd_T59 x3_3 x7_3).f2⟩:S59)) x4_1 ji23)=some r:=by first|(rw [hy343];with_reducible exact H)|(have H2_:=(Option.bind_some _ _).symm.trans H;rw [hy343];with_reducible exact H2_)|(have H2_:=(Option.bind_some _ _).symm.trans H;with_reducible exact H2_)|with_reducible exact H|(rw [hy343];exact H)|exact H
       have Ny343:=Aside0.mk hy343
       clear hy343
       obtain ⟨y344,hy344⟩:∃ y_:List (S59),y_=(y343.set ((ji23):Int).toNat (⟨(rd_T59 x3_3 x7_3).f0,(rd_T59 x3_3 x7_3).f1,(rd_T59 x3_3 x7_3).f2⟩:S59)):=⟨_,rfl⟩
       replace H:(yf_.l2 k3 l0 y344 x4_1 ji23)=some r:=by first|(rw [hy344];with_reducible exact H)|(have H2_:=(Option.bind_some _ _).symm.trans H;rw [hy344];with_reducible exact H2_)|(have H2_:=(Option.bind_some _ _).symm.trans H;with_reducible exact H2_)|with_reducible exact H|(rw [hy344];exact H)|exact H
       have Ny344:=Aside0.mk hy344
       clear hy344
       have H':=Aside0.mk H
       clear H
       try go_wp2
       have n0_:=Aside0.mk (Kd.R_drew HO_3.out)
       have n1_:=Aside0.mk (yb_ HB.out)
       clear HO_3
       clear HB
       have HO_3:=n0_
       have HB:=n1_
       clear n0_ n1_
       have p337:0≤(x7_3:Int):=of_decide_eq_true (by assumption)
       have q337:x7_3 < (x3_3.length:Int):=of_decide_eq_true (by assumption)
       obtain ⟨ad337,e337,hx337_0,hx337_1,hx337_2⟩:=at_T59 (Kd.ys_ HO_3.out).2.2 x7_3 p337 q337
       cases e337
       replace p337:=eq_true p337
       replace q337:=eq_true q337
       have p338:0≤((ji23):Int):=of_decide_eq_true (by assumption)
       have q338:(ji23) < (x3_3.length:Int):=of_decide_eq_true (by assumption)
       obtain ⟨ad338,e338,hx338_0,hx338_1,hx338_2⟩:=at_T59 (Kd.ys_ HO_3.out).2.2 (ji23) p338 q338
       obtain rfl:ad337=ad338:=(by injection e338)
       replace p338:=eq_true p338
       replace q338:=eq_true q338
       refine start_ (n:=14) (S:=fun w'=>w'.cell? (ad337.add ((x7_3).toNat * 3))=some (.int .i64 ((rd_T59 x3_3 x7_3).f0))∧w'.cell? ⟨(ad337.add ((x7_3).toNat * 3)).block,(ad337.add ((x7_3).toNat * 3)).off+1,none⟩=some (.int .i64 ((rd_T59 x3_3 x7_3).f1))∧w'.cell? ⟨(ad337.add ((x7_3).toNat * 3)).block,(ad337.add ((x7_3).toNat * 3)).off+2,none⟩=some (.string ((rd_T59 x3_3 x7_3).f2))∧w'.cell? (ad337.add (((ji23)).toNat * 3))=some (.int .i64 ((rd_T59 x3_3 (ji23)).f0))∧w'.cell? ⟨(ad337.add (((ji23)).toNat * 3)).block,(ad337.add (((ji23)).toNat * 3)).off+1,none⟩=some (.int .i64 ((rd_T59 x3_3 (ji23)).f1))∧w'.cell? ⟨(ad337.add (((ji23)).toNat * 3)).block,(ad337.add (((ji23)).toNat * 3)).off+2,none⟩=some (.string ((rd_T59 x3_3 (ji23)).f2))) (ds:=[]) (bA 14 0) (by kernel_rfl) rfl rfl ⟨hx337_0,hx337_1,hx337_2,hx338_0,hx338_1,hx338_2⟩ (fun hHeld=>?_);refine yP_ yf_.tab13 yf_.bits13 (fun HT_ HW_=>?_)
       generalize wr.drew=w30 at HO_3 HB hx337_0 hx337_1 hx337_2 hx338_0 hx338_1 hx338_2 hHeld ⊢
       refine pu_ 0 44 (bA 14 1) HT_ ?_
       refine pu_ 1 45 (bA 14 3) HT_ ?_
       refine pu_ 2 46 (bA 14 7) HT_ ?_
       refine pu_ 3 47 (bA 14 15) HT_ ?_
       refine pu_ 4 48 (bA 14 31) HT_ ?_
       refine pu_ 5 49 (bA 14 63) HT_ ?_
       refine pu_ 7 51 (bA 14 191) HT_ ?_
       refine pu_ 8 52 (bA 14 447) HT_ ?_
       refine pu_ 9 53 (bA 14 959) HT_ ?_
       refine pu_ 10 54 (bA 14 1983) HT_ ?_
       refine tk_ 6 50 (bA 14 2047) rfl HT_ HW_ hHeld (by rintro w' ⟨s0,s1,s2,s3,s4,s5⟩;go_simp;with_reducible rfl) ?_
       refine tk_ 11 55 (bA 14 4095) rfl HT_ HW_ hHeld (by rintro w' ⟨s0,s1,s2,s3,s4,s5⟩;go_simp;with_reducible rfl) ?_
       refine one_ (i:=12) (N:=some 56) (bA 14 8191) rfl rfl (one_of HT_.out (by kernel_rfl)) (by decide) (fun K hK=>?_)
       refine goes_ Try.func87 (by kernel_rfl) rfl #[.agg #[.int .i64 ((rd_T59 x3_3 x7_3).f0),.int .i64 ((rd_T59 x3_3 x7_3).f1),.string ((rd_T59 x3_3 x7_3).f2)],.agg #[.int .i64 ((rd_T59 x3_3 (ji23)).f0),.int .i64 ((rd_T59 x3_3 (ji23)).f1),.string ((rd_T59 x3_3 (ji23)).f2)]] (by rfl) rfl rfl (by (try simp only [List.map_toArray,List.map_cons,List.map_nil]);first|done|(simp only [hji23];rfl)|rfl|(simp only [List.length_drop,List.length_take];rfl)) ?_
       with_reducible refine (y9_.calls ((rd_T59 x3_3 x7_3).f0) ((rd_T59 x3_3 x7_3).f1) ((rd_T59 x3_3 x7_3).f2) ((rd_T59 x3_3 (ji23)).f0) ((rd_T59 x3_3 (ji23)).f1) ((rd_T59 x3_3 (ji23)).f2) true _ A26.out).mono ?_
       rintro e w31 ⟨rfl,hb⟩
       have HS0_:=(hb.cell (World.block_lt_of_cell? _ _ (hHeld.1))).trans (hHeld.1)
       have HS1_:=(hb.cell (World.block_lt_of_cell? _ _ (hHeld.2.1))).trans (hHeld.2.1)
       have HS2_:=(hb.cell (World.block_lt_of_cell? _ _ (hHeld.2.2.1))).trans (hHeld.2.2.1)
       have HS3_:=(hb.cell (World.block_lt_of_cell? _ _ (hHeld.2.2.2.1))).trans (hHeld.2.2.2.1)
       have HS4_:=(hb.cell (World.block_lt_of_cell? _ _ (hHeld.2.2.2.2.1))).trans (hHeld.2.2.2.2.1)
       have HS5_:=(hb.cell (World.block_lt_of_cell? _ _ (hHeld.2.2.2.2.2))).trans (hHeld.2.2.2.2.2)
       refine ⟨_,rfl,?_⟩
       have n0_:=Aside0.mk (Kd.yV_ (by (with_reducible repeat (first|apply Kd.yg_|apply Kd.yh_|apply Kd.R_drew));exact HO_3.out) hb)
       have n1_:=Aside0.mk (yp_ (by repeat (with_reducible first|exact HB.out|apply yc_|apply ya_|apply yb_)) hb)
       clear HO_3
       clear HB
       have HO_3:=n0_
       have HB:=n1_
       clear n0_ n1_
       (try clear hb)
       (try clear hb2)
       (try clear hk)
       (try clear hi)
       refine hK.out _ _ ⟨HS0_,HS1_,HS2_,HS3_,HS4_,HS5_⟩ (fun hHeld=>?_)
       clear hK K
       refine norm_ (a':=?_) ?_ ?_
       rotate_left
       ·show Act.put _ (some 56) _=_
        simp only [Act.put,q1_,q2_,q3_,i64_w,i32_w]
        rfl
       refine pu_ 13 57 (bA 14 16383) HT_ ?_
       refine done_ (ydb_ HT_.out (by kernel_rfl)) ?_
       have p340:0≤(x7_3:Int):=of_decide_eq_true (by assumption)
       have q340:x7_3 < (x3_3.length:Int):=of_decide_eq_true (by assumption)
       obtain ⟨ad340,e340,hx340_0,hx340_1,hx340_2⟩:=at_T59 (Kd.ys_ HO_3.out).2.2 x7_3 p340 q340
       obtain rfl:ad337=ad340:=(by injection e340)
       replace p340:=eq_true p340
       replace q340:=eq_true q340
       try go_wp2_with (first|((with_reducible refine yL_ (N:=8) rfl ?_);refine y0_ ?hg (N:=8) ?hd (cs:=#[.int .i64 0,.int .i64 0,.string (⟨#[]⟩:ByteArray)]) (t:=59) ?hr ?_;(case hd=>rfl);(case hg=>rfl);(case hr=>first|(go_simp;done)|(go_simp;rfl));intro gb341 hg w32 hbox hb;have n0_:=Aside0.mk (Kd.yV_ (Kd.y9b_ (by (with_reducible repeat (first|apply Kd.yg_|apply Kd.yh_|apply Kd.R_drew));exact HO_3.out) gb341 (Nat.le_of_eq hg.symm)) hb);have n1_:=Aside0.mk (yp_ (by repeat (with_reducible first|exact HB.out|apply yc_|apply ya_|apply yb_)) hb);have n2_:=Aside0.mk (hbox);have n3_:=Aside0.mk ((by rw [hg];exact (yn_ (by repeat (with_reducible first|exact HB.out|apply yc_|apply ya_|apply yb_))):w.heap.size≤gb341));have n4_:=Aside0.mk ((by rw [hg];exact (yn_ (by repeat (with_reducible first|exact HB.out|apply yc_|apply ya_|apply yb_))):w.heap.size≤gb341));clear HO_3;clear HB;have HO_3:=n0_;have HB:=n1_;have BK341:=n2_;have GW341:=n3_;have GE341:=n4_;clear n0_ n1_ n2_ n3_ n4_;clear hb hbox hg;have hcz33_0:w32.cell? ⟨gb341,0,none⟩=some (.int .i64 0):=(yk_ BK341.out 0).trans rfl;have hcz33_1:w32.cell? ⟨gb341,1,none⟩=some (.int .i64 0):=(yk_ BK341.out 1).trans rfl;have hcz33_2:w32.cell? ⟨gb341,2,none⟩=some (.string (⟨#[]⟩:ByteArray)):=(yk_ BK341.out 2).trans rfl;have hfz33_0:=ym_ BK341.out 0;have hfz33_1:=ym_ BK341.out 1;have hfz33_2:=ym_ BK341.out 2)|((with_reducible refine yM_ (t:=59) (p:=8) rfl ?_);refine yH_ (t:=59) (p:=8) (v:=?vo_w34) (w1:=(((w32.setCell ⟨gb341,0,none⟩ (.int .i64 ((rd_T59 x3_3 x7_3).f0))).setCell ⟨gb341,1,none⟩ (.int .i64 ((rd_T59 x3_3 x7_3).f1))).setCell ⟨gb341,2,none⟩ (.string ((rd_T59 x3_3 x7_3).f2)))) ?hg ?ho ?hn ?hr ?_;(case ho=>rfl);(case hg=>rfl);(case hn=>rfl);(case hr=>first|(go_simp;done)|(go_simp;rfl));intro w34 hw;have n0_:Aside0 (Kd.R k59 59 w34 w.heap.size (fun k_=>k_ ≠ gb341) (.slice (some ad337) x3_3.length co19) x3_3):=⟨(by rw [hw];exact (by (with_reducible repeat (first|apply Kd.yg_|apply Kd.yh_|apply Kd.R_drew));exact Kd.R_mono (Kd.R_far (p:=⟨gb341,2,none⟩) (Kd.R_far (p:=⟨gb341,1,none⟩) (Kd.R_far (p:=⟨gb341,0,none⟩) (Kd.R_mono HO_3.out (fun k_ hk=>(⟨hk,hk.2⟩:_∧k_ ≠ gb341))) (fun _ hk=>hk.2) (.int .i64 ((rd_T59 x3_3 x7_3).f0))) (fun _ hk=>hk.2) (.int .i64 ((rd_T59 x3_3 x7_3).f1))) (fun _ hk=>hk.2) (.string ((rd_T59 x3_3 x7_3).f2))) (fun _ hk=>hk.1.2)))⟩;have n1_:Aside0 (w34.heap[gb341]?=some (.cells #[.int .i64 ((rd_T59 x3_3 x7_3).f0),.int .i64 ((rd_T59 x3_3 x7_3).f1),.string ((rd_T59 x3_3 x7_3).f2)] 59 (0,0))):=⟨(by rw [hw];exact (by (with_reducible repeat (first|refine yx_ ?_ _|refine yA_ ?_|refine yw_ ?_ _));refine yqb_ (cs:=#[.int .i64 ((rd_T59 x3_3 x7_3).f0),.int .i64 ((rd_T59 x3_3 x7_3).f1),.string (⟨#[]⟩:ByteArray)]) ?_ 2 _ rfl;(with_reducible repeat (first|refine yx_ ?_ _|refine yA_ ?_|refine yw_ ?_ _));refine yqb_ (cs:=#[.int .i64 ((rd_T59 x3_3 x7_3).f0),.int .i64 0,.string (⟨#[]⟩:ByteArray)]) ?_ 1 _ rfl;(with_reducible repeat (first|refine yx_ ?_ _|refine yA_ ?_|refine yw_ ?_ _));refine yqb_ (cs:=#[.int .i64 0,.int .i64 0,.string (⟨#[]⟩:ByteArray)]) ?_ 0 _ rfl;(with_reducible repeat (first|refine yx_ ?_ _|refine yA_ ?_|refine yw_ ?_ _));exact BK341.out))⟩;have n2_:Aside0 (Below w.heap.size w w34):=⟨(by rw [hw];exact (by repeat (with_reducible first|exact HB.out|apply yc_|apply ya_|apply yb_|refine yo_ ?_ GE341.out)))⟩;clear hw;clear HO_3;clear BK341;clear HB;have HO_3:=n0_;have BK341:=n1_;have HB:=n2_;clear n0_ n1_ n2_;have p342:0≤((ji23):Int):=of_decide_eq_true (by assumption);have q342:(ji23) < (x3_3.length:Int):=of_decide_eq_true (by assumption);obtain ⟨ad342,e342,hx342_0,hx342_1,hx342_2⟩:=at_T59 (Kd.ys_ HO_3.out).2.2 (ji23) p342 q342;obtain rfl:ad337=ad342:=(by injection e342);replace p342:=eq_true p342;replace q342:=eq_true q342;have p28:0≤(x7_3:Int):=of_decide_eq_true (by assumption);have q28:(x7_3:Int) < ((x3_3.length:Int):Int):=of_decide_eq_true (by assumption);obtain ⟨go28,co28,eo28,gb28,gl28,cl28,HG28⟩:=Kd.R_form HO_3.out (by omega);(first|cases eo28|(injection eo28 with ea_ en_ ec_;(first|subst ea_|(injection ea_ with ea_;subst ea_));subst ec_;clear en_));have GB28:=Aside0.mk gb28;have GG28:=Aside0.mk HG28;clear gb28 gl28 HG28;(first|simp only [add_plain] at hx337_0|skip);(first|simp only [add_plain] at hx337_1|skip);(first|simp only [add_plain] at hx337_2|skip);(first|simp only [add_plain] at hx338_0|skip);(first|simp only [add_plain] at hx338_1|skip);(first|simp only [add_plain] at hx338_2|skip);(first|simp only [add_plain] at hx340_0|skip);(first|simp only [add_plain] at hx340_1|skip);(first|simp only [add_plain] at hx340_2|skip);(first|simp only [add_plain] at hx342_0|skip);(first|simp only [add_plain] at hx342_1|skip);(first|simp only [add_plain] at hx342_2|skip);obtain ⟨ce28,hcl28,hM28,hcc28,hfr28⟩:=Kd.R_elem HO_3.out z59 (x7_3:Int) p28 q28;obtain rfl:=yzb_ hM28;have hx28_0:w34.cell? ⟨go28,(x7_3:Int).toNat * 3,none⟩=some (.int .i64 ((rd_T59 x3_3 x7_3).f0)):=hcc28 0 _ rfl;have hx28_1:w34.cell? ⟨go28,(x7_3:Int).toNat * 3+1,none⟩=some (.int .i64 ((rd_T59 x3_3 x7_3).f1)):=hcc28 1 _ rfl;have hx28_2:w34.cell? ⟨go28,(x7_3:Int).toNat * 3+2,none⟩=some (.string ((rd_T59 x3_3 x7_3).f2)):=hcc28 2 _ rfl;have hf28_0:w34.frozen? ⟨go28,(x7_3:Int).toNat * 3,none⟩=false:=hfr28 0;have hf28_1:w34.frozen? ⟨go28,(x7_3:Int).toNat * 3+1,none⟩=false:=hfr28 1;have hf28_2:w34.frozen? ⟨go28,(x7_3:Int).toNat * 3+2,none⟩=false:=hfr28 2;clear hcl28 hcc28 hfr28 hM28;replace p28:=eq_true p28;replace q28:=eq_true q28;have HX35:=Aside0.mk (show Kd.R k59 59 w34 w.heap.size (fun k_=>k_ ≠ gb341) (.slice (some ⟨go28,0,none⟩) x3_3.length co19) x3_3 from (by (with_reducible repeat (first|apply Kd.yg_|apply Kd.yh_|apply Kd.R_drew));exact HO_3.out));obtain ⟨ce35,hcl35,hM35,hcc35,hfr35⟩:=Kd.R_elem HX35.out z59 (x7_3:Int) (of_decide_eq_true (by assumption)) (by have h_:(x7_3:Int) < ((x3_3.length:Int):Int):=of_decide_eq_true (by assumption);first|exact h_|(have e_:=(Kd.ys_ HO_3.out).1;omega)|simpa using h_);obtain rfl:=yzb_ hM35;have HP35:=Kd.R_seg HX35.out (x7_3:Int) (of_decide_eq_true (by assumption)) (by have h_:(x7_3:Int) < ((x3_3.length:Int):Int):=of_decide_eq_true (by assumption);first|exact h_|(have e_:=(Kd.ys_ HO_3.out).1;omega)|simpa using h_) (seg:=[.int .i64 ((rd_T59 x3_3 (ji23)).f0),.int .i64 ((rd_T59 x3_3 (ji23)).f1),.string ((rd_T59 x3_3 (ji23)).f2)]) (j:=0) hcl35 hcc35 (show 3≤3 from by decide) (x':=(⟨(rd_T59 x3_3 (ji23)).f0,(rd_T59 x3_3 (ji23)).f1,(rd_T59 x3_3 (ji23)).f2⟩:S59)) (yXb_ _ _ _ (⟨(rd_T59 x3_3 (ji23)).f0,(rd_T59 x3_3 (ji23)).f1,(rd_T59 x3_3 (ji23)).f2⟩:S59) ) (fun _ hk=>hk);have hx35_0:=hcc35 0 _ rfl;(try simp only [show (k59).sz=3 from rfl,Nat.mul_one,Nat.add_zero] at hx35_0);have hf35_0:=hfr35 0;(try simp only [show (k59).sz=3 from rfl,Nat.mul_one,Nat.add_zero] at hf35_0);have hx35_1:=hcc35 1 _ rfl;(try simp only [show (k59).sz=3 from rfl,Nat.mul_one,Nat.add_zero] at hx35_1);have hf35_1:=hfr35 1;(try simp only [show (k59).sz=3 from rfl,Nat.mul_one,Nat.add_zero] at hf35_1);have hx35_2:=hcc35 2 _ rfl;(try simp only [show (k59).sz=3 from rfl,Nat.mul_one,Nat.add_zero] at hx35_2);have hf35_2:=hfr35 2;(try simp only [show (k59).sz=3 from rfl,Nat.mul_one,Nat.add_zero] at hf35_2);clear hcl35 hcc35 hfr35 hM35)|((with_reducible refine yM_ (t:=59) (p:=71) rfl ?_);refine yH_ (t:=59) (p:=71) (v:=?vo_w36) (w1:=(((w34.setCell ⟨go28,(x7_3:Int).toNat * 3,none⟩ (.int .i64 ((rd_T59 x3_3 (ji23)).f0))).setCell ⟨go28,(x7_3:Int).toNat * 3+1,none⟩ (.int .i64 ((rd_T59 x3_3 (ji23)).f1))).setCell ⟨go28,(x7_3:Int).toNat * 3+2,none⟩ (.string ((rd_T59 x3_3 (ji23)).f2)))) ?hg ?ho ?hn ?hr ?_;(case ho=>rfl);(case hg=>rfl);(case hn=>rfl);(case hr=>first|(go_simp;done)|(go_simp;rfl));intro w36 hw;have hg:w34.grownBy w36 (some go28):=(by rw [hw];exact HP35.2);have hp_:Kd.R k59 59 w36 w.heap.size (fun k_=>k_ ≠ gb341) (.slice (some ⟨go28,0,none⟩) x3_3.length co19) y343:=(by rw [hw,Ny343.out];exact HP35.1);clear HP35;have n0_:=Aside0.mk (hp_);have n1_:=Aside0.mk (y1b_ (g:=gb341) (o:=.cells #[.int .i64 ((rd_T59 x3_3 x7_3).f0),.int .i64 ((rd_T59 x3_3 x7_3).f1),.string ((rd_T59 x3_3 x7_3).f2)] 59 (0,0)) (by (with_reducible repeat (first|refine yx_ ?_ _|refine yA_ ?_|refine yw_ ?_ _));exact BK341.out) hg (Kd.R_away HO_3.out (fun _ hk=>hk)));have n2_:=Aside0.mk ((by rw [hw];exact yo_ (yo_ (yo_ (HB.out) GB28.out) GB28.out) GB28.out:Below w.heap.size w w36));clear HO_3;clear BK341;clear HB;have HO_3:=n0_;have BK341:=n1_;have HB:=n2_;clear n0_ n1_ n2_;clear hg hw hp_;have hcz37_0:w36.cell? ⟨gb341,0,none⟩=some (.int .i64 ((rd_T59 x3_3 x7_3).f0)):=(yk_ BK341.out 0).trans rfl;have hcz37_1:w36.cell? ⟨gb341,1,none⟩=some (.int .i64 ((rd_T59 x3_3 x7_3).f1)):=(yk_ BK341.out 1).trans rfl;have hcz37_2:w36.cell? ⟨gb341,2,none⟩=some (.string ((rd_T59 x3_3 x7_3).f2)):=(yk_ BK341.out 2).trans rfl;have hfz37_0:=ym_ BK341.out 0;have hfz37_1:=ym_ BK341.out 1;have hfz37_2:=ym_ BK341.out 2;have p29:0≤((ji23):Int):=of_decide_eq_true (by assumption);have q29:((ji23):Int) < ((x3_3.length:Int):Int):=of_decide_eq_true (by assumption);obtain ⟨ce29,hcl29,hM29,hcc29,hfr29⟩:=Kd.R_elem HO_3.out z59 ((ji23):Int) p29 q29;obtain rfl:=yzb_ hM29;have hx29_0:w36.cell? ⟨go28,((ji23):Int).toNat * 3,none⟩=some (.int .i64 ((rd_T59 y343 (ji23)).f0)):=hcc29 0 _ rfl;have hx29_1:w36.cell? ⟨go28,((ji23):Int).toNat * 3+1,none⟩=some (.int .i64 ((rd_T59 y343 (ji23)).f1)):=hcc29 1 _ rfl;have hx29_2:w36.cell? ⟨go28,((ji23):Int).toNat * 3+2,none⟩=some (.string ((rd_T59 y343 (ji23)).f2)):=hcc29 2 _ rfl;have hf29_0:w36.frozen? ⟨go28,((ji23):Int).toNat * 3,none⟩=false:=hfr29 0;have hf29_1:w36.frozen? ⟨go28,((ji23):Int).toNat * 3+1,none⟩=false:=hfr29 1;have hf29_2:w36.frozen? ⟨go28,((ji23):Int).toNat * 3+2,none⟩=false:=hfr29 2;clear hcl29 hcc29 hfr29 hM29;replace p29:=eq_true p29;replace q29:=eq_true q29;have HX38:=Aside0.mk (show Kd.R k59 59 w36 w.heap.size (fun k_=>k_ ≠ gb341) (.slice (some ⟨go28,0,none⟩) x3_3.length co19) y343 from (by (with_reducible repeat (first|apply Kd.yg_|apply Kd.yh_|apply Kd.R_drew));exact HO_3.out));obtain ⟨ce38,hcl38,hM38,hcc38,hfr38⟩:=Kd.R_elem HX38.out z59 ((ji23):Int) (of_decide_eq_true (by assumption)) (by have h_:((ji23):Int) < ((x3_3.length:Int):Int):=of_decide_eq_true (by assumption);first|exact h_|(have e_:=(Kd.ys_ HO_3.out).1;omega)|simpa using h_);obtain rfl:=yzb_ hM38;have HP38:=Kd.R_seg HX38.out ((ji23):Int) (of_decide_eq_true (by assumption)) (by have h_:((ji23):Int) < ((x3_3.length:Int):Int):=of_decide_eq_true (by assumption);first|exact h_|(have e_:=(Kd.ys_ HO_3.out).1;omega)|simpa using h_) (seg:=[.int .i64 ((rd_T59 x3_3 x7_3).f0),.int .i64 ((rd_T59 x3_3 x7_3).f1),.string ((rd_T59 x3_3 x7_3).f2)]) (j:=0) hcl38 hcc38 (show 3≤3 from by decide) (x':=(⟨(rd_T59 x3_3 x7_3).f0,(rd_T59 x3_3 x7_3).f1,(rd_T59 x3_3 x7_3).f2⟩:S59)) (yXb_ _ _ _ (⟨(rd_T59 x3_3 x7_3).f0,(rd_T59 x3_3 x7_3).f1,(rd_T59 x3_3 x7_3).f2⟩:S59) ) (fun _ hk=>hk);have hx38_0:=hcc38 0 _ rfl;(try simp only [show (k59).sz=3 from rfl,Nat.mul_one,Nat.add_zero] at hx38_0);have hf38_0:=hfr38 0;(try simp only [show (k59).sz=3 from rfl,Nat.mul_one,Nat.add_zero] at hf38_0);have hx38_1:=hcc38 1 _ rfl;(try simp only [show (k59).sz=3 from rfl,Nat.mul_one,Nat.add_zero] at hx38_1);have hf38_1:=hfr38 1;(try simp only [show (k59).sz=3 from rfl,Nat.mul_one,Nat.add_zero] at hf38_1);have hx38_2:=hcc38 2 _ rfl;(try simp only [show (k59).sz=3 from rfl,Nat.mul_one,Nat.add_zero] at hx38_2);have hf38_2:=hfr38 2;(try simp only [show (k59).sz=3 from rfl,Nat.mul_one,Nat.add_zero] at hf38_2);clear hcl38 hcc38 hfr38 hM38)|((with_reducible refine yM_ (t:=59) (p:=76) rfl ?_);refine yH_ (t:=59) (p:=76) (v:=?vo_w39) (w1:=(((w36.setCell ⟨go28,((ji23):Int).toNat * 3,none⟩ (.int .i64 ((rd_T59 x3_3 x7_3).f0))).setCell ⟨go28,((ji23):Int).toNat * 3+1,none⟩ (.int .i64 ((rd_T59 x3_3 x7_3).f1))).setCell ⟨go28,((ji23):Int).toNat * 3+2,none⟩ (.string ((rd_T59 x3_3 x7_3).f2)))) ?hg ?ho ?hn ?hr ?_;(case ho=>rfl);(case hg=>rfl);(case hn=>rfl);(case hr=>first|(go_simp;done)|(go_simp;rfl));intro w39 hw;have hg:w36.grownBy w39 (some go28):=(by rw [hw];exact HP38.2);have hp_:Kd.R k59 59 w39 w.heap.size (fun k_=>k_ ≠ gb341) (.slice (some ⟨go28,0,none⟩) x3_3.length co19) y344:=(by rw [hw,Ny344.out];exact HP38.1);clear HP38;have n0_:=Aside0.mk (hp_);have n1_:=Aside0.mk (y1b_ (g:=gb341) (o:=.cells #[.int .i64 ((rd_T59 x3_3 x7_3).f0),.int .i64 ((rd_T59 x3_3 x7_3).f1),.string ((rd_T59 x3_3 x7_3).f2)] 59 (0,0)) (by (with_reducible repeat (first|refine yx_ ?_ _|refine yA_ ?_|refine yw_ ?_ _));exact BK341.out) hg (Kd.R_away HO_3.out (fun _ hk=>hk)));have n2_:=Aside0.mk ((by rw [hw];exact yo_ (yo_ (yo_ (HB.out) GB28.out) GB28.out) GB28.out:Below w.heap.size w w39));clear HO_3;clear BK341;clear HB;have HO_3:=n0_;have BK341:=n1_;have HB:=n2_;clear n0_ n1_ n2_;clear hg hw hp_))
       (try simp only [← hl3_3])
       go_roundg k3
       case measure=>have:=HK1.out;have:=HK2.out;have:=HK3.out;omega
       case rel=>exact ⟨(y344),(ji23),(by first|rfl|(simp;done)|(simp only [← hji23] <;> (first|rfl|simp))|(simp [*];done)),H',⟨by have:=HK1.out;have:=HK2.out;have:=HK3.out;omega⟩,⟨by (try simp only [hl3_3]);(with_reducible repeat (first|apply Kd.yg_|apply Kd.yh_|apply Kd.R_drew));exact Kd.R_mono HO_3.out (fun _ hk=>trivial)⟩,⟨by repeat (with_reducible first|exact HB.out|apply yc_|apply ya_|apply yb_|refine yo_ ?_ GE341.out)⟩⟩

end Go.Proofs.Ythimblhfjfngiaa.PText

