/- PastRebases holds: for all steps, every number and all results the statement answers true. Part 9 of 24. -/
import Derived.Test.YthimblhfjfngiaaGreatBRebasesH
import Derived.Lib.Strings
import Derived.Lib.Walk
namespace Go.Proofs.YthimblhfjfngiaaGreat.PText
open Go.RowKit Go.Proofs.YthimblhfjfngiaaGreatW.PrintWords Go.Proofs.YthimblhfjfngiaaGreatW.PrintLast Go.Proofs.YthimblhfjfngiaaGreatW.PrintMore
attribute [local go_sem] yT_ yU_ y5_ y6_ yI_ yJ_ yV_ yW_   -- for this text's walks alone
set_option linter.unusedVariables false
set_option linter.unusedSimpArgs false

attribute [local go_sem high] eqA91
mutual
def yf_.l0:Nat→List (S91)→List (S91)→Int→Option ((List (S91)))
 | 0,_,_,_=>none
 | k+1,x0,x3,x4=>if x4 < (x0.length:Int) then (yf_.l1 k x0 x3 x4 false 0) else (some x3)
def yf_.l1:Nat→List (S91)→List (S91)→Int→Bool→Int→Option ((List (S91)))
 | 0,_,_,_,_,_=>none
 | k+1,x0,x3,x4,x5,x6=>if x6 < (x3.length:Int) then (if x5=true then (yf_.l1 k x0 x3 x4 true (wrap64 (x6+1))) else (if 0≤x6 then (if 0≤x4 then (if x4 < (x0.length:Int) then (yf_.l1 k x0 x3 x4 (((rd_T91 x3 x6).f0) == ((rd_T91 x0 x4).f0) && (((rd_T91 x3 x6).f1) == ((rd_T91 x0 x4).f1) && ((((rd_T91 x3 x6).f2).toList) == (((rd_T91 x0 x4).f2).toList)))) (wrap64 (x6+1))) else (none)) else (none)) else (none))) else (if x5=true then (yf_.l0 k x0 x3 (wrap64 (x4+1))) else (if 0≤x4 then (if x4 < (x0.length:Int) then (if x3.length < 4398046511104 then ((some (x3++[(⟨(rd_T91 x0 x4).f0,(rd_T91 x0 x4).f1,(rd_T91 x0 x4).f2⟩:S91)]:List (S91))).bind fun y405=>(yf_.l2 k x0 y405 x4 (wrap64 ((y405.length:Int) - 1)))) else (none)) else (none)) else (none)))
def yf_.l2:Nat→List (S91)→List (S91)→Int→Int→Option ((List (S91)))
 | 0,_,_,_,_=>none
 | k+1,x0,x3,x4,x7=>if x7 > 0 then (if 0≤x7 then (if x7 < (x3.length:Int) then (if 0≤(wrap64 (x7 - 1)) then (if (wrap64 (x7 - 1)) < (x3.length:Int) then ((y1_.f ((rd_T91 x3 x7).f0) ((rd_T91 x3 x7).f1) ((rd_T91 x3 x7).f2) ((rd_T91 x3 (wrap64 (x7 - 1))).f0) ((rd_T91 x3 (wrap64 (x7 - 1))).f1) ((rd_T91 x3 (wrap64 (x7 - 1))).f2)).bind fun t410=>(if t410=true then (yf_.l2 k x0 ((x3.set (x7:Int).toNat (⟨(rd_T91 x3 (wrap64 (x7 - 1))).f0,(rd_T91 x3 (wrap64 (x7 - 1))).f1,(rd_T91 x3 (wrap64 (x7 - 1))).f2⟩:S91)).set ((wrap64 (x7 - 1)):Int).toNat (⟨(rd_T91 x3 x7).f0,(rd_T91 x3 x7).f1,(rd_T91 x3 x7).f2⟩:S91)) x4 (wrap64 (x7 - 1))) else (yf_.l0 k x0 x3 (wrap64 (x4+1))))) else (none)) else (none)) else (none)) else (none)) else (yf_.l0 k x0 x3 (wrap64 (x4+1)))
end
def yf_.f (k:Nat) (l0:List (S91)):Option ((List (S91))):=yf_.l0 k l0 ([]:List (S91)) 0
def yf_.T9:Bool × List (List Nat × List Nat):=(true,[([],[]),([0],[0]),([1],[1]),([1],[1]),([2,3,1],[1,2,3]),([4,1],[1,4]),([1],[1]),([1],[1]),([6,7,1],[1,6,7]),([8,1],[1,8]),([5,9,1],[1,5,9]),([1,10],[1,10]),([11,1,0,1,2,3,4,5,6,7,8,9,10,11],[0,11])])
def yf_.B9:List Nat:=[0,1,3,3,15,31,3,3,195,451,1023,2047,4095]
theorem yf_.tab9:rtab .any (opsOf Tryz.f112 9)=yf_.T9:=by kernel_rfl
theorem yf_.bits9:waitsOk yf_.T9.2 yf_.B9=true:=by kernel_rfl
def yf_.T13:Bool × List (List Nat × List Nat):=(true,[([],[]),([0],[0]),([1],[1]),([2],[2]),([2],[2]),([3,4,2],[2,3,4]),([5,2],[2,5]),([2],[2]),([2],[2]),([8,2],[2,8]),([7,9,2],[2,7,9]),([10,2],[2,10]),([6,11,2,2],[2,6,11]),([2,12],[2,12])])
def yf_.B13:List Nat:=[0,1,3,7,7,31,63,7,7,263,903,1927,4095,8191]
theorem yf_.tab13:rtab .any (opsOf Tryz.f112 13)=yf_.T13:=by kernel_rfl
theorem yf_.bits13:waitsOk yf_.T13.2 yf_.B13=true:=by kernel_rfl
set_option maxHeartbeats 8000000 in
set_option maxRecDepth 100000 in
theorem yf_.calls (k:Nat) (A0:Option Addr) (c0:Nat) (l0:List (S91)) (r:List (S91)) (w:World) (hr0:Kd.C k91 w A0 l0.length l0) (hc0:l0.length≤c0) (h:yf_.f k l0=some r) :
  Calls Tryz.prog 112 #[.slice A0 l0.length c0] w fun e w'=>∃ v0_:Value,e=.returned (v0_)∧Kd.R k91 91 w' w.heap.size (fun _=>True) v0_ r∧Below w.heap.size w w':=by
 have hu91:=Tryz.underlying91
 have HR0:=Aside0.mk hr0
 have HC0:=Aside0.mk hc0
 clear hr0 hc0
 have HB:=Aside0.mk (Below.refl w.heap.size w)
 have H:(yf_.l0 k l0 ([]:List (S91)) 0)=some r:=h
 clear h
 have H':=Aside0.mk H
 clear H
 go_enter Tryz.func112,Tryz.ntmps112
 go_wp2
 try simp only[Act.put,List.setIfInBounds_toArray,List.set_cons_succ,List.set_cons_zero]
 go_loopg [3,4] k (fun kq v3 v4 w'=>∃ (x3_1:List (S91)) (x4_1:Int),v4=.int .i64 x4_1∧Aside0 (yf_.l0 kq l0 x3_1 x4_1=some r)∧Aside0 (kq≤k)∧Aside0 (Kd.R k91 91 w' w.heap.size (fun _=>True) v3 x3_1)∧Aside0 (Below w.heap.size w w'))
 case atStart=>exact⟨(([]:List (S91))),(0),zc_,H',⟨Nat.le_refl _⟩,⟨by first|exact Kd.R_nil _ _ _ _ _|exact Kd.N_nil _ _ _ _ _|exact Kd.V_nil _ _ _ _ _|exact Kd.Q_nil _ _ _ _ _|exact Kd.S_nil _ _ _ _ _⟩,⟨by repeat (with_reducible first|exact HB.out|apply yc_|apply ya_|apply yb_)⟩⟩
 case round =>
  clear H'
  try clear c1
  obtain⟨x3_1,x4_1,rfl,HA,HK1,HO_3,HB⟩:=hrel
  cases gk with
  | zero=>exact absurd HA.out (by simp [yf_.l0])
  | succ k1 =>
   have H:=HA.out
   clear HA
   simp only[yf_.l0] at H
   by_cases c2:x4_1 < (l0.length:Int)
   rotate_left
   ·rw[if_neg c2] at H
    have c2b0:decide (x4_1 < (l0.length:Int))=false:=decide_eq_false c2
    clear c2
    obtain rfl:=Option.some.inj H
    go_wp2
    go_ret
    exact⟨_,by first|rfl|(simp [yr_,ys_] <;> rfl)|(simp [*,yr_,ys_] <;> rfl),by (with_reducible repeat (first|apply Kd.yj_|apply Kd.yk_|apply Kd.R_drew));exact HO_3.out,by repeat (with_reducible first|exact HB.out|apply yc_|apply ya_|apply yb_)⟩
   rw[if_pos c2] at H
   have c2b0:decide (x4_1 < (l0.length:Int))=true:=decide_eq_true c2
   clear c2
   have H':=Aside0.mk H
   clear H
   go_wp2
   try simp only[Act.put,List.setIfInBounds_toArray,List.set_cons_succ,List.set_cons_zero]
   go_loopg [5,6] k1 (fun kq v5 v6 w'=>∃ (x5_2:Bool) (x6_2:Int),v5=.bool x5_2∧v6=.int .i64 x6_2∧Aside0 (yf_.l1 kq l0 x3_1 x4_1 x5_2 x6_2=some r)∧Aside0 (kq≤k1)∧Aside0 (Kd.R k91 91 w' w.heap.size (fun _=>True) u3 x3_1)∧Aside0 (Below w.heap.size w w'))
   case atStart=>exact⟨(false),(0),zc_,zc_,H',⟨Nat.le_refl _⟩,⟨by (with_reducible repeat (first|apply Kd.yj_|apply Kd.yk_|apply Kd.R_drew));exact HO_3.out⟩,⟨by repeat (with_reducible first|exact HB.out|apply yc_|apply ya_|apply yb_)⟩⟩
   case round =>
    clear H'
    try clear c1
    try clear c2
    try clear c2b0
    try clear p2
    obtain⟨x5_2,x6_2,rfl,rfl,HA,HK2,HO_3,HB⟩:=hrel
    cases gk with
    | zero=>exact absurd HA.out (by simp [yf_.l1])
    | succ k2 =>
     have H:=HA.out
     clear HA
     simp only[yf_.l1] at H
     by_cases c3:x6_2 < (x3_1.length:Int)
     ·rw[if_pos c3] at H
      have c3b0:decide (x6_2 < (x3_1.length:Int))=true:=decide_eq_true c3
      clear c3
      by_cases c4:x5_2=true
      ·subst c4
       have H1:(yf_.l1 k2 l0 x3_1 x4_1 true (wrap64 (x6_2+1)))=some r:=by rw[if_pos rfl] at H;exact H
       clear H
       have H:=H1
       clear H1
       have H':=Aside0.mk H
       clear H
       obtain⟨Ao5,co5,eo5⟩:=Kd.yE_ HO_3.out
       subst eo5
       try go_wp2
       have n0_:=Aside0.mk (Kd.R_drew HO_3.out)
       have n1_:=Aside0.mk (yb_ HB.out)
       clear HO_3
       clear HB
       have HO_3:=n0_
       have HB:=n1_
       clear n0_ n1_
       refine start_ (n:=13) (S:=fun w'=>True) (ds:=[]) (bA 13 0) ze_ rfl rfl trivial (fun hHeld=>?_);refine yQ_ yf_.tab9 yf_.bits9 (fun HT_ HW_=>?_)
       generalize wr.drew=w6 at HO_3 HB hHeld ⊢
       refine pu_ 0 21 (bA 13 1) HT_ ?_
       refine pu_ 1 22 (bA 13 3) HT_ ?_
       refine pz_ 2 23 (bA 13 7) HT_ ?_
       refine pz_ 3 24 (bA 13 15) HT_ ?_
       refine pz_ 4 25 (bA 13 31) HT_ ?_
       refine pz_ 5 26 (bA 13 63) HT_ ?_
       refine pz_ 6 27 (bA 13 127) HT_ ?_
       refine pz_ 7 28 (bA 13 255) HT_ ?_
       refine pz_ 8 29 (bA 13 511) HT_ ?_
       refine pz_ 9 30 (bA 13 1023) HT_ ?_
       refine pz_ 10 31 (bA 13 2047) HT_ ?_
       refine pu_ 11 32 (bA 13 4095) HT_ ?_
       refine pu_ 12 5 (bA 13 8191) HT_ ?_
       refine done_ (ycb_ HT_.out ze_) ?_
       try go_wp2
       go_roundg k2
       case measure=>have:=HK1.out;have:=HK2.out;omega
       case rel=>exact⟨(true),(wrap64 (x6_2+1)),zc_,zc_,H',⟨by have:=HK1.out;have:=HK2.out;omega⟩,⟨by (with_reducible repeat (first|apply Kd.yj_|apply Kd.yk_|apply Kd.R_drew));exact HO_3.out⟩,⟨by repeat (with_reducible first|exact HB.out|apply yc_|apply ya_|apply yb_)⟩⟩
      replace c4:=Bool.eq_false_iff.mpr c4
      subst c4
      have H1:(if 0≤x6_2 then (if 0≤x4_1 then (if x4_1 < (l0.length:Int) then (yf_.l1 k2 l0 x3_1 x4_1 (((rd_T91 x3_1 x6_2).f0) == ((rd_T91 l0 x4_1).f0) && (((rd_T91 x3_1 x6_2).f1) == ((rd_T91 l0 x4_1).f1) && ((((rd_T91 x3_1 x6_2).f2).toList) == (((rd_T91 l0 x4_1).f2).toList)))) (wrap64 (x6_2+1))) else (none)) else (none)) else (none))=some r:=by rw[if_neg (show ¬ (false=true) by decide)] at H;exact H
      clear H
      have H:=H1
      clear H1
      by_cases c7:0≤x6_2
      rotate_left
      ·rw[if_neg c7] at H
       exact absurd H (by simp)
      rw[if_pos c7] at H
      have c7b0:decide (0≤x6_2)=true:=decide_eq_true c7
      clear c7
      by_cases c8:0≤x4_1
      rotate_left
      ·rw[if_neg c8] at H
       exact absurd H (by simp)
      rw[if_pos c8] at H
      have c8b0:decide (0≤x4_1)=true:=decide_eq_true c8
      clear c8
      by_cases c9:x4_1 < (l0.length:Int)
      rotate_left
      ·rw[if_neg c9] at H
       exact absurd H (by simp)
      rw[if_pos c9] at H
      have c9b0:decide (x4_1 < (l0.length:Int))=true:=decide_eq_true c9
      clear c9
      have H':=Aside0.mk H
      clear H
      obtain⟨Ao10,co10,eo10⟩:=Kd.yE_ HO_3.out
      subst eo10
      try go_wp2
      have n0_:=Aside0.mk (Kd.R_drew HO_3.out)
      have n1_:=Aside0.mk (yb_ HB.out)
      clear HO_3
      clear HB
      have HO_3:=n0_
      have HB:=n1_
      clear n0_ n1_
      have p402:0≤(x6_2:Int):=of_decide_eq_true zd_
      have q402:x6_2 < (x3_1.length:Int):=of_decide_eq_true zd_
      obtain⟨ad402,e402,hx402_0,hx402_1,hx402_2⟩:=at_T91 (Kd.yt_ HO_3.out).2.2 x6_2 p402 q402
      cases e402
      replace p402:=eq_true p402
      replace q402:=eq_true q402
      have p403:0≤(x4_1:Int):=of_decide_eq_true zd_
      have q403:x4_1 < (l0.length:Int):=of_decide_eq_true zd_
      obtain⟨ad403,e403,hx403_0,hx403_1,hx403_2⟩:=at_T91 HR0.out x4_1 p403 q403
      have hw403_2:=hx403_2
      have hw403_1:=hx403_1
      have hw403_0:=hx403_0
      cases e403
      replace hx403_0:=(HB.out.cell (World.block_lt_of_cell? w _ hx403_0)).trans hx403_0
      replace hx403_1:=(HB.out.cell (World.block_lt_of_cell? w _ hx403_1)).trans hx403_1
      replace hx403_2:=(HB.out.cell (World.block_lt_of_cell? w _ hx403_2)).trans hx403_2
      replace p403:=eq_true p403
      replace q403:=eq_true q403
      refine start_ (n:=13) (S:=fun w'=>w'.cell? (ad402.add ((x6_2).toNat * 3))=some (.int .i64 ((rd_T91 x3_1 x6_2).f0))∧w'.cell? ⟨(ad402.add ((x6_2).toNat * 3)).block,(ad402.add ((x6_2).toNat * 3)).off+1,none⟩=some (.int .i64 ((rd_T91 x3_1 x6_2).f1))∧w'.cell? ⟨(ad402.add ((x6_2).toNat * 3)).block,(ad402.add ((x6_2).toNat * 3)).off+2,none⟩=some (.string ((rd_T91 x3_1 x6_2).f2))∧w'.cell? (ad403.add ((x4_1).toNat * 3))=some (.int .i64 ((rd_T91 l0 x4_1).f0))∧w'.cell? ⟨(ad403.add ((x4_1).toNat * 3)).block,(ad403.add ((x4_1).toNat * 3)).off+1,none⟩=some (.int .i64 ((rd_T91 l0 x4_1).f1))∧w'.cell? ⟨(ad403.add ((x4_1).toNat * 3)).block,(ad403.add ((x4_1).toNat * 3)).off+2,none⟩=some (.string ((rd_T91 l0 x4_1).f2))) (ds:=[]) (bA 13 0) ze_ rfl rfl ⟨hx402_0,hx402_1,hx402_2,((HB.out.cell (World.block_lt_of_cell? w _ hw403_0)).trans hw403_0),((HB.out.cell (World.block_lt_of_cell? w _ hw403_1)).trans hw403_1),((HB.out.cell (World.block_lt_of_cell? w _ hw403_2)).trans hw403_2)⟩ (fun hHeld=>?_);refine yQ_ yf_.tab9 yf_.bits9 (fun HT_ HW_=>?_)
      generalize wr.drew=w11 at HO_3 HB hx402_0 hx402_1 hx402_2 hx403_0 hx403_1 hx403_2 hHeld ⊢
      refine pu_ 0 21 (bA 13 1) HT_ ?_
      refine pu_ 1 22 (bA 13 3) HT_ ?_
      refine pu_ 2 23 (bA 13 7) HT_ ?_
      refine pu_ 3 24 (bA 13 15) HT_ ?_
      refine pu_ 4 25 (bA 13 31) HT_ ?_
      refine pu_ 6 27 (bA 13 95) HT_ ?_
      refine pu_ 7 28 (bA 13 223) HT_ ?_
      refine pu_ 8 29 (bA 13 479) HT_ ?_
      refine tk_ 5 26 (bA 13 511) rfl HT_ HW_ hHeld (by rintro w' ⟨s0,s1,s2,s3,s4,s5⟩;go_simp;with_reducible rfl) ?_
      refine tk_ 9 30 (bA 13 1023) rfl HT_ HW_ hHeld (by rintro w' ⟨s0,s1,s2,s3,s4,s5⟩;go_simp;with_reducible rfl) ?_
      refine pu_ 10 31 (bA 13 2047) HT_ ?_
      refine pu_ 11 32 (bA 13 4095) HT_ ?_
      refine pu_ 12 5 (bA 13 8191) HT_ ?_
      refine done_ (ycb_ HT_.out ze_) ?_
      try go_wp2
      go_roundg k2
      case measure=>have:=HK1.out;have:=HK2.out;omega
      case rel=>exact⟨((((rd_T91 x3_1 x6_2).f0) == ((rd_T91 l0 x4_1).f0) && (((rd_T91 x3_1 x6_2).f1) == ((rd_T91 l0 x4_1).f1) && ((((rd_T91 x3_1 x6_2).f2).toList) == (((rd_T91 l0 x4_1).f2).toList))))),(wrap64 (x6_2+1)),zc_,zc_,H',⟨by have:=HK1.out;have:=HK2.out;omega⟩,⟨by (with_reducible repeat (first|apply Kd.yj_|apply Kd.yk_|apply Kd.R_drew));exact HO_3.out⟩,⟨by repeat (with_reducible first|exact HB.out|apply yc_|apply ya_|apply yb_)⟩⟩
     rw[if_neg c3] at H
     have c3b0:decide (x6_2 < (x3_1.length:Int))=false:=decide_eq_false c3
     clear c3
     by_cases c12:x5_2=true
     ·subst c12
      have H1:(yf_.l0 k2 l0 x3_1 (wrap64 (x4_1+1)))=some r:=by rw[if_pos rfl] at H;exact H
      clear H
      have H:=H1
      clear H1
      have H':=Aside0.mk H
      clear H
      obtain⟨Ao13,co13,eo13⟩:=Kd.yE_ HO_3.out
      subst eo13
      go_wp2
      go_roundg k2
      case measure=>have:=HK1.out;have:=HK2.out;omega
      case rel=>exact⟨(x3_1),(wrap64 (x4_1+1)),zc_,H',⟨by have:=HK1.out;have:=HK2.out;omega⟩,⟨by (with_reducible repeat (first|apply Kd.yj_|apply Kd.yk_|apply Kd.R_drew));exact HO_3.out⟩,⟨by repeat (with_reducible first|exact HB.out|apply yc_|apply ya_|apply yb_)⟩⟩
     replace c12:=Bool.eq_false_iff.mpr c12
     subst c12
     have H1:(if 0≤x4_1 then (if x4_1 < (l0.length:Int) then (if x3_1.length < 4398046511104 then ((some (x3_1++[(⟨(rd_T91 l0 x4_1).f0,(rd_T91 l0 x4_1).f1,(rd_T91 l0 x4_1).f2⟩:S91)]:List (S91))).bind fun y405=>(yf_.l2 k2 l0 y405 x4_1 (wrap64 ((y405.length:Int) - 1)))) else (none)) else (none)) else (none))=some r:=by rw[if_neg (show ¬ (false=true) by decide)] at H;exact H
     clear H
     have H:=H1
     clear H1
     by_cases c14:0≤x4_1
     rotate_left
     ·rw[if_neg c14] at H
      exact absurd H (by simp)
     rw[if_pos c14] at H
     have c14b0:decide (0≤x4_1)=true:=decide_eq_true c14
     clear c14
     by_cases c15:x4_1 < (l0.length:Int)
     rotate_left
     ·rw[if_neg c15] at H
      exact absurd H (by simp)
     rw[if_pos c15] at H
     have c15b0:decide (x4_1 < (l0.length:Int))=true:=decide_eq_true c15
     clear c15
     by_cases c16:x3_1.length < 4398046511104
     rotate_left
     ·rw[if_neg c16] at H
      exact absurd H (by simp)
     rw[if_pos c16] at H
     have LMc16:=Aside0.mk c16
     clear c16
     obtain⟨y405,hy405⟩:∃ y_:List (S91),y_=(x3_1++[(⟨(rd_T91 l0 x4_1).f0,(rd_T91 l0 x4_1).f1,(rd_T91 l0 x4_1).f2⟩:S91)]):=⟨_,rfl⟩
     replace H:(yf_.l2 k2 l0 y405 x4_1 (wrap64 ((y405.length:Int) - 1)))=some r:=by first|(rw[hy405];with_reducible exact H)|(have H2_:=(Option.bind_some _ _).symm.trans H;rw[hy405];with_reducible exact H2_)|(have H2_:=(Option.bind_some _ _).symm.trans H;with_reducible exact H2_)|with_reducible exact H|(rw[hy405];exact H)|exact H
     have Ny405:=Aside0.mk hy405
     clear hy405
     have H':=Aside0.mk H
     clear H
     obtain⟨Ao17,co17,eo17⟩:=Kd.yE_ HO_3.out
     subst eo17
     have p404:0≤(x4_1:Int):=of_decide_eq_true zd_
     have q404:x4_1 < (l0.length:Int):=of_decide_eq_true zd_
     obtain⟨ad404,e404,hx404_0,hx404_1,hx404_2⟩:=at_T91 HR0.out x4_1 p404 q404
     cases e404
     replace hx404_0:=(HB.out.cell (World.block_lt_of_cell? w _ hx404_0)).trans hx404_0
     replace hx404_1:=(HB.out.cell (World.block_lt_of_cell? w _ hx404_1)).trans hx404_1
     replace hx404_2:=(HB.out.cell (World.block_lt_of_cell? w _ hx404_2)).trans hx404_2
     replace p404:=eq_true p404
     replace q404:=eq_true q404
     go_wp2_with (first|((with_reducible refine yL_ (b:=.append) (xs:=#[.tmp 34,.tmp 39]) rfl ?_);at_builtin;refine Kd.ydb_ k91 (w0:=w) w.heap.size rfl (.tmp 34) (.tmp 39) 68 91 (.agg #[(.int .i64 0),(.int .i64 0),(.string ⟨#[]⟩)]) 32 rfl Tryz.underlying68 info91 rfl (by decide) (by omega) (.slice Ao17 x3_1.length co17) x3_1 (⟨(rd_T91 l0 x4_1).f0,(rd_T91 l0 x4_1).f1,(rd_T91 l0 x4_1).f2⟩:S91) [.int .i64 ((rd_T91 l0 x4_1).f0),.int .i64 ((rd_T91 l0 x4_1).f1),.string ((rd_T91 l0 x4_1).f2)] (fun _=>True) (fun _=>False) rfl rfl ?aP (fun _ hk=>hk.elim) ?aF ?aO ?aB ?aS ?aL ?_;(case aP=>exact yQb_ _ _ _ (⟨(rd_T91 l0 x4_1).f0,(rd_T91 l0 x4_1).f1,(rd_T91 l0 x4_1).f2⟩:S91));(case aB=>exact za_);(case aF=>exact (fun _ _=>trivial));(case aO=>exact zl_);(case aS=>exact (yp_ za_));(case aL=>have:=LMc16.out;omega);intro v406 w18 ho hb hg hat;rw[← Ny405.out] at ho;have n0_:=Aside0.mk (hb);have n1_:=Aside0.mk (ho);clear HB;clear HO_3;have HB:=n0_;have HO407:=n1_;clear n0_ n1_;clear ho hb hg hat;obtain⟨Ao19,co19,eo19⟩:=Kd.yE_ HO407.out;subst eo19))
     try simp only[Act.put,List.setIfInBounds_toArray,List.set_cons_succ,List.set_cons_zero]
     go_loopg [7] k2 (fun kq v7 w'=>∃ (x3_3:List (S91)) (x7_3:Int),v7=.int .i64 x7_3∧Aside0 (yf_.l2 kq l0 x3_3 x4_1 x7_3=some r)∧Aside0 (kq≤k2)∧Aside0 (Kd.R k91 91 w' w.heap.size (fun _=>True) (.slice Ao19 y405.length co19) x3_3)∧Aside0 (Below w.heap.size w w'))
     case atStart=>exact⟨(y405),(wrap64 ((y405.length:Int) - 1)),zc_,H',⟨Nat.le_refl _⟩,⟨by (with_reducible repeat (first|apply Kd.yj_|apply Kd.yk_|apply Kd.R_drew));exact HO407.out⟩,⟨by repeat (with_reducible first|exact HB.out|apply yc_|apply ya_|apply yb_)⟩⟩
     case round =>
      clear H'
      try clear c1
      try clear c2
      try clear c2b0
      try clear p2
      try clear c3
      try clear c3b0
      try clear c4
      try clear p4
      try clear q4
      try clear hx4
      try clear p6
      try clear c7
      try clear c7b0
      try clear c8
      try clear c8b0
      try clear c9
      try clear c9b0
      try clear c11
      try clear c12
      try clear c14
      try clear c14b0
      try clear c15
      try clear c15b0
      try clear c16
      try clear hx402_0
      try clear hx402_1
      try clear hx402_2
      try clear hx403_0
      try clear hx403_1
      try clear hx403_2
      try clear hx404_0
      try clear hx404_1
      try clear hx404_2
      try clear p2
      try clear p402
      try clear p403
      try clear p404
      try clear q402
      try clear q403
      try clear q404
      obtain⟨x3_3,x7_3,rfl,HA,HK3,HO_3,HB⟩:=hrel
      have hl3_3:=(Kd.yt_ HO_3.out).1
      rw[hl3_3] at HO_3
      (try simp only[hl3_3])
      cases gk with
      | zero=>exact absurd HA.out (by simp [yf_.l2])
      | succ k3 =>
       have H:=HA.out
       clear HA
       simp only[yf_.l2] at H
       by_cases c20:x7_3 > 0
       rotate_left
       ·rw[if_neg c20] at H
        have c20b0:decide (0 < x7_3)=false:=decide_eq_false c20
        clear c20
        have H':=Aside0.mk H
        clear H
        try go_wp2
        have n0_:=Aside0.mk (Kd.R_drew HO_3.out)
        have n1_:=Aside0.mk (yb_ HB.out)
        clear HO_3
        clear HB
        have HO_3:=n0_
        have HB:=n1_
        clear n0_ n1_
        refine start_ (n:=14) (S:=fun w'=>True) (ds:=[]) (bA 14 0) ze_ rfl rfl trivial (fun hHeld=>?_);refine yQ_ yf_.tab13 yf_.bits13 (fun HT_ HW_=>?_)
        generalize wr.drew=w42 at HO_3 HB hHeld ⊢
        refine pu_ 0 44 (bA 14 1) HT_ ?_
        refine pu_ 1 45 (bA 14 3) HT_ ?_
        refine pu_ 2 46 (bA 14 7) HT_ ?_
        refine pz_ 3 47 (bA 14 15) HT_ ?_
        refine pz_ 4 48 (bA 14 31) HT_ ?_
        refine pz_ 5 49 (bA 14 63) HT_ ?_
        refine pz_ 6 50 (bA 14 127) HT_ ?_
        refine pz_ 7 51 (bA 14 255) HT_ ?_
        refine pz_ 8 52 (bA 14 511) HT_ ?_
        refine pz_ 9 53 (bA 14 1023) HT_ ?_
        refine pz_ 10 54 (bA 14 2047) HT_ ?_
        refine pz_ 11 55 (bA 14 4095) HT_ ?_
        refine pz_ 12 56 (bA 14 8191) HT_ ?_
        refine pu_ 13 57 (bA 14 16383) HT_ ?_
        refine done_ (ycb_ HT_.out ze_) ?_
        try go_wp2
        (try simp only[← hl3_3])
        go_roundg k3
        case measure=>have:=HK1.out;have:=HK2.out;have:=HK3.out;omega
        case rel=>exact⟨(x3_3),(wrap64 (x4_1+1)),zc_,H',⟨by have:=HK1.out;have:=HK2.out;have:=HK3.out;omega⟩,⟨by (try simp only[hl3_3]);(with_reducible repeat (first|apply Kd.yj_|apply Kd.yk_|apply Kd.R_drew));exact HO_3.out⟩,⟨by repeat (with_reducible first|exact HB.out|apply yc_|apply ya_|apply yb_)⟩⟩
       rw[if_pos c20] at H
       have c20b0:decide (0 < x7_3)=true:=decide_eq_true c20
       clear c20
       by_cases c21:0≤x7_3
       rotate_left
       ·rw[if_neg c21] at H
        exact absurd H (by simp)
       rw[if_pos c21] at H
       have c21b0:decide (0≤x7_3)=true:=decide_eq_true c21
       clear c21
       by_cases c22:x7_3 < (x3_3.length:Int)
       rotate_left
       ·rw[if_neg c22] at H
        exact absurd H (by simp)
       rw[if_pos c22] at H
       have c22b0:decide (x7_3 < (x3_3.length:Int))=true:=decide_eq_true c22
       clear c22
       obtain⟨ji23,hji23⟩:∃ j_:Int,(wrap64 (x7_3 - 1))=j_:=⟨_,rfl⟩
       replace H:(if 0≤(ji23) then (if (ji23) < (x3_3.length:Int) then ((y1_.f ((rd_T91 x3_3 x7_3).f0) ((rd_T91 x3_3 x7_3).f1) ((rd_T91 x3_3 x7_3).f2) ((rd_T91 x3_3 (ji23)).f0) ((rd_T91 x3_3 (ji23)).f1) ((rd_T91 x3_3 (ji23)).f2)).bind fun t410=>(if t410=true then (yf_.l2 k3 l0 ((x3_3.set (x7_3:Int).toNat (⟨(rd_T91 x3_3 (ji23)).f0,(rd_T91 x3_3 (ji23)).f1,(rd_T91 x3_3 (ji23)).f2⟩:S91)).set ((ji23):Int).toNat (⟨(rd_T91 x3_3 x7_3).f0,(rd_T91 x3_3 x7_3).f1,(rd_T91 x3_3 x7_3).f2⟩:S91)) x4_1 ji23) else (yf_.l0 k3 l0 x3_3 (wrap64 (x4_1+1))))) else (none)) else (none))=some r:=by first|(rw[hji23] at H;exact H)|(simp only[hji23] at H ⊢;exact H)
       have hji23w:(IntKind.i64.wrap (x7_3 - 1))=ji23:=(i64_w _).trans hji23
       by_cases c24:0≤(ji23)
       rotate_left
       ·rw[if_neg c24] at H
        exact absurd H (by simp)
       rw[if_pos c24] at H
       have c24b0:decide (0≤(ji23))=true:=decide_eq_true c24
       clear c24
       by_cases c25:(ji23) < (x3_3.length:Int)
       rotate_left
       ·rw[if_neg c25] at H
        exact absurd H (by simp)
       rw[if_pos c25] at H
       have c25b0:decide ((ji23) < (x3_3.length:Int))=true:=decide_eq_true c25
       clear c25
       replace H:=Option.bind_eq_some_iff.mp H
       obtain⟨t410,A260,H⟩:=H
       replace H:(if t410=true then (yf_.l2 k3 l0 ((x3_3.set (x7_3:Int).toNat (⟨(rd_T91 x3_3 (ji23)).f0,(rd_T91 x3_3 (ji23)).f1,(rd_T91 x3_3 (ji23)).f2⟩:S91)).set ((ji23):Int).toNat (⟨(rd_T91 x3_3 x7_3).f0,(rd_T91 x3_3 x7_3).f1,(rd_T91 x3_3 x7_3).f2⟩:S91)) x4_1 ji23) else (yf_.l0 k3 l0 x3_3 (wrap64 (x4_1+1))))=some r:=H
       have A26:=Aside0.mk A260
       clear A260
       by_cases c27:t410=true
       rotate_left
       ·replace c27:=Bool.eq_false_iff.mpr c27
        subst c27
        have H1:(yf_.l0 k3 l0 x3_3 (wrap64 (x4_1+1)))=some r:=by rw[if_neg (show ¬ (false=true) by decide)] at H;exact H
        clear H
        have H:=H1
        clear H1
        have H':=Aside0.mk H
        clear H
        try go_wp2
        have n0_:=Aside0.mk (Kd.R_drew HO_3.out)
        have n1_:=Aside0.mk (yb_ HB.out)
        clear HO_3
        clear HB
        have HO_3:=n0_
        have HB:=n1_
        clear n0_ n1_
        have p408:0≤(x7_3:Int):=of_decide_eq_true zd_
        have q408:x7_3 < (x3_3.length:Int):=of_decide_eq_true zd_
        obtain⟨ad408,e408,hx408_0,hx408_1,hx408_2⟩:=at_T91 (Kd.yt_ HO_3.out).2.2 x7_3 p408 q408
        cases e408
        replace p408:=eq_true p408
        replace q408:=eq_true q408
        have p409:0≤((ji23):Int):=of_decide_eq_true zd_
        have q409:(ji23) < (x3_3.length:Int):=of_decide_eq_true zd_
        obtain⟨ad409,e409,hx409_0,hx409_1,hx409_2⟩:=at_T91 (Kd.yt_ HO_3.out).2.2 (ji23) p409 q409
        obtain rfl:ad408=ad409:=(by injection e409)
        replace p409:=eq_true p409
        replace q409:=eq_true q409
        refine start_ (n:=14) (S:=fun w'=>w'.cell? (ad408.add ((x7_3).toNat * 3))=some (.int .i64 ((rd_T91 x3_3 x7_3).f0))∧w'.cell? ⟨(ad408.add ((x7_3).toNat * 3)).block,(ad408.add ((x7_3).toNat * 3)).off+1,none⟩=some (.int .i64 ((rd_T91 x3_3 x7_3).f1))∧w'.cell? ⟨(ad408.add ((x7_3).toNat * 3)).block,(ad408.add ((x7_3).toNat * 3)).off+2,none⟩=some (.string ((rd_T91 x3_3 x7_3).f2))∧w'.cell? (ad408.add (((ji23)).toNat * 3))=some (.int .i64 ((rd_T91 x3_3 (ji23)).f0))∧w'.cell? ⟨(ad408.add (((ji23)).toNat * 3)).block,(ad408.add (((ji23)).toNat * 3)).off+1,none⟩=some (.int .i64 ((rd_T91 x3_3 (ji23)).f1))∧w'.cell? ⟨(ad408.add (((ji23)).toNat * 3)).block,(ad408.add (((ji23)).toNat * 3)).off+2,none⟩=some (.string ((rd_T91 x3_3 (ji23)).f2))) (ds:=[]) (bA 14 0) ze_ rfl rfl ⟨hx408_0,hx408_1,hx408_2,hx409_0,hx409_1,hx409_2⟩ (fun hHeld=>?_);refine yQ_ yf_.tab13 yf_.bits13 (fun HT_ HW_=>?_)
        generalize wr.drew=w40 at HO_3 HB hx408_0 hx408_1 hx408_2 hx409_0 hx409_1 hx409_2 hHeld ⊢
        refine pu_ 0 44 (bA 14 1) HT_ ?_
        refine pu_ 1 45 (bA 14 3) HT_ ?_
        refine pu_ 2 46 (bA 14 7) HT_ ?_
        refine pu_ 3 47 (bA 14 15) HT_ ?_
        refine pu_ 4 48 (bA 14 31) HT_ ?_
        refine pu_ 5 49 (bA 14 63) HT_ ?_
        refine pu_ 7 51 (bA 14 191) HT_ ?_
        refine pu_ 8 52 (bA 14 447) HT_ ?_
        refine pu_ 9 53 (bA 14 959) HT_ ?_
        refine pu_ 10 54 (bA 14 1983) HT_ ?_
        refine tk_ 6 50 (bA 14 2047) rfl HT_ HW_ hHeld (by rintro w' ⟨s0,s1,s2,s3,s4,s5⟩;go_simp;with_reducible rfl) ?_
        refine tk_ 11 55 (bA 14 4095) rfl HT_ HW_ hHeld (by rintro w' ⟨s0,s1,s2,s3,s4,s5⟩;go_simp;with_reducible rfl) ?_
        refine one_ (i:=12) (N:=some 56) (bA 14 8191) rfl rfl (one_of HT_.out ze_) (by decide) (fun K hK=>?_)
        refine goes_ Tryz.func126 ze_ rfl #[.agg #[.int .i64 ((rd_T91 x3_3 x7_3).f0),.int .i64 ((rd_T91 x3_3 x7_3).f1),.string ((rd_T91 x3_3 x7_3).f2)],.agg #[.int .i64 ((rd_T91 x3_3 (ji23)).f0),.int .i64 ((rd_T91 x3_3 (ji23)).f1),.string ((rd_T91 x3_3 (ji23)).f2)]] (by rfl) rfl rfl (by (try simp only[List.map_toArray,List.map_cons,List.map_nil]);first|done|(simp only[hji23];rfl)|rfl|(simp only[List.length_drop,List.length_take];rfl)) ?_
        with_reducible refine (y1_.calls ((rd_T91 x3_3 x7_3).f0) ((rd_T91 x3_3 x7_3).f1) ((rd_T91 x3_3 x7_3).f2) ((rd_T91 x3_3 (ji23)).f0) ((rd_T91 x3_3 (ji23)).f1) ((rd_T91 x3_3 (ji23)).f2) false _ A26.out).mono ?_
        rintro e w41 ⟨rfl,hb⟩
        have HS0_:=(hb.cell (World.block_lt_of_cell? _ _ (hHeld.1))).trans (hHeld.1)
        have HS1_:=(hb.cell (World.block_lt_of_cell? _ _ (hHeld.2.1))).trans (hHeld.2.1)
        have HS2_:=(hb.cell (World.block_lt_of_cell? _ _ (hHeld.2.2.1))).trans (hHeld.2.2.1)
        have HS3_:=(hb.cell (World.block_lt_of_cell? _ _ (hHeld.2.2.2.1))).trans (hHeld.2.2.2.1)
        have HS4_:=(hb.cell (World.block_lt_of_cell? _ _ (hHeld.2.2.2.2.1))).trans (hHeld.2.2.2.2.1)
        have HS5_:=(hb.cell (World.block_lt_of_cell? _ _ (hHeld.2.2.2.2.2))).trans (hHeld.2.2.2.2.2)
        refine⟨_,rfl,?_⟩
        have n0_:=Aside0.mk (Kd.yH_ zl_ hb)
        have n1_:=Aside0.mk (yn_ za_ hb)
        clear HO_3
        clear HB
        have HO_3:=n0_
        have HB:=n1_
        clear n0_ n1_
        (try clear hb)
        (try clear hb2)
        (try clear hk)
        (try clear hi)
        refine hK.out _ _ ⟨HS0_,HS1_,HS2_,HS3_,HS4_,HS5_⟩ (fun hHeld=>?_)
        clear hK K
        refine norm_ (a':=?_) ?_ ?_
        rotate_left
        ·show Act.put _ (some 56) _=_
         simp only[Act.put,q1_,q2_,q3_,i64_w,i32_w]
         rfl
        refine pu_ 13 57 (bA 14 16383) HT_ ?_
        refine done_ (ycb_ HT_.out ze_) ?_
        try go_wp2
        (try simp only[← hl3_3])
        go_roundg k3
        case measure=>have:=HK1.out;have:=HK2.out;have:=HK3.out;omega
        case rel=>exact⟨(x3_3),(wrap64 (x4_1+1)),zc_,H',⟨by have:=HK1.out;have:=HK2.out;have:=HK3.out;omega⟩,⟨by (try simp only[hl3_3]);(with_reducible repeat (first|apply Kd.yj_|apply Kd.yk_|apply Kd.R_drew));exact HO_3.out⟩,⟨by repeat (with_reducible first|exact HB.out|apply yc_|apply ya_|apply yb_)⟩⟩
       subst c27
       have H1:(yf_.l2 k3 l0 ((x3_3.set (x7_3:Int).toNat (⟨(rd_T91 x3_3 (ji23)).f0,(rd_T91 x3_3 (ji23)).f1,(rd_T91 x3_3 (ji23)).f2⟩:S91)).set ((ji23):Int).toNat (⟨(rd_T91 x3_3 x7_3).f0,(rd_T91 x3_3 x7_3).f1,(rd_T91 x3_3 x7_3).f2⟩:S91)) x4_1 ji23)=some r:=by rw[if_pos rfl] at H;exact H
       clear H
       have H:=H1
       clear H1
       obtain⟨y414,hy414⟩:∃ y_:List (S91),y_=(x3_3.set (x7_3:Int).toNat (⟨(rd_T91 x3_3 (ji23)).f0,(rd_T91 x3_3 (ji23)).f1,(rd_T91 x3_3 (ji23)).f2⟩:S91)):=⟨_,rfl⟩
       replace H:(yf_.l2 k3 l0 (y414.set ((ji23):Int).toNat (⟨(rd_T91 x3_3 x7_3).f0,(rd_T91 x3_3 x7_3).f1,(rd_T91 x3_3 x7_3).f2⟩:S91)) x4_1 ji23)=some r:=by first|(rw[hy414];with_reducible exact H)|(have H2_:=(Option.bind_some _ _).symm.trans H;rw[hy414];with_reducible exact H2_)|(have H2_:=(Option.bind_some _ _).symm.trans H;with_reducible exact H2_)|with_reducible exact H|(rw[hy414];exact H)|exact H
       have Ny414:=Aside0.mk hy414
       clear hy414
       obtain⟨y415,hy415⟩:∃ y_:List (S91),y_=(y414.set ((ji23):Int).toNat (⟨(rd_T91 x3_3 x7_3).f0,(rd_T91 x3_3 x7_3).f1,(rd_T91 x3_3 x7_3).f2⟩:S91)):=⟨_,rfl⟩
       replace H:(yf_.l2 k3 l0 y415 x4_1 ji23)=some r:=by first|(rw[hy415];with_reducible exact H)|(have H2_:=(Option.bind_some _ _).symm.trans H;rw[hy415];with_reducible exact H2_)|(have H2_:=(Option.bind_some _ _).symm.trans H;with_reducible exact H2_)|with_reducible exact H|(rw[hy415];exact H)|exact H
       have Ny415:=Aside0.mk hy415
       clear hy415
       have H':=Aside0.mk H
       clear H
       try go_wp2
       have n0_:=Aside0.mk (Kd.R_drew HO_3.out)
       have n1_:=Aside0.mk (yb_ HB.out)
       clear HO_3
       clear HB
       have HO_3:=n0_
       have HB:=n1_
       clear n0_ n1_
       have p408:0≤(x7_3:Int):=of_decide_eq_true zd_
       have q408:x7_3 < (x3_3.length:Int):=of_decide_eq_true zd_
       obtain⟨ad408,e408,hx408_0,hx408_1,hx408_2⟩:=at_T91 (Kd.yt_ HO_3.out).2.2 x7_3 p408 q408
       cases e408
       replace p408:=eq_true p408
       replace q408:=eq_true q408
       have p409:0≤((ji23):Int):=of_decide_eq_true zd_
       have q409:(ji23) < (x3_3.length:Int):=of_decide_eq_true zd_
       obtain⟨ad409,e409,hx409_0,hx409_1,hx409_2⟩:=at_T91 (Kd.yt_ HO_3.out).2.2 (ji23) p409 q409
       obtain rfl:ad408=ad409:=(by injection e409)
       replace p409:=eq_true p409
       replace q409:=eq_true q409
       refine start_ (n:=14) (S:=fun w'=>w'.cell? (ad408.add ((x7_3).toNat * 3))=some (.int .i64 ((rd_T91 x3_3 x7_3).f0))∧w'.cell? ⟨(ad408.add ((x7_3).toNat * 3)).block,(ad408.add ((x7_3).toNat * 3)).off+1,none⟩=some (.int .i64 ((rd_T91 x3_3 x7_3).f1))∧w'.cell? ⟨(ad408.add ((x7_3).toNat * 3)).block,(ad408.add ((x7_3).toNat * 3)).off+2,none⟩=some (.string ((rd_T91 x3_3 x7_3).f2))∧w'.cell? (ad408.add (((ji23)).toNat * 3))=some (.int .i64 ((rd_T91 x3_3 (ji23)).f0))∧w'.cell? ⟨(ad408.add (((ji23)).toNat * 3)).block,(ad408.add (((ji23)).toNat * 3)).off+1,none⟩=some (.int .i64 ((rd_T91 x3_3 (ji23)).f1))∧w'.cell? ⟨(ad408.add (((ji23)).toNat * 3)).block,(ad408.add (((ji23)).toNat * 3)).off+2,none⟩=some (.string ((rd_T91 x3_3 (ji23)).f2))) (ds:=[]) (bA 14 0) ze_ rfl rfl ⟨hx408_0,hx408_1,hx408_2,hx409_0,hx409_1,hx409_2⟩ (fun hHeld=>?_);refine yQ_ yf_.tab13 yf_.bits13 (fun HT_ HW_=>?_)
       generalize wr.drew=w30 at HO_3 HB hx408_0 hx408_1 hx408_2 hx409_0 hx409_1 hx409_2 hHeld ⊢
       refine pu_ 0 44 (bA 14 1) HT_ ?_
       refine pu_ 1 45 (bA 14 3) HT_ ?_
       refine pu_ 2 46 (bA 14 7) HT_ ?_
       refine pu_ 3 47 (bA 14 15) HT_ ?_
       refine pu_ 4 48 (bA 14 31) HT_ ?_
       refine pu_ 5 49 (bA 14 63) HT_ ?_
       refine pu_ 7 51 (bA 14 191) HT_ ?_
       refine pu_ 8 52 (bA 14 447) HT_ ?_
       refine pu_ 9 53 (bA 14 959) HT_ ?_
       refine pu_ 10 54 (bA 14 1983) HT_ ?_
       refine tk_ 6 50 (bA 14 2047) rfl HT_ HW_ hHeld (by rintro w' ⟨s0,s1,s2,s3,s4,s5⟩;go_simp;with_reducible rfl) ?_
       refine tk_ 11 55 (bA 14 4095) rfl HT_ HW_ hHeld (by rintro w' ⟨s0,s1,s2,s3,s4,s5⟩;go_simp;with_reducible rfl) ?_
       refine one_ (i:=12) (N:=some 56) (bA 14 8191) rfl rfl (one_of HT_.out ze_) (by decide) (fun K hK=>?_)
       refine goes_ Tryz.func126 ze_ rfl #[.agg #[.int .i64 ((rd_T91 x3_3 x7_3).f0),.int .i64 ((rd_T91 x3_3 x7_3).f1),.string ((rd_T91 x3_3 x7_3).f2)],.agg #[.int .i64 ((rd_T91 x3_3 (ji23)).f0),.int .i64 ((rd_T91 x3_3 (ji23)).f1),.string ((rd_T91 x3_3 (ji23)).f2)]] (by rfl) rfl rfl (by (try simp only[List.map_toArray,List.map_cons,List.map_nil]);first|done|(simp only[hji23];rfl)|rfl|(simp only[List.length_drop,List.length_take];rfl)) ?_
       with_reducible refine (y1_.calls ((rd_T91 x3_3 x7_3).f0) ((rd_T91 x3_3 x7_3).f1) ((rd_T91 x3_3 x7_3).f2) ((rd_T91 x3_3 (ji23)).f0) ((rd_T91 x3_3 (ji23)).f1) ((rd_T91 x3_3 (ji23)).f2) true _ A26.out).mono ?_
       rintro e w31 ⟨rfl,hb⟩
       have HS0_:=(hb.cell (World.block_lt_of_cell? _ _ (hHeld.1))).trans (hHeld.1)
       have HS1_:=(hb.cell (World.block_lt_of_cell? _ _ (hHeld.2.1))).trans (hHeld.2.1)
       have HS2_:=(hb.cell (World.block_lt_of_cell? _ _ (hHeld.2.2.1))).trans (hHeld.2.2.1)
       have HS3_:=(hb.cell (World.block_lt_of_cell? _ _ (hHeld.2.2.2.1))).trans (hHeld.2.2.2.1)
       have HS4_:=(hb.cell (World.block_lt_of_cell? _ _ (hHeld.2.2.2.2.1))).trans (hHeld.2.2.2.2.1)
       have HS5_:=(hb.cell (World.block_lt_of_cell? _ _ (hHeld.2.2.2.2.2))).trans (hHeld.2.2.2.2.2)
       refine⟨_,rfl,?_⟩
       have n0_:=Aside0.mk (Kd.yH_ zl_ hb)
       have n1_:=Aside0.mk (yn_ za_ hb)
       clear HO_3
       clear HB
       have HO_3:=n0_
       have HB:=n1_
       clear n0_ n1_
       (try clear hb)
       (try clear hb2)
       (try clear hk)
       (try clear hi)
       refine hK.out _ _ ⟨HS0_,HS1_,HS2_,HS3_,HS4_,HS5_⟩ (fun hHeld=>?_)
       clear hK K
       refine norm_ (a':=?_) ?_ ?_
       rotate_left
       ·show Act.put _ (some 56) _=_
        simp only[Act.put,q1_,q2_,q3_,i64_w,i32_w]
        rfl
       refine pu_ 13 57 (bA 14 16383) HT_ ?_
       refine done_ (ycb_ HT_.out ze_) ?_
       have p411:0≤(x7_3:Int):=of_decide_eq_true zd_
       have q411:x7_3 < (x3_3.length:Int):=of_decide_eq_true zd_
       obtain⟨ad411,e411,hx411_0,hx411_1,hx411_2⟩:=at_T91 (Kd.yt_ HO_3.out).2.2 x7_3 p411 q411
       obtain rfl:ad408=ad411:=(by injection e411)
       replace p411:=eq_true p411
       replace q411:=eq_true q411
       try go_wp2_with (first|((with_reducible refine yO_ (N:=8) rfl ?_);refine yS_ ?hg (N:=8) ?hd (cs:=#[.int .i64 0,.int .i64 0,.string (⟨#[]⟩:ByteArray)]) (t:=91) ?hr ?_;(case hd=>rfl);(case hg=>rfl);(case hr=>first|(go_simp;done)|(go_simp;rfl));intro gb412 hg w32 hbox hb;have n0_:=Aside0.mk (Kd.yH_ (Kd.yWb_ zl_ gb412 (Nat.le_of_eq hg.symm)) hb);have n1_:=Aside0.mk (yn_ za_ hb);have n2_:=Aside0.mk (hbox);have n3_:=Aside0.mk ((by rw[hg];exact (yp_ za_):w.heap.size≤gb412));have n4_:=Aside0.mk ((by rw[hg];exact (yp_ za_):w.heap.size≤gb412));clear HO_3;clear HB;have HO_3:=n0_;have HB:=n1_;have BK412:=n2_;have GW412:=n3_;have GE412:=n4_;clear n0_ n1_ n2_ n3_ n4_;clear hb hbox hg;have hcz33_0:w32.cell? ⟨gb412,0,none⟩=some (.int .i64 0):=(yl_ BK412.out 0).trans rfl;have hcz33_1:w32.cell? ⟨gb412,1,none⟩=some (.int .i64 0):=(yl_ BK412.out 1).trans rfl;have hcz33_2:w32.cell? ⟨gb412,2,none⟩=some (.string (⟨#[]⟩:ByteArray)):=(yl_ BK412.out 2).trans rfl;have hfz33_0:=yi_ BK412.out 0;have hfz33_1:=yi_ BK412.out 1;have hfz33_2:=yi_ BK412.out 2)|((with_reducible refine y7_ (t:=91) (p:=8) rfl ?_);refine y2_ (t:=91) (p:=8) (v:=?vo_w34) (w1:=(((w32.setCell ⟨gb412,0,none⟩ (.int .i64 ((rd_T91 x3_3 x7_3).f0))).setCell ⟨gb412,1,none⟩ (.int .i64 ((rd_T91 x3_3 x7_3).f1))).setCell ⟨gb412,2,none⟩ (.string ((rd_T91 x3_3 x7_3).f2)))) ?hg ?ho ?hn ?hr ?_;(case ho=>rfl);(case hg=>rfl);(case hn=>rfl);(case hr=>first|(go_simp;done)|(go_simp;rfl));intro w34 hw;have n0_:Aside0 (Kd.R k91 91 w34 w.heap.size (fun k_=>k_≠gb412) (.slice (some ad408) x3_3.length co19) x3_3):=⟨(by rw[hw];exact (by (with_reducible repeat (first|apply Kd.yj_|apply Kd.yk_|apply Kd.R_drew));exact Kd.R_mono (Kd.R_far (p:=⟨gb412,2,none⟩) (Kd.R_far (p:=⟨gb412,1,none⟩) (Kd.R_far (p:=⟨gb412,0,none⟩) (Kd.R_mono HO_3.out (fun k_ hk=>(⟨hk,hk.2⟩:_∧k_≠gb412))) (fun _ hk=>hk.2) (.int .i64 ((rd_T91 x3_3 x7_3).f0))) (fun _ hk=>hk.2) (.int .i64 ((rd_T91 x3_3 x7_3).f1))) (fun _ hk=>hk.2) (.string ((rd_T91 x3_3 x7_3).f2))) (fun _ hk=>hk.1.2)))⟩;have n1_:Aside0 (w34.heap[gb412]?=some (.cells #[.int .i64 ((rd_T91 x3_3 x7_3).f0),.int .i64 ((rd_T91 x3_3 x7_3).f1),.string ((rd_T91 x3_3 x7_3).f2)] 91 (0,0))):=⟨(by rw[hw];exact (by (with_reducible repeat (first|refine yw_ ?_ _|refine yz_ ?_|refine yv_ ?_ _));refine yeb_ (cs:=#[.int .i64 ((rd_T91 x3_3 x7_3).f0),.int .i64 ((rd_T91 x3_3 x7_3).f1),.string (⟨#[]⟩:ByteArray)]) ?_ 2 _ rfl;(with_reducible repeat (first|refine yw_ ?_ _|refine yz_ ?_|refine yv_ ?_ _));refine yeb_ (cs:=#[.int .i64 ((rd_T91 x3_3 x7_3).f0),.int .i64 0,.string (⟨#[]⟩:ByteArray)]) ?_ 1 _ rfl;(with_reducible repeat (first|refine yw_ ?_ _|refine yz_ ?_|refine yv_ ?_ _));refine yeb_ (cs:=#[.int .i64 0,.int .i64 0,.string (⟨#[]⟩:ByteArray)]) ?_ 0 _ rfl;(with_reducible repeat (first|refine yw_ ?_ _|refine yz_ ?_|refine yv_ ?_ _));exact BK412.out))⟩;have n2_:Aside0 (Below w.heap.size w w34):=⟨(by rw[hw];exact (by repeat (with_reducible first|exact HB.out|apply yc_|apply ya_|apply yb_|refine yq_ ?_ GE412.out)))⟩;clear hw;clear HO_3;clear BK412;clear HB;have HO_3:=n0_;have BK412:=n1_;have HB:=n2_;clear n0_ n1_ n2_;have p413:0≤((ji23):Int):=of_decide_eq_true zd_;have q413:(ji23) < (x3_3.length:Int):=of_decide_eq_true zd_;obtain⟨ad413,e413,hx413_0,hx413_1,hx413_2⟩:=at_T91 (Kd.yt_ HO_3.out).2.2 (ji23) p413 q413;obtain rfl:ad408=ad413:=(by injection e413);replace p413:=eq_true p413;replace q413:=eq_true q413;have p28:0≤(x7_3:Int):=of_decide_eq_true zd_;have q28:(x7_3:Int) < ((x3_3.length:Int):Int):=of_decide_eq_true zd_;obtain⟨go28,co28,eo28,gb28,gl28,cl28,HG28⟩:=Kd.R_form HO_3.out (by omega);(first|cases eo28|(injection eo28 with ea_ en_ ec_;(first|subst ea_|(injection ea_ with ea_;subst ea_));subst ec_;clear en_));have GB28:=Aside0.mk gb28;have GG28:=Aside0.mk HG28;clear gb28 gl28 HG28;(first|simp only[add_plain] at hx408_0|skip);(first|simp only[add_plain] at hx408_1|skip);(first|simp only[add_plain] at hx408_2|skip);(first|simp only[add_plain] at hx409_0|skip);(first|simp only[add_plain] at hx409_1|skip);(first|simp only[add_plain] at hx409_2|skip);(first|simp only[add_plain] at hx411_0|skip);(first|simp only[add_plain] at hx411_1|skip);(first|simp only[add_plain] at hx411_2|skip);(first|simp only[add_plain] at hx413_0|skip);(first|simp only[add_plain] at hx413_1|skip);(first|simp only[add_plain] at hx413_2|skip);obtain⟨ce28,hcl28,hM28,hcc28,hfr28⟩:=Kd.R_elem HO_3.out z91 (x7_3:Int) p28 q28;obtain rfl:=yrb_ hM28;have hx28_0:w34.cell? ⟨go28,(x7_3:Int).toNat * 3,none⟩=some (.int .i64 ((rd_T91 x3_3 x7_3).f0)):=hcc28 0 _ rfl;have hx28_1:w34.cell? ⟨go28,(x7_3:Int).toNat * 3+1,none⟩=some (.int .i64 ((rd_T91 x3_3 x7_3).f1)):=hcc28 1 _ rfl;have hx28_2:w34.cell? ⟨go28,(x7_3:Int).toNat * 3+2,none⟩=some (.string ((rd_T91 x3_3 x7_3).f2)):=hcc28 2 _ rfl;have hf28_0:w34.frozen? ⟨go28,(x7_3:Int).toNat * 3,none⟩=false:=hfr28 0;have hf28_1:w34.frozen? ⟨go28,(x7_3:Int).toNat * 3+1,none⟩=false:=hfr28 1;have hf28_2:w34.frozen? ⟨go28,(x7_3:Int).toNat * 3+2,none⟩=false:=hfr28 2;clear hcl28 hcc28 hfr28 hM28;replace p28:=eq_true p28;replace q28:=eq_true q28;have HX35:=Aside0.mk (show Kd.R k91 91 w34 w.heap.size (fun k_=>k_≠gb412) (.slice (some ⟨go28,0,none⟩) x3_3.length co19) x3_3 from zl_);obtain⟨ce35,hcl35,hM35,hcc35,hfr35⟩:=Kd.R_elem HX35.out z91 (x7_3:Int) (of_decide_eq_true zd_) (by have h_:(x7_3:Int) < ((x3_3.length:Int):Int):=of_decide_eq_true zd_;first|exact h_|(have e_:=(Kd.yt_ HO_3.out).1;omega)|simpa using h_);obtain rfl:=yrb_ hM35;have HP35:=Kd.R_seg HX35.out (x7_3:Int) (of_decide_eq_true zd_) (by have h_:(x7_3:Int) < ((x3_3.length:Int):Int):=of_decide_eq_true zd_;first|exact h_|(have e_:=(Kd.yt_ HO_3.out).1;omega)|simpa using h_) (seg:=[.int .i64 ((rd_T91 x3_3 (ji23)).f0),.int .i64 ((rd_T91 x3_3 (ji23)).f1),.string ((rd_T91 x3_3 (ji23)).f2)]) (j:=0) hcl35 hcc35 (show 3≤3 from by decide) (x':=(⟨(rd_T91 x3_3 (ji23)).f0,(rd_T91 x3_3 (ji23)).f1,(rd_T91 x3_3 (ji23)).f2⟩:S91)) (yQb_ _ _ _ (⟨(rd_T91 x3_3 (ji23)).f0,(rd_T91 x3_3 (ji23)).f1,(rd_T91 x3_3 (ji23)).f2⟩:S91) ) (fun _ hk=>hk);have hx35_0:=hcc35 0 _ rfl;(try simp only[show (k91).sz=3 from rfl,Nat.mul_one,Nat.add_zero] at hx35_0);have hf35_0:=hfr35 0;(try simp only[show (k91).sz=3 from rfl,Nat.mul_one,Nat.add_zero] at hf35_0);have hx35_1:=hcc35 1 _ rfl;(try simp only[show (k91).sz=3 from rfl,Nat.mul_one,Nat.add_zero] at hx35_1);have hf35_1:=hfr35 1;(try simp only[show (k91).sz=3 from rfl,Nat.mul_one,Nat.add_zero] at hf35_1);have hx35_2:=hcc35 2 _ rfl;(try simp only[show (k91).sz=3 from rfl,Nat.mul_one,Nat.add_zero] at hx35_2);have hf35_2:=hfr35 2;(try simp only[show (k91).sz=3 from rfl,Nat.mul_one,Nat.add_zero] at hf35_2);clear hcl35 hcc35 hfr35 hM35)|((with_reducible refine y7_ (t:=91) (p:=71) rfl ?_);refine y2_ (t:=91) (p:=71) (v:=?vo_w36) (w1:=(((w34.setCell ⟨go28,(x7_3:Int).toNat * 3,none⟩ (.int .i64 ((rd_T91 x3_3 (ji23)).f0))).setCell ⟨go28,(x7_3:Int).toNat * 3+1,none⟩ (.int .i64 ((rd_T91 x3_3 (ji23)).f1))).setCell ⟨go28,(x7_3:Int).toNat * 3+2,none⟩ (.string ((rd_T91 x3_3 (ji23)).f2)))) ?hg ?ho ?hn ?hr ?_;(case ho=>rfl);(case hg=>rfl);(case hn=>rfl);(case hr=>first|(go_simp;done)|(go_simp;rfl));intro w36 hw;have hg:w34.grownBy w36 (some go28):=(by rw[hw];exact HP35.2);have hp_:Kd.R k91 91 w36 w.heap.size (fun k_=>k_≠gb412) (.slice (some ⟨go28,0,none⟩) x3_3.length co19) y414:=(by rw[hw,Ny414.out];exact HP35.1);clear HP35;have n0_:=Aside0.mk (hp_);have n1_:=Aside0.mk (yCb_ (g:=gb412) (o:=.cells #[.int .i64 ((rd_T91 x3_3 x7_3).f0),.int .i64 ((rd_T91 x3_3 x7_3).f1),.string ((rd_T91 x3_3 x7_3).f2)] 91 (0,0)) (by (with_reducible repeat (first|refine yw_ ?_ _|refine yz_ ?_|refine yv_ ?_ _));exact BK412.out) hg (Kd.R_away HO_3.out (fun _ hk=>hk)));have n2_:=Aside0.mk ((by rw[hw];exact yq_ (yq_ (yq_ (HB.out) GB28.out) GB28.out) GB28.out:Below w.heap.size w w36));clear HO_3;clear BK412;clear HB;have HO_3:=n0_;have BK412:=n1_;have HB:=n2_;clear n0_ n1_ n2_;clear hg hw hp_;have hcz37_0:w36.cell? ⟨gb412,0,none⟩=some (.int .i64 ((rd_T91 x3_3 x7_3).f0)):=(yl_ BK412.out 0).trans rfl;have hcz37_1:w36.cell? ⟨gb412,1,none⟩=some (.int .i64 ((rd_T91 x3_3 x7_3).f1)):=(yl_ BK412.out 1).trans rfl;have hcz37_2:w36.cell? ⟨gb412,2,none⟩=some (.string ((rd_T91 x3_3 x7_3).f2)):=(yl_ BK412.out 2).trans rfl;have hfz37_0:=yi_ BK412.out 0;have hfz37_1:=yi_ BK412.out 1;have hfz37_2:=yi_ BK412.out 2;have p29:0≤((ji23):Int):=of_decide_eq_true zd_;have q29:((ji23):Int) < ((x3_3.length:Int):Int):=of_decide_eq_true zd_;obtain⟨ce29,hcl29,hM29,hcc29,hfr29⟩:=Kd.R_elem HO_3.out z91 ((ji23):Int) p29 q29;obtain rfl:=yrb_ hM29;have hx29_0:w36.cell? ⟨go28,((ji23):Int).toNat * 3,none⟩=some (.int .i64 ((rd_T91 y414 (ji23)).f0)):=hcc29 0 _ rfl;have hx29_1:w36.cell? ⟨go28,((ji23):Int).toNat * 3+1,none⟩=some (.int .i64 ((rd_T91 y414 (ji23)).f1)):=hcc29 1 _ rfl;have hx29_2:w36.cell? ⟨go28,((ji23):Int).toNat * 3+2,none⟩=some (.string ((rd_T91 y414 (ji23)).f2)):=hcc29 2 _ rfl;have hf29_0:w36.frozen? ⟨go28,((ji23):Int).toNat * 3,none⟩=false:=hfr29 0;have hf29_1:w36.frozen? ⟨go28,((ji23):Int).toNat * 3+1,none⟩=false:=hfr29 1;have hf29_2:w36.frozen? ⟨go28,((ji23):Int).toNat * 3+2,none⟩=false:=hfr29 2;clear hcl29 hcc29 hfr29 hM29;replace p29:=eq_true p29;replace q29:=eq_true q29;have HX38:=Aside0.mk (show Kd.R k91 91 w36 w.heap.size (fun k_=>k_≠gb412) (.slice (some ⟨go28,0,none⟩) x3_3.length co19) y414 from zl_);obtain⟨ce38,hcl38,hM38,hcc38,hfr38⟩:=Kd.R_elem HX38.out z91 ((ji23):Int) (of_decide_eq_true zd_) (by have h_:((ji23):Int) < ((x3_3.length:Int):Int):=of_decide_eq_true zd_;first|exact h_|(have e_:=(Kd.yt_ HO_3.out).1;omega)|simpa using h_);obtain rfl:=yrb_ hM38;have HP38:=Kd.R_seg HX38.out ((ji23):Int) (of_decide_eq_true zd_) (by have h_:((ji23):Int) < ((x3_3.length:Int):Int):=of_decide_eq_true zd_;first|exact h_|(have e_:=(Kd.yt_ HO_3.out).1;omega)|simpa using h_) (seg:=[.int .i64 ((rd_T91 x3_3 x7_3).f0),.int .i64 ((rd_T91 x3_3 x7_3).f1),.string ((rd_T91 x3_3 x7_3).f2)]) (j:=0) hcl38 hcc38 (show 3≤3 from by decide) (x':=(⟨(rd_T91 x3_3 x7_3).f0,(rd_T91 x3_3 x7_3).f1,(rd_T91 x3_3 x7_3).f2⟩:S91)) (yQb_ _ _ _ (⟨(rd_T91 x3_3 x7_3).f0,(rd_T91 x3_3 x7_3).f1,(rd_T91 x3_3 x7_3).f2⟩:S91) ) (fun _ hk=>hk);have hx38_0:=hcc38 0 _ rfl;(try simp only[show (k91).sz=3 from rfl,Nat.mul_one,Nat.add_zero] at hx38_0);have hf38_0:=hfr38 0;(try simp only[show (k91).sz=3 from rfl,Nat.mul_one,Nat.add_zero] at hf38_0);have hx38_1:=hcc38 1 _ rfl;(try simp only[show (k91).sz=3 from rfl,Nat.mul_one,Nat.add_zero] at hx38_1);have hf38_1:=hfr38 1;(try simp only[show (k91).sz=3 from rfl,Nat.mul_one,Nat.add_zero] at hf38_1);have hx38_2:=hcc38 2 _ rfl;(try simp only[show (k91).sz=3 from rfl,Nat.mul_one,Nat.add_zero] at hx38_2);have hf38_2:=hfr38 2;(try simp only[show (k91).sz=3 from rfl,Nat.mul_one,Nat.add_zero] at hf38_2);clear hcl38 hcc38 hfr38 hM38)|((with_reducible refine y7_ (t:=91) (p:=76) rfl ?_);refine y2_ (t:=91) (p:=76) (v:=?vo_w39) (w1:=(((w36.setCell ⟨go28,((ji23):Int).toNat * 3,none⟩ (.int .i64 ((rd_T91 x3_3 x7_3).f0))).setCell ⟨go28,((ji23):Int).toNat * 3+1,none⟩ (.int .i64 ((rd_T91 x3_3 x7_3).f1))).setCell ⟨go28,((ji23):Int).toNat * 3+2,none⟩ (.string ((rd_T91 x3_3 x7_3).f2)))) ?hg ?ho ?hn ?hr ?_;(case ho=>rfl);(case hg=>rfl);(case hn=>rfl);(case hr=>first|(go_simp;done)|(go_simp;rfl));intro w39 hw;have hg:w36.grownBy w39 (some go28):=(by rw[hw];exact HP38.2);have hp_:Kd.R k91 91 w39 w.heap.size (fun k_=>k_≠gb412) (.slice (some ⟨go28,0,none⟩) x3_3.length co19) y415:=(by rw[hw,Ny415.out];exact HP38.1);clear HP38;have n0_:=Aside0.mk (hp_);have n1_:=Aside0.mk (yCb_ (g:=gb412) (o:=.cells #[.int .i64 ((rd_T91 x3_3 x7_3).f0),.int .i64 ((rd_T91 x3_3 x7_3).f1),.string ((rd_T91 x3_3 x7_3).f2)] 91 (0,0)) (by (with_reducible repeat (first|refine yw_ ?_ _|refine yz_ ?_|refine yv_ ?_ _));exact BK412.out) hg (Kd.R_away HO_3.out (fun _ hk=>hk)));have n2_:=Aside0.mk ((by rw[hw];exact yq_ (yq_ (yq_ (HB.out) GB28.out) GB28.out) GB28.out:Below w.heap.size w w39));clear HO_3;clear BK412;clear HB;have HO_3:=n0_;have BK412:=n1_;have HB:=n2_;clear n0_ n1_ n2_;clear hg hw hp_))
       (try simp only[← hl3_3])
       go_roundg k3
       case measure=>have:=HK1.out;have:=HK2.out;have:=HK3.out;omega
       case rel=>exact⟨(y415),(ji23),(by first|rfl|(simp;done)|(simp only[← hji23] <;> (first|rfl|simp))|(simp [*];done)),H',⟨by have:=HK1.out;have:=HK2.out;have:=HK3.out;omega⟩,⟨by (try simp only[hl3_3]);(with_reducible repeat (first|apply Kd.yj_|apply Kd.yk_|apply Kd.R_drew));exact Kd.R_mono HO_3.out (fun _ hk=>trivial)⟩,⟨by repeat (with_reducible first|exact HB.out|apply yc_|apply ya_|apply yb_|refine yq_ ?_ GE412.out)⟩⟩

end Go.Proofs.YthimblhfjfngiaaGreat.PText

namespace Go.Proofs.YthimblhfjfngiaaGreat.PText
open Go.RowKit Go.Proofs.YthimblhfjfngiaaGreatW.PrintWords Go.Proofs.YthimblhfjfngiaaGreatW.PrintLast Go.Proofs.YthimblhfjfngiaaGreatW.PrintMore
attribute [local go_sem] yT_ yU_ y5_ y6_ yI_ yJ_ yV_ yW_   -- for this text's walks alone
set_option linter.unusedVariables false
set_option linter.unusedSimpArgs false

def yy_.l0:Nat→ByteArray→List (S91)→List Int→List (S91)→Int→Int→Option (ByteArray × (List (S91)))
 | 0,_,_,_,_,_,_=>none
 | k+1,x0,x1,x6,x7,x8,x9=>if x9 < (x1.length:Int) then (if 0≤x9 then (if 0≤x8 then (if x8≤((rd_T91 x1 x9).f0) then (if ((rd_T91 x1 x9).f0)≤(x0.size:Int) then (if x6.length+(x0.extract (x8:Int).toNat (((rd_T91 x1 x9).f0):Int).toNat).size < 140737488355328 then ((some (x6++bytesOf (x0.extract (x8:Int).toNat (((rd_T91 x1 x9).f0):Int).toNat):List Int)).bind fun y420=>(if y420.length+((rd_T91 x1 x9).f2).size < 140737488355328 then ((some (y420++bytesOf ((rd_T91 x1 x9).f2):List Int)).bind fun y424=>(if 0≤((rd_T91 x1 x9).f0) then (if ((rd_T91 x1 x9).f0)≤((rd_T91 x1 x9).f1) then (if ((rd_T91 x1 x9).f1)≤(x0.size:Int) then (if x7.length < 4398046511104 then (yy_.l0 k x0 x1 y424 (x7++[(⟨(y420.length:Int),(y424.length:Int),x0.extract (((rd_T91 x1 x9).f0):Int).toNat (((rd_T91 x1 x9).f1):Int).toNat⟩:S91)]) ((rd_T91 x1 x9).f1) (wrap64 (x9+1))) else (none)) else (none)) else (none)) else (none))) else (none))) else (none)) else (none)) else (none)) else (none)) else (none)) else (if 0≤x8 then (if x8≤(x0.size:Int) then (if x6.length+(x0.extract (x8:Int).toNat x0.size).size < 140737488355328 then (some (strOfNums (x6++bytesOf (x0.extract (x8:Int).toNat x0.size)),x7)) else (none)) else (none)) else (none))
def yy_.f (k:Nat) (a0:ByteArray) (l1:List (S91)):Option (ByteArray × (List (S91))):=(yf_.f k l1).bind fun t416=>(yy_.l0 k a0 t416 ([]:List Int) ([]:List (S91)) 0 0)
def yy_.T11:Bool × List (List Nat × List Nat):=(true,[([],[]),([],[]),([],[]),([2],[2]),([],[]),([],[]),([],[]),([5,6],[5,6]),([7],[7]),([8],[8]),([],[]),([],[]),([10,11],[10,11]),([12],[12]),([13],[13]),([4,9,14],[4,9,14]),([1,3,15],[1,3,15]),([16],[16]),([0,17],[0,17]),([18,18,0,1,2,3,4,5,6,7,8,9,10,11,12,13,14,15,16,17,18],[0,18])])
def yy_.B11:List Nat:=[0,0,0,4,0,0,0,96,224,480,0,0,3072,7168,15360,32752,65534,131070,262143,524287]
theorem yy_.tab11:rtab .any (opsOf Tryz.f81 11)=yy_.T11:=by kernel_rfl
theorem yy_.bits11:waitsOk yy_.T11.2 yy_.B11=true:=by kernel_rfl
set_option maxHeartbeats 8000000 in
set_option maxRecDepth 100000 in
theorem yy_.calls (k:Nat) (a0:ByteArray) (A1:Option Addr) (c1:Nat) (l1:List (S91)) (r1:ByteArray) (r2:List (S91)) (w:World) (hr1:Kd.C k91 w A1 l1.length l1) (hc1:l1.length≤c1) (h:yy_.f k a0 l1=some (r1,r2)) :
  Calls Tryz.prog 81 #[.string a0,.slice A1 l1.length c1] w fun e w'=>∃ v1_:Value,e=.returned (.tuple #[.string r1,v1_])∧Kd.R k91 91 w' w.heap.size (fun _=>True) v1_ r2∧Below w.heap.size w w':=by
 have hu91:=Tryz.underlying91
 have HR1:=Aside0.mk hr1
 have HC1:=Aside0.mk hc1
 clear hr1 hc1
 have HB:=Aside0.mk (Below.refl w.heap.size w)
 have H:((yf_.f k l1).bind fun t416=>(yy_.l0 k a0 t416 ([]:List Int) ([]:List (S91)) 0 0))=some (r1,r2):=h
 clear h
 replace H:=Option.bind_eq_some_iff.mp H
 obtain⟨t416,A30,H⟩:=H
 replace H:(yy_.l0 k a0 t416 ([]:List Int) ([]:List (S91)) 0 0)=some (r1,r2):=H
 have A3:=Aside0.mk A30
 clear A30
 have H':=Aside0.mk H
 clear H
 go_enter Tryz.func81,Tryz.ntmps81
 go_wp2_with (first|((with_reducible refine yA_ (f:=112) rfl ?_);refine goesL_ (some 12) rfl rfl Tryz.func112 ze_ rfl #[.slice A1 l1.length c1] rfl zb_ ?_;(with_reducible refine (yf_.calls k _ _ l1 t416 _ ?side1 ?side2 A3.out).mono ?_);(case side1=>repeat (first|exact HR1.out|(with_reducible refine Kd.yM_ ?_ _)|(with_reducible refine Kd.yY_ ?_ _)|(with_reducible refine Kd.C_drew ?_)));(case side2=>exact HC1.out);rintro e w4 ⟨v417,rfl,ho0,hb⟩;refine⟨_,rfl,?_⟩;have n0_:=Aside0.mk (Kd.y0_ ho0 (yp_ za_));have n1_:=Aside0.mk (yn_ za_ hb);clear HB;have HO418:=n0_;have HB:=n1_;clear n0_ n1_;(try clear hb);(try clear hb2);(try clear hk);(try clear hi);(try clear ho0)))
 try simp only[Act.put,List.setIfInBounds_toArray,List.set_cons_succ,List.set_cons_zero]
 go_loopg [6,7,8,9] k (fun kq v6 v7 v8 v9 w'=>∃ (x6_1:List Int) (x7_1:List (S91)) (x8_1:Int) (x9_1:Int),v8=.int .i64 x8_1∧v9=.int .i64 x9_1∧Aside0 (yy_.l0 kq a0 t416 x6_1 x7_1 x8_1 x9_1=some (r1,r2))∧Aside0 (kq≤k)∧Aside0 (Kd.R k91 91 w' w.heap.size (fun k_=>some k_≠(v7:Value).ownBlock) v417 t416)∧Aside0 (Kd.R (Kd.int .u8) 5 w' w.heap.size (fun _=>True) v6 x6_1)∧Aside0 (Kd.R k91 91 w' w.heap.size (fun k_=>some k_≠(v417:Value).ownBlock) v7 x7_1)∧Aside0 (Below w.heap.size w w'))
 case atStart=>exact⟨(([]:List Int)),(([]:List (S91))),(0),(0),zc_,zc_,H',⟨Nat.le_refl _⟩,⟨by (with_reducible repeat (first|apply Kd.yj_|apply Kd.yk_|apply Kd.R_drew));exact Kd.R_mono HO418.out (fun _ hk=>(by simp [Value.ownBlock]))⟩,⟨by first|exact Kd.R_nil _ _ _ _ _|exact Kd.N_nil _ _ _ _ _|exact Kd.V_nil _ _ _ _ _|exact Kd.Q_nil _ _ _ _ _|exact Kd.S_nil _ _ _ _ _⟩,⟨by first|exact Kd.R_nil _ _ _ _ _|exact Kd.N_nil _ _ _ _ _|exact Kd.V_nil _ _ _ _ _|exact Kd.Q_nil _ _ _ _ _|exact Kd.S_nil _ _ _ _ _⟩,⟨by repeat (with_reducible first|exact HB.out|apply yc_|apply ya_|apply yb_)⟩⟩
 case round =>
  clear H'
  try clear c1
  try clear p2
  obtain⟨x6_1,x7_1,x8_1,x9_1,rfl,rfl,HA,HK1,HO_1,HO_6,HO_7,HB⟩:=hrel
  cases gk with
  | zero=>exact absurd HA.out (by simp [yy_.l0])
  | succ k1 =>
   have H:=HA.out
   clear HA
   simp only[yy_.l0] at H
   by_cases c5:x9_1 < (t416.length:Int)
   rotate_left
   ·rw[if_neg c5] at H
    have c5b0:decide (x9_1 < (t416.length:Int))=false:=decide_eq_false c5
    clear c5
    by_cases c23:0≤x8_1
    rotate_left
    ·rw[if_neg c23] at H
     exact absurd H (by simp)
    rw[if_pos c23] at H
    have c23b0:=eq_true c23
    have c23b1:decide (0≤x8_1)=true:=decide_eq_true c23
    clear c23
    by_cases c24:x8_1≤(a0.size:Int)
    rotate_left
    ·rw[if_neg c24] at H
     exact absurd H (by simp)
    rw[if_pos c24] at H
    have c24b0:=eq_true c24
    have c24b1:decide (x8_1≤(a0.size:Int))=true:=decide_eq_true c24
    clear c24
    by_cases c25:x6_1.length+(a0.extract (x8_1:Int).toNat a0.size).size < 140737488355328
    rotate_left
    ·rw[if_neg c25] at H
     exact absurd H (by simp)
    rw[if_pos c25] at H
    have LMc25:=Aside0.mk c25
    clear c25
    obtain⟨y433,hy433⟩:∃ y_:List Int,y_=(x6_1++bytesOf (a0.extract (x8_1:Int).toNat a0.size)):=⟨_,rfl⟩
    replace H:(some (strOfNums y433,x7_1))=some (r1,r2):=by first|(rw[hy433];with_reducible exact H)|(have H2_:=(Option.bind_some _ _).symm.trans H;rw[hy433];with_reducible exact H2_)|(have H2_:=(Option.bind_some _ _).symm.trans H;with_reducible exact H2_)|with_reducible exact H|(rw[hy433];exact H)|exact H
    have Ny433:=Aside0.mk hy433
    clear hy433
    simp only[Option.some.injEq,Prod.mk.injEq] at H
    obtain⟨rfl,rfl⟩:=H
    obtain⟨Ao26,co26,eo26⟩:=Kd.yE_ HO_1.out
    subst eo26
    go_wp2_with (first|(at_builtin;refine print_append_str (w0:=w) w.heap.size rfl (.tmp 62) _ 129 9 5 rfl Tryz.underlying129 Tryz.underlying9 info5 u6 x6_1 (a0.extract (x8_1:Int).toNat a0.size) rfl rfl ?aO ?aB ?aS ?aL ?_;(case aB=>exact za_);(case aO=>exact (Kd.own_of_R (by (with_reducible repeat (first|apply Kd.yj_|apply Kd.yk_|apply Kd.R_drew));exact HO_6.out)));(case aS=>exact (yp_ za_));(case aL=>have:=LMc25.out;omega);intro v434 w27 ho0 hb hg;have ho:=Kd.R_of_own (h1:=fun _=>rfl) (ok:=fun _=>True) ho0 (fun _ _=>trivial);clear ho0;have hat:=True.intro;rw[← Ny433.out] at ho;change Kd.R (Kd.int .u8) 5 w27 w.heap.size (fun _=>True) v434 y433 at ho;have n0_:=Aside0.mk (Kd.yhb_ (by (with_reducible repeat (first|apply Kd.yj_|apply Kd.yk_|apply Kd.R_drew));exact HO_1.out) (Kd.ybb_ (by (with_reducible repeat (first|apply Kd.yj_|apply Kd.yk_|apply Kd.R_drew));exact HO_6.out)) (by decide) hg);have n1_:=Aside0.mk (Kd.yhb_ (by (with_reducible repeat (first|apply Kd.yj_|apply Kd.yk_|apply Kd.R_drew));exact HO_7.out) (Kd.ybb_ (by (with_reducible repeat (first|apply Kd.yj_|apply Kd.yk_|apply Kd.R_drew));exact HO_6.out)) (by decide) hg);have n2_:=Aside0.mk (hb);have n3_:=Aside0.mk (ho);clear HO_1;clear HO_7;clear HB;clear HO_6;have HO_1:=n0_;have HO_7:=n1_;have HB:=n2_;have HO435:=n3_;clear n0_ n1_ n2_ n3_;clear ho hb hg hat;have hcv28:=own_string (P:=Tryz.prog) Tryz.underlying129 Tryz.underlying5 Tryz.underlying9 (Kd.own_of_R HO435.out)))
    go_ret2
    exact⟨_,by first|rfl|(simp [yr_,ys_] <;> rfl)|(simp [*,yr_,ys_] <;> rfl),by (with_reducible repeat (first|apply Kd.yj_|apply Kd.yk_|apply Kd.R_drew));exact Kd.R_mono HO_7.out (fun _ hk=>trivial),by repeat (with_reducible first|exact HB.out|apply yc_|apply ya_|apply yb_)⟩
   rw[if_pos c5] at H
   have c5b0:decide (x9_1 < (t416.length:Int))=true:=decide_eq_true c5
   clear c5
   by_cases c6:0≤x9_1
   rotate_left
   ·rw[if_neg c6] at H
    exact absurd H (by simp)
   rw[if_pos c6] at H
   have c6b0:decide (0≤x9_1)=true:=decide_eq_true c6
   clear c6
   by_cases c7:0≤x8_1
   rotate_left
   ·rw[if_neg c7] at H
    exact absurd H (by simp)
   rw[if_pos c7] at H
   have c7b0:=eq_true c7
   have c7b1:decide (0≤x8_1)=true:=decide_eq_true c7
   clear c7
   by_cases c8:x8_1≤((rd_T91 t416 x9_1).f0)
   rotate_left
   ·rw[if_neg c8] at H
    exact absurd H (by simp)
   rw[if_pos c8] at H
   have c8b0:=eq_true c8
   have c8b1:decide (x8_1≤((rd_T91 t416 x9_1).f0))=true:=decide_eq_true c8
   clear c8
   by_cases c9:((rd_T91 t416 x9_1).f0)≤(a0.size:Int)
   rotate_left
   ·rw[if_neg c9] at H
    exact absurd H (by simp)
   rw[if_pos c9] at H
   have c9b0:=eq_true c9
   have c9b1:decide (((rd_T91 t416 x9_1).f0)≤(a0.size:Int))=true:=decide_eq_true c9
   clear c9
   by_cases c10:x6_1.length+(a0.extract (x8_1:Int).toNat (((rd_T91 t416 x9_1).f0):Int).toNat).size < 140737488355328
   rotate_left
   ·rw[if_neg c10] at H
    exact absurd H (by simp)
   rw[if_pos c10] at H
   have LMc10:=Aside0.mk c10
   clear c10
   obtain⟨y420,hy420⟩:∃ y_:List Int,y_=(x6_1++bytesOf (a0.extract (x8_1:Int).toNat (((rd_T91 t416 x9_1).f0):Int).toNat)):=⟨_,rfl⟩
   replace H:(if y420.length+((rd_T91 t416 x9_1).f2).size < 140737488355328 then ((some (y420++bytesOf ((rd_T91 t416 x9_1).f2):List Int)).bind fun y424=>(if 0≤((rd_T91 t416 x9_1).f0) then (if ((rd_T91 t416 x9_1).f0)≤((rd_T91 t416 x9_1).f1) then (if ((rd_T91 t416 x9_1).f1)≤(a0.size:Int) then (if x7_1.length < 4398046511104 then (yy_.l0 k1 a0 t416 y424 (x7_1++[(⟨(y420.length:Int),(y424.length:Int),a0.extract (((rd_T91 t416 x9_1).f0):Int).toNat (((rd_T91 t416 x9_1).f1):Int).toNat⟩:S91)]) ((rd_T91 t416 x9_1).f1) (wrap64 (x9_1+1))) else (none)) else (none)) else (none)) else (none))) else (none))=some (r1,r2):=by first|(rw[hy420];with_reducible exact H)|(have H2_:=(Option.bind_some _ _).symm.trans H;rw[hy420];with_reducible exact H2_)|(have H2_:=(Option.bind_some _ _).symm.trans H;with_reducible exact H2_)|with_reducible exact H|(rw[hy420];exact H)|exact H
   have Ny420:=Aside0.mk hy420
   clear hy420
   by_cases c11:y420.length+((rd_T91 t416 x9_1).f2).size < 140737488355328
   rotate_left
   ·rw[if_neg c11] at H
    exact absurd H (by simp)
   rw[if_pos c11] at H
   have LMc11:=Aside0.mk c11
   clear c11
   obtain⟨y424,hy424⟩:∃ y_:List Int,y_=(y420++bytesOf ((rd_T91 t416 x9_1).f2)):=⟨_,rfl⟩
   replace H:(if 0≤((rd_T91 t416 x9_1).f0) then (if ((rd_T91 t416 x9_1).f0)≤((rd_T91 t416 x9_1).f1) then (if ((rd_T91 t416 x9_1).f1)≤(a0.size:Int) then (if x7_1.length < 4398046511104 then (yy_.l0 k1 a0 t416 y424 (x7_1++[(⟨(y420.length:Int),(y424.length:Int),a0.extract (((rd_T91 t416 x9_1).f0):Int).toNat (((rd_T91 t416 x9_1).f1):Int).toNat⟩:S91)]) ((rd_T91 t416 x9_1).f1) (wrap64 (x9_1+1))) else (none)) else (none)) else (none)) else (none))=some (r1,r2):=by first|(rw[hy424];with_reducible exact H)|(have H2_:=(Option.bind_some _ _).symm.trans H;rw[hy424];with_reducible exact H2_)|(have H2_:=(Option.bind_some _ _).symm.trans H;with_reducible exact H2_)|with_reducible exact H|(rw[hy424];exact H)|exact H
   have Ny424:=Aside0.mk hy424
   clear hy424
   by_cases c12:0≤((rd_T91 t416 x9_1).f0)
   rotate_left
   ·rw[if_neg c12] at H
    exact absurd H (by simp)
   rw[if_pos c12] at H
   have c12b0:=eq_true c12
   have c12b1:decide (0≤((rd_T91 t416 x9_1).f0))=true:=decide_eq_true c12
   clear c12
   by_cases c13:((rd_T91 t416 x9_1).f0)≤((rd_T91 t416 x9_1).f1)
   rotate_left
   ·rw[if_neg c13] at H
    exact absurd H (by simp)
   rw[if_pos c13] at H
   have c13b0:=eq_true c13
   have c13b1:decide (((rd_T91 t416 x9_1).f0)≤((rd_T91 t416 x9_1).f1))=true:=decide_eq_true c13
   clear c13
   by_cases c14:((rd_T91 t416 x9_1).f1)≤(a0.size:Int)
   rotate_left
   ·rw[if_neg c14] at H
    exact absurd H (by simp)
   rw[if_pos c14] at H
   have c14b0:=eq_true c14
   have c14b1:decide (((rd_T91 t416 x9_1).f1)≤(a0.size:Int))=true:=decide_eq_true c14
   clear c14
   by_cases c15:x7_1.length < 4398046511104
   rotate_left
   ·rw[if_neg c15] at H
    exact absurd H (by simp)
   rw[if_pos c15] at H
   have LMc15:=Aside0.mk c15
   clear c15
   obtain⟨y429,hy429⟩:∃ y_:List (S91),y_=(x7_1++[(⟨(y420.length:Int),(y424.length:Int),a0.extract (((rd_T91 t416 x9_1).f0):Int).toNat (((rd_T91 t416 x9_1).f1):Int).toNat⟩:S91)]):=⟨_,rfl⟩
   replace H:(yy_.l0 k1 a0 t416 y424 y429 ((rd_T91 t416 x9_1).f1) (wrap64 (x9_1+1)))=some (r1,r2):=by first|(rw[hy429];with_reducible exact H)|(have H2_:=(Option.bind_some _ _).symm.trans H;rw[hy429];with_reducible exact H2_)|(have H2_:=(Option.bind_some _ _).symm.trans H;with_reducible exact H2_)|with_reducible exact H|(rw[hy429];exact H)|exact H
   have Ny429:=Aside0.mk hy429
   clear hy429
   have H':=Aside0.mk H
   clear H
   obtain⟨Ao16,co16,eo16⟩:=Kd.yE_ HO_1.out
   subst eo16
   have p419:0≤(x9_1:Int):=of_decide_eq_true zd_
   have q419:x9_1 < (t416.length:Int):=of_decide_eq_true zd_
   obtain⟨ad419,e419,hx419_0,hx419_1,hx419_2⟩:=at_T91 (Kd.yt_ HO_1.out).2.2 x9_1 p419 q419
   cases e419
   replace p419:=eq_true p419
   replace q419:=eq_true q419
   try go_wp2_with (first|(at_builtin;refine print_append_str (w0:=w) w.heap.size rfl (.tmp 19) _ 129 9 5 rfl Tryz.underlying129 Tryz.underlying9 info5 u6 x6_1 (a0.extract (x8_1:Int).toNat (((rd_T91 t416 x9_1).f0):Int).toNat) rfl rfl ?aO ?aB ?aS ?aL ?_;(case aB=>exact za_);(case aO=>exact (Kd.own_of_R (by (with_reducible repeat (first|apply Kd.yj_|apply Kd.yk_|apply Kd.R_drew));exact HO_6.out)));(case aS=>exact (yp_ za_));(case aL=>have:=LMc10.out;omega);intro v421 w17 ho0 hb hg;have ho:=Kd.R_of_own (h1:=fun _=>rfl) (ok:=fun _=>True) ho0 (fun _ _=>trivial);clear ho0;have hat:=True.intro;rw[← Ny420.out] at ho;change Kd.R (Kd.int .u8) 5 w17 w.heap.size (fun _=>True) v421 y420 at ho;have n0_:=Aside0.mk (Kd.yhb_ (by (with_reducible repeat (first|apply Kd.yj_|apply Kd.yk_|apply Kd.R_drew));exact HO_1.out) (Kd.ybb_ (by (with_reducible repeat (first|apply Kd.yj_|apply Kd.yk_|apply Kd.R_drew));exact HO_6.out)) (by decide) hg);have n1_:=Aside0.mk (Kd.yhb_ (by (with_reducible repeat (first|apply Kd.yj_|apply Kd.yk_|apply Kd.R_drew));exact HO_7.out) (Kd.ybb_ (by (with_reducible repeat (first|apply Kd.yj_|apply Kd.yk_|apply Kd.R_drew));exact HO_6.out)) (by decide) hg);have n2_:=Aside0.mk (hb);have n3_:=Aside0.mk (ho);clear HO_1;clear HO_7;clear HB;clear HO_6;have HO_1:=n0_;have HO_7:=n1_;have HB:=n2_;have HO422:=n3_;clear n0_ n1_ n2_ n3_;clear ho hb hg hat;obtain⟨Ao18,co18,eo18⟩:=Kd.yE_ HO422.out;subst eo18;have p423:0≤(x9_1:Int):=of_decide_eq_true zd_;have q423:x9_1 < (t416.length:Int):=of_decide_eq_true zd_;obtain⟨ad423,e423,hx423_0,hx423_1,hx423_2⟩:=at_T91 (Kd.yt_ HO_1.out).2.2 x9_1 p423 q423;obtain rfl:ad419=ad423:=(by injection e423);replace p423:=eq_true p423;replace q423:=eq_true q423)|(at_builtin;refine print_append_str (w0:=w) w.heap.size rfl (.tmp 31) _ 129 9 5 rfl Tryz.underlying129 Tryz.underlying9 info5 (.slice Ao18 y420.length co18) y420 ((rd_T91 t416 x9_1).f2) rfl rfl ?aO ?aB ?aS ?aL ?_;(case aB=>exact za_);(case aO=>exact (Kd.own_of_R (by (with_reducible repeat (first|apply Kd.yj_|apply Kd.yk_|apply Kd.R_drew));exact HO422.out)));(case aS=>exact (yp_ za_));(case aL=>have:=LMc11.out;omega);intro v425 w19 ho0 hb hg;have ho:=Kd.R_of_own (h1:=fun _=>rfl) (ok:=fun _=>True) ho0 (fun _ _=>trivial);clear ho0;have hat:=True.intro;rw[← Ny424.out] at ho;change Kd.R (Kd.int .u8) 5 w19 w.heap.size (fun _=>True) v425 y424 at ho;have n0_:=Aside0.mk (Kd.yhb_ (by (with_reducible repeat (first|apply Kd.yj_|apply Kd.yk_|apply Kd.R_drew));exact HO_1.out) (Kd.ybb_ (by (with_reducible repeat (first|apply Kd.yj_|apply Kd.yk_|apply Kd.R_drew));exact HO422.out)) (by decide) hg);have n1_:=Aside0.mk (Kd.yhb_ (by (with_reducible repeat (first|apply Kd.yj_|apply Kd.yk_|apply Kd.R_drew));exact HO_7.out) (Kd.ybb_ (by (with_reducible repeat (first|apply Kd.yj_|apply Kd.yk_|apply Kd.R_drew));exact HO422.out)) (by decide) hg);have n2_:=Aside0.mk (hb);have n3_:=Aside0.mk (ho);clear HO_1;clear HO_7;clear HB;clear HO422;have HO_1:=n0_;have HO_7:=n1_;have HB:=n2_;have HO426:=n3_;clear n0_ n1_ n2_ n3_;clear ho hb hg hat))
   have n0_:=Aside0.mk (Kd.R_drew HO_1.out)
   have n1_:=Aside0.mk (Kd.R_drew HO_7.out)
   have n2_:=Aside0.mk (Kd.R_drew HO426.out)
   have n3_:=Aside0.mk (yb_ HB.out)
   clear HO_1
   clear HO_7
   clear HO426
   clear HB
   have HO_1:=n0_
   have HO_7:=n1_
   have HO426:=n2_
   have HB:=n3_
   clear n0_ n1_ n2_ n3_
   obtain⟨Ao21,co21,eo21⟩:=Kd.yE_ HO426.out
   (first|subst eo21|(injection eo21 with f1_ f2_ f3_;have f4_:=f1_.symm;have f5_:=f3_.symm;clear f1_ f2_ f3_;subst f4_;subst f5_))
   have p427:0≤(x9_1:Int):=of_decide_eq_true zd_
   have q427:x9_1 < (t416.length:Int):=of_decide_eq_true zd_
   obtain⟨ad427,e427,hx427_0,hx427_1,hx427_2⟩:=at_T91 (Kd.yt_ HO_1.out).2.2 x9_1 p427 q427
   obtain rfl:ad419=ad427:=(by injection e427)
   replace p427:=eq_true p427
   replace q427:=eq_true q427
   have p428:0≤(x9_1:Int):=of_decide_eq_true zd_
   have q428:x9_1 < (t416.length:Int):=of_decide_eq_true zd_
   obtain⟨ad428,e428,hx428_0,hx428_1,hx428_2⟩:=at_T91 (Kd.yt_ HO_1.out).2.2 x9_1 p428 q428
   obtain rfl:ad419=ad428:=(by injection e428)
   replace p428:=eq_true p428
   replace q428:=eq_true q428
   refine start_ (n:=20) (S:=fun w'=>w'.cell? (ad419.add ((x9_1).toNat * 3))=some (.int .i64 ((rd_T91 t416 x9_1).f0))∧w'.cell? ⟨(ad419.add ((x9_1).toNat * 3)).block,(ad419.add ((x9_1).toNat * 3)).off+1,none⟩=some (.int .i64 ((rd_T91 t416 x9_1).f1))∧w'.cell? ⟨(ad419.add ((x9_1).toNat * 3)).block,(ad419.add ((x9_1).toNat * 3)).off+2,none⟩=some (.string ((rd_T91 t416 x9_1).f2))∧w'.cell? (ad419.add ((x9_1).toNat * 3))=some (.int .i64 ((rd_T91 t416 x9_1).f0))∧w'.cell? ⟨(ad419.add ((x9_1).toNat * 3)).block,(ad419.add ((x9_1).toNat * 3)).off+1,none⟩=some (.int .i64 ((rd_T91 t416 x9_1).f1))∧w'.cell? ⟨(ad419.add ((x9_1).toNat * 3)).block,(ad419.add ((x9_1).toNat * 3)).off+2,none⟩=some (.string ((rd_T91 t416 x9_1).f2))) (ds:=[17,18]) (bA 20 0) ze_ rfl rfl ⟨hx427_0,hx427_1,hx427_2,hx428_0,hx428_1,hx428_2⟩ (fun hHeld=>?_);refine yQ_ yy_.tab11 yy_.bits11 (fun HT_ HW_=>?_)
   generalize w19.drew=w20 at HO_1 HO_7 HO426 HB hx427_0 hx427_1 hx427_2 hx428_0 hx428_1 hx428_2 hHeld ⊢
   refine pu_ 0 38 (bA 20 1) HT_ ?_
   refine pu_ 1 39 (bA 20 3) HT_ ?_
   refine pu_ 2 40 (bA 20 7) HT_ ?_
   refine pu_ 3 41 (bA 20 15) HT_ ?_
   refine pu_ 4 42 (bA 20 31) HT_ ?_
   refine pu_ 5 43 (bA 20 63) HT_ ?_
   refine pu_ 6 44 (bA 20 127) HT_ ?_
   refine pu_ 7 45 (bA 20 255) HT_ ?_
   refine pu_ 8 46 (bA 20 511) HT_ ?_
   refine pu_ 10 48 (bA 20 1535) HT_ ?_
   refine pu_ 11 49 (bA 20 3583) HT_ ?_
   refine pu_ 12 50 (bA 20 7679) HT_ ?_
   refine pu_ 13 51 (bA 20 15871) HT_ ?_
   refine tk_ 9 47 (bA 20 16383) rfl HT_ HW_ hHeld (by rintro w' ⟨s0,s1,s2,s3,s4,s5⟩;go_simp;with_reducible rfl) ?_
   refine tk_ 14 52 (bA 20 32767) rfl HT_ HW_ hHeld (by rintro w' ⟨s0,s1,s2,s3,s4,s5⟩;go_simp;with_reducible rfl) ?_
   refine pu_ 15 53 (bA 20 65535) HT_ ?_
   refine pu_ 16 54 (bA 20 131071) HT_ ?_
   refine last_ (i:=17) (N:=some 55) (bA 20 262143) rfl rfl (one_of HT_.out ze_) (by decide) (fun K hK=>?_)
   refine value_ (w1:=?_) (v:=?_) (by rfl) rfl ?_ ?_
   rotate_left 2
   ·go_simp
    constructor
    ·rfl
    ·rfl
   refine hK.out _ _ ?_
   clear hK K
   refine norm_ (a':=?_) ?_ ?_
   rotate_left
   ·show Act.put _ (some 55) _=_
    simp only[Act.put,q1_,q2_,q3_,i64_w,i32_w]
    rfl
   refine last_ (i:=18) (N:=some 56) (bA 20 524287) rfl rfl (one_of HT_.out ze_) (by decide) (fun K hK=>?_)
   refine Kd.R_append_step k91 (w0:=w) w.heap.size (by rfl) (.tmp 38) (.tmp 55) 68 91 (.agg #[(.int .i64 0),(.int .i64 0),(.string ⟨#[]⟩)]) 32 rfl Tryz.underlying68 info91 rfl (by decide) (by omega) u7 x7_1 (⟨(y420.length:Int),(y424.length:Int),a0.extract (((rd_T91 t416 x9_1).f0):Int).toNat (((rd_T91 t416 x9_1).f1):Int).toNat⟩:S91) [.int .i64 (y420.length:Int),.int .i64 (y424.length:Int),.string (a0.extract (((rd_T91 t416 x9_1).f0):Int).toNat (((rd_T91 t416 x9_1).f1):Int).toNat)] (fun k_=>some k_≠(.slice (some ad419) t416.length co16:Value).ownBlock) (fun _=>False) rfl rfl ?aP (fun _ hk=>hk.elim) ?aF ?aO ?aB ?aS ?aL ?_
   (case aP=>exact yQb_ _ _ _ (⟨(y420.length:Int),(y424.length:Int),a0.extract (((rd_T91 t416 x9_1).f0):Int).toNat (((rd_T91 t416 x9_1).f1):Int).toNat⟩:S91))
   (case aB=>exact za_)
   (case aF=>exact (fun k_ hk=>Kd.fresh' (Kd.R_lt (by (with_reducible repeat (first|apply Kd.yj_|apply Kd.yk_|apply Kd.R_drew));exact HO_1.out)) k_ hk))
   (case aO=>exact (by (with_reducible repeat (first|apply Kd.yj_|apply Kd.yk_|apply Kd.R_drew));exact HO_7.out))
   (case aS=>exact (yp_ za_))
   (case aL=>have:=LMc15.out;omega)
   intro v430 w22 ho hb hg hat
   rw[← Ny429.out] at ho
   have n0_:=Aside0.mk (Kd.R_after (ok:=(fun _=>True)) (by (with_reducible repeat (first|apply Kd.yj_|apply Kd.yk_|apply Kd.R_drew));exact Kd.R_mono HO_1.out (fun _ hk=>⟨trivial,hk⟩)) hg hat)
   have n1_:=Aside0.mk (Kd.yhb_ (by (with_reducible repeat (first|apply Kd.yj_|apply Kd.yk_|apply Kd.R_drew));exact HO426.out) (Kd.ybb_ (by (with_reducible repeat (first|apply Kd.yj_|apply Kd.yk_|apply Kd.R_drew));exact HO_7.out)) (by decide) hg)
   have n2_:=Aside0.mk (hb)
   have n3_:=Aside0.mk (ho)
   clear HO_1
   clear HO426
   clear HB
   clear HO_7
   have HO_1:=n0_
   have HO426:=n1_
   have HB:=n2_
   have HO431:=n3_
   clear n0_ n1_ n2_ n3_
   clear ho hb hg hat
   refine hK.out _ _ ?_
   clear hK K
   refine norm_ (a':=?_) ?_ ?_
   rotate_left
   ·show Act.put _ (some 56) _=_
    simp only[Act.put,q1_,q2_,q3_,i64_w,i32_w]
    rfl
   refine pu_ 19 7 (bA 20 1048575) HT_ ?_
   refine done_ (ycb_ HT_.out ze_) ?_
   have p432:0≤(x9_1:Int):=of_decide_eq_true zd_
   have q432:x9_1 < (t416.length:Int):=of_decide_eq_true zd_
   obtain⟨ad432,e432,hx432_0,hx432_1,hx432_2⟩:=at_T91 (Kd.yt_ HO_1.out).2.2 x9_1 p432 q432
   obtain rfl:ad419=ad432:=(by injection e432)
   replace p432:=eq_true p432
   replace q432:=eq_true q432
   try go_wp2
   go_roundg k1
   case measure=>have:=HK1.out;omega
   case rel=>exact⟨(y424),(y429),((rd_T91 t416 x9_1).f1),(wrap64 (x9_1+1)),zc_,zc_,H',⟨by have:=HK1.out;omega⟩,⟨by (with_reducible repeat (first|apply Kd.yj_|apply Kd.yk_|apply Kd.R_drew));exact Kd.R_mono HO_1.out (fun _ hk=>hk.2)⟩,⟨by (with_reducible repeat (first|apply Kd.yj_|apply Kd.yk_|apply Kd.R_drew));exact HO426.out⟩,⟨by (with_reducible repeat (first|apply Kd.yj_|apply Kd.yk_|apply Kd.R_drew));exact HO431.out⟩,⟨by repeat (with_reducible first|exact HB.out|apply yc_|apply ya_|apply yb_)⟩⟩

end Go.Proofs.YthimblhfjfngiaaGreat.PText

namespace Go.Proofs.YthimblhfjfngiaaGreat.PText
open Go.RowKit Go.Proofs.YthimblhfjfngiaaGreatW.PrintWords Go.Proofs.YthimblhfjfngiaaGreatW.PrintLast Go.Proofs.YthimblhfjfngiaaGreatW.PrintMore
attribute [local go_sem] yT_ yU_ y5_ y6_ yI_ yJ_ yV_ yW_   -- for this text's walks alone
set_option linter.unusedVariables false
set_option linter.unusedSimpArgs false

def yN_.f (k:Nat) (a0:ByteArray) (l1:List (S91)):Option (ByteArray × Int):=(yg_.f k a0 l1).bind fun t436=>(if t436=0 then ((yy_.f k a0 l1).bind fun bt437=>(if (bt437.1.size:Int) > 200000 then (some ((⟨#[]⟩:ByteArray),2)) else (some (bt437.1,0)))) else (some ((⟨#[]⟩:ByteArray),t436)))
set_option maxHeartbeats 8000000 in
set_option maxRecDepth 100000 in
theorem yN_.calls (k:Nat) (a0:ByteArray) (A1:Option Addr) (c1:Nat) (l1:List (S91)) (r1:ByteArray) (r2:Int) (w:World) (hr1:Kd.C k91 w A1 l1.length l1) (hc1:l1.length≤c1) (h:yN_.f k a0 l1=some (r1,r2)) :
  Calls Tryz.prog 64 #[.string a0,.slice A1 l1.length c1] w fun e w'=>e=.returned (.tuple #[.string r1,.int .i64 r2])∧Below w.heap.size w w':=by
 have HR1:=Aside0.mk hr1
 have HC1:=Aside0.mk hc1
 clear hr1 hc1
 have HB:=Aside0.mk (Below.refl w.heap.size w)
 have H:((yg_.f k a0 l1).bind fun t436=>(if t436=0 then ((yy_.f k a0 l1).bind fun bt437=>(if (bt437.1.size:Int) > 200000 then (some ((⟨#[]⟩:ByteArray),2)) else (some (bt437.1,0)))) else (some ((⟨#[]⟩:ByteArray),t436))))=some (r1,r2):=h
 clear h
 replace H:=Option.bind_eq_some_iff.mp H
 obtain⟨t436,A30,H⟩:=H
 replace H:(if t436=0 then ((yy_.f k a0 l1).bind fun bt437=>(if (bt437.1.size:Int) > 200000 then (some ((⟨#[]⟩:ByteArray),2)) else (some (bt437.1,0)))) else (some ((⟨#[]⟩:ByteArray),t436)))=some (r1,r2):=H
 have A3:=Aside0.mk A30
 clear A30
 by_cases c4:t436=0
 rotate_left
 ·rw[if_neg c4] at H
  have c4b0:(t436 == 0)=false:=beq_eq_false_iff_ne.mpr c4
  have c4b1:(t436 != 0)=true:=bne_iff_ne.mpr c4
  simp only[Option.some.injEq,Prod.mk.injEq] at H
  obtain⟨rfl,rfl⟩:=H
  go_enter Tryz.func64,Tryz.ntmps64
  go_wp2_with (first|((with_reducible refine yA_ (f:=80) rfl ?_);refine goesL_ (some 11) rfl rfl Tryz.func80 ze_ rfl #[.string a0,.slice A1 l1.length c1] rfl zb_ ?_;(with_reducible refine (yg_.calls k a0 _ _ l1 t436 _ ?side1 ?side2 A3.out).mono ?_);(case side1=>repeat (first|exact HR1.out|(with_reducible refine Kd.yM_ ?_ _)|(with_reducible refine Kd.yY_ ?_ _)|(with_reducible refine Kd.C_drew ?_)));(case side2=>exact HC1.out);rintro e w11 ⟨rfl,hb⟩;refine⟨_,rfl,?_⟩;have n0_:=Aside0.mk (yn_ za_ hb);clear HB;have HB:=n0_;clear n0_;(try clear hb);(try clear hb2);(try clear hk);(try clear hi)))
  go_ret2
  exact⟨by first|rfl|(simp [yr_,ys_] <;> rfl)|(simp [*,yr_,ys_] <;> rfl),by repeat (with_reducible first|exact HB.out|apply yc_|apply ya_|apply yb_)⟩
 rw[if_pos c4] at H
 have c4b0:(t436 == 0)=true:=beq_iff_eq.mpr c4
 have c4b1:(t436 != 0)=false:=bne_eq_false_iff_eq.mpr c4
 clear c4
 replace H:=Option.bind_eq_some_iff.mp H
 obtain⟨⟨t437,t438⟩,A50,H⟩:=H
 replace H:(if (t437.size:Int) > 200000 then (some ((⟨#[]⟩:ByteArray),2)) else (some (t437,0)))=some (r1,r2):=H
 have A5:=Aside0.mk A50
 clear A50
 by_cases c6:(t437.size:Int) > 200000
 ·rw[if_pos c6] at H
  have c6b0:decide (200000 < (t437.size:Int))=true:=decide_eq_true c6
  have c6b1:decide (200000 < t437.size)=true:=decide_eq_true (by omega)
  clear c6
  simp only[Option.some.injEq,Prod.mk.injEq] at H
  obtain⟨rfl,rfl⟩:=H
  go_enter Tryz.func64,Tryz.ntmps64
  go_wp2_with (first|((with_reducible refine yA_ (f:=80) rfl ?_);refine goesL_ (some 11) rfl rfl Tryz.func80 ze_ rfl #[.string a0,.slice A1 l1.length c1] rfl zb_ ?_;(with_reducible refine (yg_.calls k a0 _ _ l1 t436 _ ?side1 ?side2 A3.out).mono ?_);(case side1=>repeat (first|exact HR1.out|(with_reducible refine Kd.yM_ ?_ _)|(with_reducible refine Kd.yY_ ?_ _)|(with_reducible refine Kd.C_drew ?_)));(case side2=>exact HC1.out);rintro e w7 ⟨rfl,hb⟩;refine⟨_,rfl,?_⟩;have n0_:=Aside0.mk (yn_ za_ hb);clear HB;have HB:=n0_;clear n0_;(try clear hb);(try clear hb2);(try clear hk);(try clear hi))|((with_reducible refine yA_ (f:=81) rfl ?_);refine goesL_ (some 18) rfl rfl Tryz.func81 ze_ rfl #[.string a0,.slice A1 l1.length c1] rfl zb_ ?_;(with_reducible refine (yy_.calls k a0 _ _ l1 t437 t438 _ ?side1 ?side2 A5.out).mono ?_);(case side1=>repeat (first|exact (Kd.yR_ HR1.out HB.out)|(with_reducible refine Kd.yM_ ?_ _)|(with_reducible refine Kd.yY_ ?_ _)|(with_reducible refine Kd.C_drew ?_)));(case side2=>exact HC1.out);rintro e w8 ⟨v439,rfl,ho0,hb⟩;refine⟨_,rfl,?_⟩;have n0_:=Aside0.mk (Kd.y0_ ho0 (yp_ za_));have n1_:=Aside0.mk (yn_ za_ hb);clear HB;have HO440:=n0_;have HB:=n1_;clear n0_ n1_;(try clear hb);(try clear hb2);(try clear hk);(try clear hi);(try clear ho0)))
  go_ret2
  exact⟨by first|rfl|(simp [yr_,ys_] <;> rfl)|(simp [*,yr_,ys_] <;> rfl),by repeat (with_reducible first|exact HB.out|apply yc_|apply ya_|apply yb_)⟩
 rw[if_neg c6] at H
 have c6b0:decide (200000 < (t437.size:Int))=false:=decide_eq_false c6
 have c6b1:decide (200000 < t437.size)=false:=decide_eq_false (by omega)
 clear c6
 simp only[Option.some.injEq,Prod.mk.injEq] at H
 obtain⟨rfl,rfl⟩:=H
 go_enter Tryz.func64,Tryz.ntmps64
 go_wp2_with (first|((with_reducible refine yA_ (f:=80) rfl ?_);refine goesL_ (some 11) rfl rfl Tryz.func80 ze_ rfl #[.string a0,.slice A1 l1.length c1] rfl zb_ ?_;(with_reducible refine (yg_.calls k a0 _ _ l1 t436 _ ?side1 ?side2 A3.out).mono ?_);(case side1=>repeat (first|exact HR1.out|(with_reducible refine Kd.yM_ ?_ _)|(with_reducible refine Kd.yY_ ?_ _)|(with_reducible refine Kd.C_drew ?_)));(case side2=>exact HC1.out);rintro e w9 ⟨rfl,hb⟩;refine⟨_,rfl,?_⟩;have n0_:=Aside0.mk (yn_ za_ hb);clear HB;have HB:=n0_;clear n0_;(try clear hb);(try clear hb2);(try clear hk);(try clear hi))|((with_reducible refine yA_ (f:=81) rfl ?_);refine goesL_ (some 18) rfl rfl Tryz.func81 ze_ rfl #[.string a0,.slice A1 l1.length c1] rfl zb_ ?_;(with_reducible refine (yy_.calls k a0 _ _ l1 t437 t438 _ ?side1 ?side2 A5.out).mono ?_);(case side1=>repeat (first|exact (Kd.yR_ HR1.out HB.out)|(with_reducible refine Kd.yM_ ?_ _)|(with_reducible refine Kd.yY_ ?_ _)|(with_reducible refine Kd.C_drew ?_)));(case side2=>exact HC1.out);rintro e w10 ⟨v439,rfl,ho0,hb⟩;refine⟨_,rfl,?_⟩;have n0_:=Aside0.mk (Kd.y0_ ho0 (yp_ za_));have n1_:=Aside0.mk (yn_ za_ hb);clear HB;have HO440:=n0_;have HB:=n1_;clear n0_ n1_;(try clear hb);(try clear hb2);(try clear hk);(try clear hi);(try clear ho0)))
 go_ret2
 exact⟨by first|rfl|(simp [yr_,ys_] <;> rfl)|(simp [*,yr_,ys_] <;> rfl),by repeat (with_reducible first|exact HB.out|apply yc_|apply ya_|apply yb_)⟩

end Go.Proofs.YthimblhfjfngiaaGreat.PText

namespace Go.Proofs.YthimblhfjfngiaaGreat.PText
open Go.RowKit Go.Proofs.YthimblhfjfngiaaGreatW.PrintWords Go.Proofs.YthimblhfjfngiaaGreatW.PrintLast Go.Proofs.YthimblhfjfngiaaGreatW.PrintMore
attribute [local go_sem] yT_ yU_ y5_ y6_ yI_ yJ_ yV_ yW_   -- for this text's walks alone
set_option linter.unusedVariables false
set_option linter.unusedSimpArgs false

def yjb_.f (k:Nat) (a0:ByteArray) (a1:ByteArray) (a2:ByteArray):Option (ByteArray × Int):=(ym_.f k a0 a1 a2).bind fun bt441=>(if bt441.2=0 then (if (bt441.1.length:Int) > 0 then (some ((⟨#[]⟩:ByteArray),250)) else ((ye_.f k a0 a1).bind fun bt445=>((ye_.f k a0 a2).bind fun bt449=>(if bt445.1.length+bt449.1.length < 4398046511104 then ((yN_.f k a0 (bt445.1++bt449.1)).bind fun bt456=>(some (bt456.1,bt456.2))) else (none))))) else (some ((⟨#[]⟩:ByteArray),bt441.2)))
set_option maxHeartbeats 8000000 in
set_option maxRecDepth 100000 in
theorem yjb_.calls (k:Nat) (a0:ByteArray) (a1:ByteArray) (a2:ByteArray) (r1:ByteArray) (r2:Int) (w:World) (h:yjb_.f k a0 a1 a2=some (r1,r2)) :
  Calls Tryz.prog 41 #[.string a0,.string a1,.string a2] w fun e w'=>e=.returned (.tuple #[.string r1,.int .i64 r2])∧Below w.heap.size w w':=by
 have HB:=Aside0.mk (Below.refl w.heap.size w)
 have H:((ym_.f k a0 a1 a2).bind fun bt441=>(if bt441.2=0 then (if (bt441.1.length:Int) > 0 then (some ((⟨#[]⟩:ByteArray),250)) else ((ye_.f k a0 a1).bind fun bt445=>((ye_.f k a0 a2).bind fun bt449=>(if bt445.1.length+bt449.1.length < 4398046511104 then ((yN_.f k a0 (bt445.1++bt449.1)).bind fun bt456=>(some (bt456.1,bt456.2))) else (none))))) else (some ((⟨#[]⟩:ByteArray),bt441.2))))=some (r1,r2):=h
 clear h
 replace H:=Option.bind_eq_some_iff.mp H
 obtain⟨⟨t441,t442⟩,A40,H⟩:=H
 replace H:(if t442=0 then (if (t441.length:Int) > 0 then (some ((⟨#[]⟩:ByteArray),250)) else ((ye_.f k a0 a1).bind fun bt445=>((ye_.f k a0 a2).bind fun bt449=>(if bt445.1.length+bt449.1.length < 4398046511104 then ((yN_.f k a0 (bt445.1++bt449.1)).bind fun bt456=>(some (bt456.1,bt456.2))) else (none))))) else (some ((⟨#[]⟩:ByteArray),t442)))=some (r1,r2):=H
 have A4:=Aside0.mk A40
 clear A40
 by_cases c5:t442=0
 rotate_left
 ·rw[if_neg c5] at H
  have c5b0:(t442 == 0)=false:=beq_eq_false_iff_ne.mpr c5
  have c5b1:(t442 != 0)=true:=bne_iff_ne.mpr c5
  simp only[Option.some.injEq,Prod.mk.injEq] at H
  obtain⟨rfl,rfl⟩:=H
  go_enter Tryz.func41,Tryz.ntmps41
  go_wp2_with (first|((with_reducible refine yA_ (f:=63) rfl ?_);refine goesL_ (some 18) rfl rfl Tryz.func63 ze_ rfl #[.string a0,.string a1,.string a2] rfl zb_ ?_;(with_reducible refine (ym_.calls k a0 a1 a2 t441 t442 _ A4.out).mono ?_);rintro e w21 ⟨v443,rfl,ho0,hb⟩;refine⟨_,rfl,?_⟩;have n0_:=Aside0.mk (Kd.y0_ ho0 (yp_ za_));have n1_:=Aside0.mk (yn_ za_ hb);clear HB;have HO444:=n0_;have HB:=n1_;clear n0_ n1_;(try clear hb);(try clear hb2);(try clear hk);(try clear hi);(try clear ho0)))
  go_ret2
  exact⟨by first|rfl|(simp [yr_,ys_] <;> rfl)|(simp [*,yr_,ys_] <;> rfl),by repeat (with_reducible first|exact HB.out|apply yc_|apply ya_|apply yb_)⟩
 rw[if_pos c5] at H
 have c5b0:(t442 == 0)=true:=beq_iff_eq.mpr c5
 have c5b1:(t442 != 0)=false:=bne_eq_false_iff_eq.mpr c5
 clear c5
 by_cases c6:(t441.length:Int) > 0
 ·rw[if_pos c6] at H
  have c6b0:decide (0 < (t441.length:Int))=true:=decide_eq_true c6
  have c6b1:decide (0 < t441.length)=true:=decide_eq_true (by omega)
  clear c6
  simp only[Option.some.injEq,Prod.mk.injEq] at H
  obtain⟨rfl,rfl⟩:=H
  go_enter Tryz.func41,Tryz.ntmps41
  go_wp2_with (first|((with_reducible refine yA_ (f:=63) rfl ?_);refine goesL_ (some 18) rfl rfl Tryz.func63 ze_ rfl #[.string a0,.string a1,.string a2] rfl zb_ ?_;(with_reducible refine (ym_.calls k a0 a1 a2 t441 t442 _ A4.out).mono ?_);rintro e w7 ⟨v443,rfl,ho0,hb⟩;refine⟨_,rfl,?_⟩;have n0_:=Aside0.mk (Kd.y0_ ho0 (yp_ za_));have n1_:=Aside0.mk (yn_ za_ hb);clear HB;have HO444:=n0_;have HB:=n1_;clear n0_ n1_;(try clear hb);(try clear hb2);(try clear hk);(try clear hi);(try clear ho0);obtain⟨Ao8,co8,eo8⟩:=Kd.yE_ HO444.out;subst eo8))
  go_ret2
  exact⟨by first|rfl|(simp [yr_,ys_] <;> rfl)|(simp [*,yr_,ys_] <;> rfl),by repeat (with_reducible first|exact HB.out|apply yc_|apply ya_|apply yb_)⟩
 rw[if_neg c6] at H
 have c6b0:decide (0 < (t441.length:Int))=false:=decide_eq_false c6
 have c6b1:decide (0 < t441.length)=false:=decide_eq_false (by omega)
 clear c6
 replace H:=Option.bind_eq_some_iff.mp H
 obtain⟨⟨t445,t446⟩,A90,H⟩:=H
 replace H:((ye_.f k a0 a2).bind fun bt449=>(if t445.length+bt449.1.length < 4398046511104 then ((yN_.f k a0 (t445++bt449.1)).bind fun bt456=>(some (bt456.1,bt456.2))) else (none)))=some (r1,r2):=H
 have A9:=Aside0.mk A90
 clear A90
 replace H:=Option.bind_eq_some_iff.mp H
 obtain⟨⟨t449,t450⟩,A100,H⟩:=H
 replace H:(if t445.length+t449.length < 4398046511104 then ((yN_.f k a0 (t445++t449)).bind fun bt456=>(some (bt456.1,bt456.2))) else (none))=some (r1,r2):=H
 have A10:=Aside0.mk A100
 clear A100
 by_cases c11:t445.length+t449.length < 4398046511104
 rotate_left
 ·rw[if_neg c11] at H
  exact absurd H (by simp)
 rw[if_pos c11] at H
 have LMc11:=Aside0.mk c11
 clear c11
 obtain⟨y453,hy453⟩:∃ y_:List (S91),y_=(t445++t449):=⟨_,rfl⟩
 replace H:((yN_.f k a0 y453).bind fun bt456=>(some (bt456.1,bt456.2)))=some (r1,r2):=by first|(rw[hy453];with_reducible exact H)|(have H2_:=(Option.bind_some _ _).symm.trans H;rw[hy453];with_reducible exact H2_)|(have H2_:=(Option.bind_some _ _).symm.trans H;with_reducible exact H2_)|with_reducible exact H|(rw[hy453];exact H)|exact H
 have Ny453:=Aside0.mk hy453
 clear hy453
 replace H:=Option.bind_eq_some_iff.mp H
 obtain⟨⟨t456,t457⟩,A120,H⟩:=H
 replace H:(some (t456,t457))=some (r1,r2):=H
 have A12:=Aside0.mk A120
 clear A120
 simp only[Option.some.injEq,Prod.mk.injEq] at H
 obtain⟨rfl,rfl⟩:=H
 go_enter Tryz.func41,Tryz.ntmps41
 go_wp2_with (first|((with_reducible refine yA_ (f:=63) rfl ?_);refine goesL_ (some 18) rfl rfl Tryz.func63 ze_ rfl #[.string a0,.string a1,.string a2] rfl zb_ ?_;(with_reducible refine (ym_.calls k a0 a1 a2 t441 t442 _ A4.out).mono ?_);rintro e w13 ⟨v443,rfl,ho0,hb⟩;refine⟨_,rfl,?_⟩;have n0_:=Aside0.mk (Kd.y0_ ho0 (yp_ za_));have n1_:=Aside0.mk (yn_ za_ hb);clear HB;have HO444:=n0_;have HB:=n1_;clear n0_ n1_;(try clear hb);(try clear hb2);(try clear hk);(try clear hi);(try clear ho0);obtain⟨Ao14,co14,eo14⟩:=Kd.yE_ HO444.out;subst eo14)|((with_reducible refine yA_ (f:=32) rfl ?_);refine goesL_ (some 30) rfl rfl Tryz.func32 ze_ rfl #[.string a0,.string a1] rfl zb_ ?_;(with_reducible refine (ye_.calls k a0 a1 t445 t446 _ A9.out).mono ?_);rintro e w15 ⟨v447,rfl,ho0,hb⟩;refine⟨_,rfl,?_⟩;have n0_:=Aside0.mk (Kd.yH_ (by (with_reducible repeat (first|apply Kd.yj_|apply Kd.yk_|apply Kd.R_drew));exact HO444.out) hb);have n1_:=Aside0.mk (Kd.y0_ ho0 (yp_ za_));have n2_:=Aside0.mk (yn_ za_ hb);clear HO444;clear HB;have HO444:=n0_;have HO448:=n1_;have HB:=n2_;clear n0_ n1_ n2_;(try clear hb);(try clear hb2);(try clear hk);(try clear hi);(try clear ho0))|((with_reducible refine yA_ (f:=32) rfl ?_);refine goesL_ (some 36) rfl rfl Tryz.func32 ze_ rfl #[.string a0,.string a2] rfl zb_ ?_;(with_reducible refine (ye_.calls k a0 a2 t449 t450 _ A10.out).mono ?_);rintro e w16 ⟨v451,rfl,ho0,hb⟩;refine⟨_,rfl,?_⟩;have n0_:=Aside0.mk (Kd.yH_ (by (with_reducible repeat (first|apply Kd.yj_|apply Kd.yk_|apply Kd.R_drew));exact HO444.out) hb);have n1_:=Aside0.mk (Kd.yVb_ (by (with_reducible repeat (first|apply Kd.yj_|apply Kd.yk_|apply Kd.R_drew));exact HO448.out) (Kd.R_base ho0) hb);have n2_:=Aside0.mk (Kd.y0_ (Kd.R_new' ho0 (Kd.R_lt (by (with_reducible repeat (first|apply Kd.yj_|apply Kd.yk_|apply Kd.R_drew));exact HO448.out))) (yp_ za_));have n3_:=Aside0.mk (yn_ za_ hb);clear HO444;clear HO448;clear HB;have HO444:=n0_;have HO448:=n1_;have HO452:=n2_;have HB:=n3_;clear n0_ n1_ n2_ n3_;(try clear hb);(try clear hb2);(try clear hk);(try clear hi);(try clear ho0);obtain⟨Ao18,co18,eo18⟩:=Kd.yE_ HO452.out;subst eo18)|((with_reducible refine yL_ (b:=.append) (xs:=#[.tmp 40,.tmp 41]) rfl ?_);at_builtin;refine Kd.yxb_ k91 (w0:=w) w.heap.size rfl (.tmp 40) (.tmp 41) 68 91 (.agg #[(.int .i64 0),(.int .i64 0),(.string ⟨#[]⟩)]) 32 rfl Tryz.underlying68 info91 rfl (by decide) (by omega) v447 t445 t449 _ _ _ (fun k_=>some k_≠(.slice Ao18 t449.length co18:Value).ownBlock) (fun _=>False) rfl rfl ?aO ?aR (fun _ _ h=>h) (fun _ h=>h.elim) ?aF ?aB ?aS ?aL ?_;(case aR=>repeat (first|exact (Kd.yt_ HO452.out).2.2|(with_reducible refine Kd.yM_ ?_ _)|(with_reducible refine Kd.yY_ ?_ _)|(with_reducible refine Kd.C_drew ?_)));(case aB=>exact za_);(case aF=>exact (fun k_ hk=>Kd.fresh' (Kd.R_lt (by (with_reducible repeat (first|apply Kd.yj_|apply Kd.yk_|apply Kd.R_drew));exact HO452.out)) k_ hk));(case aO=>exact (by (with_reducible repeat (first|apply Kd.yj_|apply Kd.yk_|apply Kd.R_drew));exact Kd.R_mono HO448.out (fun _ hk=>hk.2)));(case aS=>exact (yp_ za_));(case aL=>have:=LMc11.out;omega);intro v454 w17 ho hb hg hat;rw[← Ny453.out] at ho;have n0_:=Aside0.mk (Kd.yhb_ (by (with_reducible repeat (first|apply Kd.yj_|apply Kd.yk_|apply Kd.R_drew));exact HO444.out) (Kd.ybb_ (by (with_reducible repeat (first|apply Kd.yj_|apply Kd.yk_|apply Kd.R_drew));exact HO448.out)) (by decide) hg);have n1_:=Aside0.mk (Kd.R_after (ok:=(fun _=>True)) (by (with_reducible repeat (first|apply Kd.yj_|apply Kd.yk_|apply Kd.R_drew));exact HO452.out) hg hat);have n2_:=Aside0.mk (hb);have n3_:=Aside0.mk (ho);clear HO444;clear HO452;clear HB;clear HO448;have HO444:=n0_;have HO452:=n1_;have HB:=n2_;have HO455:=n3_;clear n0_ n1_ n2_ n3_;clear ho hb hg hat;obtain⟨Ao19,co19,eo19⟩:=Kd.yE_ HO455.out;subst eo19)|((with_reducible refine yA_ (f:=64) rfl ?_);refine goesL_ (some 43) rfl rfl Tryz.func64 ze_ rfl #[.string a0,.slice Ao19 y453.length co19] rfl zb_ ?_;(with_reducible refine (yN_.calls k a0 _ _ y453 t456 t457 _ ?side1 ?side2 A12.out).mono ?_);(case side1=>repeat (first|exact (Kd.yt_ HO455.out).2.2|(with_reducible refine Kd.yM_ ?_ _)|(with_reducible refine Kd.yY_ ?_ _)|(with_reducible refine Kd.C_drew ?_)));(case side2=>exact (Kd.yt_ HO455.out).2.1);rintro e w20 ⟨rfl,hb⟩;refine⟨_,rfl,?_⟩;have n0_:=Aside0.mk (Kd.yH_ (by (with_reducible repeat (first|apply Kd.yj_|apply Kd.yk_|apply Kd.R_drew));exact HO444.out) hb);have n1_:=Aside0.mk (Kd.yH_ (by (with_reducible repeat (first|apply Kd.yj_|apply Kd.yk_|apply Kd.R_drew));exact HO452.out) hb);have n2_:=Aside0.mk (Kd.yH_ (by (with_reducible repeat (first|apply Kd.yj_|apply Kd.yk_|apply Kd.R_drew));exact HO455.out) hb);have n3_:=Aside0.mk (yn_ za_ hb);clear HO444;clear HO452;clear HO455;clear HB;have HO444:=n0_;have HO452:=n1_;have HO455:=n2_;have HB:=n3_;clear n0_ n1_ n2_ n3_;(try clear hb);(try clear hb2);(try clear hk);(try clear hi)))
 go_ret2
 exact⟨by first|rfl|(simp [yr_,ys_] <;> rfl)|(simp [*,yr_,ys_] <;> rfl),by repeat (with_reducible first|exact HB.out|apply yc_|apply ya_|apply yb_)⟩

end Go.Proofs.YthimblhfjfngiaaGreat.PText

namespace Go.Proofs.YthimblhfjfngiaaGreat.PText
open Go.RowKit Go.Proofs.YthimblhfjfngiaaGreatW.PrintWords Go.Proofs.YthimblhfjfngiaaGreatW.PrintLast Go.Proofs.YthimblhfjfngiaaGreatW.PrintMore
attribute [local go_sem] yT_ yU_ y5_ y6_ yI_ yJ_ yV_ yW_   -- for this text's walks alone
set_option linter.unusedVariables false
set_option linter.unusedSimpArgs false

def yob_.l0:Nat→List Int→List Int→Int→Option (Bool)
 | 0,_,_,_=>none
 | k+1,x0,x1,x5=>if x5 < (x0.length:Int) then (if 0≤x5 then (if x5 < (x1.length:Int) then (if (rd x0 x5)=(rd x1 x5) then (yob_.l0 k x0 x1 (wrap64 (x5+1))) else (some false)) else (none)) else (none)) else (some true)
def yob_.f (k:Nat) (l0:List Int) (l1:List Int):Option (Bool):=if (l0.length:Int)=(l1.length:Int) then (yob_.l0 k l0 l1 0) else (some false)
set_option maxHeartbeats 8000000 in
set_option maxRecDepth 100000 in
theorem yob_.calls (k:Nat) (A0:Option Addr) (c0:Nat) (l0:List Int) (A1:Option Addr) (c1:Nat) (l1:List Int) (r:Bool) (w:World) (hr0:Kd.C (Kd.int .i64) w A0 l0.length l0) (hc0:l0.length≤c0) (hr1:Kd.C (Kd.int .i64) w A1 l1.length l1) (hc1:l1.length≤c1) (h:yob_.f k l0 l1=some r) :
  Calls Tryz.prog 13 #[.slice A0 l0.length c0,.slice A1 l1.length c1] w fun e w'=>e=.returned (.bool r)∧Drawn0 w w':=by
 have HR0:=Aside0.mk hr0
 have HC0:=Aside0.mk hc0
 clear hr0 hc0
 have HR1:=Aside0.mk hr1
 have HC1:=Aside0.mk hc1
 clear hr1 hc1
 have H:(if (l0.length:Int)=(l1.length:Int) then (yob_.l0 k l0 l1 0) else (some false))=some r:=h
 clear h
 by_cases c3:(l0.length:Int)=(l1.length:Int)
 rotate_left
 ·rw[if_neg c3] at H
  have c3b0:((l0.length:Int) == (l1.length:Int))=false:=beq_eq_false_iff_ne.mpr c3
  have c3b1:((l0.length:Int) != (l1.length:Int))=true:=bne_iff_ne.mpr c3
  have c3b2:(l0.length == l1.length)=false:=by first|simpa using c3|(simp at c3 ⊢;omega)
  obtain rfl:=Option.some.inj H
  go_enter Tryz.func13,Tryz.ntmps13
  go_wp2
  repeat (go_quiet (fail);try go_wp2)
  go_ret
  exact⟨by first|rfl|(simp;done)|(simp [*];done),by repeat (first|exact Drawn0.refl _|apply Drawn0.step)⟩
 rw[if_pos c3] at H
 have c3b0:((l0.length:Int) == (l1.length:Int))=true:=beq_iff_eq.mpr c3
 have c3b1:((l0.length:Int) != (l1.length:Int))=false:=bne_eq_false_iff_eq.mpr c3
 have c3b2:(l0.length == l1.length)=true:=by first|simpa using c3|(simp at c3 ⊢;omega)
 clear c3
 have H':=Aside0.mk H
 clear H
 go_enter Tryz.func13,Tryz.ntmps13
 go_wp2
 repeat (go_quiet (fail);try go_wp2)
 try simp only[Act.put,List.setIfInBounds_toArray,List.set_cons_succ,List.set_cons_zero]
 go_loopg [5] k (fun kq v5 w'=>∃ (x5_1:Int),v5=.int .i64 x5_1∧Aside0 (yob_.l0 kq l0 l1 x5_1=some r)∧Aside0 (kq≤k)∧Drawn0 w w')
 case atStart=>exact⟨(0),zc_,H',⟨Nat.le_refl _⟩,by repeat (first|exact Drawn0.refl _|apply Drawn0.step)⟩
 case round =>
  clear H'
  try clear c1
  try clear p2
  try clear c3
  try clear c3b0
  try clear c3b1
  try clear c3b2
  obtain⟨x5_1,rfl,HA,HK1,⟨m1,rfl⟩⟩:=hrel
  cases gk with
  | zero=>exact absurd HA.out (by simp [yob_.l0])
  | succ k1 =>
   have H:=HA.out
   clear HA
   simp only[yob_.l0] at H
   by_cases c4:x5_1 < (l0.length:Int)
   rotate_left
   ·rw[if_neg c4] at H
    have c4b0:decide (x5_1 < (l0.length:Int))=false:=decide_eq_false c4
    clear c4
    obtain rfl:=Option.some.inj H
    go_wp2
    repeat (go_quiet (fail);try go_wp2)
    go_ret
    exact⟨by first|rfl|(simp;done)|(simp [*];done),by repeat (first|exact Drawn0.refl _|apply Drawn0.step)⟩
   rw[if_pos c4] at H
   have c4b0:decide (x5_1 < (l0.length:Int))=true:=decide_eq_true c4
   clear c4
   by_cases c5:0≤x5_1
   rotate_left
   ·rw[if_neg c5] at H
    exact absurd H (by simp)
   rw[if_pos c5] at H
   have c5b0:decide (0≤x5_1)=true:=decide_eq_true c5
   clear c5
   by_cases c6:x5_1 < (l1.length:Int)
   rotate_left
   ·rw[if_neg c6] at H
    exact absurd H (by simp)
   rw[if_pos c6] at H
   have c6b0:decide (x5_1 < (l1.length:Int))=true:=decide_eq_true c6
   clear c6
   by_cases c7:(rd l0 x5_1)=(rd l1 x5_1)
   rotate_left
   ·rw[if_neg c7] at H
    have c7b0:((rd l0 x5_1) == (rd l1 x5_1))=false:=beq_eq_false_iff_ne.mpr c7
    have c7b1:((rd l0 x5_1) != (rd l1 x5_1))=true:=bne_iff_ne.mpr c7
    obtain rfl:=Option.some.inj H
    have p331:0≤(x5_1:Int):=of_decide_eq_true zd_
    have q331:x5_1 < (l0.length:Int):=of_decide_eq_true zd_
    obtain⟨ad331,e331,hx331_0⟩:=Kd.at_int HR0.out x5_1 p331 q331
    cases e331
    replace p331:=eq_true p331
    replace q331:=eq_true q331
    have p332:0≤(x5_1:Int):=of_decide_eq_true zd_
    have q332:x5_1 < (l1.length:Int):=of_decide_eq_true zd_
    obtain⟨ad332,e332,hx332_0⟩:=Kd.at_int HR1.out x5_1 p332 q332
    cases e332
    replace p332:=eq_true p332
    replace q332:=eq_true q332
    go_wp2
    repeat (go_quiet (fail);try go_wp2)
    go_ret
    exact⟨by first|rfl|(simp;done)|(simp [*];done),by repeat (first|exact Drawn0.refl _|apply Drawn0.step)⟩
   rw[if_pos c7] at H
   have c7b0:((rd l0 x5_1) == (rd l1 x5_1))=true:=beq_iff_eq.mpr c7
   have c7b1:((rd l0 x5_1) != (rd l1 x5_1))=false:=bne_eq_false_iff_eq.mpr c7
   clear c7
   have H':=Aside0.mk H
   clear H
   have p331:0≤(x5_1:Int):=of_decide_eq_true zd_
   have q331:x5_1 < (l0.length:Int):=of_decide_eq_true zd_
   obtain⟨ad331,e331,hx331_0⟩:=Kd.at_int HR0.out x5_1 p331 q331
   cases e331
   replace p331:=eq_true p331
   replace q331:=eq_true q331
   have p332:0≤(x5_1:Int):=of_decide_eq_true zd_
   have q332:x5_1 < (l1.length:Int):=of_decide_eq_true zd_
   obtain⟨ad332,e332,hx332_0⟩:=Kd.at_int HR1.out x5_1 p332 q332
   cases e332
   replace p332:=eq_true p332
   replace q332:=eq_true q332
   go_wp2
   repeat (go_quiet (fail);try go_wp2)
   go_roundg k1
   case measure=>have:=HK1.out;omega
   case rel=>exact⟨(wrap64 (x5_1+1)),zc_,H',⟨by have:=HK1.out;omega⟩,by repeat (first|exact Drawn0.refl _|apply Drawn0.step)⟩

end Go.Proofs.YthimblhfjfngiaaGreat.PText

namespace Go.Proofs.YthimblhfjfngiaaGreat.PText
open Go.RowKit Go.Proofs.YthimblhfjfngiaaGreatW.PrintWords Go.Proofs.YthimblhfjfngiaaGreatW.PrintLast Go.Proofs.YthimblhfjfngiaaGreatW.PrintMore
attribute [local go_sem] yT_ yU_ y5_ y6_ yI_ yJ_ yV_ yW_   -- for this text's walks alone
set_option linter.unusedVariables false
set_option linter.unusedSimpArgs false

def yG_.l0:Nat→List (S41)→ByteArray→Int→Option (ByteArray × Bool)
 | 0,_,_,_=>none
 | k+1,x0,x1,x6=>if x6 < (x0.length:Int) then (if 0≤x6 then (if ((rd_T41 x0 x6).f0).toList=x1.toList then (some ((rd_T41 x0 x6).f1,true)) else (yG_.l0 k x0 x1 (wrap64 (x6+1)))) else (none)) else (some ((⟨#[]⟩:ByteArray),false))
def yG_.f (k:Nat) (l0:List (S41)) (a1:ByteArray):Option (ByteArray × Bool):=yG_.l0 k l0 a1 0
set_option maxHeartbeats 8000000 in
set_option maxRecDepth 100000 in
theorem yG_.calls (k:Nat) (A0:Option Addr) (c0:Nat) (l0:List (S41)) (a1:ByteArray) (r1:ByteArray) (r2:Bool) (w:World) (hr0:Kd.C k41 w A0 l0.length l0) (hc0:l0.length≤c0) (h:yG_.f k l0 a1=some (r1,r2)) :
  Calls Tryz.prog 30 #[.slice A0 l0.length c0,.string a1] w fun e w'=>e=.returned (.tuple #[.string r1,.bool r2])∧Drawn0 w w':=by
 have HR0:=Aside0.mk hr0
 have HC0:=Aside0.mk hc0
 clear hr0 hc0
 have H:(yG_.l0 k l0 a1 0)=some (r1,r2):=h
 clear h
 have H':=Aside0.mk H
 clear H
 go_enter Tryz.func30,Tryz.ntmps30
 go_wp2
 try simp only[Act.put,List.setIfInBounds_toArray,List.set_cons_succ,List.set_cons_zero]
 go_loopg [6] k (fun kq v6 w'=>∃ (x6_1:Int),v6=.int .i64 x6_1∧Aside0 (yG_.l0 kq l0 a1 x6_1=some (r1,r2))∧Aside0 (kq≤k)∧Drawn0 w w')
 case atStart=>exact⟨(0),zc_,H',⟨Nat.le_refl _⟩,by repeat (first|exact Drawn0.refl _|apply Drawn0.step)⟩
 case round =>
  clear H'
  try clear p2
  obtain⟨x6_1,rfl,HA,HK1,⟨m1,rfl⟩⟩:=hrel
  cases gk with
  | zero=>exact absurd HA.out (by simp [yG_.l0])
  | succ k1 =>
   have H:=HA.out
   clear HA
   simp only[yG_.l0] at H
   by_cases c3:x6_1 < (l0.length:Int)
   rotate_left
   ·rw[if_neg c3] at H
    have c3b0:decide (x6_1 < (l0.length:Int))=false:=decide_eq_false c3
    clear c3
    simp only[Option.some.injEq,Prod.mk.injEq] at H
    obtain⟨rfl,rfl⟩:=H
    go_wp2
    go_ret2
    exact⟨by first|rfl|(simp;done)|(simp [*];done),by repeat (first|exact Drawn0.refl _|apply Drawn0.step)⟩
   rw[if_pos c3] at H
   have c3b0:decide (x6_1 < (l0.length:Int))=true:=decide_eq_true c3
   clear c3
   by_cases c4:0≤x6_1
   rotate_left
   ·rw[if_neg c4] at H
    exact absurd H (by simp)
   rw[if_pos c4] at H
   have c4b0:decide (0≤x6_1)=true:=decide_eq_true c4
   clear c4
   by_cases c5:((rd_T41 l0 x6_1).f0).toList=a1.toList
   rotate_left
   ·rw[if_neg c5] at H
    have c5b0:(((rd_T41 l0 x6_1).f0).toList == a1.toList)=false:=beq_eq_false_iff_ne.mpr c5
    have c5b1:(((rd_T41 l0 x6_1).f0).toList != a1.toList)=true:=bne_iff_ne.mpr c5
    have H':=Aside0.mk H
    clear H
    have p176:0≤(x6_1:Int):=of_decide_eq_true zd_
    have q176:x6_1 < (l0.length:Int):=of_decide_eq_true zd_
    obtain⟨ad176,e176,hx176_0,hx176_1⟩:=at_T41 HR0.out x6_1 p176 q176
    cases e176
    replace p176:=eq_true p176
    replace q176:=eq_true q176
    go_wp2
    go_roundg k1
    case measure=>have:=HK1.out;omega
    case rel=>exact⟨(wrap64 (x6_1+1)),zc_,H',⟨by have:=HK1.out;omega⟩,by repeat (first|exact Drawn0.refl _|apply Drawn0.step)⟩
   rw[if_pos c5] at H
   have c5b0:(((rd_T41 l0 x6_1).f0).toList == a1.toList)=true:=beq_iff_eq.mpr c5
   have c5b1:(((rd_T41 l0 x6_1).f0).toList != a1.toList)=false:=bne_eq_false_iff_eq.mpr c5
   clear c5
   simp only[Option.some.injEq,Prod.mk.injEq] at H
   obtain⟨rfl,rfl⟩:=H
   have p176:0≤(x6_1:Int):=of_decide_eq_true zd_
   have q176:x6_1 < (l0.length:Int):=of_decide_eq_true zd_
   obtain⟨ad176,e176,hx176_0,hx176_1⟩:=at_T41 HR0.out x6_1 p176 q176
   cases e176
   replace p176:=eq_true p176
   replace q176:=eq_true q176
   have p177:0≤(x6_1:Int):=of_decide_eq_true zd_
   have q177:x6_1 < (l0.length:Int):=of_decide_eq_true zd_
   obtain⟨ad177,e177,hx177_0,hx177_1⟩:=at_T41 HR0.out x6_1 p177 q177
   obtain rfl:ad176=ad177:=(by injection e177)
   replace p177:=eq_true p177
   replace q177:=eq_true q177
   go_wp2
   go_ret2
   exact⟨by first|rfl|(simp;done)|(simp [*];done),by repeat (first|exact Drawn0.refl _|apply Drawn0.step)⟩

end Go.Proofs.YthimblhfjfngiaaGreat.PText

namespace Go.Proofs.YthimblhfjfngiaaGreat.PText
open Go.RowKit Go.Proofs.YthimblhfjfngiaaGreatW.PrintWords Go.Proofs.YthimblhfjfngiaaGreatW.PrintLast Go.Proofs.YthimblhfjfngiaaGreatW.PrintMore
attribute [local go_sem] yT_ yU_ y5_ y6_ yI_ yJ_ yV_ yW_   -- for this text's walks alone
set_option linter.unusedVariables false
set_option linter.unusedSimpArgs false

mutual
def yx_.l0:Nat→List (S41)→List (S41)→Int→Option ((List (S41)))
 | 0,_,_,_=>none
 | k+1,x0,x3,x4=>if x4 < (x0.length:Int) then (if 0≤x4 then (if x3.length < 4398046511104 then ((some (x3++[(⟨(rd_T41 x0 x4).f0,(rd_T41 x0 x4).f1⟩:S41)]:List (S41))).bind fun y107=>(yx_.l1 k x0 y107 x4 (wrap64 ((y107.length:Int) - 1)))) else (none)) else (none)) else (some x3)
def yx_.l1:Nat→List (S41)→List (S41)→Int→Int→Option ((List (S41)))
 | 0,_,_,_,_=>none
 | k+1,x0,x3,x4,x5=>if x5 > 0 then (if 0≤x5 then (if x5 < (x3.length:Int) then (if 0≤(wrap64 (x5 - 1)) then (if (wrap64 (x5 - 1)) < (x3.length:Int) then (if (Op.bytesLess (((rd_T41 x3 x5).f0).toList) (((rd_T41 x3 (wrap64 (x5 - 1))).f0).toList))=true then (yx_.l1 k x0 ((x3.set (x5:Int).toNat (⟨(rd_T41 x3 (wrap64 (x5 - 1))).f0,(rd_T41 x3 (wrap64 (x5 - 1))).f1⟩:S41)).set ((wrap64 (x5 - 1)):Int).toNat (⟨(rd_T41 x3 x5).f0,(rd_T41 x3 x5).f1⟩:S41)) x4 (wrap64 (x5 - 1))) else (yx_.l0 k x0 x3 (wrap64 (x4+1)))) else (none)) else (none)) else (none)) else (none)) else (yx_.l0 k x0 x3 (wrap64 (x4+1)))
end
def yx_.f (k:Nat) (l0:List (S41)):Option ((List (S41))):=yx_.l0 k l0 ([]:List (S41)) 0
set_option maxHeartbeats 8000000 in
set_option maxRecDepth 100000 in
theorem yx_.calls (k:Nat) (A0:Option Addr) (c0:Nat) (l0:List (S41)) (r:List (S41)) (w:World) (hr0:Kd.C k41 w A0 l0.length l0) (hc0:l0.length≤c0) (h:yx_.f k l0=some r) :
  Calls Tryz.prog 47 #[.slice A0 l0.length c0] w fun e w'=>∃ v0_:Value,e=.returned (v0_)∧Kd.R k41 41 w' w.heap.size (fun _=>True) v0_ r∧Below w.heap.size w w':=by
 have hu41:=Tryz.underlying41
 have HR0:=Aside0.mk hr0
 have HC0:=Aside0.mk hc0
 clear hr0 hc0
 have HB:=Aside0.mk (Below.refl w.heap.size w)
 have H:(yx_.l0 k l0 ([]:List (S41)) 0)=some r:=h
 clear h
 have H':=Aside0.mk H
 clear H
 go_enter Tryz.func47,Tryz.ntmps47
 go_wp2
 repeat (go_quiet (fail);try go_wp2)
 try simp only[Act.put,List.setIfInBounds_toArray,List.set_cons_succ,List.set_cons_zero]
 go_loopg [3,4] k (fun kq v3 v4 w'=>∃ (x3_1:List (S41)) (x4_1:Int),v4=.int .i64 x4_1∧Aside0 (yx_.l0 kq l0 x3_1 x4_1=some r)∧Aside0 (kq≤k)∧Aside0 (Kd.R k41 41 w' w.heap.size (fun _=>True) v3 x3_1)∧Aside0 (Below w.heap.size w w'))
 case atStart=>exact⟨(([]:List (S41))),(0),zc_,H',⟨Nat.le_refl _⟩,⟨by first|exact Kd.R_nil _ _ _ _ _|exact Kd.N_nil _ _ _ _ _|exact Kd.V_nil _ _ _ _ _|exact Kd.Q_nil _ _ _ _ _|exact Kd.S_nil _ _ _ _ _⟩,⟨by repeat (with_reducible first|exact HB.out|apply yc_|apply ya_|apply yb_)⟩⟩
 case round =>
  clear H'
  obtain⟨x3_1,x4_1,rfl,HA,HK1,HO_3,HB⟩:=hrel
  cases gk with
  | zero=>exact absurd HA.out (by simp [yx_.l0])
  | succ k1 =>
   have H:=HA.out
   clear HA
   simp only[yx_.l0] at H
   by_cases c2:x4_1 < (l0.length:Int)
   rotate_left
   ·rw[if_neg c2] at H
    have c2b0:decide (x4_1 < (l0.length:Int))=false:=decide_eq_false c2
    clear c2
    obtain rfl:=Option.some.inj H
    go_wp2
    repeat (go_quiet (fail);try go_wp2)
    go_ret
    exact⟨_,by first|rfl|(simp [yr_,ys_] <;> rfl)|(simp [*,yr_,ys_] <;> rfl),by (with_reducible repeat (first|apply Kd.yj_|apply Kd.yk_|apply Kd.R_drew));exact HO_3.out,by repeat (with_reducible first|exact HB.out|apply yc_|apply ya_|apply yb_)⟩
   rw[if_pos c2] at H
   have c2b0:decide (x4_1 < (l0.length:Int))=true:=decide_eq_true c2
   clear c2
   by_cases c3:0≤x4_1
   rotate_left
   ·rw[if_neg c3] at H
    exact absurd H (by simp)
   rw[if_pos c3] at H
   have c3b0:decide (0≤x4_1)=true:=decide_eq_true c3
   clear c3
   by_cases c4:x3_1.length < 4398046511104
   rotate_left
   ·rw[if_neg c4] at H
    exact absurd H (by simp)
   rw[if_pos c4] at H
   have LMc4:=Aside0.mk c4
   clear c4
   obtain⟨y107,hy107⟩:∃ y_:List (S41),y_=(x3_1++[(⟨(rd_T41 l0 x4_1).f0,(rd_T41 l0 x4_1).f1⟩:S41)]):=⟨_,rfl⟩
   replace H:(yx_.l1 k1 l0 y107 x4_1 (wrap64 ((y107.length:Int) - 1)))=some r:=by first|(rw[hy107];with_reducible exact H)|(have H2_:=(Option.bind_some _ _).symm.trans H;rw[hy107];with_reducible exact H2_)|(have H2_:=(Option.bind_some _ _).symm.trans H;with_reducible exact H2_)|with_reducible exact H|(rw[hy107];exact H)|exact H
   have Ny107:=Aside0.mk hy107
   clear hy107
   have H':=Aside0.mk H
   clear H
   have p106:0≤(x4_1:Int):=of_decide_eq_true zd_
   have q106:x4_1 < (l0.length:Int):=of_decide_eq_true zd_
   obtain⟨ad106,e106,hx106_0,hx106_1⟩:=at_T41 HR0.out x4_1 p106 q106
   cases e106
   replace hx106_0:=(HB.out.cell (World.block_lt_of_cell? w _ hx106_0)).trans hx106_0
   replace hx106_1:=(HB.out.cell (World.block_lt_of_cell? w _ hx106_1)).trans hx106_1
   replace p106:=eq_true p106
   replace q106:=eq_true q106
   go_wp2_with (first|((with_reducible refine yL_ (b:=.append) (xs:=#[.tmp 13,.tmp 18]) rfl ?_);at_builtin;refine Kd.ydb_ k41 (w0:=w) w.heap.size rfl (.tmp 13) (.tmp 18) 37 41 (.agg #[(.string ⟨#[]⟩),(.string ⟨#[]⟩)]) 32 rfl Tryz.underlying37 info41 rfl (by decide) (by omega) u3 x3_1 (⟨(rd_T41 l0 x4_1).f0,(rd_T41 l0 x4_1).f1⟩:S41) [.string ((rd_T41 l0 x4_1).f0),.string ((rd_T41 l0 x4_1).f1)] (fun _=>True) (fun _=>False) rfl rfl ?aP (fun _ hk=>hk.elim) ?aF ?aO ?aB ?aS ?aL ?_;(case aP=>exact k41_mkM _ _ _ (⟨(rd_T41 l0 x4_1).f0,(rd_T41 l0 x4_1).f1⟩:S41));(case aB=>exact za_);(case aF=>exact (fun _ _=>trivial));(case aO=>exact zl_);(case aS=>exact (yp_ za_));(case aL=>have:=LMc4.out;omega);intro v108 w5 ho hb hg hat;rw[← Ny107.out] at ho;have n0_:=Aside0.mk (hb);have n1_:=Aside0.mk (ho);clear HB;clear HO_3;have HB:=n0_;have HO109:=n1_;clear n0_ n1_;clear ho hb hg hat;obtain⟨Ao6,co6,eo6⟩:=Kd.yE_ HO109.out;subst eo6))
   repeat (go_quiet (fail);try go_wp2)
   try simp only[Act.put,List.setIfInBounds_toArray,List.set_cons_succ,List.set_cons_zero]
   go_loopg [5] k1 (fun kq v5 w'=>∃ (x3_2:List (S41)) (x5_2:Int),v5=.int .i64 x5_2∧Aside0 (yx_.l1 kq l0 x3_2 x4_1 x5_2=some r)∧Aside0 (kq≤k1)∧Aside0 (Kd.R k41 41 w' w.heap.size (fun _=>True) (.slice Ao6 y107.length co6) x3_2)∧Aside0 (Below w.heap.size w w'))
   case atStart=>exact⟨(y107),(wrap64 ((y107.length:Int) - 1)),zc_,H',⟨Nat.le_refl _⟩,⟨by (with_reducible repeat (first|apply Kd.yj_|apply Kd.yk_|apply Kd.R_drew));exact HO109.out⟩,⟨by repeat (with_reducible first|exact HB.out|apply yc_|apply ya_|apply yb_)⟩⟩
   case round =>
    clear H'
    try clear p1
    try clear q1
    try clear hx1
    try clear c2
    try clear c2b0
    try clear p2
    try clear c3
    try clear c3b0
    try clear c4
    try clear p6
    try clear hx106_0
    try clear hx106_1
    try clear p106
    try clear q106
    obtain⟨x3_2,x5_2,rfl,HA,HK2,HO_3,HB⟩:=hrel
    have hl3_2:=(Kd.yt_ HO_3.out).1
    rw[hl3_2] at HO_3
    (try simp only[hl3_2])
    cases gk with
    | zero=>exact absurd HA.out (by simp [yx_.l1])
    | succ k2 =>
     have H:=HA.out
     clear HA
     simp only[yx_.l1] at H
     by_cases c7:x5_2 > 0
     rotate_left
     ·rw[if_neg c7] at H
      have c7b0:decide (0 < x5_2)=false:=decide_eq_false c7
      clear c7
      have H':=Aside0.mk H
      clear H
      go_wp2
      repeat (go_quiet (fail);try go_wp2)
      (try simp only[← hl3_2])
      go_roundg k2
      case measure=>have:=HK1.out;have:=HK2.out;omega
      case rel=>exact⟨(x3_2),(wrap64 (x4_1+1)),zc_,H',⟨by have:=HK1.out;have:=HK2.out;omega⟩,⟨by (try simp only[hl3_2]);(with_reducible repeat (first|apply Kd.yj_|apply Kd.yk_|apply Kd.R_drew));exact HO_3.out⟩,⟨by repeat (with_reducible first|exact HB.out|apply yc_|apply ya_|apply yb_)⟩⟩
     rw[if_pos c7] at H
     have c7b0:decide (0 < x5_2)=true:=decide_eq_true c7
     clear c7
     by_cases c8:0≤x5_2
     rotate_left
     ·rw[if_neg c8] at H
      exact absurd H (by simp)
     rw[if_pos c8] at H
     have c8b0:decide (0≤x5_2)=true:=decide_eq_true c8
     clear c8
     by_cases c9:x5_2 < (x3_2.length:Int)
     rotate_left
     ·rw[if_neg c9] at H
      exact absurd H (by simp)
     rw[if_pos c9] at H
     have c9b0:decide (x5_2 < (x3_2.length:Int))=true:=decide_eq_true c9
     clear c9
     obtain⟨ji10,hji10⟩:∃ j_:Int,(wrap64 (x5_2 - 1))=j_:=⟨_,rfl⟩
     replace H:(if 0≤(ji10) then (if (ji10) < (x3_2.length:Int) then (if (Op.bytesLess (((rd_T41 x3_2 x5_2).f0).toList) (((rd_T41 x3_2 (ji10)).f0).toList))=true then (yx_.l1 k2 l0 ((x3_2.set (x5_2:Int).toNat (⟨(rd_T41 x3_2 (ji10)).f0,(rd_T41 x3_2 (ji10)).f1⟩:S41)).set ((ji10):Int).toNat (⟨(rd_T41 x3_2 x5_2).f0,(rd_T41 x3_2 x5_2).f1⟩:S41)) x4_1 ji10) else (yx_.l0 k2 l0 x3_2 (wrap64 (x4_1+1)))) else (none)) else (none))=some r:=by first|(rw[hji10] at H;exact H)|(simp only[hji10] at H ⊢;exact H)
     have hji10w:(IntKind.i64.wrap (x5_2 - 1))=ji10:=(i64_w _).trans hji10
     by_cases c11:0≤(ji10)
     rotate_left
     ·rw[if_neg c11] at H
      exact absurd H (by simp)
     rw[if_pos c11] at H
     have c11b0:decide (0≤(ji10))=true:=decide_eq_true c11
     clear c11
     by_cases c12:(ji10) < (x3_2.length:Int)
     rotate_left
     ·rw[if_neg c12] at H
      exact absurd H (by simp)
     rw[if_pos c12] at H
     have c12b0:decide ((ji10) < (x3_2.length:Int))=true:=decide_eq_true c12
     clear c12
     by_cases c13:(Op.bytesLess (((rd_T41 x3_2 x5_2).f0).toList) (((rd_T41 x3_2 (ji10)).f0).toList))=true
     rotate_left
     ·rw[if_neg c13] at H
      have c13b0:(Op.bytesLess (((rd_T41 x3_2 x5_2).f0).toList) (((rd_T41 x3_2 (ji10)).f0).toList))=false:=by simpa using c13
      clear c13
      have H':=Aside0.mk H
      clear H
      have p110:0≤(x5_2:Int):=of_decide_eq_true zd_
      have q110:x5_2 < (x3_2.length:Int):=of_decide_eq_true zd_
      obtain⟨ad110,e110,hx110_0,hx110_1⟩:=at_T41 (Kd.yt_ HO_3.out).2.2 x5_2 p110 q110
      cases e110
      replace p110:=eq_true p110
      replace q110:=eq_true q110
      have p111:0≤((ji10):Int):=of_decide_eq_true zd_
      have q111:(ji10) < (x3_2.length:Int):=of_decide_eq_true zd_
      obtain⟨ad111,e111,hx111_0,hx111_1⟩:=at_T41 (Kd.yt_ HO_3.out).2.2 (ji10) p111 q111
      obtain rfl:ad110=ad111:=(by injection e111)
      replace p111:=eq_true p111
      replace q111:=eq_true q111
      go_wp2
      repeat (go_quiet (fail);try go_wp2)
      (try simp only[← hl3_2])
      go_roundg k2
      case measure=>have:=HK1.out;have:=HK2.out;omega
      case rel=>exact⟨(x3_2),(wrap64 (x4_1+1)),zc_,H',⟨by have:=HK1.out;have:=HK2.out;omega⟩,⟨by (try simp only[hl3_2]);(with_reducible repeat (first|apply Kd.yj_|apply Kd.yk_|apply Kd.R_drew));exact HO_3.out⟩,⟨by repeat (with_reducible first|exact HB.out|apply yc_|apply ya_|apply yb_)⟩⟩
     rw[if_pos c13] at H
     have c13b0:(Op.bytesLess (((rd_T41 x3_2 x5_2).f0).toList) (((rd_T41 x3_2 (ji10)).f0).toList))=true:=c13
     clear c13
     obtain⟨y115,hy115⟩:∃ y_:List (S41),y_=(x3_2.set (x5_2:Int).toNat (⟨(rd_T41 x3_2 (ji10)).f0,(rd_T41 x3_2 (ji10)).f1⟩:S41)):=⟨_,rfl⟩
     replace H:(yx_.l1 k2 l0 (y115.set ((ji10):Int).toNat (⟨(rd_T41 x3_2 x5_2).f0,(rd_T41 x3_2 x5_2).f1⟩:S41)) x4_1 ji10)=some r:=by first|(rw[hy115];with_reducible exact H)|(have H2_:=(Option.bind_some _ _).symm.trans H;rw[hy115];with_reducible exact H2_)|(have H2_:=(Option.bind_some _ _).symm.trans H;with_reducible exact H2_)|with_reducible exact H|(rw[hy115];exact H)|exact H
     have Ny115:=Aside0.mk hy115
     clear hy115
     obtain⟨y116,hy116⟩:∃ y_:List (S41),y_=(y115.set ((ji10):Int).toNat (⟨(rd_T41 x3_2 x5_2).f0,(rd_T41 x3_2 x5_2).f1⟩:S41)):=⟨_,rfl⟩
     replace H:(yx_.l1 k2 l0 y116 x4_1 ji10)=some r:=by first|(rw[hy116];with_reducible exact H)|(have H2_:=(Option.bind_some _ _).symm.trans H;rw[hy116];with_reducible exact H2_)|(have H2_:=(Option.bind_some _ _).symm.trans H;with_reducible exact H2_)|with_reducible exact H|(rw[hy116];exact H)|exact H
     have Ny116:=Aside0.mk hy116
     clear hy116
     have H':=Aside0.mk H
     clear H
     have p110:0≤(x5_2:Int):=of_decide_eq_true zd_
     have q110:x5_2 < (x3_2.length:Int):=of_decide_eq_true zd_
     obtain⟨ad110,e110,hx110_0,hx110_1⟩:=at_T41 (Kd.yt_ HO_3.out).2.2 x5_2 p110 q110
     cases e110
     replace p110:=eq_true p110
     replace q110:=eq_true q110
     have p111:0≤((ji10):Int):=of_decide_eq_true zd_
     have q111:(ji10) < (x3_2.length:Int):=of_decide_eq_true zd_
     obtain⟨ad111,e111,hx111_0,hx111_1⟩:=at_T41 (Kd.yt_ HO_3.out).2.2 (ji10) p111 q111
     obtain rfl:ad110=ad111:=(by injection e111)
     replace p111:=eq_true p111
     replace q111:=eq_true q111
     have p112:0≤(x5_2:Int):=of_decide_eq_true zd_
     have q112:x5_2 < (x3_2.length:Int):=of_decide_eq_true zd_
     obtain⟨ad112,e112,hx112_0,hx112_1⟩:=at_T41 (Kd.yt_ HO_3.out).2.2 x5_2 p112 q112
     obtain rfl:ad110=ad112:=(by injection e112)
     replace p112:=eq_true p112
     replace q112:=eq_true q112
     go_wp2_with fail
     repeat (go_quiet (fail);try go_wp2_with (first|((with_reducible refine yO_ (N:=6) rfl ?_);refine yS_ ?hg (N:=6) ?hd (cs:=#[.string (⟨#[]⟩:ByteArray),.string (⟨#[]⟩:ByteArray)]) (t:=41) ?hr ?_;(case hd=>rfl);(case hg=>rfl);(case hr=>first|(go_simp;done)|(go_simp;rfl));intro gb113 hg w16 hbox hb;have n0_:=Aside0.mk (Kd.yH_ (Kd.yWb_ zl_ gb113 (Nat.le_of_eq hg.symm)) hb);have n1_:=Aside0.mk (yn_ za_ hb);have n2_:=Aside0.mk (hbox);have n3_:=Aside0.mk ((by rw[hg];exact (yp_ za_):w.heap.size≤gb113));have n4_:=Aside0.mk ((by rw[hg];exact (yp_ za_):w.heap.size≤gb113));clear HO_3;clear HB;have HO_3:=n0_;have HB:=n1_;have BK113:=n2_;have GW113:=n3_;have GE113:=n4_;clear n0_ n1_ n2_ n3_ n4_;clear hb hbox hg;have hcz17_0:w16.cell? ⟨gb113,0,none⟩=some (.string (⟨#[]⟩:ByteArray)):=(yl_ BK113.out 0).trans rfl;have hcz17_1:w16.cell? ⟨gb113,1,none⟩=some (.string (⟨#[]⟩:ByteArray)):=(yl_ BK113.out 1).trans rfl;have hfz17_0:=yi_ BK113.out 0;have hfz17_1:=yi_ BK113.out 1)|((with_reducible refine y7_ (t:=41) (p:=6) rfl ?_);(try (rw[ytb_ w16];generalize hq_:World.drewN w16 _=w16;have n0_:=Aside0.mk (Kd.R_at hq_ HO_3.out);have n1_:=Aside0.mk (blk_at hq_ BK113.out);have n2_:=Aside0.mk (yMb_ hq_ HB.out);clear hq_ HO_3 BK113 HB;have HO_3:=n0_;have BK113:=n1_;have HB:=n2_;clear n0_ n1_ n2_));refine y2_ (t:=41) (p:=6) (v:=?vo_w18) (w1:=((w16.setCell ⟨gb113,0,none⟩ (.string ((rd_T41 x3_2 x5_2).f0))).setCell ⟨gb113,1,none⟩ (.string ((rd_T41 x3_2 x5_2).f1)))) ?hg ?ho ?hn ?hr ?_;(case ho=>rfl);(case hg=>rfl);(case hn=>rfl);(case hr=>first|(go_simp;done)|(go_simp;rfl));intro w18 hw;have n0_:Aside0 (Kd.R k41 41 w18 w.heap.size (fun k_=>k_≠gb113) (.slice (some ad110) x3_2.length co6) x3_2):=⟨(by rw[hw];exact (by (with_reducible repeat (first|apply Kd.yj_|apply Kd.yk_|apply Kd.R_drew));exact Kd.R_mono (Kd.R_far (p:=⟨gb113,1,none⟩) (Kd.R_far (p:=⟨gb113,0,none⟩) (Kd.R_mono HO_3.out (fun k_ hk=>(⟨hk,hk.2⟩:_∧k_≠gb113))) (fun _ hk=>hk.2) (.string ((rd_T41 x3_2 x5_2).f0))) (fun _ hk=>hk.2) (.string ((rd_T41 x3_2 x5_2).f1))) (fun _ hk=>hk.1.2)))⟩;have n1_:Aside0 (w18.heap[gb113]?=some (.cells #[.string ((rd_T41 x3_2 x5_2).f0),.string ((rd_T41 x3_2 x5_2).f1)] 41 (0,0))):=⟨(by rw[hw];exact (by (with_reducible repeat (first|refine yw_ ?_ _|refine yz_ ?_|refine yv_ ?_ _));refine yeb_ (cs:=#[.string ((rd_T41 x3_2 x5_2).f0),.string (⟨#[]⟩:ByteArray)]) ?_ 1 _ rfl;(with_reducible repeat (first|refine yw_ ?_ _|refine yz_ ?_|refine yv_ ?_ _));refine yeb_ (cs:=#[.string (⟨#[]⟩:ByteArray),.string (⟨#[]⟩:ByteArray)]) ?_ 0 _ rfl;(with_reducible repeat (first|refine yw_ ?_ _|refine yz_ ?_|refine yv_ ?_ _));exact BK113.out))⟩;have n2_:Aside0 (Below w.heap.size w w18):=⟨(by rw[hw];exact (by repeat (with_reducible first|exact HB.out|apply yc_|apply ya_|apply yb_|refine yq_ ?_ GE113.out)))⟩;clear hw;clear HO_3;clear BK113;clear HB;have HO_3:=n0_;have BK113:=n1_;have HB:=n2_;clear n0_ n1_ n2_;have p114:0≤((ji10):Int):=of_decide_eq_true zd_;have q114:(ji10) < (x3_2.length:Int):=of_decide_eq_true zd_;obtain⟨ad114,e114,hx114_0,hx114_1⟩:=at_T41 (Kd.yt_ HO_3.out).2.2 (ji10) p114 q114;obtain rfl:ad110=ad114:=(by injection e114);replace p114:=eq_true p114;replace q114:=eq_true q114;have p14:0≤(x5_2:Int):=of_decide_eq_true zd_;have q14:(x5_2:Int) < ((x3_2.length:Int):Int):=of_decide_eq_true zd_;obtain⟨go14,co14,eo14,gb14,gl14,cl14,HG14⟩:=Kd.R_form HO_3.out (by omega);(first|cases eo14|(injection eo14 with ea_ en_ ec_;(first|subst ea_|(injection ea_ with ea_;subst ea_));subst ec_;clear en_));have GB14:=Aside0.mk gb14;have GG14:=Aside0.mk HG14;clear gb14 gl14 HG14;(first|simp only[add_plain] at hx110_0|skip);(first|simp only[add_plain] at hx110_1|skip);(first|simp only[add_plain] at hx111_0|skip);(first|simp only[add_plain] at hx111_1|skip);(first|simp only[add_plain] at hx112_0|skip);(first|simp only[add_plain] at hx112_1|skip);(first|simp only[add_plain] at hx114_0|skip);(first|simp only[add_plain] at hx114_1|skip);obtain⟨ce14,hcl14,hM14,hcc14,hfr14⟩:=Kd.R_elem HO_3.out z41 (x5_2:Int) p14 q14;obtain rfl:=yYb_ hM14;have hx14_0:w18.cell? ⟨go14,(x5_2:Int).toNat * 2,none⟩=some (.string ((rd_T41 x3_2 x5_2).f0)):=hcc14 0 _ rfl;have hx14_1:w18.cell? ⟨go14,(x5_2:Int).toNat * 2+1,none⟩=some (.string ((rd_T41 x3_2 x5_2).f1)):=hcc14 1 _ rfl;have hf14_0:w18.frozen? ⟨go14,(x5_2:Int).toNat * 2,none⟩=false:=hfr14 0;have hf14_1:w18.frozen? ⟨go14,(x5_2:Int).toNat * 2+1,none⟩=false:=hfr14 1;clear hcl14 hcc14 hfr14 hM14;replace p14:=eq_true p14;replace q14:=eq_true q14;have HX19:=Aside0.mk (show Kd.R k41 41 w18 w.heap.size (fun k_=>k_≠gb113) (.slice (some ⟨go14,0,none⟩) x3_2.length co6) x3_2 from zl_);obtain⟨ce19,hcl19,hM19,hcc19,hfr19⟩:=Kd.R_elem HX19.out z41 (x5_2:Int) (of_decide_eq_true zd_) (by have h_:(x5_2:Int) < ((x3_2.length:Int):Int):=of_decide_eq_true zd_;first|exact h_|(have e_:=(Kd.yt_ HO_3.out).1;omega)|simpa using h_);obtain rfl:=yYb_ hM19;have HP19:=Kd.R_seg HX19.out (x5_2:Int) (of_decide_eq_true zd_) (by have h_:(x5_2:Int) < ((x3_2.length:Int):Int):=of_decide_eq_true zd_;first|exact h_|(have e_:=(Kd.yt_ HO_3.out).1;omega)|simpa using h_) (seg:=[.string ((rd_T41 x3_2 (ji10)).f0),.string ((rd_T41 x3_2 (ji10)).f1)]) (j:=0) hcl19 hcc19 (show 2≤2 from by decide) (x':=(⟨(rd_T41 x3_2 (ji10)).f0,(rd_T41 x3_2 (ji10)).f1⟩:S41)) (k41_mkM _ _ _ (⟨(rd_T41 x3_2 (ji10)).f0,(rd_T41 x3_2 (ji10)).f1⟩:S41) ) (fun _ hk=>hk);have hx19_0:=hcc19 0 _ rfl;(try simp only[show (k41).sz=2 from rfl,Nat.mul_one,Nat.add_zero] at hx19_0);have hf19_0:=hfr19 0;(try simp only[show (k41).sz=2 from rfl,Nat.mul_one,Nat.add_zero] at hf19_0);have hx19_1:=hcc19 1 _ rfl;(try simp only[show (k41).sz=2 from rfl,Nat.mul_one,Nat.add_zero] at hx19_1);have hf19_1:=hfr19 1;(try simp only[show (k41).sz=2 from rfl,Nat.mul_one,Nat.add_zero] at hf19_1);clear hcl19 hcc19 hfr19 hM19)|((with_reducible refine y7_ (t:=41) (p:=52) rfl ?_);(try (rw[ytb_ w18];generalize hq_:World.drewN w18 _=w18;have n0_:=Aside0.mk (Kd.R_at hq_ HO_3.out);have n1_:=Aside0.mk (blk_at hq_ BK113.out);have n2_:=Aside0.mk (yMb_ hq_ HB.out);clear hq_ HO_3 BK113 HB;have HO_3:=n0_;have BK113:=n1_;have HB:=n2_;clear n0_ n1_ n2_;(try (have HX19:=Aside0.mk (show Kd.R k41 41 w18 w.heap.size (fun k_=>k_≠gb113) (.slice (some ⟨go14,0,none⟩) x3_2.length co6) x3_2 from zl_)));(try (obtain⟨ce19,hcl19,hM19,hcc19,hfr19⟩:=Kd.R_elem HX19.out z41 (x5_2:Int) (of_decide_eq_true zd_) (by have h_:(x5_2:Int) < ((x3_2.length:Int):Int):=of_decide_eq_true zd_;first|exact h_|(have e_:=(Kd.yt_ HO_3.out).1;omega)|simpa using h_)));(try (obtain rfl:=yYb_ hM19));(try (have HP19:=Kd.R_seg HX19.out (x5_2:Int) (of_decide_eq_true zd_) (by have h_:(x5_2:Int) < ((x3_2.length:Int):Int):=of_decide_eq_true zd_;first|exact h_|(have e_:=(Kd.yt_ HO_3.out).1;omega)|simpa using h_) (seg:=[.string ((rd_T41 x3_2 (ji10)).f0),.string ((rd_T41 x3_2 (ji10)).f1)]) (j:=0) hcl19 hcc19 (show 2≤2 from by decide) (x':=(⟨(rd_T41 x3_2 (ji10)).f0,(rd_T41 x3_2 (ji10)).f1⟩:S41)) (k41_mkM _ _ _ (⟨(rd_T41 x3_2 (ji10)).f0,(rd_T41 x3_2 (ji10)).f1⟩:S41) ) (fun _ hk=>hk)));(try (have hx19_0:=hcc19 0 _ rfl));(try (try simp only[show (k41).sz=2 from rfl,Nat.mul_one,Nat.add_zero] at hx19_0));(try (have hf19_0:=hfr19 0));(try (try simp only[show (k41).sz=2 from rfl,Nat.mul_one,Nat.add_zero] at hf19_0));(try (have hx19_1:=hcc19 1 _ rfl));(try (try simp only[show (k41).sz=2 from rfl,Nat.mul_one,Nat.add_zero] at hx19_1));(try (have hf19_1:=hfr19 1));(try (try simp only[show (k41).sz=2 from rfl,Nat.mul_one,Nat.add_zero] at hf19_1));(try (clear hcl19 hcc19 hfr19 hM19))));refine y2_ (t:=41) (p:=52) (v:=?vo_w20) (w1:=((w18.setCell ⟨go14,(x5_2:Int).toNat * 2,none⟩ (.string ((rd_T41 x3_2 (ji10)).f0))).setCell ⟨go14,(x5_2:Int).toNat * 2+1,none⟩ (.string ((rd_T41 x3_2 (ji10)).f1)))) ?hg ?ho ?hn ?hr ?_;(case ho=>rfl);(case hg=>rfl);(case hn=>rfl);(case hr=>first|(go_simp;done)|(go_simp;rfl));intro w20 hw;have hg:w18.grownBy w20 (some go14):=(by rw[hw];exact HP19.2);have hp_:Kd.R k41 41 w20 w.heap.size (fun k_=>k_≠gb113) (.slice (some ⟨go14,0,none⟩) x3_2.length co6) y115:=(by rw[hw,Ny115.out];exact HP19.1);clear HP19;have n0_:=Aside0.mk (hp_);have n1_:=Aside0.mk (yCb_ (g:=gb113) (o:=.cells #[.string ((rd_T41 x3_2 x5_2).f0),.string ((rd_T41 x3_2 x5_2).f1)] 41 (0,0)) (by (with_reducible repeat (first|refine yw_ ?_ _|refine yz_ ?_|refine yv_ ?_ _));exact BK113.out) hg (Kd.R_away HO_3.out (fun _ hk=>hk)));have n2_:=Aside0.mk ((by rw[hw];exact yq_ (yq_ (HB.out) GB14.out) GB14.out:Below w.heap.size w w20));clear HO_3;clear BK113;clear HB;have HO_3:=n0_;have BK113:=n1_;have HB:=n2_;clear n0_ n1_ n2_;clear hg hw hp_;have hcz21_0:w20.cell? ⟨gb113,0,none⟩=some (.string ((rd_T41 x3_2 x5_2).f0)):=(yl_ BK113.out 0).trans rfl;have hcz21_1:w20.cell? ⟨gb113,1,none⟩=some (.string ((rd_T41 x3_2 x5_2).f1)):=(yl_ BK113.out 1).trans rfl;have hfz21_0:=yi_ BK113.out 0;have hfz21_1:=yi_ BK113.out 1;have p15:0≤((ji10):Int):=of_decide_eq_true zd_;have q15:((ji10):Int) < ((x3_2.length:Int):Int):=of_decide_eq_true zd_;obtain⟨ce15,hcl15,hM15,hcc15,hfr15⟩:=Kd.R_elem HO_3.out z41 ((ji10):Int) p15 q15;obtain rfl:=yYb_ hM15;have hx15_0:w20.cell? ⟨go14,((ji10):Int).toNat * 2,none⟩=some (.string ((rd_T41 y115 (ji10)).f0)):=hcc15 0 _ rfl;have hx15_1:w20.cell? ⟨go14,((ji10):Int).toNat * 2+1,none⟩=some (.string ((rd_T41 y115 (ji10)).f1)):=hcc15 1 _ rfl;have hf15_0:w20.frozen? ⟨go14,((ji10):Int).toNat * 2,none⟩=false:=hfr15 0;have hf15_1:w20.frozen? ⟨go14,((ji10):Int).toNat * 2+1,none⟩=false:=hfr15 1;clear hcl15 hcc15 hfr15 hM15;replace p15:=eq_true p15;replace q15:=eq_true q15;have HX22:=Aside0.mk (show Kd.R k41 41 w20 w.heap.size (fun k_=>k_≠gb113) (.slice (some ⟨go14,0,none⟩) x3_2.length co6) y115 from zl_);obtain⟨ce22,hcl22,hM22,hcc22,hfr22⟩:=Kd.R_elem HX22.out z41 ((ji10):Int) (of_decide_eq_true zd_) (by have h_:((ji10):Int) < ((x3_2.length:Int):Int):=of_decide_eq_true zd_;first|exact h_|(have e_:=(Kd.yt_ HO_3.out).1;omega)|simpa using h_);obtain rfl:=yYb_ hM22;have HP22:=Kd.R_seg HX22.out ((ji10):Int) (of_decide_eq_true zd_) (by have h_:((ji10):Int) < ((x3_2.length:Int):Int):=of_decide_eq_true zd_;first|exact h_|(have e_:=(Kd.yt_ HO_3.out).1;omega)|simpa using h_) (seg:=[.string ((rd_T41 x3_2 x5_2).f0),.string ((rd_T41 x3_2 x5_2).f1)]) (j:=0) hcl22 hcc22 (show 2≤2 from by decide) (x':=(⟨(rd_T41 x3_2 x5_2).f0,(rd_T41 x3_2 x5_2).f1⟩:S41)) (k41_mkM _ _ _ (⟨(rd_T41 x3_2 x5_2).f0,(rd_T41 x3_2 x5_2).f1⟩:S41) ) (fun _ hk=>hk);have hx22_0:=hcc22 0 _ rfl;(try simp only[show (k41).sz=2 from rfl,Nat.mul_one,Nat.add_zero] at hx22_0);have hf22_0:=hfr22 0;(try simp only[show (k41).sz=2 from rfl,Nat.mul_one,Nat.add_zero] at hf22_0);have hx22_1:=hcc22 1 _ rfl;(try simp only[show (k41).sz=2 from rfl,Nat.mul_one,Nat.add_zero] at hx22_1);have hf22_1:=hfr22 1;(try simp only[show (k41).sz=2 from rfl,Nat.mul_one,Nat.add_zero] at hf22_1);clear hcl22 hcc22 hfr22 hM22)|((with_reducible refine y7_ (t:=41) (p:=57) rfl ?_);(try (rw[ytb_ w20];generalize hq_:World.drewN w20 _=w20;have n0_:=Aside0.mk (Kd.R_at hq_ HO_3.out);have n1_:=Aside0.mk (blk_at hq_ BK113.out);have n2_:=Aside0.mk (yMb_ hq_ HB.out);clear hq_ HO_3 BK113 HB;have HO_3:=n0_;have BK113:=n1_;have HB:=n2_;clear n0_ n1_ n2_;(try (have HX22:=Aside0.mk (show Kd.R k41 41 w20 w.heap.size (fun k_=>k_≠gb113) (.slice (some ⟨go14,0,none⟩) x3_2.length co6) y115 from zl_)));(try (obtain⟨ce22,hcl22,hM22,hcc22,hfr22⟩:=Kd.R_elem HX22.out z41 ((ji10):Int) (of_decide_eq_true zd_) (by have h_:((ji10):Int) < ((x3_2.length:Int):Int):=of_decide_eq_true zd_;first|exact h_|(have e_:=(Kd.yt_ HO_3.out).1;omega)|simpa using h_)));(try (obtain rfl:=yYb_ hM22));(try (have HP22:=Kd.R_seg HX22.out ((ji10):Int) (of_decide_eq_true zd_) (by have h_:((ji10):Int) < ((x3_2.length:Int):Int):=of_decide_eq_true zd_;first|exact h_|(have e_:=(Kd.yt_ HO_3.out).1;omega)|simpa using h_) (seg:=[.string ((rd_T41 x3_2 x5_2).f0),.string ((rd_T41 x3_2 x5_2).f1)]) (j:=0) hcl22 hcc22 (show 2≤2 from by decide) (x':=(⟨(rd_T41 x3_2 x5_2).f0,(rd_T41 x3_2 x5_2).f1⟩:S41)) (k41_mkM _ _ _ (⟨(rd_T41 x3_2 x5_2).f0,(rd_T41 x3_2 x5_2).f1⟩:S41) ) (fun _ hk=>hk)));(try (have hx22_0:=hcc22 0 _ rfl));(try (try simp only[show (k41).sz=2 from rfl,Nat.mul_one,Nat.add_zero] at hx22_0));(try (have hf22_0:=hfr22 0));(try (try simp only[show (k41).sz=2 from rfl,Nat.mul_one,Nat.add_zero] at hf22_0));(try (have hx22_1:=hcc22 1 _ rfl));(try (try simp only[show (k41).sz=2 from rfl,Nat.mul_one,Nat.add_zero] at hx22_1));(try (have hf22_1:=hfr22 1));(try (try simp only[show (k41).sz=2 from rfl,Nat.mul_one,Nat.add_zero] at hf22_1));(try (clear hcl22 hcc22 hfr22 hM22))));refine y2_ (t:=41) (p:=57) (v:=?vo_w23) (w1:=((w20.setCell ⟨go14,((ji10):Int).toNat * 2,none⟩ (.string ((rd_T41 x3_2 x5_2).f0))).setCell ⟨go14,((ji10):Int).toNat * 2+1,none⟩ (.string ((rd_T41 x3_2 x5_2).f1)))) ?hg ?ho ?hn ?hr ?_;(case ho=>rfl);(case hg=>rfl);(case hn=>rfl);(case hr=>first|(go_simp;done)|(go_simp;rfl));intro w23 hw;have hg:w20.grownBy w23 (some go14):=(by rw[hw];exact HP22.2);have hp_:Kd.R k41 41 w23 w.heap.size (fun k_=>k_≠gb113) (.slice (some ⟨go14,0,none⟩) x3_2.length co6) y116:=(by rw[hw,Ny116.out];exact HP22.1);clear HP22;have n0_:=Aside0.mk (hp_);have n1_:=Aside0.mk (yCb_ (g:=gb113) (o:=.cells #[.string ((rd_T41 x3_2 x5_2).f0),.string ((rd_T41 x3_2 x5_2).f1)] 41 (0,0)) (by (with_reducible repeat (first|refine yw_ ?_ _|refine yz_ ?_|refine yv_ ?_ _));exact BK113.out) hg (Kd.R_away HO_3.out (fun _ hk=>hk)));have n2_:=Aside0.mk ((by rw[hw];exact yq_ (yq_ (HB.out) GB14.out) GB14.out:Below w.heap.size w w23));clear HO_3;clear BK113;clear HB;have HO_3:=n0_;have BK113:=n1_;have HB:=n2_;clear n0_ n1_ n2_;clear hg hw hp_)))
     (try simp only[← hl3_2])
     go_roundg k2
     case measure=>have:=HK1.out;have:=HK2.out;omega
     case rel=>exact⟨(y116),(ji10),(by first|rfl|(simp;done)|(simp only[← hji10] <;> (first|rfl|simp))|(simp [*];done)),H',⟨by have:=HK1.out;have:=HK2.out;omega⟩,⟨by (try simp only[hl3_2]);(with_reducible repeat (first|apply Kd.yj_|apply Kd.yk_|apply Kd.R_drew));exact Kd.R_mono HO_3.out (fun _ hk=>trivial)⟩,⟨by repeat (with_reducible first|exact HB.out|apply yc_|apply ya_|apply yb_|refine yq_ ?_ GE113.out)⟩⟩

end Go.Proofs.YthimblhfjfngiaaGreat.PText

namespace Go.Proofs.YthimblhfjfngiaaGreat.PText
open Go.RowKit Go.Proofs.YthimblhfjfngiaaGreatW.PrintWords Go.Proofs.YthimblhfjfngiaaGreatW.PrintLast Go.Proofs.YthimblhfjfngiaaGreatW.PrintMore
attribute [local go_sem] yT_ yU_ y5_ y6_ yI_ yJ_ yV_ yW_   -- for this text's walks alone
set_option linter.unusedVariables false
set_option linter.unusedSimpArgs false

mutual
def yo_.l0:Nat→List (S39)→Int→Int→Option (Bool)
 | 0,_,_,_=>none
 | k+1,x0,x3,x4=>if x4 < (x0.length:Int) then (yo_.j1 k x0 x3 x4 (decide (x3≤6000))) else (yo_.j1 k x0 x3 x4 false)
def yo_.j1:Nat→List (S39)→Int→Int→Bool→Option (Bool)
 | 0,_,_,_,_=>none
 | k+1,x0,x3,x4,x13=>if x13=true then (yo_.l1 k x0 x3 x4 0) else (if x3 > 6000 then (some true) else (some (decide ((x0.length:Int) > 30))))
def yo_.l1:Nat→List (S39)→Int→Int→Int→Option (Bool)
 | 0,_,_,_,_=>none
 | k+1,x0,x3,x4,x5=>if 0≤x4 then (if x4 < (x0.length:Int) then (if x5 < (((rd_T39 x0 x4).f1).length:Int) then (if x3≤6000 then (if 0≤x5 then (yo_.l1 k x0 (wrap64 ((wrap64 ((wrap64 (x3+1))+(((rd_T41 ((rd_T39 x0 x4).f1) x5).f0).size:Int)))+(((rd_T41 ((rd_T39 x0 x4).f1) x5).f1).size:Int))) x4 (wrap64 (x5+1))) else (none)) else (yo_.l0 k x0 x3 (wrap64 (x4+1)))) else (yo_.l0 k x0 x3 (wrap64 (x4+1)))) else (none)) else (none)
end
def yo_.f (k:Nat) (l0:List (S39)):Option (Bool):=yo_.l0 k l0 0 0
set_option maxHeartbeats 8000000 in
set_option maxRecDepth 100000 in
theorem yo_.calls (k:Nat) (A0:Option Addr) (c0:Nat) (l0:List (S39)) (r:Bool) (w:World) (hr0:Kd.C k39 w A0 l0.length l0) (hc0:l0.length≤c0) (h:yo_.f k l0=some r) :
  Calls Tryz.prog 7 #[.slice A0 l0.length c0] w fun e w'=>e=.returned (.bool r)∧Drawn0 w w':=by
 have HR0:=Aside0.mk hr0
 have HC0:=Aside0.mk hc0
 clear hr0 hc0
 have H:(yo_.l0 k l0 0 0)=some r:=h
 clear h
 have H':=Aside0.mk H
 clear H
 go_enter Tryz.func7,Tryz.ntmps7
 go_wp2
 repeat (go_quiet (fail);try go_wp2)
 try simp only[Act.put,List.setIfInBounds_toArray,List.set_cons_succ,List.set_cons_zero]
 go_loopg [3,4] k (fun kq v3 v4 w'=>∃ (x3_1:Int) (x4_1:Int),v3=.int .i64 x3_1∧v4=.int .i64 x4_1∧Aside0 (yo_.l0 kq l0 x3_1 x4_1=some r)∧Aside0 (kq≤k)∧Drawn0 w w')
 case atStart=>exact⟨(0),(0),zc_,zc_,H',⟨Nat.le_refl _⟩,by repeat (first|exact Drawn0.refl _|apply Drawn0.step)⟩
 case round =>
  clear H'
  obtain⟨x3_1,x4_1,rfl,rfl,HA,HK1,⟨m1,rfl⟩⟩:=hrel
  cases gk with
  | zero=>exact absurd HA.out (by simp [yo_.l0])
  | succ k1 =>
   have H:=HA.out
   clear HA
   simp only[yo_.l0] at H
   have HC2:=Aside0.mk H
   clear H
   go_upto_region 3 with (fail)
   repeat (go_quiet (fail);go_upto_region 3 with (fail))
   go_cut [13] (fun v13 wc=>∃ (kq:Nat) (x13_1:Bool),v13=.bool x13_1∧Aside0 (yo_.j1 kq l0 x3_1 x4_1 x13_1=some r)∧Aside0 (kq≤k1)∧Drawn0 w wc)
   case first =>
    have H:=HC2.out
    clear HC2
    by_cases c3:x4_1 < (l0.length:Int)
    rotate_left
    ·rw[if_neg c3] at H
     have c3b0:decide (x4_1 < (l0.length:Int))=false:=decide_eq_false c3
     clear c3
     (first|rw[c3b0]|(simp only[i64_w,i32_w];rw[c3b0])|skip)
     have H':=Aside0.mk H
     clear H
     go_wp2
     repeat (go_quiet (fail);try go_wp2)
     go_meet
     case rel=>exact⟨_,(false),zc_,H',⟨by have:=HK1.out;first|omega|exact Nat.le_refl _⟩,by repeat (first|exact Drawn0.refl _|apply Drawn0.step)⟩
    rw[if_pos c3] at H
    have c3b0:decide (x4_1 < (l0.length:Int))=true:=decide_eq_true c3
    clear c3
    (first|rw[c3b0]|(simp only[i64_w,i32_w];rw[c3b0])|skip)
    have H':=Aside0.mk H
    clear H
    go_wp2
    repeat (go_quiet (fail);try go_wp2)
    go_meet
    case rel=>exact⟨_,(decide (x3_1≤6000)),zc_,H',⟨by have:=HK1.out;first|omega|exact Nat.le_refl _⟩,by repeat (first|exact Drawn0.refl _|apply Drawn0.step)⟩
   case rest =>
    clear HC2
    try clear p2
    try clear c3
    try clear c3b0
    obtain⟨kq,x13_1,rfl,HA,HJ1,⟨mc1,rfl⟩⟩:=hcut
    cases kq with
    | zero=>exact absurd HA.out (by simp [yo_.j1])
    | succ kj1 =>
     have H:=HA.out
     clear HA
     simp only[yo_.j1] at H
     by_cases c4:x13_1=true
     rotate_left
     ·replace c4:=Bool.eq_false_iff.mpr c4
      subst c4
      have H1:(if x3_1 > 6000 then (some true) else (some (decide ((l0.length:Int) > 30))))=some r:=by rw[if_neg (show ¬ (false=true) by decide)] at H;exact H
      clear H
      have H:=H1
      clear H1
      by_cases c10:x3_1 > 6000
      ·rw[if_pos c10] at H
       have c10b0:decide (6000 < x3_1)=true:=decide_eq_true c10
       clear c10
       obtain rfl:=Option.some.inj H
       go_wp2
       repeat (go_quiet (fail);try go_wp2)
       go_ret
       exact⟨by first|rfl|(simp;done)|(simp [*];done),by repeat (first|exact Drawn0.refl _|apply Drawn0.step)⟩
      rw[if_neg c10] at H
      have c10b0:decide (6000 < x3_1)=false:=decide_eq_false c10
      clear c10
      obtain rfl:=Option.some.inj H
      go_wp2
      repeat (go_quiet (fail);try go_wp2)
      go_ret
      exact⟨by first|rfl|(simp;done)|(simp [*];done),by repeat (first|exact Drawn0.refl _|apply Drawn0.step)⟩
     subst c4
     have H1:(yo_.l1 kj1 l0 x3_1 x4_1 0)=some r:=by rw[if_pos rfl] at H;exact H
     clear H
     have H:=H1
     clear H1
     have H':=Aside0.mk H
     clear H
     go_wp2
     repeat (go_quiet (fail);try go_wp2)
     try simp only[Act.put,List.setIfInBounds_toArray,List.set_cons_succ,List.set_cons_zero]
     go_loopg [3,5] kj1 (fun kq v3 v5 w'=>∃ (x3_3:Int) (x5_3:Int),v3=.int .i64 x3_3∧v5=.int .i64 x5_3∧Aside0 (yo_.l1 kq l0 x3_3 x4_1 x5_3=some r)∧Aside0 (kq≤kj1)∧Drawn0 w w')
     case atStart=>exact⟨(x3_1),(0),zc_,zc_,H',⟨Nat.le_refl _⟩,by repeat (first|exact Drawn0.refl _|apply Drawn0.step)⟩
     case round =>
      clear H'
      try clear c1
      try clear p2
      try clear c3
      try clear c3b0
      try clear c4
      try clear p2
      obtain⟨x3_3,x5_3,rfl,rfl,HA,HK3,⟨m3,rfl⟩⟩:=hrel
      cases gk with
      | zero=>exact absurd HA.out (by simp [yo_.l1])
      | succ k3 =>
       have H:=HA.out
       clear HA
       simp only[yo_.l1] at H
       by_cases c5:0≤x4_1
       rotate_left
       ·rw[if_neg c5] at H
        exact absurd H (by simp)
       rw[if_pos c5] at H
       have c5b0:decide (0≤x4_1)=true:=decide_eq_true c5
       clear c5
       by_cases c6:x4_1 < (l0.length:Int)
       rotate_left
       ·rw[if_neg c6] at H
        exact absurd H (by simp)
       rw[if_pos c6] at H
       have c6b0:decide (x4_1 < (l0.length:Int))=true:=decide_eq_true c6
       clear c6
       by_cases c7:x5_3 < (((rd_T39 l0 x4_1).f1).length:Int)
       rotate_left
       ·rw[if_neg c7] at H
        have c7b0:decide (x5_3 < (((rd_T39 l0 x4_1).f1).length:Int))=false:=decide_eq_false c7
        clear c7
        have H':=Aside0.mk H
        clear H
        have p101:0≤(x4_1:Int):=of_decide_eq_true zd_
        have q101:x4_1 < (l0.length:Int):=of_decide_eq_true zd_
        obtain⟨ad101,A101_1,c101_1,e101,hx101_0,hx101_1,hl101_1,hi101_1⟩:=at_T39 HR0.out x4_1 p101 q101
        cases e101
        have HR101_1:=Aside0.mk hi101_1
        have HC101_1:=Aside0.mk hl101_1
        clear hi101_1 hl101_1
        replace p101:=eq_true p101
        replace q101:=eq_true q101
        go_wp2
        repeat (go_quiet (fail);try go_wp2)
        go_roundg k3
        case measure=>have:=HK1.out;have:=HJ1.out;have:=HK3.out;omega
        case rel=>exact⟨(x3_3),(wrap64 (x4_1+1)),zc_,zc_,H',⟨by have:=HK1.out;have:=HJ1.out;have:=HK3.out;omega⟩,by repeat (first|exact Drawn0.refl _|apply Drawn0.step)⟩
       rw[if_pos c7] at H
       have c7b0:decide (x5_3 < (((rd_T39 l0 x4_1).f1).length:Int))=true:=decide_eq_true c7
       clear c7
       by_cases c8:x3_3≤6000
       rotate_left
       ·rw[if_neg c8] at H
        have c8b0:decide (x3_3≤6000)=false:=decide_eq_false c8
        clear c8
        have H':=Aside0.mk H
        clear H
        have p101:0≤(x4_1:Int):=of_decide_eq_true zd_
        have q101:x4_1 < (l0.length:Int):=of_decide_eq_true zd_
        obtain⟨ad101,A101_1,c101_1,e101,hx101_0,hx101_1,hl101_1,hi101_1⟩:=at_T39 HR0.out x4_1 p101 q101
        cases e101
        have HR101_1:=Aside0.mk hi101_1
        have HC101_1:=Aside0.mk hl101_1
        clear hi101_1 hl101_1
        replace p101:=eq_true p101
        replace q101:=eq_true q101
        go_wp2
        repeat (go_quiet (fail);try go_wp2)
        go_roundg k3
        case measure=>have:=HK1.out;have:=HJ1.out;have:=HK3.out;omega
        case rel=>exact⟨(x3_3),(wrap64 (x4_1+1)),zc_,zc_,H',⟨by have:=HK1.out;have:=HJ1.out;have:=HK3.out;omega⟩,by repeat (first|exact Drawn0.refl _|apply Drawn0.step)⟩
       rw[if_pos c8] at H
       have c8b0:decide (x3_3≤6000)=true:=decide_eq_true c8
       clear c8
       by_cases c9:0≤x5_3
       rotate_left
       ·rw[if_neg c9] at H
        exact absurd H (by simp)
       rw[if_pos c9] at H
       have c9b0:decide (0≤x5_3)=true:=decide_eq_true c9
       clear c9
       have H':=Aside0.mk H
       clear H
       have p101:0≤(x4_1:Int):=of_decide_eq_true zd_
       have q101:x4_1 < (l0.length:Int):=of_decide_eq_true zd_
       obtain⟨ad101,A101_1,c101_1,e101,hx101_0,hx101_1,hl101_1,hi101_1⟩:=at_T39 HR0.out x4_1 p101 q101
       cases e101
       have HR101_1:=Aside0.mk hi101_1
       have HC101_1:=Aside0.mk hl101_1
       clear hi101_1 hl101_1
       replace p101:=eq_true p101
       replace q101:=eq_true q101
       have p102:0≤(x4_1:Int):=of_decide_eq_true zd_
       have q102:x4_1 < (l0.length:Int):=of_decide_eq_true zd_
       obtain⟨ad102,A102_1,c102_1,e102,hx102_0,hx102_1,hl102_1,hi102_1⟩:=at_T39 HR0.out x4_1 p102 q102
       obtain rfl:ad101=ad102:=(by injection e102)
       have HR102_1:=Aside0.mk hi102_1
       have HC102_1:=Aside0.mk hl102_1
       clear hi102_1 hl102_1
       replace p102:=eq_true p102
       replace q102:=eq_true q102
       have ea_:=Option.some.inj (hx101_1.symm.trans hx102_1)
       injection ea_ with ea_ en_ ec_
       subst ea_
       subst ec_
       clear en_
       have p103:0≤(x5_3:Int):=of_decide_eq_true zd_
       have q103:x5_3 < (((rd_T39 l0 x4_1).f1).length:Int):=of_decide_eq_true zd_
       obtain⟨ad103,e103,hx103_0,hx103_1⟩:=at_T41 HR102_1.out x5_3 p103 q103
       cases e103
       replace p103:=eq_true p103
       replace q103:=eq_true q103
       have p104:0≤(x4_1:Int):=of_decide_eq_true zd_
       have q104:x4_1 < (l0.length:Int):=of_decide_eq_true zd_
       obtain⟨ad104,A104_1,c104_1,e104,hx104_0,hx104_1,hl104_1,hi104_1⟩:=at_T39 HR0.out x4_1 p104 q104
       obtain rfl:ad101=ad104:=(by injection e104)
       have HR104_1:=Aside0.mk hi104_1
       have HC104_1:=Aside0.mk hl104_1
       clear hi104_1 hl104_1
       replace p104:=eq_true p104
       replace q104:=eq_true q104
       have ea_:=Option.some.inj (hx101_1.symm.trans hx104_1)
       injection ea_ with ea_ en_ ec_
       subst ea_
       subst ec_
       clear en_
       have p105:0≤(x5_3:Int):=of_decide_eq_true zd_
       have q105:x5_3 < (((rd_T39 l0 x4_1).f1).length:Int):=of_decide_eq_true zd_
       obtain⟨ad105,e105,hx105_0,hx105_1⟩:=at_T41 HR104_1.out x5_3 p105 q105
       cases e105
       replace p105:=eq_true p105
       replace q105:=eq_true q105
       go_wp2
       repeat (go_quiet (fail);try go_wp2)
       go_roundg k3
       case measure=>have:=HK1.out;have:=HJ1.out;have:=HK3.out;omega
       case rel=>exact⟨(wrap64 ((wrap64 ((wrap64 (x3_3+1))+(((rd_T41 ((rd_T39 l0 x4_1).f1) x5_3).f0).size:Int)))+(((rd_T41 ((rd_T39 l0 x4_1).f1) x5_3).f1).size:Int))),(wrap64 (x5_3+1)),zc_,zc_,H',⟨by have:=HK1.out;have:=HJ1.out;have:=HK3.out;omega⟩,by repeat (first|exact Drawn0.refl _|apply Drawn0.step)⟩

end Go.Proofs.YthimblhfjfngiaaGreat.PText

namespace Go.Proofs.YthimblhfjfngiaaGreat.PText
open Go.RowKit Go.Proofs.YthimblhfjfngiaaGreatW.PrintWords Go.Proofs.YthimblhfjfngiaaGreatW.PrintLast Go.Proofs.YthimblhfjfngiaaGreatW.PrintMore
attribute [local go_sem] yT_ yU_ y5_ y6_ yI_ yJ_ yV_ yW_   -- for this text's walks alone
set_option linter.unusedVariables false
set_option linter.unusedSimpArgs false

theorem eqA41 (d:Nat) (w:World) (x0 y0:ByteArray) (x1 y1:ByteArray) :
  (Op.equalIn (d+2) 41 (.agg #[.string x0,.string x1]) (.agg #[.string y0,.string y1])).run Tryz.prog w=.ok (x0.toList == y0.toList && (x1.toList == y1.toList)) w:=by
 refine eqA_of Tryz.underlying41 ze_ ?_
 refine eqf_cons (by rfl) (by go_simp;rfl) (by go_simp;rfl) (by go_simp) ?_
 exact eqf_last (by rfl) (by go_simp;rfl) (by go_simp;rfl) (by go_simp)
end Go.Proofs.YthimblhfjfngiaaGreat.PText

namespace Go.Proofs.YthimblhfjfngiaaGreat.PText
open Go.RowKit Go.Proofs.YthimblhfjfngiaaGreatW.PrintWords Go.Proofs.YthimblhfjfngiaaGreatW.PrintLast Go.Proofs.YthimblhfjfngiaaGreatW.PrintMore
attribute [local go_sem] yT_ yU_ y5_ y6_ yI_ yJ_ yV_ yW_   -- for this text's walks alone
set_option linter.unusedVariables false
set_option linter.unusedSimpArgs false

attribute [local go_sem high] eqA41
def yab_.l0:Nat→List (S41)→List (S41)→Int→Option (Bool)
 | 0,_,_,_=>none
 | k+1,x0,x1,x5=>if x5 < (x0.length:Int) then (if 0≤x5 then (if x5 < (x1.length:Int) then (if (!((((rd_T41 x0 x5).f0).toList) == (((rd_T41 x1 x5).f0).toList)) || (!((((rd_T41 x0 x5).f1).toList) == (((rd_T41 x1 x5).f1).toList))))=true then (some false) else (yab_.l0 k x0 x1 (wrap64 (x5+1)))) else (none)) else (none)) else (some true)
def yab_.f (k:Nat) (l0:List (S41)) (l1:List (S41)):Option (Bool):=if (l0.length:Int)=(l1.length:Int) then (yab_.l0 k l0 l1 0) else (some false)
set_option maxHeartbeats 8000000 in
set_option maxRecDepth 100000 in
theorem yab_.calls (k:Nat) (A0:Option Addr) (c0:Nat) (l0:List (S41)) (A1:Option Addr) (c1:Nat) (l1:List (S41)) (r:Bool) (w:World) (hr0:Kd.C k41 w A0 l0.length l0) (hc0:l0.length≤c0) (hr1:Kd.C k41 w A1 l1.length l1) (hc1:l1.length≤c1) (h:yab_.f k l0 l1=some r) :
  Calls Tryz.prog 17 #[.slice A0 l0.length c0,.slice A1 l1.length c1] w fun e w'=>e=.returned (.bool r)∧Drawn0 w w':=by
 have hu41:=Tryz.underlying41
 have HR0:=Aside0.mk hr0
 have HC0:=Aside0.mk hc0
 clear hr0 hc0
 have HR1:=Aside0.mk hr1
 have HC1:=Aside0.mk hc1
 clear hr1 hc1
 have H:(if (l0.length:Int)=(l1.length:Int) then (yab_.l0 k l0 l1 0) else (some false))=some r:=h
 clear h
 by_cases c3:(l0.length:Int)=(l1.length:Int)
 rotate_left
 ·rw[if_neg c3] at H
  have c3b0:((l0.length:Int) == (l1.length:Int))=false:=beq_eq_false_iff_ne.mpr c3
  have c3b1:((l0.length:Int) != (l1.length:Int))=true:=bne_iff_ne.mpr c3
  have c3b2:(l0.length == l1.length)=false:=by first|simpa using c3|(simp at c3 ⊢;omega)
  obtain rfl:=Option.some.inj H
  go_enter Tryz.func17,Tryz.ntmps17
  go_wp2
  repeat (go_quiet (fail);try go_wp2)
  go_ret
  exact⟨by first|rfl|(simp;done)|(simp [*];done),by repeat (first|exact Drawn0.refl _|apply Drawn0.step)⟩
 rw[if_pos c3] at H
 have c3b0:((l0.length:Int) == (l1.length:Int))=true:=beq_iff_eq.mpr c3
 have c3b1:((l0.length:Int) != (l1.length:Int))=false:=bne_eq_false_iff_eq.mpr c3
 have c3b2:(l0.length == l1.length)=true:=by first|simpa using c3|(simp at c3 ⊢;omega)
 clear c3
 have H':=Aside0.mk H
 clear H
 go_enter Tryz.func17,Tryz.ntmps17
 go_wp2
 repeat (go_quiet (fail);try go_wp2)
 try simp only[Act.put,List.setIfInBounds_toArray,List.set_cons_succ,List.set_cons_zero]
 go_loopg [5] k (fun kq v5 w'=>∃ (x5_1:Int),v5=.int .i64 x5_1∧Aside0 (yab_.l0 kq l0 l1 x5_1=some r)∧Aside0 (kq≤k)∧Drawn0 w w')
 case atStart=>exact⟨(0),zc_,H',⟨Nat.le_refl _⟩,by repeat (first|exact Drawn0.refl _|apply Drawn0.step)⟩
 case round =>
  clear H'
  try clear c1
  try clear p2
  try clear c3
  try clear c3b0
  try clear c3b1
  try clear c3b2
  obtain⟨x5_1,rfl,HA,HK1,⟨m1,rfl⟩⟩:=hrel
  cases gk with
  | zero=>exact absurd HA.out (by simp [yab_.l0])
  | succ k1 =>
   have H:=HA.out
   clear HA
   simp only[yab_.l0] at H
   by_cases c4:x5_1 < (l0.length:Int)
   rotate_left
   ·rw[if_neg c4] at H
    have c4b0:decide (x5_1 < (l0.length:Int))=false:=decide_eq_false c4
    clear c4
    obtain rfl:=Option.some.inj H
    go_wp2
    repeat (go_quiet (fail);try go_wp2)
    go_ret
    exact⟨by first|rfl|(simp;done)|(simp [*];done),by repeat (first|exact Drawn0.refl _|apply Drawn0.step)⟩
   rw[if_pos c4] at H
   have c4b0:decide (x5_1 < (l0.length:Int))=true:=decide_eq_true c4
   clear c4
   by_cases c5:0≤x5_1
   rotate_left
   ·rw[if_neg c5] at H
    exact absurd H (by simp)
   rw[if_pos c5] at H
   have c5b0:decide (0≤x5_1)=true:=decide_eq_true c5
   clear c5
   by_cases c6:x5_1 < (l1.length:Int)
   rotate_left
   ·rw[if_neg c6] at H
    exact absurd H (by simp)
   rw[if_pos c6] at H
   have c6b0:decide (x5_1 < (l1.length:Int))=true:=decide_eq_true c6
   clear c6
   by_cases c7:(!((((rd_T41 l0 x5_1).f0).toList) == (((rd_T41 l1 x5_1).f0).toList)) || (!((((rd_T41 l0 x5_1).f1).toList) == (((rd_T41 l1 x5_1).f1).toList))))=true
   ·rw[if_pos c7] at H
    have c7b0:(!((((rd_T41 l0 x5_1).f0).toList) == (((rd_T41 l1 x5_1).f0).toList)) || (!((((rd_T41 l0 x5_1).f1).toList) == (((rd_T41 l1 x5_1).f1).toList))))=true:=c7
    clear c7
    obtain rfl:=Option.some.inj H
    have p485:0≤(x5_1:Int):=of_decide_eq_true zd_
    have q485:x5_1 < (l0.length:Int):=of_decide_eq_true zd_
    obtain⟨ad485,e485,hx485_0,hx485_1⟩:=at_T41 HR0.out x5_1 p485 q485
    cases e485
    replace p485:=eq_true p485
    replace q485:=eq_true q485
    have p486:0≤(x5_1:Int):=of_decide_eq_true zd_
    have q486:x5_1 < (l1.length:Int):=of_decide_eq_true zd_
    obtain⟨ad486,e486,hx486_0,hx486_1⟩:=at_T41 HR1.out x5_1 p486 q486
    cases e486
    replace p486:=eq_true p486
    replace q486:=eq_true q486
    go_wp2
    repeat (go_quiet (fail);try go_wp2)
    go_ret
    exact⟨by first|rfl|(simp;done)|(simp [*];done),by repeat (first|exact Drawn0.refl _|apply Drawn0.step)⟩
   rw[if_neg c7] at H
   have c7b0:(!((((rd_T41 l0 x5_1).f0).toList) == (((rd_T41 l1 x5_1).f0).toList)) || (!((((rd_T41 l0 x5_1).f1).toList) == (((rd_T41 l1 x5_1).f1).toList))))=false:=by simpa using c7
   clear c7
   have H':=Aside0.mk H
   clear H
   have p485:0≤(x5_1:Int):=of_decide_eq_true zd_
   have q485:x5_1 < (l0.length:Int):=of_decide_eq_true zd_
   obtain⟨ad485,e485,hx485_0,hx485_1⟩:=at_T41 HR0.out x5_1 p485 q485
   cases e485
   replace p485:=eq_true p485
   replace q485:=eq_true q485
   have p486:0≤(x5_1:Int):=of_decide_eq_true zd_
   have q486:x5_1 < (l1.length:Int):=of_decide_eq_true zd_
   obtain⟨ad486,e486,hx486_0,hx486_1⟩:=at_T41 HR1.out x5_1 p486 q486
   cases e486
   replace p486:=eq_true p486
   replace q486:=eq_true q486
   go_wp2
   repeat (go_quiet (fail);try go_wp2)
   go_roundg k1
   case measure=>have:=HK1.out;omega
   case rel=>exact⟨(wrap64 (x5_1+1)),zc_,H',⟨by have:=HK1.out;omega⟩,by repeat (first|exact Drawn0.refl _|apply Drawn0.step)⟩

end Go.Proofs.YthimblhfjfngiaaGreat.PText

namespace Go.Proofs.YthimblhfjfngiaaGreat.Tx
section
variable {α : Type} [DecidableEq α] {lt : α → α → Bool}
structure Lin (lt:α→α→Bool):Prop where
  irr:∀ a,lt a a=false
  tr:∀ {a b c},lt a b=true→lt b c=true→lt a c=true
  tri:∀ {a b},lt a b=false→lt b a=false→a=b
omit [DecidableEq α] in
theorem Lin.asym (h:Lin lt) {a b:α} (q:lt a b=true):lt b a=false:=by
  cases e:lt b a with
  | false=>rfl
  | true=>have:=h.tr q e;rw[h.irr] at this;cases this
def Asc (lt:α→α→Bool) (l:List α):Prop:=l.Pairwise fun a b=>lt a b=true
omit [DecidableEq α] in
theorem Asc.nil:Asc lt ([]:List α):=List.Pairwise.nil
omit [DecidableEq α] in
theorem y5b_ {a:α} {l:List α}:Asc lt (a :: l)↔(∀ b∈l,lt a b=true)∧Asc lt l:=List.pairwise_cons
omit [DecidableEq α] in
theorem yZb_ {l m:List α}:Asc lt (l++m)↔Asc lt l∧Asc lt m∧∀ a∈l,∀ b∈m,lt a b=true:=List.pairwise_append
omit [DecidableEq α] in
theorem asc_unique (h:Lin lt):∀ {l m:List α},Asc lt l→Asc lt m→(∀ a,a∈l↔a∈m)→l=m
  | [],[],_,_,_=>rfl
  | [],b :: m,_,_,q=>by have:=(q b).2 List.mem_cons_self;cases this
  | a :: l,[],_,_,q=>by have:=(q a).1 List.mem_cons_self;cases this
  | a :: l,b :: m,p1,p2,q=>by
    obtain⟨u1,v1⟩:=y5b_.1 p1
    obtain⟨u2,v2⟩:=y5b_.1 p2
    have e:a=b:=by
      rcases List.mem_cons.1 ((q a).1 List.mem_cons_self) with e|e
      · exact e
      rcases List.mem_cons.1 ((q b).2 List.mem_cons_self) with e'|e'
      · exact e'.symm
      have:=h.asym (u2 a e)
      rw[u1 b e'] at this;cases this
    subst e
    rw[asc_unique h v1 v2 fun c=>⟨fun k=>?_,fun k=>?_⟩]
    · rcases List.mem_cons.1 ((q c).1 (List.mem_cons_of_mem _ k)) with e|e
      · subst e;have:=u1 c k;rw[h.irr] at this;cases this
      · exact e
    · rcases List.mem_cons.1 ((q c).2 (List.mem_cons_of_mem _ k)) with e|e
      · subst e;have:=u2 c k;rw[h.irr] at this;cases this
      · exact e
/-- The ascending list of a list's members. -/
def ord (lt:α→α→Bool):List α→List α
  | []=>[]
  | a :: l=>ins a (ord lt l)
where ins (a:α):List α→List α
  | []=>[a]
  | b :: l=>if lt a b then a :: b :: l else if a=b then b :: l else b :: ins a l
theorem mem_ins (h:Lin lt) {a c:α}:∀ {l:List α},c∈ord.ins lt a l↔c=a∨c∈l
  | []=>by simp [ord.ins]
  | b :: l=>by
    unfold ord.ins
    by_cases e:lt a b=true
    · rw[if_pos e,List.mem_cons]
    rw[if_neg e]
    by_cases e':a=b
    · rw[if_pos e'];subst e';simp
    rw[if_neg e',List.mem_cons,mem_ins h,List.mem_cons]
    constructor <;> rintro (k|k|k) <;> simp [k]
theorem asc_ins (h:Lin lt) {a:α}:∀ {l:List α},Asc lt l→Asc lt (ord.ins lt a l)
  | [],_=>List.pairwise_singleton _ _
  | b :: l,q=>by
    obtain⟨u,v⟩:=y5b_.1 q
    unfold ord.ins
    by_cases e:lt a b=true
    · rw[if_pos e]
      exact y5b_.2 ⟨fun c hc=>(List.mem_cons.1 hc).elim (fun k=>k ▸ e) fun k=>h.tr e (u c k),q⟩
    rw[if_neg e]
    by_cases e':a=b
    · rw[if_pos e'];exact q
    rw[if_neg e']
    refine y5b_.2 ⟨fun c hc=>?_,asc_ins h v⟩
    rcases (mem_ins h).1 hc with k|k
    · subst k
      cases k:lt b c with
      | true=>rfl
      | false=>exact absurd (h.tri (by simpa using e) k) e'
    · exact u c k
theorem yGb_ (h:Lin lt) {c:α}:∀ {l:List α},c∈ord lt l↔c∈l
  | []=>Iff.rfl
  | a :: l=>by unfold ord;rw[mem_ins h,yGb_ h,List.mem_cons]
theorem y6b_ (h:Lin lt):∀ {l:List α},Asc lt (ord lt l)
  | []=>List.Pairwise.nil
  | a :: l=>by unfold ord;exact asc_ins h (y6b_ h)
theorem y0b_ (h:Lin lt) {l m:List α} (q:Asc lt m) (k:∀ a,a∈m↔a∈l):m=ord lt l :=
  asc_unique h q (y6b_ h) fun a=>by rw[yGb_ h];exact k a
theorem ord_ord (h:Lin lt) {l:List α} (q:Asc lt l):ord lt l=l:=(y0b_ h q fun _=>Iff.rfl).symm
theorem ord_snoc_mem (h:Lin lt) {l:List α} {a:α} (k:a∈l):ord lt (l++[a])=ord lt l :=
  (y0b_ h (y6b_ h) fun c=>by rw[yGb_ h,List.mem_append,List.mem_singleton];exact⟨Or.inl,fun q=>Or.elim q id fun e=>e ▸ k⟩).symm
theorem ord_len (l:List α):(ord lt l).length≤l.length:=by
  have hi:∀ (a:α) (m:List α),(ord.ins lt a m).length≤m.length+1:=by
    intro a m
    induction m with
    | nil=>simp [ord.ins]
    | cons b m ih =>
      unfold ord.ins
      split
      · simp
      split
      · simp
      · simp only[List.length_cons];omega
  induction l with
  | nil=>exact Nat.le_refl _
  | cons a l ih=>unfold ord;have:=hi a (ord lt l);simp only[List.length_cons];omega
end
end Go.Proofs.YthimblhfjfngiaaGreat.Tx

namespace Go.Proofs.YthimblhfjfngiaaGreat.Tx
structure Ed where
  f:Int
  t:Int
  x:List UInt8
theorem Ed.ext' {a b:Ed} (h1:a.f=b.f) (h2:a.t=b.t) (h3:a.x=b.x):a=b:=by cases a;cases b;simp_all
instance:DecidableEq Ed:=fun a b=>decidable_of_iff (a.f=b.f∧a.t=b.t∧a.x=b.x) ⟨fun h=>Ed.ext' h.1 h.2.1 h.2.2,fun h=>by subst h;exact⟨rfl,rfl,rfl⟩⟩
/-- the order of edits -/
def elt (a b:Ed):Bool:=decide (a.f < b.f) || (decide (a.f=b.f) && (decide (a.t < b.t) || (decide (a.t=b.t) && decide (a.x < b.x))))
theorem elt_iff {a b:Ed}:elt a b=true↔a.f < b.f∨(a.f=b.f∧(a.t < b.t∨(a.t=b.t∧a.x < b.x))):=by
  unfold elt
  simp only[Bool.or_eq_true,Bool.and_eq_true,decide_eq_true_eq]
theorem elt_lin:Lin elt where
  irr a:=by
    cases h:elt a a with
    | false=>rfl
    | true =>
      rcases elt_iff.1 h with k|⟨_,k|⟨_,k⟩⟩
      · omega
      · omega
      · exact absurd k (List.lt_irrefl _)
  tr:=by
    intro a b c h1 h2
    rw[elt_iff] at h1 h2 ⊢
    rcases h1 with h1|⟨e1,h1|⟨e1',h1⟩⟩
    · rcases h2 with h2|⟨e2,h2⟩
      · exact Or.inl (by omega)
      · exact Or.inl (by omega)
    · rcases h2 with h2|⟨e2,h2|⟨e2',h2⟩⟩
      · exact Or.inl (by omega)
      · exact Or.inr ⟨by omega,Or.inl (by omega)⟩
      · exact Or.inr ⟨by omega,Or.inl (by omega)⟩
    · rcases h2 with h2|⟨e2,h2|⟨e2',h2⟩⟩
      · exact Or.inl (by omega)
      · exact Or.inr ⟨by omega,Or.inl (by omega)⟩
      · exact Or.inr ⟨by omega,Or.inr ⟨by omega,List.lt_trans h1 h2⟩⟩
  tri:=by
    intro a b h1 h2
    have n1:¬ (elt a b=true):=by rw[h1];decide
    have n2:¬ (elt b a=true):=by rw[h2];decide
    rw[elt_iff] at n1 n2
    have ef:a.f=b.f:=by
      rcases Int.lt_trichotomy a.f b.f with k|k|k
      · exact absurd (Or.inl k) n1
      · exact k
      · exact absurd (Or.inl k) n2
    have et:a.t=b.t:=by
      rcases Int.lt_trichotomy a.t b.t with k|k|k
      · exact absurd (Or.inr ⟨ef,Or.inl k⟩) n1
      · exact k
      · exact absurd (Or.inr ⟨ef.symm,Or.inl k⟩) n2
    have n1':¬ a.x < b.x:=fun k=>n1 (Or.inr ⟨ef,Or.inr ⟨et,k⟩⟩)
    have n2':¬ b.x < a.x:=fun k=>n2 (Or.inr ⟨ef.symm,Or.inr ⟨et.symm,k⟩⟩)
    exact Ed.ext' ef et (List.le_antisymm (List.not_lt.1 n2') (List.not_lt.1 n1'))
/-- two edits touch -/
def touch (a b:Ed):Bool :=
  if a.f=a.t∧b.f=b.t then decide (a.f=b.f)
  else if a.f=a.t then decide (b.f < a.f) && decide (a.f < b.t)
  else if b.f=b.t then decide (a.f < b.f) && decide (b.f < a.t)
  else decide (a.f < b.t) && decide (b.f < a.t)
theorem ySb_ {a b:Ed}:touch a b=true↔(a.f=a.t∧b.f=b.t∧a.f=b.f)∨(a.f=a.t∧b.f≠b.t∧b.f < a.f∧a.f < b.t)∨(a.f≠a.t∧b.f=b.t∧a.f < b.f∧b.f < a.t)∨(a.f≠a.t∧b.f≠b.t∧a.f < b.t∧b.f < a.t):=by
  unfold touch
  by_cases h1:a.f=a.t <;> by_cases h2:b.f=b.t
  · rw[if_pos ⟨h1,h2⟩,decide_eq_true_eq];omega
  · rw[if_neg (by omega),if_pos h1,Bool.and_eq_true,decide_eq_true_eq,decide_eq_true_eq];omega
  · rw[if_neg (by omega),if_neg h1,if_pos h2,Bool.and_eq_true,decide_eq_true_eq,decide_eq_true_eq];omega
  · rw[if_neg (by omega),if_neg h1,if_neg h2,Bool.and_eq_true,decide_eq_true_eq,decide_eq_true_eq];omega
theorem touch_symm (a b:Ed):touch a b=touch b a:=by
  rw[Bool.eq_iff_iff,ySb_,ySb_];omega
def Okay (n:Int) (l:List Ed):Prop:=∀ e∈l,0≤e.f∧e.f≤e.t∧e.t≤n
/-- does one of the sorted edits touch one before it -/
def clash (e last:Int):List Ed→Bool
  | []=>false
  | x :: l=>if x.f < e∨(x.f=x.t∧x.f=last) then true else clash (max e x.t) (if x.f=x.t then x.f else last) l
theorem clash_one {pre:List Ed} {x:Ed} {n e last:Int} (ho:Okay n (pre++[x])) (ha:∀ a∈pre,elt a x=true)
    (he1:∀ a∈pre,a.t≤e) (he2:e=0∨∃ a∈pre,a.t=e) (hl1:∀ a∈pre,a.f=a.t→a.f≤last) (hl2:last=-1∨∃ a∈pre,a.f=a.t∧a.f=last) :
    (x.f < e∨(x.f=x.t∧x.f=last))↔∃ a∈pre,touch a x=true:=by
  have hx:=ho x (List.mem_append_right _ List.mem_cons_self)
  constructor
  · rintro (h|⟨h1,h2⟩)
    · rcases he2 with k|⟨a,ma,k⟩
      · omega
      · refine⟨a,ma,?_⟩
        have:=ho a (List.mem_append_left _ ma)
        have q:=elt_iff.1 (ha a ma)
        rw[ySb_]
        rcases q with q|⟨q,q'|⟨q',-⟩⟩ <;> omega
    · rcases hl2 with k|⟨a,ma,k1,k2⟩
      · omega
      · refine⟨a,ma,?_⟩
        rw[ySb_];omega
  · rintro ⟨a,ma,k⟩
    have h0:=ho a (List.mem_append_left _ ma)
    have h1:=he1 a ma
    have h2:=hl1 a ma
    have q:=elt_iff.1 (ha a ma)
    have q':a.f≤x.f:=by rcases q with q|⟨q,-⟩ <;> omega
    rw[ySb_] at k
    rcases k with k|k|k|k
    · right
      refine⟨by omega,?_⟩
      rcases hl2 with z|⟨b,mb,z1,z2⟩
      · omega
      · have qb:=elt_iff.1 (ha b mb)
        have qb':b.f≤x.f:=by rcases qb with q|⟨q,-⟩ <;> omega
        omega
    · omega
    · left;omega
    · left;omega
theorem clash_go {n:Int}:∀ (l pre:List Ed) (e last:Int),Okay n (pre++l)→Asc elt (pre++l) →
    (∀ a∈pre,a.t≤e)→(e=0∨∃ a∈pre,a.t=e)→(∀ a∈pre,a.f=a.t→a.f≤last)→(last=-1∨∃ a∈pre,a.f=a.t∧a.f=last) →
    (∀ a∈pre,∀ b∈pre,a≠b→touch a b=false) →
    (clash e last l=true↔∃ a∈pre++l,∃ b∈pre++l,a≠b∧touch a b=true)
  | [],pre,e,last,ho,ha,he1,he2,hl1,hl2,hn=>by
    rw[List.append_nil]
    constructor
    · intro h;cases h
    · rintro ⟨a,ma,b,mb,h1,h2⟩
      rw[hn a ma b mb h1] at h2;cases h2
  | x :: l,pre,e,last,ho,ha,he1,he2,hl1,hl2,hn=>by
    have hsp:pre++x :: l=(pre++[x])++l:=by simp
    have hax:∀ a∈pre,elt a x=true:=fun a ma=>(yZb_.1 ha).2.2 a ma x List.mem_cons_self
    have one:=clash_one (x:=x) (n:=n) (fun c hc=>ho c (by rw[hsp];exact List.mem_append_left _ hc)) hax he1 he2 hl1 hl2
    have hx:=ho x (List.mem_append_right _ List.mem_cons_self)
    unfold clash
    by_cases hc:x.f < e∨(x.f=x.t∧x.f=last)
    · rw[if_pos hc]
      obtain⟨a,ma,k⟩:=one.1 hc
      refine⟨fun _=>⟨a,List.mem_append_left _ ma,x,List.mem_append_right _ List.mem_cons_self,?_,k⟩,fun _=>rfl⟩
      intro q
      have:=hax a ma
      rw[q,elt_lin.irr] at this;cases this
    rw[if_neg hc]
    rw[hsp] at ho ha ⊢
    have no:∀ a∈pre,touch a x=false:=fun a ma=>by
      cases k:touch a x with
      | false=>rfl
      | true=>exact absurd (one.2 ⟨a,ma,k⟩) hc
    refine clash_go l (pre++[x]) _ _ ho ha ?_ ?_ ?_ ?_ ?_
    · intro a ma
      rcases List.mem_append.1 ma with m|m
      · have:=he1 a m;omega
      · rw[List.mem_singleton.1 m];omega
    · rcases Int.le_total x.t e with q|q
      · rcases he2 with k|⟨a,ma,k⟩
        · left;omega
        · right;exact⟨a,List.mem_append_left _ ma,by omega⟩
      · right;exact⟨x,List.mem_append_right _ List.mem_cons_self,by omega⟩
    · intro a ma k
      rcases List.mem_append.1 ma with m|m
      · have h1:=hl1 a m k
        have q:=elt_iff.1 (hax a m)
        have q':a.f≤x.f:=by rcases q with q|⟨q,-⟩ <;> omega
        by_cases z:x.f=x.t
        rotate_left
        · rw[if_neg z];exact h1
        rw[if_pos z];exact q'
      · have e1:=List.mem_singleton.1 m
        subst e1
        rw[if_pos k];exact Int.le_refl _
    · by_cases z:x.f=x.t
      · rw[if_pos z];right;exact⟨x,List.mem_append_right _ List.mem_cons_self,z,rfl⟩
      · rw[if_neg z]
        rcases hl2 with k|⟨a,ma,k⟩
        · exact Or.inl k
        · exact Or.inr ⟨a,List.mem_append_left _ ma,k⟩
    · intro a ma b mb hab
      rcases List.mem_append.1 ma with m|m <;> rcases List.mem_append.1 mb with m'|m'
      · exact hn a m b m' hab
      · rw[List.mem_singleton.1 m'];exact no a m
      · rw[List.mem_singleton.1 m,touch_symm];exact no b m'
      · rw[List.mem_singleton.1 m,List.mem_singleton.1 m'] at hab;exact absurd rfl hab
theorem clash_iff {n:Int} {l:List Ed} (ho:Okay n l) (ha:Asc elt l):clash 0 (-1) l=true↔∃ a∈l,∃ b∈l,a≠b∧touch a b=true :=
  clash_go l [] 0 (-1) ho ha (fun _ h=>by cases h) (Or.inl rfl) (fun _ h=>by cases h) (Or.inl rfl) (fun _ h=>by cases h)
/-- edits one behind the other -/
def Ch (n:Int):Int→List Ed→Prop
  | p,[]=>p≤n
  | p,e :: l=>p≤e.f∧e.f≤e.t∧Ch n e.t l
theorem clash_ch {n:Int}:∀ (l:List Ed) (e last:Int),Okay n l→e≤n→clash e last l=false→Ch n e l
  | [],e,last,_,h,_=>h
  | x :: l,e,last,ho,hn,hc=>by
    have hx:=ho x List.mem_cons_self
    unfold clash at hc
    by_cases k:x.f < e∨(x.f=x.t∧x.f=last)
    · rw[if_pos k] at hc;cases hc
    rw[if_neg k] at hc
    have e1:max e x.t=x.t:=by omega
    rw[e1] at hc
    exact⟨by omega,hx.2.1,clash_ch l x.t _ (fun a m=>ho a (List.mem_cons_of_mem _ m)) hx.2.2 hc⟩
end Go.Proofs.YthimblhfjfngiaaGreat.Tx

namespace Go.Proofs.YthimblhfjfngiaaGreat.Tx
/-- a part of a text -/
def sl (s:List UInt8) (a b:Int):List UInt8:=(s.drop a.toNat).take (b.toNat - a.toNat)
theorem sl_len {s:List UInt8} {a b:Int} (h0:0≤a) (h1:a≤b) (h2:b≤s.length):((sl s a b).length:Int)=b - a:=by
  unfold sl
  rw[List.length_take,List.length_drop];omega
theorem sl_sl {s:List UInt8} {a b c:Int} (h1:a≤b) (h2:b≤c):sl s a b++sl s b c=sl s a c:=by
  unfold sl
  have e:(s.drop b.toNat)=(s.drop a.toNat).drop (b.toNat - a.toNat):=by rw[List.drop_drop];congr 1;omega
  have e2:c.toNat - a.toNat=(b.toNat - a.toNat)+(c.toNat - b.toNat):=by omega
  rw[e,e2,List.take_add]
theorem sl_same (s:List UInt8) (a:Int):sl s a a=[]:=by unfold sl;rw[Nat.sub_self,List.take_zero]
/-- the text from a place on, behind edits -/
def ap (s:List UInt8):Int→List Ed→List UInt8
  | p,[]=>s.drop p.toNat
  | p,e :: l=>sl s p e.f++e.x++ap s e.t l
theorem ch_le {n:Int}:∀ {l:List Ed} {p:Int},Ch n p l→p≤n
  | [],_,h=>h
  | e :: l,p,h=>by have:=ch_le h.2.2;have:=h.1;have:=h.2.1;omega
/-- how much longer a text gets -/
def gain (e:Ed):Int:=e.x.length - (e.t - e.f)
def gains:List Ed→Int
  | []=>0
  | e :: l=>gain e+gains l
theorem ap_len {s:List UInt8}:∀ {l:List Ed} {p:Int},0≤p→Ch s.length p l→((ap s p l).length:Int)=s.length - p+gains l
  | [],p,h0,h=>by
    have h':p≤s.length:=h
    show ((s.drop p.toNat).length:Int)=_+gains []
    rw[List.length_drop];simp only[gains];omega
  | e :: l,p,h0,h=>by
    have h1:=h.1;have h2:=h.2.1;have h3:=ch_le h.2.2
    have ih:=ap_len (l:=l) (p:=e.t) (by omega) h.2.2
    have hs:=sl_len (s:=s) h0 h1 (by omega)
    show ((sl s p e.f++e.x++ap s e.t l).length:Int)=_+gains (e :: l)
    rw[List.length_append,List.length_append]
    simp only[gains,gain];omega
end Go.Proofs.YthimblhfjfngiaaGreat.Tx

namespace Go.Proofs.YthimblhfjfngiaaGreat.Tx
end Go.Proofs.YthimblhfjfngiaaGreat.Tx

namespace Go.Proofs.YthimblhfjfngiaaGreat.Tx
/-- the lines of a text, the first part of the first one is told -/
def lgo (cur:List UInt8):List UInt8→List (List UInt8)
  | []=>if cur=[] then [] else [cur]
  | c :: r=>if c=10 then (cur++[c]) :: lgo [] r else lgo (cur++[c]) r
def lines (s:List UInt8):List (List UInt8):=lgo [] s
theorem lgo_flat:∀ (s cur:List UInt8),(lgo cur s).flatten=cur++s
  | [],cur=>by
    unfold lgo
    by_cases h:cur=[]
    rotate_left
    · rw[if_neg h];simp
    rw[if_pos h,h];rfl
  | c :: r,cur=>by
    unfold lgo
    by_cases h:c=10
    rotate_left
    · rw[if_neg h,lgo_flat r];simp
    rw[if_pos h,List.flatten_cons,lgo_flat r []];simp
theorem yRb_ (s:List UInt8):(lines s).flatten=s:=lgo_flat s []
theorem lgo_ne:∀ (s cur:List UInt8),∀ x∈lgo cur s,x≠[]
  | [],cur,x,hx=>by
    unfold lgo at hx
    by_cases h:cur=[]
    · rw[if_pos h] at hx;cases hx
    rw[if_neg h] at hx;rw[List.mem_singleton.1 hx];exact h
  | c :: r,cur,x,hx=>by
    unfold lgo at hx
    by_cases h:c=10
    rotate_left
    · rw[if_neg h] at hx;exact lgo_ne r _ x hx
    rw[if_pos h] at hx
    rcases List.mem_cons.1 hx with k|k
    · subst k;simp
    · exact lgo_ne r [] x k
theorem lines_ne (s:List UInt8):∀ x∈lines s,x≠[]:=lgo_ne s []
/-- a first line that ends -/
theorem lgo_line:∀ (a cur r:List UInt8),(10:UInt8) ∉ a→lgo cur (a++10 :: r)=(cur++a++[10]) :: lgo [] r
  | [],cur,r,_=>by
    have e:lgo cur (10 :: r)=if (10:UInt8)=10 then (cur++[10]) :: lgo [] r else lgo (cur++[10]) r:=rfl
    rw[List.nil_append,e,if_pos rfl,List.append_nil]
  | c :: a,cur,r,h=>by
    have hc:c≠10:=fun e=>h (e ▸ List.mem_cons_self)
    show lgo cur (c :: (a++10 :: r))=_
    rw[lgo,if_neg hc,lgo_line a _ r fun k=>h (List.mem_cons_of_mem _ k)]
    simp only[List.append_assoc,List.cons_append,List.nil_append]
section
variable {α : Type} [DecidableEq α]
/-- how many can be kept -/
def lcs:List α→List α→Nat
  | a :: l,b :: m=>if a=b then lcs l m+1 else max (lcs l (b :: m)) (lcs (a :: l) m)
  | _,_=>0
termination_by l m=>l.length+m.length
theorem yTb_ (m:List α):lcs [] m=0:=by rw[lcs];intro a l b m' h;cases h
theorem y1b_ (l:List α):lcs l []=0:=by rw[lcs];intro a l' b m' _ h;cases h
theorem lcs_cons (a b:α) (l m:List α):lcs (a :: l) (b :: m)=if a=b then lcs l m+1 else max (lcs l (b :: m)) (lcs (a :: l) m):=by rw[lcs]
theorem lcs_step:∀ (k:Nat) (l m:List α),l.length+m.length≤k →
    (∀ b,lcs l m≤lcs l (b :: m)∧lcs l (b :: m)≤lcs l m+1)∧(∀ a,lcs l m≤lcs (a :: l) m∧lcs (a :: l) m≤lcs l m+1):=by
  intro k
  induction k with
  | zero =>
    intro l m h
    have hl:l=[]:=List.eq_nil_of_length_eq_zero (by omega)
    have hm:m=[]:=List.eq_nil_of_length_eq_zero (by omega)
    subst hl hm
    refine⟨fun b=>?_,fun a=>?_⟩
    · rw[yTb_,yTb_];omega
    · rw[y1b_,y1b_];omega
  | succ k ih =>
    intro l m h
    constructor
    · intro b
      cases l with
      | nil=>rw[yTb_,yTb_];omega
      | cons a l =>
        simp only[List.length_cons] at h
        have h1:=(ih l m (by omega)).1 b
        have h2:=(ih l m (by omega)).2 a
        rw[lcs_cons]
        by_cases e:a=b
        rotate_left
        · rw[if_neg e];omega
        rw[if_pos e];omega
    · intro a
      cases m with
      | nil=>rw[y1b_,y1b_];omega
      | cons b m =>
        simp only[List.length_cons] at h
        have h1:=(ih l m (by omega)).1 b
        have h2:=(ih l m (by omega)).2 a
        rw[lcs_cons]
        by_cases e:a=b
        rotate_left
        · rw[if_neg e];omega
        rw[if_pos e];omega
theorem lcs_kept (a:α) (l m:List α):lcs l (a :: m)≤lcs l m+1∧lcs (a :: l) m≤lcs l m+1 :=
  ⟨((lcs_step _ l m (Nat.le_refl _)).1 a).2,((lcs_step _ l m (Nat.le_refl _)).2 a).2⟩
theorem lcs_len_l (l m:List α):lcs l m≤l.length:=by
  induction l with
  | nil=>rw[yTb_];exact Nat.le_refl _
  | cons a l ih=>have:=((lcs_step _ l m (Nat.le_refl _)).2 a).2;simp only[List.length_cons];omega
/-- the steps: 32 is kept, 45 goes, 43 comes -/
def stp:List α→List α→List (UInt8 × α)
  | a :: l,b :: m=>if a=b then (32,a) :: stp l m else if lcs (a :: l) m≤lcs l (b :: m) then (45,a) :: stp l (b :: m) else (43,b) :: stp (a :: l) m
  | a :: l,[]=>(45,a) :: stp l []
  | [],b :: m=>(43,b) :: stp [] m
  | [],[]=>[]
termination_by l m=>l.length+m.length
def olds (l:List (UInt8 × α)):List α:=(l.filter fun x=>x.1 != 43).map (·.2)
def news (l:List (UInt8 × α)):List α:=(l.filter fun x=>x.1 != 45).map (·.2)
theorem stp_olds:∀ (k:Nat) (l m:List α),l.length+m.length≤k→olds (stp l m)=l∧news (stp l m)=m:=by
  intro k
  induction k with
  | zero =>
    intro l m h
    have hl:l=[]:=List.eq_nil_of_length_eq_zero (by omega)
    have hm:m=[]:=List.eq_nil_of_length_eq_zero (by omega)
    subst hl hm
    rw[stp];exact⟨rfl,rfl⟩
  | succ k ih =>
    intro l m h
    match l,m,h with
    | [],[],_=>rw[stp];exact⟨rfl,rfl⟩
    | a :: l,[],h =>
      simp only[List.length_cons,List.length_nil] at h
      obtain⟨h1,h2⟩:=ih l [] (by simp;omega)
      rw[stp]
      exact⟨congrArg (a :: ·) h1,h2⟩
    | [],b :: m,h =>
      simp only[List.length_cons,List.length_nil] at h
      obtain⟨h1,h2⟩:=ih [] m (by simp;omega)
      rw[stp]
      exact⟨h1,congrArg (b :: ·) h2⟩
    | a :: l,b :: m,h =>
      simp only[List.length_cons] at h
      rw[stp]
      by_cases e:a=b
      · rw[if_pos e]
        obtain⟨h1,h2⟩:=ih l m (by omega)
        exact⟨congrArg (a :: ·) h1,by subst e;exact congrArg (a :: ·) h2⟩
      rw[if_neg e]
      split
      · obtain⟨h1,h2⟩:=ih l (b :: m) (by simp only[List.length_cons];omega)
        exact⟨congrArg (a :: ·) h1,h2⟩
      · obtain⟨h1,h2⟩:=ih (a :: l) m (by simp only[List.length_cons];omega)
        exact⟨h1,congrArg (b :: ·) h2⟩
theorem stp_op:∀ (k:Nat) (l m:List α),l.length+m.length≤k→∀ x∈stp l m,(x.1=32∨x.1=45∨x.1=43)∧(x.2∈l∨x.2∈m):=by
  intro k
  induction k with
  | zero =>
    intro l m h
    have hl:l=[]:=List.eq_nil_of_length_eq_zero (by omega)
    have hm:m=[]:=List.eq_nil_of_length_eq_zero (by omega)
    subst hl hm
    rw[stp];intro x hx;cases hx
  | succ k ih =>
    intro l m h x hx
    match l,m,h,hx with
    | [],[],_,hx=>rw[stp] at hx;cases hx
    | a :: l,[],h,hx =>
      simp only[List.length_cons,List.length_nil] at h
      rw[stp] at hx
      rcases List.mem_cons.1 hx with q|q
      · subst q;exact⟨Or.inr (Or.inl rfl),Or.inl List.mem_cons_self⟩
      · obtain⟨h1,h2⟩:=ih l [] (by simp;omega) x q
        exact⟨h1,h2.imp (List.mem_cons_of_mem _) id⟩
    | [],b :: m,h,hx =>
      simp only[List.length_cons,List.length_nil] at h
      rw[stp] at hx
      rcases List.mem_cons.1 hx with q|q
      · subst q;exact⟨Or.inr (Or.inr rfl),Or.inr List.mem_cons_self⟩
      · obtain⟨h1,h2⟩:=ih [] m (by simp;omega) x q
        exact⟨h1,h2.imp id (List.mem_cons_of_mem _)⟩
    | a :: l,b :: m,h,hx =>
      simp only[List.length_cons] at h
      rw[stp] at hx
      by_cases e:a=b
      · rw[if_pos e] at hx
        rcases List.mem_cons.1 hx with q|q
        · subst q;exact⟨Or.inl rfl,Or.inl List.mem_cons_self⟩
        · obtain⟨h1,h2⟩:=ih l m (by omega) x q
          exact⟨h1,h2.imp (List.mem_cons_of_mem _) (List.mem_cons_of_mem _)⟩
      rw[if_neg e] at hx
      split at hx
      · rcases List.mem_cons.1 hx with q|q
        · subst q;exact⟨Or.inr (Or.inl rfl),Or.inl List.mem_cons_self⟩
        · obtain⟨h1,h2⟩:=ih l (b :: m) (by simp only[List.length_cons];omega) x q
          exact⟨h1,h2.imp (List.mem_cons_of_mem _) id⟩
      · rcases List.mem_cons.1 hx with q|q
        · subst q;exact⟨Or.inr (Or.inr rfl),Or.inr List.mem_cons_self⟩
        · obtain⟨h1,h2⟩:=ih (a :: l) m (by simp only[List.length_cons];omega) x q
          exact⟨h1,h2.imp id (List.mem_cons_of_mem _)⟩
end
end Go.Proofs.YthimblhfjfngiaaGreat.Tx

namespace Go.Proofs.YthimblhfjfngiaaGreat.Tx
abbrev St:=UInt8 × List UInt8
/-- the edits of steps; the one that is not yet shut is told -/
def eg:Int→Option Ed→List St→List Ed
  | _,c,[]=>c.toList
  | at_,c,(o,x) :: l =>
    if o=32 then c.toList++eg (at_+x.length) none l
    else
      let d:=c.getD ⟨at_,at_,[]⟩
      if o=45 then eg (at_+x.length) (some ⟨d.f,at_+x.length,d.x⟩) l else eg at_ (some ⟨d.f,d.t,d.x++x⟩) l
theorem eg_keep (a:Int) (c:Option Ed) (x:List UInt8) (l:List St):eg a c ((32,x) :: l)=c.toList++eg (a+x.length) none l:=by
  rw[eg,if_pos rfl]
theorem eg_gone (a:Int) (c:Option Ed) (x:List UInt8) (l:List St):eg a c ((45,x) :: l)=eg (a+x.length) (some ⟨(c.getD ⟨a,a,[]⟩).f,a+x.length,(c.getD ⟨a,a,[]⟩).x⟩) l:=by
  rw[eg,if_neg (by decide),if_pos rfl]
theorem eg_come (a:Int) (c:Option Ed) (o:UInt8) (x:List UInt8) (l:List St) (h1:o≠32) (h2:o≠45):eg a c ((o,x) :: l)=eg a (some ⟨(c.getD ⟨a,a,[]⟩).f,(c.getD ⟨a,a,[]⟩).t,(c.getD ⟨a,a,[]⟩).x++x⟩) l:=by
  rw[eg,if_neg h1,if_neg h2]
/-- edits with at least a byte between -/
def Apart (n:Int):Int→List Ed→Prop
  | p,[]=>p≤n+1
  | p,e :: l=>p≤e.f∧e.f≤e.t∧e.t≤n∧Apart n (e.t+1) l
theorem apart_cons {n p:Int} {d:Ed} {l:List Ed} (h1:p≤d.f) (h2:d.f≤d.t) (h3:d.t≤n) (h:Apart n (d.t+1) l):Apart n p (d :: l):=⟨h1,h2,h3,h⟩
theorem y7b_ (n:Int):∀ (l:List St) (a p:Int) (c:Option Ed),(∀ x∈l,(x.1=32∨x.1=45∨x.1=43)∧x.2≠[])→a+(olds l).flatten.length=n →
    (c=none→p≤a)→(∀ d,c=some d→p≤d.f∧d.f≤d.t∧d.t=a)→Apart n p (eg a c l)
  | [],a,p,none,ho,hs,h1,h2=>by
    have:=h1 rfl
    have e:((olds ([]:List St)).flatten.length:Int)=0:=rfl
    show p≤n+1
    omega
  | [],a,p,some d,ho,hs,h1,h2=>by
    obtain⟨q1,q2,q3⟩:=h2 d rfl
    have e:((olds ([]:List St)).flatten.length:Int)=0:=rfl
    exact⟨q1,q2,by omega,show d.t+1≤n+1 by omega⟩
  | (o,x) :: l,a,p,c,ho,hs,h1,h2=>by
    have hoh:=ho (o,x) List.mem_cons_self
    have hx:0 < x.length:=List.length_pos_iff.2 hoh.2
    have ho':∀ x∈l,(x.1=32∨x.1=45∨x.1=43)∧x.2≠[]:=fun y m=>ho y (List.mem_cons_of_mem _ m)
    have old_x:o≠43→(a+x.length)+(olds l).flatten.length=n:=by
      intro k
      have e:(olds ((o,x) :: l)).flatten=x++(olds l).flatten:=by
        unfold olds
        rw[List.filter_cons_of_pos (by simpa using k),List.map_cons,List.flatten_cons]
      rw[e,List.length_append] at hs;omega
    rcases hoh.1 with e|e|e <;> (replace e:o=_:=e;subst e)
    · have d1:=old_x (by decide)
      rw[eg_keep]
      cases c with
      | none=>exact y7b_ n l (a+x.length) p none ho' d1 (fun _=>by have:=h1 rfl;omega) (fun d q=>by cases q)
      | some d =>
        obtain⟨q1,q2,q3⟩:=h2 d rfl
        exact apart_cons q1 q2 (by omega) (y7b_ n l (a+x.length) _ none ho' d1 (fun _=>by omega) (fun d q=>by cases q))
    · have d1:=old_x (by decide)
      rw[eg_gone]
      cases c with
      | none =>
        have:=h1 rfl
        exact y7b_ n l _ p _ ho' d1 (fun q=>by cases q) (fun d q=>by cases q;exact⟨by simp;omega,by simp;omega,rfl⟩)
      | some d =>
        obtain⟨q1,q2,q3⟩:=h2 d rfl
        exact y7b_ n l _ p _ ho' d1 (fun q=>by cases q) (fun d' q=>by cases q;exact⟨q1,by simp;omega,rfl⟩)
    · have eo:(olds ((43,x) :: l)).flatten=(olds l).flatten:=by unfold olds;rw[List.filter_cons_of_neg (by simp)]
      rw[eo] at hs
      rw[eg_come a c 43 x l (by decide) (by decide)]
      cases c with
      | none =>
        have:=h1 rfl
        exact y7b_ n l _ p _ ho' hs (fun q=>by cases q) (fun d q=>by cases q;exact⟨by simp;omega,Int.le_refl _,rfl⟩)
      | some d =>
        obtain⟨q1,q2,q3⟩:=h2 d rfl
        exact y7b_ n l _ p _ ho' hs (fun q=>by cases q) (fun d' q=>by cases q;exact⟨q1,q2,q3⟩)
/-- the edits from a text to another one -/
def edits (a b:List UInt8):List Ed:=eg 0 none (stp (lines a) (lines b))
theorem edits_apart (a b:List UInt8):Apart a.length 0 (edits a b):=by
  have h:=stp_op _ (lines a) (lines b) (Nat.le_refl _)
  have ho:=(stp_olds _ (lines a) (lines b) (Nat.le_refl _)).1
  refine y7b_ _ _ 0 0 none (fun x hx=>⟨(h x hx).1,?_⟩) (by rw[ho,yRb_];omega) (fun _=>Int.le_refl _) (fun d q=>by cases q)
  rcases (h x hx).2 with k|k
  · exact lines_ne a _ k
  · exact lines_ne b _ k
end Go.Proofs.YthimblhfjfngiaaGreat.Tx

namespace Go.Proofs.YthimblhfjfngiaaGreat.Tx
theorem olds_keep (o:UInt8) (x:List UInt8) (l:List St) (h:o≠43):olds ((o,x) :: l)=x :: olds l:=by
  unfold olds
  rw[List.filter_cons_of_pos (by simpa using h),List.map_cons]
theorem olds_come (x:List UInt8) (l:List St):olds ((43,x) :: l)=olds l:=by
  unfold olds
  rw[List.filter_cons_of_neg (by simp)]
theorem news_keep (o:UInt8) (x:List UInt8) (l:List St) (h:o≠45):news ((o,x) :: l)=x :: news l:=by
  unfold news
  rw[List.filter_cons_of_pos (by simpa using h),List.map_cons]
theorem news_gone (x:List UInt8) (l:List St):news ((45,x) :: l)=news l:=by
  unfold news
  rw[List.filter_cons_of_neg (by simp)]
end Go.Proofs.YthimblhfjfngiaaGreat.Tx

namespace Go.Proofs.YthimblhfjfngiaaGreat.Tx
/-- the bytes before a line -/
def off (L:List (List UInt8)) (i:Nat):Nat:=(L.take i).flatten.length
/-- the first line at or behind a byte -/
def adv:List (List UInt8)→Int→Nat
  | [],_=>0
  | x :: l,n=>if 0 < n then adv l (n - x.length)+1 else 0
/-- whose the lines are behind the edits, from a line on -/
def bl (lb:List (List UInt8)) (who:List Int) (k:Int):Nat→List Ed→List Int
  | i,[]=>who.drop i
  | i,e :: M=>(who.drop i).take (adv lb e.f - i)++List.replicate (lines e.x).length k++bl lb who k (adv lb e.t) M
/-- behind one more edit: the line, and whose the lines so far are -/
def blp (lb:List (List UInt8)) (who:List Int) (k:Int) (s:Nat × List Int) (e:Ed):Nat × List Int:=(adv lb e.t,s.2++(who.drop s.1).take (adv lb e.f - s.1)++List.replicate (lines e.x).length k)
/-- behind the first edits -/
def blS (lb:List (List UInt8)) (who:List Int) (k:Int) (E:List Ed) (i:Nat):Nat × List Int:=(E.take i).foldl (blp lb who k) (0,[])
end Go.Proofs.YthimblhfjfngiaaGreat.Tx

namespace Go.Proofs.YthimblhfjfngiaaGreat.Tx
end Go.Proofs.YthimblhfjfngiaaGreat.Tx

namespace Go.Proofs.YthimblhfjfngiaaGreat.PText
open Go.RowKit Go.Lib Go.Proofs.YthimblhfjfngiaaGreatW.PrintWords Go.Proofs.YthimblhfjfngiaaGreatW.PrintLast Go.Proofs.YthimblhfjfngiaaGreatW.PrintMore
theorem w64 {x:Int} (h0:-9223372036854775808≤x) (h1:x≤9223372036854775807):wrap64 x=x:=by unfold wrap64;omega
theorem nx (i:Nat) (h:i≤1000000):wrap64 ((i:Int)+1)=((i+1:Nat):Int):=by rw[w64 (by omega) (by omega)];omega
theorem mx_max (a b:Int):mx a b=max a b:=by
  unfold mx;split <;> omega
theorem rdB (l:List ByteArray) (i:Nat) (h:i < l.length):rdOf ByteArray.empty l (i:Int)=l[i]:=by
  unfold rdOf
  rw[Int.toNat_natCast,List.getD_eq_getElem?_getD,List.getElem?_eq_getElem h];rfl
def bL (x:ByteArray):List UInt8:=x.data.toList
theorem bL_eta (x:ByteArray):(⟨(bL x).toArray⟩:ByteArray)=x:=by cases x;simp [bL]
theorem bL_mk (l:List UInt8):bL ⟨l.toArray⟩=l:=rfl
theorem bL_inj {x y:ByteArray}:x.toList=y.toList↔bL x=bL y:=by rw[Lib.toList_data,Lib.toList_data];exact Iff.rfl
theorem bL_size (x:ByteArray):x.size=(bL x).length:=by unfold bL;rw[Array.length_toList];rfl
theorem bL_ext {x y:ByteArray} (h:bL x=bL y):x=y:=by rw[← bL_eta x,← bL_eta y,h]
theorem bL_append (x y:ByteArray):bL (x++y)=bL x++bL y:=by unfold bL;rw[ByteArray.data_append,Array.toList_append]
end Go.Proofs.YthimblhfjfngiaaGreat.PText

namespace Go.Proofs.YthimblhfjfngiaaGreat.PText
open Go.RowKit Go.Lib Go.Proofs.YthimblhfjfngiaaGreatW.PrintWords Go.Proofs.YthimblhfjfngiaaGreatW.PrintLast Go.Proofs.YthimblhfjfngiaaGreatW.PrintMore
set_option linter.unusedVariables false
def toSt (x:UInt8 × List UInt8):S119:=⟨(x.1.toNat:Int),⟨x.2.toArray⟩⟩
theorem rd78_at (l:List S119) (i:Nat) (h:i < l.length):rd_T119 l (i:Int)=l[i]:=by
  unfold rd_T119
  rw[Int.toNat_natCast,List.getD_eq_getElem?_getD,List.getElem?_eq_getElem h];rfl
theorem ix (p q m:Nat) (hp:p≤10000) (hm:m≤10000) (hq:q≤10000):wrap64 (wrap64 ((p:Int) * ((m+1:Nat):Int))+(q:Int))=((p * (m+1)+q:Nat):Int):=by
  have h1:p * (m+1)≤10000 * 10001:=Nat.mul_le_mul hp (by omega)
  have h2:(p:Int) * ((m+1:Nat):Int)=((p * (m+1):Nat):Int):=by push_cast;rfl
  rw[h2,w64 (x:=((p * (m+1):Nat):Int)) (by omega) (by omega),w64 (by omega) (by omega)]
  omega
theorem ix_inj {m p q i j:Nat} (hq:q≤m) (hj:j≤m) (h:p * (m+1)+q=i * (m+1)+j):p=i∧q=j:=by
  have h1:(p * (m+1)+q) / (m+1)=p:=by rw[Nat.mul_comm,Nat.mul_add_div (by omega),Nat.div_eq_of_lt (by omega)];omega
  have h2:(i * (m+1)+j) / (m+1)=i:=by rw[Nat.mul_comm,Nat.mul_add_div (by omega),Nat.div_eq_of_lt (by omega)];omega
  have:p=i:=by rw[← h1,h,h2]
  subst this
  exact⟨rfl,by omega⟩
theorem ix_lt {n m p q:Nat} (hp:p≤n) (hq:q≤m):p * (m+1)+q < (n+1) * (m+1):=by
  have:(p+1) * (m+1)≤(n+1) * (m+1):=Nat.mul_le_mul_right _ (by omega)
  rw[Nat.add_mul,Nat.one_mul] at this
  omega
/-- the table's entries behind a place -/
def Tab (a b:List (List UInt8)) (i j:Nat) (t:List Int):Prop :=
  t.length=(a.length+1) * (b.length+1)∧∀ p q,p≤a.length→q≤b.length→(i < p∨(p=i∧j≤q)∨q=b.length)→t[p * (b.length+1)+q]?=some (Tx.lcs (a.drop p) (b.drop q):Int)
theorem Tab.get {a b:List (List UInt8)} {i j:Nat} {t:List Int} (h:Tab a b i j t) {p q:Nat} (hp:p≤a.length) (hq:q≤b.length) (hs:i < p∨(p=i∧j≤q)∨q=b.length):rd t ((p * (b.length+1)+q:Nat):Int)=(Tx.lcs (a.drop p) (b.drop q):Int):=by
  have h1:=h.2 p q hp hq hs
  unfold rd
  rw[Int.toNat_natCast,List.getD_eq_getElem?_getD,h1];rfl
theorem Tab.put {a b:List (List UInt8)} {i j:Nat} {t:List Int} (h:Tab a b i (j+1) t) (hi:i < a.length) (hj:j < b.length) :
    Tab a b i j (t.set (((i * (b.length+1)+j:Nat):Int)).toNat (Tx.lcs (a.drop i) (b.drop j):Int)):=by
  refine⟨by rw[List.length_set];exact h.1,fun p q hp hq hs=>?_⟩
  rw[Int.toNat_natCast]
  have hb:=ix_lt (n:=a.length) (m:=b.length) (p:=i) (q:=j) (by omega) (by omega)
  by_cases e:p=i∧q=j
  · obtain⟨rfl,rfl⟩:=e
    rw[List.getElem?_set_self (by rw[h.1];exact hb)]
  rw[List.getElem?_set_ne (fun q'=>e (by obtain⟨h1,h2⟩:=ix_inj (by omega) hq q';exact⟨h1.symm,h2.symm⟩))]
  refine h.2 p q hp hq ?_
  rcases hs with h1|⟨h1,h2⟩|h1
  · exact Or.inl h1
  · refine Or.inr (Or.inl ⟨h1,?_⟩)
    have:q≠j:=fun q'=>e ⟨h1,q'⟩
    omega
  · exact Or.inr (Or.inr h1)
theorem Tab.up {a b:List (List UInt8)} {i:Nat} {t:List Int} (h:Tab a b (i+1) 0 t):Tab a b i b.length t :=
  ⟨h.1,fun p q hp hq hs=>h.2 p q hp hq (by rcases hs with h1|⟨_,h2⟩|h1 <;> omega)⟩
theorem Tab.zero (a b:List (List UInt8)):Tab a b a.length 0 (List.replicate ((a.length+1) * (b.length+1)) 0):=by
  refine⟨List.length_replicate,fun p q hp hq hs=>?_⟩
  rw[List.getElem?_replicate,if_pos (ix_lt hp hq)]
  rcases hs with h1|⟨h1,_⟩|h1
  · omega
  · subst h1;rw[List.drop_length,Tx.yTb_];rfl
  · subst h1;rw[List.drop_length (l:=b),Tx.y1b_];rfl
theorem yNb_ (l:List ByteArray) (i:Nat) (h:i < l.length):(l.map bL).drop i=bL l[i] :: (l.map bL).drop (i+1):=by
  rw[List.drop_eq_getElem_cons (by rw[List.length_map];exact h),List.getElem_map]
theorem st_l1 (a b:List ByteArray) (ha:a.length≤5000) (hb:b.length≤5000) (i:Nat) (hi:i < a.length) (K:Nat):∀ (j:Nat) (t:List Int),j≤b.length→Tab (a.map bL) (b.map bL) i j t →
    ∃ t',Tab (a.map bL) (b.map bL) i 0 t'∧yh_.l1 (j+1+K) a b ((b.length+1:Nat):Int) t (i:Int) ((j:Int) - 1)=yh_.l0 K a b ((b.length+1:Nat):Int) t' ((i:Int) - 1):=by
  intro j
  induction j with
  | zero =>
    intro t hj hT
    refine⟨t,hT,?_⟩
    rw[show 0+1+K=K+1 by omega,yh_.l1,if_neg (by omega),w64 (by omega) (by omega)]
  | succ j ih =>
    intro t hj hT
    have hlA:(a.map bL).length=a.length:=List.length_map _
    have hlB:(b.map bL).length=b.length:=List.length_map _
    have hT':=hT.put (by omega) (by omega)
    obtain⟨t',g1,g2⟩:=ih _ (by omega) hT'
    refine⟨t',g1,?_⟩
    rw[← g2,show j+1+1+K=(j+1+K)+1 by omega,yh_.l1,show (((j+1:Nat):Int) - 1)=(j:Int) by omega,if_pos (by omega),if_pos (by omega),if_pos (by omega),if_pos (by omega),if_pos (by omega),rdB a i hi,rdB b j (by omega)]
    have hlen:=hT.1
    rw[hlA,hlB] at hlen
    have z1:=ix_lt (n:=a.length) (m:=b.length) (p:=i) (q:=j) (by omega) (by omega)
    have z2:=ix_lt (n:=a.length) (m:=b.length) (p:=i) (q:=j+1) (by omega) (by omega)
    have z3:=ix_lt (n:=a.length) (m:=b.length) (p:=i+1) (q:=j) (by omega) (by omega)
    have z4:=ix_lt (n:=a.length) (m:=b.length) (p:=i+1) (q:=j+1) (by omega) (by omega)
    have w1:Aside0 (wrap64 ((i:Int)+1)=((i+1:Nat):Int)):=⟨nx i (by omega)⟩
    have w2:=Aside0.mk (ix i j b.length (by omega) (by omega) (by omega))
    have w3:=Aside0.mk (ix (i+1) j b.length (by omega) (by omega) (by omega))
    have q1:i * (b.length+1)≤5000 * 5001:=Nat.mul_le_mul (by omega) (by omega)
    have q2:(i+1) * (b.length+1)≤5001 * 5001:=Nat.mul_le_mul (by omega) (by omega)
    have w4:Aside0 (wrap64 (((i * (b.length+1)+j:Nat):Int)+1)=((i * (b.length+1)+(j+1):Nat):Int)):=⟨by rw[w64 (by omega) (by omega)];omega⟩
    have w5:Aside0 (wrap64 ((((i+1) * (b.length+1)+j:Nat):Int)+1)=(((i+1) * (b.length+1)+(j+1):Nat):Int)):=⟨by rw[w64 (by omega) (by omega)];omega⟩
    have w6:Aside0 (wrap64 ((j:Int) - 1)=(j:Int) - 1):=⟨w64 (by omega) (by omega)⟩
    have e1:=hT.get (p:=i+1) (q:=j+1) (by omega) (by omega) (Or.inl (by omega))
    have e2:=hT.get (p:=i+1) (q:=j) (by omega) (by omega) (Or.inl (by omega))
    have e3:=hT.get (p:=i) (q:=j+1) (by omega) (by omega) (Or.inr (Or.inl ⟨rfl,Nat.le_refl _⟩))
    have dA:=yNb_ a i hi
    have dB:=yNb_ b j (by omega)
    rw[hlB] at e1 e2 e3
    rw[hlB]
    by_cases c:(a[i]'hi).toList=(b[j]'(by omega)).toList
    rotate_left
    · have hl:Tx.lcs ((a.map bL).drop i) ((b.map bL).drop j)=max (Tx.lcs ((a.map bL).drop (i+1)) ((b.map bL).drop j)) (Tx.lcs ((a.map bL).drop i) ((b.map bL).drop (j+1))):=by
        rw[dA,dB,Tx.lcs_cons,if_neg (fun q=>c (bL_inj.2 q))]
      rw[if_neg c,w1.out,w3.out,w2.out,w4.out,if_pos (by omega),if_pos (by omega),if_pos (by omega),if_pos (by omega),if_pos (by omega),if_pos (by omega),w6.out,e2,e3,hl,mx_max]
      rw[show max (Tx.lcs ((a.map bL).drop (i+1)) ((b.map bL).drop j):Int) (Tx.lcs ((a.map bL).drop i) ((b.map bL).drop (j+1)):Int)=((max (Tx.lcs ((a.map bL).drop (i+1)) ((b.map bL).drop j)) (Tx.lcs ((a.map bL).drop i) ((b.map bL).drop (j+1))):Nat):Int) by omega]
    have hl:Tx.lcs ((a.map bL).drop i) ((b.map bL).drop j)=Tx.lcs ((a.map bL).drop (i+1)) ((b.map bL).drop (j+1))+1:=by
      rw[dA,dB,Tx.lcs_cons,if_pos (bL_inj.1 c)]
    have hv:=Tx.lcs_len_l ((a.map bL).drop (i+1)) ((b.map bL).drop (j+1))
    have hv2:Tx.lcs ((a.map bL).drop (i+1)) ((b.map bL).drop (j+1))≤5000:=by rw[List.length_drop,hlA] at hv;omega
    rw[if_pos c,w1.out,w3.out,w2.out,w5.out,if_pos (by omega),if_pos (by omega),if_pos (by omega),if_pos (by omega),w6.out,e1,hl]
    rw[show wrap64 ((Tx.lcs ((a.map bL).drop (i+1)) ((b.map bL).drop (j+1)):Int)+1)=((Tx.lcs ((a.map bL).drop (i+1)) ((b.map bL).drop (j+1))+1:Nat):Int) by rw[w64 (by omega) (by omega)];omega]
theorem st_l0 (a b:List ByteArray) (ha:a.length≤5000) (hb:b.length≤5000) (K:Nat):∀ (i:Nat) (t:List Int),i≤a.length→Tab (a.map bL) (b.map bL) i 0 t →
    ∃ t',Tab (a.map bL) (b.map bL) 0 0 t'∧yh_.l0 (i * (b.length+2)+1+K) a b ((b.length+1:Nat):Int) t ((i:Int) - 1)=yh_.l2 K a b ((b.length+1:Nat):Int) t' [] 0 0:=by
  intro i
  induction i with
  | zero =>
    intro t hi hT
    refine⟨t,hT,?_⟩
    rw[show 0 * (b.length+2)+1+K=K+1 by omega,yh_.l0,if_neg (by omega)]
  | succ i ih =>
    intro t hi hT
    have hlB:(b.map bL).length=b.length:=List.length_map _
    have hup:=hT.up
    rw[hlB] at hup
    obtain⟨t1,g1,g2⟩:=st_l1 a b ha hb i (by omega) (i * (b.length+2)+1+K) b.length t (Nat.le_refl _) hup
    obtain⟨t2,g3,g4⟩:=ih t1 (by omega) g1
    refine⟨t2,g3,?_⟩
    rw[← g4,← g2,show (i+1) * (b.length+2)+1+K=(b.length+1+(i * (b.length+2)+1+K))+1 by rw[Nat.add_mul];omega,yh_.l0,show (((i+1:Nat):Int) - 1)=(i:Int) by omega,if_pos (by omega),w64 (x:=(b.length:Int) - 1) (by omega) (by omega)]
theorem st_l2 (a b:List ByteArray) (ha:a.length≤5000) (hb:b.length≤5000) (t:List Int) (hT:Tab (a.map bL) (b.map bL) 0 0 t):∀ (n i j k:Nat) (out:List S119),i≤a.length→j≤b.length→(a.length - i)+(b.length - j)=n→3 * n+3≤k→out.length≤i+j →
    yh_.l2 k a b ((b.length+1:Nat):Int) t out (i:Int) (j:Int)=some (out++(Tx.stp ((a.map bL).drop i) ((b.map bL).drop j)).map toSt):=by
  intro n
  have hlA:(a.map bL).length=a.length:=List.length_map _
  have hlB:(b.map bL).length=b.length:=List.length_map _
  induction n using Nat.strongRecOn with
  | ind n ih =>
  by_cases hn0:n=0
  · subst hn0
    intro i j k out hi hj hn hk ho
    obtain⟨k,rfl⟩:∃ q,k=q+3:=⟨k - 3,by omega⟩
    rw[yh_.l2,if_neg (by omega),decide_eq_false (by omega),yh_.j3,if_neg (by decide),List.drop_of_length_le (by omega),List.drop_of_length_le (by omega),Tx.stp]
    simp
  intro i j k out hi hj hn hk ho
  obtain⟨k,rfl⟩:∃ q,k=q+3:=⟨k - 3,by omega⟩
  have hin:yh_.l2 (k+3) a b ((b.length+1:Nat):Int) t out (i:Int) (j:Int)=yh_.j3 (k+2) a b ((b.length+1:Nat):Int) t out (i:Int) (j:Int) true:=by
    rw[yh_.l2]
    by_cases c:i < a.length
    · rw[if_pos (by omega)]
    rw[if_neg (by omega),decide_eq_true (by omega)]
  rw[hin,yh_.j3,if_pos rfl]
  have step:∀ (o:Int) (x:ByteArray) (l:List (UInt8 × List UInt8)),out++[(⟨o,x⟩:S119)]++l.map toSt=out++((⟨o,x⟩:S119) :: l.map toSt):=fun o x l=>by simp
  by_cases c1:i < a.length
  rotate_left
  · have c2:j < b.length:=by omega
    have dB:=yNb_ b j c2
    have nB:Aside0 (wrap64 ((j:Int)+1)=((j+1:Nat):Int)):=⟨nx j (by omega)⟩
    have hdA:(a.map bL).drop i=[]:=List.drop_of_length_le (by omega)
    rw[if_neg (by omega),yh_.j4,if_neg (by decide),if_neg (by omega),if_pos (by omega),if_pos (by omega),if_pos (by omega),rdB b j c2,nB.out,ih ((a.length - i)+(b.length - (j+1))) (by omega) i (j+1) k _ (by omega) (by omega) rfl (by omega) (by rw[List.length_append,List.length_singleton];omega),dB,hdA,Tx.stp,step,List.map_cons]
    rw[show toSt (43,bL b[j])=⟨43,b[j]⟩ from congrArg (S119.mk 43) (bL_eta _)]
  have dA:=yNb_ a i c1
  have nA:Aside0 (wrap64 ((i:Int)+1)=((i+1:Nat):Int)):=⟨nx i (by omega)⟩
  by_cases c2:j < b.length
  rotate_left
  · have hdB:(b.map bL).drop j=[]:=List.drop_of_length_le (by omega)
    rw[if_pos (by omega),if_neg (by omega),yh_.j4,if_neg (by decide),if_pos (by omega),if_pos (by omega),if_pos (by omega),if_pos (by omega),rdB a i c1,nA.out,ih ((a.length - (i+1))+(b.length - j)) (by omega) (i+1) j k _ (by omega) (by omega) rfl (by omega) (by rw[List.length_append,List.length_singleton];omega),dA,hdB,Tx.stp,step,List.map_cons]
    rw[show toSt (45,bL a[i])=⟨45,a[i]⟩ from congrArg (S119.mk 45) (bL_eta _)]
  have dB:=yNb_ b j c2
  have nB:Aside0 (wrap64 ((j:Int)+1)=((j+1:Nat):Int)):=⟨nx j (by omega)⟩
  rw[if_pos (by omega),if_pos (by omega),if_pos (by omega),if_pos (by omega),rdB a i c1,rdB b j c2,dA,dB,Tx.stp]
  by_cases e:a[i].toList=b[j].toList
  · rw[show (a[i].toList == b[j].toList)=true from beq_iff_eq.2 e,yh_.j4,if_pos rfl,if_pos (by omega),if_pos (by omega),if_pos (by omega),rdB a i c1,nA.out,nB.out,ih ((a.length - (i+1))+(b.length - (j+1))) (by omega) (i+1) (j+1) k _ (by omega) (by omega) rfl (by omega) (by rw[List.length_append,List.length_singleton];omega),if_pos (bL_inj.1 e),step,List.map_cons]
    rw[show toSt (32,bL a[i])=⟨32,a[i]⟩ from congrArg (S119.mk 32) (bL_eta _)]
  have z1:=ix_lt (n:=a.length) (m:=b.length) (p:=i) (q:=j+1) (by omega) (by omega)
  have z3:=ix_lt (n:=a.length) (m:=b.length) (p:=i+1) (q:=j) (by omega) (by omega)
  have w2:=Aside0.mk (ix i j b.length (by omega) (by omega) (by omega))
  have w3:=Aside0.mk (ix (i+1) j b.length (by omega) (by omega) (by omega))
  have q1:i * (b.length+1)≤5000 * 5001:=Nat.mul_le_mul (by omega) (by omega)
  have w4:Aside0 (wrap64 (((i * (b.length+1)+j:Nat):Int)+1)=((i * (b.length+1)+(j+1):Nat):Int)):=⟨by rw[w64 (by omega) (by omega)];omega⟩
  have hlen:=hT.1
  rw[hlA,hlB] at hlen
  have e2:=hT.get (p:=i+1) (q:=j) (by omega) (by omega) (Or.inl (by omega))
  have e3:=hT.get (p:=i) (q:=j+1) (by omega) (by omega) (by omega)
  rw[hlB] at e2 e3
  rw[show (a[i].toList == b[j].toList)=false from beq_eq_false_iff_ne.2 e,yh_.j4,if_neg (by decide),if_pos (by omega),if_neg (by omega),nA.out,w3.out,if_pos (by omega),if_pos (by omega),w2.out,w4.out,if_pos (by omega),if_pos (by omega),e2,e3,if_neg (fun q=>e (bL_inj.2 q)),← dA,← dB]
  by_cases g:Tx.lcs ((a.map bL).drop i) ((b.map bL).drop (j+1))≤Tx.lcs ((a.map bL).drop (i+1)) ((b.map bL).drop j)
  · rw[if_pos (by omega),if_pos (by omega),if_pos (by omega),rdB a i c1,ih ((a.length - (i+1))+(b.length - j)) (by omega) (i+1) j k _ (by omega) (by omega) rfl (by omega) (by rw[List.length_append,List.length_singleton];omega),if_pos g,step,List.map_cons]
    rw[show toSt (45,bL a[i])=⟨45,a[i]⟩ from congrArg (S119.mk 45) (bL_eta _)]
  rw[if_neg (by omega),if_pos (by omega),if_pos (by omega),if_pos (by omega),rdB b j c2,nB.out,ih ((a.length - i)+(b.length - (j+1))) (by omega) i (j+1) k _ (by omega) (by omega) rfl (by omega) (by rw[List.length_append,List.length_singleton];omega),if_neg g,step,List.map_cons]
  rw[show toSt (43,bL b[j])=⟨43,b[j]⟩ from congrArg (S119.mk 43) (bL_eta _)]
/-- the steps, as the program has them -/
def stS (a b:List ByteArray):List S119:=(Tx.stp (a.map bL) (b.map bL)).map toSt
theorem steps_f (a b:List ByteArray) (ha:a.length≤5000) (hb:b.length≤5000) (k:Nat) (hk:a.length * (b.length+2)+3 * (a.length+b.length)+4≤k):yh_.f k a b=some (stS a b):=by
  have hlA:(a.map bL).length=a.length:=List.length_map _
  have hlB:(b.map bL).length=b.length:=List.length_map _
  have q:(a.length+1) * (b.length+1)≤5001 * 5001:=Nat.mul_le_mul (by omega) (by omega)
  have w:Aside0 (wrap64 (((a.length+1:Nat):Int) * ((b.length+1:Nat):Int))=(((a.length+1) * (b.length+1):Nat):Int)):=Aside0.mk <| by
    have h2:((a.length+1:Nat):Int) * ((b.length+1:Nat):Int)=(((a.length+1) * (b.length+1):Nat):Int):=by push_cast;rfl
    rw[h2,w64 (by omega) (by omega)]
  unfold yh_.f
  rw[nx a.length (by omega),nx b.length (by omega),w.out,if_pos (by omega),Int.toNat_natCast,if_pos (by omega),w64 (x:=(a.length:Int) - 1) (by omega) (by omega)]
  have hZ:=Tab.zero (a.map bL) (b.map bL)
  rw[hlA,hlB] at hZ
  obtain⟨t,g1,g2⟩:=st_l0 a b ha hb (k - (a.length * (b.length+2)+1)) a.length _ (Nat.le_refl _) hZ
  rw[show a.length * (b.length+2)+1+(k - (a.length * (b.length+2)+1))=k by omega] at g2
  rw[g2]
  have:=st_l2 a b ha hb t g1 (a.length+b.length) 0 0 (k - (a.length * (b.length+2)+1)) [] (by omega) (by omega) (by omega) (by omega) (Nat.le_refl _)
  rw[List.nil_append,List.drop_zero,List.drop_zero] at this
  exact this
end Go.Proofs.YthimblhfjfngiaaGreat.PText

namespace Go.Proofs.YthimblhfjfngiaaGreat.PText
open Go.RowKit Go.Lib Go.Proofs.YthimblhfjfngiaaGreatW.PrintWords Go.Proofs.YthimblhfjfngiaaGreatW.PrintLast Go.Proofs.YthimblhfjfngiaaGreatW.PrintMore
set_option linter.unusedVariables false
def toSr (x:UInt8 × List UInt8):S95:=⟨(x.1.toNat:Int),⟨x.2.toArray⟩⟩
theorem rdL5 {t:List (List Int)} {i:Nat} {R:List Int} (h:t[i]?=some R):rd_L8 t (i:Int)=R:=by
  unfold rd_L8
  rw[Int.toNat_natCast,List.getD_eq_getElem?_getD,h];rfl
theorem rdG {R:List Int} {q:Nat} {v:Int} (h:R[q]?=some v):rd R (q:Int)=v:=by
  unfold rd
  rw[Int.toNat_natCast,List.getD_eq_getElem?_getD,h];rfl
/-- a row of the table, done from a place on -/
structure Part (a b:List (List UInt8)) (p j:Nat) (R:List Int):Prop where
  len:R.length=b.length+1
  val:∀ q,q≤b.length→j≤q→R[q]?=some (Tx.lcs (a.drop p) (b.drop q):Int)
  zer:∀ q,q < j→q≤b.length→R[q]?=some 0
structure RT (a b:List (List UInt8)) (i:Nat) (t:List (List Int)):Prop where
  len:t.length=a.length+1
  row:∀ p,i≤p→p≤a.length→∃ R,t[p]?=some R∧Part a b p 0 R
theorem Part.put {a b:List (List UInt8)} {p j:Nat} {R:List Int} (h:Part a b p (j+1) R) (hj:j≤b.length):Part a b p j (R.set (j:Int).toNat (Tx.lcs (a.drop p) (b.drop j):Int)) where
  len:=by rw[List.length_set];exact h.len
  val q hq hs:=by
    rw[Int.toNat_natCast]
    by_cases e:q=j
    · subst e;rw[List.getElem?_set_self (by rw[h.len];omega)]
    rw[List.getElem?_set_ne (fun k=>e k.symm)];exact h.val q hq (by omega)
  zer q hq hs:=by
    rw[Int.toNat_natCast,List.getElem?_set_ne (by omega)];exact h.zer q (by omega) hs
theorem Part.skip {a b:List (List UInt8)} {p j:Nat} {R:List Int} (h:Part a b p (j+1) R) (hj:j≤b.length) (hz:Tx.lcs (a.drop p) (b.drop j)=0):Part a b p j R where
  len:=h.len
  val q hq hs:=by
    by_cases e:q=j
    rotate_left
    · exact h.val q hq (by omega)
    subst e;rw[hz];exact h.zer q (by omega) hq
  zer q hq hs:=h.zer q (by omega) hs
theorem rst_l1 (a b:List ByteArray) (ha:a.length≤5000) (hb:b.length≤5000) (i:Nat) (hi:i≤a.length) (K:Nat):∀ (j:Nat) (t:List (List Int)) (R:List Int),j≤b.length+1→RT (a.map bL) (b.map bL) (i+1) t→t[i]?=some R→Part (a.map bL) (b.map bL) i j R →
    ∃ t',RT (a.map bL) (b.map bL) i t'∧yd_.l1 (2 * j+1+K) a b (a.length:Int) (b.length:Int) t (i:Int) ((j:Int) - 1)=yd_.l0 K a b (a.length:Int) (b.length:Int) t' ((i:Int) - 1):=by
  have hlA:(a.map bL).length=a.length:=List.length_map _
  have hlB:(b.map bL).length=b.length:=List.length_map _
  intro j
  induction j with
  | zero =>
    intro t R hj hT hR hP
    refine⟨t,⟨hT.len,fun p h1 h2=>?_⟩,?_⟩
    · by_cases e:p=i
      · subst e;exact⟨R,hR,hP⟩
      · exact hT.row p (by omega) h2
    · rw[show 2 * 0+1+K=K+1 by omega,yd_.l1,if_neg (by omega),w64 (by omega) (by omega)]
  | succ j ih =>
    intro t R hj hT hR hP
    have w6:Aside0 (wrap64 ((j:Int) - 1)=(j:Int) - 1):=⟨w64 (by omega) (by omega)⟩
    have hil:i < t.length:=(List.getElem?_eq_some_iff.1 hR).1
    rw[show 2 * (j+1)+1+K=(2 * j+1+K)+2 by omega,yd_.l1,show (((j+1:Nat):Int) - 1)=(j:Int) by omega,if_pos (by omega)]
    by_cases c:i=a.length∨j=b.length
    · have hz:Tx.lcs ((a.map bL).drop i) ((b.map bL).drop j)=0:=by
        rcases c with c|c
        · rw[List.drop_of_length_le (l:=a.map bL) (by omega),Tx.yTb_]
        · rw[List.drop_of_length_le (l:=b.map bL) (by omega),Tx.y1b_]
      obtain⟨t',g1,g2⟩:=ih t R (by omega) hT hR (hP.skip (by omega) hz)
      refine⟨t',g1,?_⟩
      have e:(if (i:Int)=(a.length:Int) then yd_.j2 (2 * j+1+K+1) a b (a.length:Int) (b.length:Int) t (i:Int) (j:Int) true else yd_.j2 (2 * j+1+K+1) a b (a.length:Int) (b.length:Int) t (i:Int) (j:Int) ((j:Int) == (b.length:Int)))=yd_.j2 (2 * j+1+K+1) a b (a.length:Int) (b.length:Int) t (i:Int) (j:Int) true:=by
        rcases c with c|c
        · rw[if_pos (by omega)]
        · rw[show ((j:Int) == (b.length:Int))=true from beq_iff_eq.2 (by omega)];split <;> rfl
      rw[e,yd_.j2,if_pos rfl,w6.out,g2]
    have c1:i < a.length:=by omega
    have c2:j < b.length:=by omega
    obtain⟨R1,h1,hP1⟩:=hT.row (i+1) (Nat.le_refl _) (by omega)
    have hT':∀ R',Part (a.map bL) (b.map bL) i j R'→∃ t',RT (a.map bL) (b.map bL) i t'∧yd_.l1 (2 * j+1+K) a b (a.length:Int) (b.length:Int) (t.set (i:Int).toNat R') (i:Int) ((j:Int) - 1)=yd_.l0 K a b (a.length:Int) (b.length:Int) t' ((i:Int) - 1):=by
      intro R' hP'
      refine ih _ R' (by omega) ⟨by rw[List.length_set];exact hT.len,fun p h1 h2=>?_⟩ (by rw[Int.toNat_natCast,List.getElem?_set_self hil]) hP'
      rw[Int.toNat_natCast,List.getElem?_set_ne (by omega)]
      exact hT.row p h1 h2
    obtain⟨t',g1,g2⟩:=hT' _ (hP.put (by omega))
    refine⟨t',g1,?_⟩
    have hv1:=hP1.val j (by omega) (by omega)
    have hv2:=hP1.val (j+1) (by omega) (by omega)
    have hv3:=hP.val (j+1) (by omega) (by omega)
    have r1:=rdG hv1
    have r2:=rdG hv2
    have r3:=rdG hv3
    have wA:Aside0 (wrap64 ((i:Int)+1)=((i+1:Nat):Int)):=⟨nx i (by omega)⟩
    have wB:Aside0 (wrap64 ((j:Int)+1)=((j+1:Nat):Int)):=⟨nx j (by omega)⟩
    have l0:=hT.len
    have l1:=hP1.len
    have l2:=hP.len
    have dA:=yNb_ a i c1
    have dB:=yNb_ b j c2
    have k1:=Tx.lcs_kept (bL a[i]) ((a.map bL).drop (i+1)) ((b.map bL).drop (j+1))
    have kb:=Tx.lcs_len_l ((a.map bL).drop (i+1)) ((b.map bL).drop (j+1))
    rw[List.length_drop] at kb
    rw[if_neg (by omega),show ((j:Int) == (b.length:Int))=false from beq_eq_false_iff_ne.2 (by omega),yd_.j2,if_neg (by decide),wA.out,wB.out,rdL5 h1,rdL5 hR,r1,r2,r3,rdB a i c1,rdB b j c2,w6.out,if_pos (by omega),if_pos (by omega),if_pos (by omega),if_pos (by omega),if_pos (by omega),if_pos (by omega),if_pos (by omega),if_pos (by omega)]
    by_cases e:(a[i]'c1).toList=(b[j]'c2).toList
    rotate_left
    · have hl:Tx.lcs ((a.map bL).drop i) ((b.map bL).drop j)=max (Tx.lcs ((a.map bL).drop (i+1)) ((b.map bL).drop j)) (Tx.lcs ((a.map bL).drop i) ((b.map bL).drop (j+1))):=by
        rw[dA,dB,Tx.lcs_cons,if_neg (fun q=>e (bL_inj.2 q))]
      rw[hl] at g2
      generalize Tx.lcs ((a.map bL).drop (i+1)) ((b.map bL).drop j)=U at *
      generalize Tx.lcs ((a.map bL).drop i) ((b.map bL).drop (j+1))=V at *
      by_cases c3:(V:Int) > (U:Int)
      rotate_left
      · rw[if_neg c3,if_pos (by omega),if_pos (by omega),if_neg e,if_pos (by omega),show (U:Int)=((max U V:Nat):Int) by omega,g2]
      rw[if_pos c3,if_pos (by omega),if_pos (by omega),if_neg e,if_pos (by omega),show (V:Int)=((max U V:Nat):Int) by omega,g2]
    have hl:Tx.lcs ((a.map bL).drop i) ((b.map bL).drop j)=Tx.lcs ((a.map bL).drop (i+1)) ((b.map bL).drop (j+1))+1:=by
      rw[dA,dB,Tx.lcs_cons,if_pos (bL_inj.1 e)]
    have k2:Tx.lcs ((a.map bL).drop (i+1)) ((b.map bL).drop j)≤Tx.lcs ((a.map bL).drop (i+1)) ((b.map bL).drop (j+1))+1:=by rw[dB,← bL_inj.1 e];exact k1.1
    have k3:Tx.lcs ((a.map bL).drop i) ((b.map bL).drop (j+1))≤Tx.lcs ((a.map bL).drop (i+1)) ((b.map bL).drop (j+1))+1:=by rw[dA];exact k1.2
    rw[hl] at g2
    generalize Tx.lcs ((a.map bL).drop (i+1)) ((b.map bL).drop (j+1))=D at *
    generalize Tx.lcs ((a.map bL).drop (i+1)) ((b.map bL).drop j)=U at *
    generalize Tx.lcs ((a.map bL).drop i) ((b.map bL).drop (j+1))=V at *
    have wD:Aside0 (wrap64 ((D:Int)+1)=((D+1:Nat):Int)):=⟨nx D (by omega)⟩
    by_cases c3:(V:Int) > (U:Int)
    rotate_left
    · rw[if_neg c3,if_pos (by omega),if_pos (by omega),if_pos e,if_pos (by omega),wD.out]
      by_cases c4:((D+1:Nat):Int) > (U:Int)
      · rw[if_pos c4,if_pos (by omega),g2]
      rw[if_neg c4,if_pos (by omega),show (U:Int)=((D+1:Nat):Int) by omega,g2]
    rw[if_pos c3,if_pos (by omega),if_pos (by omega),if_pos e,if_pos (by omega),wD.out]
    by_cases c4:((D+1:Nat):Int) > (V:Int)
    · rw[if_pos c4,if_pos (by omega),g2]
    rw[if_neg c4,if_pos (by omega),show (V:Int)=((D+1:Nat):Int) by omega,g2]
theorem rst_l0 (a b:List ByteArray) (ha:a.length≤5000) (hb:b.length≤5000) (K:Nat):∀ (i:Nat) (t:List (List Int)),i≤a.length+1→RT (a.map bL) (b.map bL) i t →
    ∃ t',RT (a.map bL) (b.map bL) 0 t'∧yd_.l0 (i * (2 * b.length+4)+1+K) a b (a.length:Int) (b.length:Int) t ((i:Int) - 1)=yd_.l2 K a b (a.length:Int) (b.length:Int) t' [] 0 0:=by
  intro i
  induction i with
  | zero =>
    intro t hi hT
    refine⟨t,hT,?_⟩
    rw[show 0 * (2 * b.length+4)+1+K=K+1 by omega,yd_.l0,if_neg (by omega)]
  | succ i ih =>
    intro t hi hT
    have hlA:(a.map bL).length=a.length:=List.length_map _
    have hlB:(b.map bL).length=b.length:=List.length_map _
    have hlt:=hT.len
    rw[hlA] at hlt
    have hP:Part (a.map bL) (b.map bL) i (b.length+1) (List.replicate (b.length+1) 0) :=
      ⟨by rw[List.length_replicate,hlB],fun q hq hs=>by omega,fun q hq hs=>by rw[List.getElem?_replicate,if_pos hq]⟩
    obtain⟨t1,g1,g2⟩:=rst_l1 a b ha hb i (by omega) (i * (2 * b.length+4)+1+K) (b.length+1) (t.set i (List.replicate (b.length+1) 0)) _ (Nat.le_refl _)
      ⟨by rw[List.length_set];exact hT.len,fun p h1 h2=>by rw[List.getElem?_set_ne (by omega)];exact hT.row p h1 h2⟩ (by rw[List.getElem?_set_self (by omega)]) hP
    obtain⟨t2,g3,g4⟩:=ih t1 (by omega) g1
    refine⟨t2,g3,?_⟩
    rw[show ((b.length+1:Nat):Int) - 1=(b.length:Int) by omega] at g2
    rw[← g4,← g2,show (i+1) * (2 * b.length+4)+1+K=(2 * (b.length+1)+1+(i * (2 * b.length+4)+1+K))+1 by rw[Nat.add_mul];omega,yd_.l0,show (((i+1:Nat):Int) - 1)=(i:Int) by omega,if_pos (by omega),nx b.length (by omega),if_pos (by omega),Int.toNat_natCast,Int.toNat_natCast,if_pos (by omega),if_pos (by omega),if_pos (by omega)]
theorem rst_l2 (a b:List ByteArray) (ha:a.length≤5000) (hb:b.length≤5000) (t:List (List Int)) (hT:RT (a.map bL) (b.map bL) 0 t):∀ (n i j k:Nat) (out:List S95),i≤a.length→j≤b.length→(a.length - i)+(b.length - j)=n→3 * n+3≤k→out.length≤i+j →
    yd_.l2 k a b (a.length:Int) (b.length:Int) t out (i:Int) (j:Int)=some (out++(Tx.stp ((a.map bL).drop i) ((b.map bL).drop j)).map toSr):=by
  intro n
  have hlA:(a.map bL).length=a.length:=List.length_map _
  have hlB:(b.map bL).length=b.length:=List.length_map _
  induction n using Nat.strongRecOn with
  | ind n ih =>
  by_cases hn0:n=0
  · subst hn0
    intro i j k out hi hj hn hk ho
    obtain⟨k,rfl⟩:∃ q,k=q+3:=⟨k - 3,by omega⟩
    rw[yd_.l2,if_neg (by omega),decide_eq_false (by omega),yd_.j4,if_neg (by decide),List.drop_of_length_le (by omega),List.drop_of_length_le (by omega),Tx.stp]
    simp
  intro i j k out hi hj hn hk ho
  obtain⟨k,rfl⟩:∃ q,k=q+3:=⟨k - 3,by omega⟩
  have hin:yd_.l2 (k+3) a b (a.length:Int) (b.length:Int) t out (i:Int) (j:Int)=yd_.j4 (k+2) a b (a.length:Int) (b.length:Int) t out (i:Int) (j:Int) true:=by
    rw[yd_.l2]
    by_cases c:i < a.length
    · rw[if_pos (by omega)]
    rw[if_neg (by omega),decide_eq_true (by omega)]
  rw[hin,yd_.j4,if_pos rfl]
  have step:∀ (o:Int) (x:ByteArray) (l:List (UInt8 × List UInt8)),out++[(⟨o,x⟩:S95)]++l.map toSr=out++((⟨o,x⟩:S95) :: l.map toSr):=fun o x l=>by simp
  by_cases c1:i < a.length
  rotate_left
  · have c2:j < b.length:=by omega
    have dB:=yNb_ b j c2
    have nB:Aside0 (wrap64 ((j:Int)+1)=((j+1:Nat):Int)):=⟨nx j (by omega)⟩
    have hdA:(a.map bL).drop i=[]:=List.drop_of_length_le (by omega)
    rw[if_neg (by omega),yd_.j5,if_neg (by decide),if_neg (by omega),if_pos (by omega),if_pos (by omega),if_pos (by omega),rdB b j c2,nB.out,ih ((a.length - i)+(b.length - (j+1))) (by omega) i (j+1) k _ (by omega) (by omega) rfl (by omega) (by rw[List.length_append,List.length_singleton];omega),dB,hdA,Tx.stp,step,List.map_cons]
    rw[show toSr (43,bL b[j])=⟨43,b[j]⟩ from congrArg (S95.mk 43) (bL_eta _)]
  have dA:=yNb_ a i c1
  have nA:Aside0 (wrap64 ((i:Int)+1)=((i+1:Nat):Int)):=⟨nx i (by omega)⟩
  by_cases c2:j < b.length
  rotate_left
  · have hdB:(b.map bL).drop j=[]:=List.drop_of_length_le (by omega)
    rw[if_pos (by omega),if_neg (by omega),yd_.j5,if_neg (by decide),if_pos (by omega),if_pos (by omega),if_pos (by omega),if_pos (by omega),if_pos (by omega),rdB a i c1,nA.out,ih ((a.length - (i+1))+(b.length - j)) (by omega) (i+1) j k _ (by omega) (by omega) rfl (by omega) (by rw[List.length_append,List.length_singleton];omega),dA,hdB,Tx.stp,step,List.map_cons]
    rw[show toSr (45,bL a[i])=⟨45,a[i]⟩ from congrArg (S95.mk 45) (bL_eta _)]
  have dB:=yNb_ b j c2
  have nB:Aside0 (wrap64 ((j:Int)+1)=((j+1:Nat):Int)):=⟨nx j (by omega)⟩
  rw[if_pos (by omega),if_pos (by omega),if_pos (by omega),if_pos (by omega),if_pos (by omega),if_pos (by omega),rdB a i c1,rdB b j c2,dA,dB,Tx.stp]
  by_cases e:a[i].toList=b[j].toList
  · rw[show (a[i].toList == b[j].toList)=true from beq_iff_eq.2 e,yd_.j5,if_pos rfl,if_pos (by omega),if_pos (by omega),if_pos (by omega),rdB a i c1,nA.out,nB.out,ih ((a.length - (i+1))+(b.length - (j+1))) (by omega) (i+1) (j+1) k _ (by omega) (by omega) rfl (by omega) (by rw[List.length_append,List.length_singleton];omega),if_pos (bL_inj.1 e),step,List.map_cons]
    rw[show toSr (32,bL a[i])=⟨32,a[i]⟩ from congrArg (S95.mk 32) (bL_eta _)]
  obtain⟨R,hR,hP⟩:=hT.row i (by omega) (by omega)
  obtain⟨R1,h1,hP1⟩:=hT.row (i+1) (by omega) (by omega)
  have r1:=rdG (hP1.val j (by omega) (by omega))
  have r3:=rdG (hP.val (j+1) (by omega) (by omega))
  have l0:=hT.len
  have l1:=hP1.len
  have l2:=hP.len
  rw[show (a[i].toList == b[j].toList)=false from beq_eq_false_iff_ne.2 e,yd_.j5,if_neg (by decide),if_pos (by omega),if_neg (by omega),nA.out,nB.out,rdL5 h1,rdL5 hR,r1,r3,if_pos (by omega),if_pos (by omega),if_pos (by omega),if_pos (by omega),if_pos (by omega),if_pos (by omega),if_pos (by omega),if_pos (by omega),if_neg (fun q=>e (bL_inj.2 q)),← dA,← dB]
  by_cases g:Tx.lcs ((a.map bL).drop i) ((b.map bL).drop (j+1))≤Tx.lcs ((a.map bL).drop (i+1)) ((b.map bL).drop j)
  rotate_left
  · rw[if_neg (by omega),if_pos (by omega),if_pos (by omega),rdB b j c2,ih ((a.length - i)+(b.length - (j+1))) (by omega) i (j+1) k _ (by omega) (by omega) rfl (by omega) (by rw[List.length_append,List.length_singleton];omega),if_neg g,step,List.map_cons]
    rw[show toSr (43,bL b[j])=⟨43,b[j]⟩ from congrArg (S95.mk 43) (bL_eta _)]
  rw[if_pos (by omega),if_pos (by omega),if_pos (by omega),rdB a i c1,ih ((a.length - (i+1))+(b.length - j)) (by omega) (i+1) j k _ (by omega) (by omega) rfl (by omega) (by rw[List.length_append,List.length_singleton];omega),if_pos g,step,List.map_cons]
  rw[show toSr (45,bL a[i])=⟨45,a[i]⟩ from congrArg (S95.mk 45) (bL_eta _)]
/-- the steps, as the document has them -/
def stR (a b:List ByteArray):List S95:=(Tx.stp (a.map bL) (b.map bL)).map toSr
theorem rsteps_f (a b:List ByteArray) (ha:a.length≤5000) (hb:b.length≤5000) (k:Nat) (hk:(a.length+1) * (2 * b.length+4)+3 * (a.length+b.length)+4≤k):yd_.f k a b=some (stR a b):=by
  have hlA:(a.map bL).length=a.length:=List.length_map _
  unfold yd_.f
  rw[nx a.length (by omega),if_pos (by omega),Int.toNat_natCast,if_pos (by omega)]
  obtain⟨t,g1,g2⟩:=rst_l0 a b ha hb (k - ((a.length+1) * (2 * b.length+4)+1)) (a.length+1) (List.replicate (a.length+1) []) (Nat.le_refl _) ⟨by rw[List.length_replicate,hlA],fun p h1 h2=>by omega⟩
  rw[show (a.length+1) * (2 * b.length+4)+1+(k - ((a.length+1) * (2 * b.length+4)+1))=k by omega,show ((a.length+1:Nat):Int) - 1=(a.length:Int) by omega] at g2
  rw[g2]
  have:=rst_l2 a b ha hb t g1 (a.length+b.length) 0 0 (k - ((a.length+1) * (2 * b.length+4)+1)) [] (by omega) (by omega) (by omega) (by omega) (Nat.le_refl _)
  rw[List.nil_append,List.drop_zero,List.drop_zero] at this
  exact this
end Go.Proofs.YthimblhfjfngiaaGreat.PText

namespace Go.Proofs.YthimblhfjfngiaaGreat
theorem bl_lt:∀ (x y:List UInt8),Op.bytesLess x y=decide (x < y)
  | [],[]=>by simp [Op.bytesLess]
  | _ :: _,[]=>by simp [Op.bytesLess]
  | [],_ :: _=>by simp [Op.bytesLess]
  | a :: x,b :: y=>by
    rw[Op.bytesLess,bl_lt x y,Bool.eq_iff_iff]
    simp [List.cons_lt_cons_iff]
theorem bl_ne {x y:List UInt8} (h:Op.bytesLess y x=true):(x == y)=false:=by
  cases q:x == y with
  | false=>rfl
  | true=>rw[eq_of_beq q,bl_lt,decide_eq_true_eq] at h;exact absurd h (List.lt_irrefl _)
theorem bl_eq {x y:List UInt8} (h1:Op.bytesLess x y=false) (h2:Op.bytesLess y x=false):(x == y)=true:=by
  rw[bl_lt] at h1 h2
  exact beq_iff_eq.2 (List.le_antisymm (List.not_lt.1 (of_decide_eq_false h2)) (List.not_lt.1 (of_decide_eq_false h1)))
theorem bl_gtr (x y:List UInt8):(!(Op.bytesLess x y || x == y))=Op.bytesLess y x:=by
  cases h1:Op.bytesLess x y with
  | true =>
    cases h2:Op.bytesLess y x with
    | false=>rfl
    | true=>rw[bl_lt,decide_eq_true_eq] at h1 h2;exact absurd (List.lt_trans h1 h2) (List.lt_irrefl _)
  | false =>
    cases h2:Op.bytesLess y x with
    | false=>rw[bl_eq h1 h2];rfl
    | true=>rw[bl_ne h2];rfl
theorem run_gtr_str (P:Program) (T:TypeId) (x y:ByteArray) (w:World):Sem.run P (binOp .gtr T (.string x) (.string y)) w=.ok (.bool (Op.bytesLess y.toList x.toList)) w:=by
  rw[← bl_gtr]
  simp [binOp,Op.stringOp]
end Go.Proofs.YthimblhfjfngiaaGreat

namespace Go.Proofs.YthimblhfjfngiaaGreat.PText
open Go.RowKit Go.Proofs.YthimblhfjfngiaaGreatW.PrintWords Go.Proofs.YthimblhfjfngiaaGreatW.PrintLast Go.Proofs.YthimblhfjfngiaaGreatW.PrintMore
attribute [local go_sem] yT_ yU_ y5_ y6_ yI_ yJ_ yV_ yW_   -- for this text's walks alone
set_option linter.unusedVariables false
set_option linter.unusedSimpArgs false

def yX_.f (a0:ByteArray) (a1:ByteArray):Option (Int):=(cmp_isNaN_string.f a0).bind fun t342=>((cmp_isNaN_string.f a1).bind fun t343=>(if t342=true then (if t343=true then (some 0) else (some (-1))) else (if t343=true then (some 1) else (if (Op.bytesLess a0.toList a1.toList)=true then (some (-1)) else (if (Op.bytesLess a1.toList a0.toList)=true then (some 1) else (some 0))))))
set_option maxHeartbeats 8000000 in
set_option maxRecDepth 100000 in
theorem yX_.calls (a0:ByteArray) (a1:ByteArray) (r:Int) (w:World) (h:yX_.f a0 a1=some r) :
  Calls Tryz.prog 46 #[.string a0,.string a1] w fun e w'=>e=.returned (.int .i64 r)∧Drawn0 w w':=by
 have H:((cmp_isNaN_string.f a0).bind fun t342=>((cmp_isNaN_string.f a1).bind fun t343=>(if t342=true then (if t343=true then (some 0) else (some (-1))) else (if t343=true then (some 1) else (if (Op.bytesLess a0.toList a1.toList)=true then (some (-1)) else (if (Op.bytesLess a1.toList a0.toList)=true then (some 1) else (some 0)))))))=some r:=h
 clear h
 replace H:=Option.bind_eq_some_iff.mp H
 obtain⟨t342,A30,H⟩:=H
 replace H:((cmp_isNaN_string.f a1).bind fun t343=>(if t342=true then (if t343=true then (some 0) else (some (-1))) else (if t343=true then (some 1) else (if (Op.bytesLess a0.toList a1.toList)=true then (some (-1)) else (if (Op.bytesLess a1.toList a0.toList)=true then (some 1) else (some 0))))))=some r:=H
 have A3:=Aside0.mk A30
 clear A30
 replace H:=Option.bind_eq_some_iff.mp H
 obtain⟨t343,A40,H⟩:=H
 replace H:(if t342=true then (if t343=true then (some 0) else (some (-1))) else (if t343=true then (some 1) else (if (Op.bytesLess a0.toList a1.toList)=true then (some (-1)) else (if (Op.bytesLess a1.toList a0.toList)=true then (some 1) else (some 0)))))=some r:=H
 have A4:=Aside0.mk A40
 clear A40
 by_cases c5:t342=true
 ·subst c5
  have H1:(if t343=true then (some 0) else (some (-1)))=some r:=by rw[if_pos rfl] at H;exact H
  clear H
  have H:=H1
  clear H1
  by_cases c6:t343=true
  ·subst c6
   have H1:(some 0)=some r:=by rw[if_pos rfl] at H;exact H
   clear H
   have H:=H1
   clear H1
   obtain rfl:=Option.some.inj H
   go_enter Tryz.func46,Tryz.ntmps46
   go_wp2_with (first|((with_reducible refine yA_ (f:=68) rfl ?_);refine goesL_ (some 8) rfl rfl Tryz.func68 ze_ rfl #[.string a0] rfl zb_ ?_;(with_reducible refine (cmp_isNaN_string.calls a0 true _ A3.out).mono ?_);rintro e w' ⟨rfl,⟨nd,rfl⟩⟩;refine⟨_,rfl,?_⟩)|((with_reducible refine yA_ (f:=68) rfl ?_);refine goesL_ (some 10) rfl rfl Tryz.func68 ze_ rfl #[.string a1] rfl zb_ ?_;(with_reducible refine (cmp_isNaN_string.calls a1 true _ A4.out).mono ?_);rintro e w' ⟨rfl,⟨nd,rfl⟩⟩;refine⟨_,rfl,?_⟩))
   go_ret
   exact⟨by first|rfl|(simp;done)|(simp [*];done),by repeat (first|exact Drawn0.refl _|apply Drawn0.step)⟩
  replace c6:=Bool.eq_false_iff.mpr c6
  subst c6
  have H1:(some (-1))=some r:=by rw[if_neg (show ¬ (false=true) by decide)] at H;exact H
  clear H
  have H:=H1
  clear H1
  obtain rfl:=Option.some.inj H
  go_enter Tryz.func46,Tryz.ntmps46
  go_wp2_with (first|((with_reducible refine yA_ (f:=68) rfl ?_);refine goesL_ (some 8) rfl rfl Tryz.func68 ze_ rfl #[.string a0] rfl zb_ ?_;(with_reducible refine (cmp_isNaN_string.calls a0 true _ A3.out).mono ?_);rintro e w' ⟨rfl,⟨nd,rfl⟩⟩;refine⟨_,rfl,?_⟩)|((with_reducible refine yA_ (f:=68) rfl ?_);refine goesL_ (some 10) rfl rfl Tryz.func68 ze_ rfl #[.string a1] rfl zb_ ?_;(with_reducible refine (cmp_isNaN_string.calls a1 false _ A4.out).mono ?_);rintro e w' ⟨rfl,⟨nd,rfl⟩⟩;refine⟨_,rfl,?_⟩))
  go_ret
  exact⟨by first|rfl|(simp;done)|(simp [*];done),by repeat (first|exact Drawn0.refl _|apply Drawn0.step)⟩
 replace c5:=Bool.eq_false_iff.mpr c5
 subst c5
 have H1:(if t343=true then (some 1) else (if (Op.bytesLess a0.toList a1.toList)=true then (some (-1)) else (if (Op.bytesLess a1.toList a0.toList)=true then (some 1) else (some 0))))=some r:=by rw[if_neg (show ¬ (false=true) by decide)] at H;exact H
 clear H
 have H:=H1
 clear H1
 by_cases c7:t343=true
 ·subst c7
  have H1:(some 1)=some r:=by rw[if_pos rfl] at H;exact H
  clear H
  have H:=H1
  clear H1
  obtain rfl:=Option.some.inj H
  go_enter Tryz.func46,Tryz.ntmps46
  go_wp2_with (first|((with_reducible refine yA_ (f:=68) rfl ?_);refine goesL_ (some 8) rfl rfl Tryz.func68 ze_ rfl #[.string a0] rfl zb_ ?_;(with_reducible refine (cmp_isNaN_string.calls a0 false _ A3.out).mono ?_);rintro e w' ⟨rfl,⟨nd,rfl⟩⟩;refine⟨_,rfl,?_⟩)|((with_reducible refine yA_ (f:=68) rfl ?_);refine goesL_ (some 10) rfl rfl Tryz.func68 ze_ rfl #[.string a1] rfl zb_ ?_;(with_reducible refine (cmp_isNaN_string.calls a1 true _ A4.out).mono ?_);rintro e w' ⟨rfl,⟨nd,rfl⟩⟩;refine⟨_,rfl,?_⟩))
  go_ret
  exact⟨by first|rfl|(simp;done)|(simp [*];done),by repeat (first|exact Drawn0.refl _|apply Drawn0.step)⟩
 replace c7:=Bool.eq_false_iff.mpr c7
 subst c7
 have H1:(if (Op.bytesLess a0.toList a1.toList)=true then (some (-1)) else (if (Op.bytesLess a1.toList a0.toList)=true then (some 1) else (some 0)))=some r:=by rw[if_neg (show ¬ (false=true) by decide)] at H;exact H
 clear H
 have H:=H1
 clear H1
 by_cases c8:(Op.bytesLess a0.toList a1.toList)=true
 ·rw[if_pos c8] at H
  have c8b0:(Op.bytesLess a0.toList a1.toList)=true:=c8
  clear c8
  obtain rfl:=Option.some.inj H
  go_enter Tryz.func46,Tryz.ntmps46
  go_wp2_with (first|((with_reducible refine yA_ (f:=68) rfl ?_);refine goesL_ (some 8) rfl rfl Tryz.func68 ze_ rfl #[.string a0] rfl zb_ ?_;(with_reducible refine (cmp_isNaN_string.calls a0 false _ A3.out).mono ?_);rintro e w' ⟨rfl,⟨nd,rfl⟩⟩;refine⟨_,rfl,?_⟩)|((with_reducible refine yA_ (f:=68) rfl ?_);refine goesL_ (some 10) rfl rfl Tryz.func68 ze_ rfl #[.string a1] rfl zb_ ?_;(with_reducible refine (cmp_isNaN_string.calls a1 false _ A4.out).mono ?_);rintro e w' ⟨rfl,⟨nd,rfl⟩⟩;refine⟨_,rfl,?_⟩))
  go_ret
  exact⟨by first|rfl|(simp;done)|(simp [*];done),by repeat (first|exact Drawn0.refl _|apply Drawn0.step)⟩
 rw[if_neg c8] at H
 have c8b0:(Op.bytesLess a0.toList a1.toList)=false:=by simpa using c8
 clear c8
 by_cases c9:(Op.bytesLess a1.toList a0.toList)=true
 ·rw[if_pos c9] at H
  have c9b0:(Op.bytesLess a1.toList a0.toList)=true:=c9
  have c9g:=run_gtr_str Tryz.prog 9 a0 a1
  clear c9
  obtain rfl:=Option.some.inj H
  go_enter Tryz.func46,Tryz.ntmps46
  go_wp2_with (first|((with_reducible refine yA_ (f:=68) rfl ?_);refine goesL_ (some 8) rfl rfl Tryz.func68 ze_ rfl #[.string a0] rfl zb_ ?_;(with_reducible refine (cmp_isNaN_string.calls a0 false _ A3.out).mono ?_);rintro e w' ⟨rfl,⟨nd,rfl⟩⟩;refine⟨_,rfl,?_⟩)|((with_reducible refine yA_ (f:=68) rfl ?_);refine goesL_ (some 10) rfl rfl Tryz.func68 ze_ rfl #[.string a1] rfl zb_ ?_;(with_reducible refine (cmp_isNaN_string.calls a1 false _ A4.out).mono ?_);rintro e w' ⟨rfl,⟨nd,rfl⟩⟩;refine⟨_,rfl,?_⟩))
  go_ret
  exact⟨by first|rfl|(simp;done)|(simp [*];done),by repeat (first|exact Drawn0.refl _|apply Drawn0.step)⟩
 rw[if_neg c9] at H
 have c9b0:(Op.bytesLess a1.toList a0.toList)=false:=by simpa using c9
 have c9g:=run_gtr_str Tryz.prog 9 a0 a1
 clear c9
 obtain rfl:=Option.some.inj H
 go_enter Tryz.func46,Tryz.ntmps46
 go_wp2_with (first|((with_reducible refine yA_ (f:=68) rfl ?_);refine goesL_ (some 8) rfl rfl Tryz.func68 ze_ rfl #[.string a0] rfl zb_ ?_;(with_reducible refine (cmp_isNaN_string.calls a0 false _ A3.out).mono ?_);rintro e w' ⟨rfl,⟨nd,rfl⟩⟩;refine⟨_,rfl,?_⟩)|((with_reducible refine yA_ (f:=68) rfl ?_);refine goesL_ (some 10) rfl rfl Tryz.func68 ze_ rfl #[.string a1] rfl zb_ ?_;(with_reducible refine (cmp_isNaN_string.calls a1 false _ A4.out).mono ?_);rintro e w' ⟨rfl,⟨nd,rfl⟩⟩;refine⟨_,rfl,?_⟩))
 go_ret
 exact⟨by first|rfl|(simp;done)|(simp [*];done),by repeat (first|exact Drawn0.refl _|apply Drawn0.step)⟩

end Go.Proofs.YthimblhfjfngiaaGreat.PText

-- mended25

