/- PastRebases holds: for all steps, every number and all results the statement answers true. Part 20 of 24. -/
import Derived.Test.YthimblhfjfngiaaGreatBRebasesS
namespace Go.Proofs.YthimblhfjfngiaaGreat.PText
open Go.RowKit Go.Proofs.YthimblhfjfngiaaGreatW.PrintWords Go.Proofs.YthimblhfjfngiaaGreatW.PrintLast Go.Proofs.YthimblhfjfngiaaGreatW.PrintMore
attribute [local go_sem] yT_ yU_ y5_ y6_ yI_ yJ_ yV_ yW_   -- for this text's walks alone
set_option linter.unusedVariables false
set_option linter.unusedSimpArgs false

def yD_.j0:Nat→Int→List ByteArray→List ByteArray→Bool→Option ((List (S119)) × Int)
 | 0,_,_,_,_=>none
 | k+1,x2,x8,x9,x14=>if x14=true then (some (([]:List (S119)),2)) else (if x2 < 0 then (some (([]:List (S119)),1)) else (if x2 > 20 then (some (([]:List (S119)),1)) else ((yh_.f k x8 x9).bind fun t160=>(some (t160,0)))))
def yD_.f (k:Nat) (a0:ByteArray) (a1:ByteArray) (a2:Int):Option ((List (S119)) × Int):=(y4_.f a0).bind fun t154=>((y4_.f a1).bind fun t157=>(if (a0.size:Int) > 200000 then (yD_.j0 k a2 t154 t157 true) else (if (a1.size:Int) > 200000 then (yD_.j0 k a2 t154 t157 true) else (if (t154.length:Int) > 2000 then (yD_.j0 k a2 t154 t157 true) else (yD_.j0 k a2 t154 t157 (decide ((t157.length:Int) > 2000)))))))
theorem yD_.mono_l:∀ k,(∀ y0 y1 y2 y3,LeO (yD_.j0 k y0 y1 y2 y3) (yD_.j0 (k+1) y0 y1 y2 y3))
 | 0=>fun _ _ _ _ r h=>by simp [yD_.j0] at h
 | k+1=>by
  have ih0:=yD_.mono_l k
  ·intro y0 y1 y2 y3
   unfold yD_.j0
   repeat' first
   | (with_reducible exact ih0 _ _ _ _)
   | (with_reducible exact yh_.mono _ _ _)
   | (with_reducible exact LeO.refl _)
   | (with_reducible exact LeO.none _)
   | (with_reducible refine LeO.ite ?_ ?_)
   | (with_reducible refine LeO.bind ?_ (fun _=>?_))
   | exact ih0 _ _ _ _
   | exact yh_.mono _ _ _
   | exact LeO.none _
   | refine LeO.ite ?_ ?_
   | refine LeO.bind ?_ (fun _=>?_)
theorem yD_.mono:∀ a0 a1 a2 k,LeO (yD_.f k a0 a1 a2) (yD_.f (k+1) a0 a1 a2):=by
 intro a0 a1 a2 k
 have ih0:=yD_.mono_l k
 unfold yD_.f
 repeat' first
   | (with_reducible exact ih0 _ _ _ _)
   | (with_reducible exact yh_.mono _ _ _)
   | (with_reducible exact LeO.refl _)
   | (with_reducible exact LeO.none _)
   | (with_reducible refine LeO.ite ?_ ?_)
   | (with_reducible refine LeO.bind ?_ (fun _=>?_))
   | exact ih0 _ _ _ _
   | exact yh_.mono _ _ _
   | exact LeO.none _
   | refine LeO.ite ?_ ?_
   | refine LeO.bind ?_ (fun _=>?_)
set_option maxHeartbeats 8000000 in
set_option maxRecDepth 100000 in
theorem yD_.calls (k:Nat) (a0:ByteArray) (a1:ByteArray) (a2:Int) (r1:List (S119)) (r2:Int) (w:World) (h:yD_.f k a0 a1 a2=some (r1,r2)) :
  Calls Tryz.prog 69 #[.string a0,.string a1,.int .i64 a2] w fun e w'=>∃ v0_:Value,e=.returned (.tuple #[v0_,.int .i64 r2])∧Kd.R k119 119 w' w.heap.size (fun _=>True) v0_ r1∧Below w.heap.size w w':=by
 have HB:=Aside0.mk (Below.refl w.heap.size w)
 have H:((y4_.f a0).bind fun t154=>((y4_.f a1).bind fun t157=>(if (a0.size:Int) > 200000 then (yD_.j0 k a2 t154 t157 true) else (if (a1.size:Int) > 200000 then (yD_.j0 k a2 t154 t157 true) else (if (t154.length:Int) > 2000 then (yD_.j0 k a2 t154 t157 true) else (yD_.j0 k a2 t154 t157 (decide ((t157.length:Int) > 2000))))))))=some (r1,r2):=h
 clear h
 replace H:=Option.bind_eq_some_iff.mp H
 obtain⟨t154,A40,H⟩:=H
 replace H:((y4_.f a1).bind fun t157=>(if (a0.size:Int) > 200000 then (yD_.j0 k a2 t154 t157 true) else (if (a1.size:Int) > 200000 then (yD_.j0 k a2 t154 t157 true) else (if (t154.length:Int) > 2000 then (yD_.j0 k a2 t154 t157 true) else (yD_.j0 k a2 t154 t157 (decide ((t157.length:Int) > 2000)))))))=some (r1,r2):=H
 have A4:=Aside0.mk A40
 clear A40
 replace H:=Option.bind_eq_some_iff.mp H
 obtain⟨t157,A50,H⟩:=H
 replace H:(if (a0.size:Int) > 200000 then (yD_.j0 k a2 t154 t157 true) else (if (a1.size:Int) > 200000 then (yD_.j0 k a2 t154 t157 true) else (if (t154.length:Int) > 2000 then (yD_.j0 k a2 t154 t157 true) else (yD_.j0 k a2 t154 t157 (decide ((t157.length:Int) > 2000))))))=some (r1,r2):=H
 have A5:=Aside0.mk A50
 clear A50
 have HC6:=Aside0.mk H
 clear H
 go_enter Tryz.func69,Tryz.ntmps69
 go_upto_region 2 with (first|((with_reducible refine yA_ (f:=36) rfl ?_);refine goesL_ (some 11) rfl rfl Tryz.func36 ze_ rfl #[.string a0] rfl zb_ ?_;(with_reducible refine (y4_.calls a0 t154 _ A4.out).mono ?_);rintro e w7 ⟨v155,rfl,ho0,hb⟩;refine⟨_,rfl,?_⟩;have n0_:=Aside0.mk (Kd.y0_ ho0 (yp_ za_));have n1_:=Aside0.mk (yn_ za_ hb);clear HB;have HO156:=n0_;have HB:=n1_;clear n0_ n1_;(try clear hb);(try clear hb2);(try clear hk);(try clear hi);(try clear ho0))|((with_reducible refine yA_ (f:=36) rfl ?_);refine goesL_ (some 13) rfl rfl Tryz.func36 ze_ rfl #[.string a1] rfl zb_ ?_;(with_reducible refine (y4_.calls a1 t157 _ A5.out).mono ?_);rintro e w8 ⟨v158,rfl,ho0,hb⟩;refine⟨_,rfl,?_⟩;have n0_:=Aside0.mk (Kd.yVb_ (by (with_reducible repeat (first|apply Kd.yj_|apply Kd.yk_|apply Kd.R_drew));exact HO156.out) (Kd.R_base ho0) hb);have n1_:=Aside0.mk (Kd.y0_ (Kd.R_new' ho0 (Kd.R_lt (by (with_reducible repeat (first|apply Kd.yj_|apply Kd.yk_|apply Kd.R_drew));exact HO156.out))) (yp_ za_));have n2_:=Aside0.mk (yn_ za_ hb);clear HO156;clear HB;have HO156:=n0_;have HO159:=n1_;have HB:=n2_;clear n0_ n1_ n2_;(try clear hb);(try clear hb2);(try clear hk);(try clear hi);(try clear ho0)))
 (try simp only[Act.put,q1_,q2_,q3_])
 go_cut [14] (fun v14 wc=>∃ (kq:Nat) (x14_5:Bool),v14=.bool x14_5∧Aside0 (yD_.j0 kq a2 t154 t157 x14_5=some (r1,r2))∧Aside0 (kq≤k)∧Aside0 (Kd.R Kd.string 9 wc w.heap.size (fun k_=>some k_≠(v158:Value).ownBlock) v155 t154)∧Aside0 (Kd.R Kd.string 9 wc w.heap.size (fun k_=>some k_≠(v155:Value).ownBlock) v158 t157)∧Aside0 (Below w.heap.size w wc))
 case first =>
  have H:=HC6.out
  clear HC6
  by_cases c9:(a0.size:Int) > 200000
  ·rw[if_pos c9] at H
   have c9b0:decide (200000 < (a0.size:Int))=true:=decide_eq_true c9
   have c9b1:decide (200000 < a0.size)=true:=decide_eq_true (by omega)
   clear c9
   (first|rw[c9b0]|(simp only[i64_w,i32_w];rw[c9b0])|skip)
   have H':=Aside0.mk H
   clear H
   go_wp2
   go_meet
   case rel=>exact⟨_,(true),zc_,H',⟨by first|omega|exact Nat.le_refl _⟩,⟨by (with_reducible repeat (first|apply Kd.yj_|apply Kd.yk_|apply Kd.R_drew));exact Kd.R_mono HO156.out (fun _ hk=>hk.2)⟩,⟨by (with_reducible repeat (first|apply Kd.yj_|apply Kd.yk_|apply Kd.R_drew));exact Kd.R_mono HO159.out (fun _ hk=>hk.2)⟩,⟨by repeat (with_reducible first|exact HB.out|apply yc_|apply ya_|apply yb_)⟩⟩
  rw[if_neg c9] at H
  have c9b0:decide (200000 < (a0.size:Int))=false:=decide_eq_false c9
  have c9b1:decide (200000 < a0.size)=false:=decide_eq_false (by omega)
  clear c9
  (first|rw[c9b0]|(simp only[i64_w,i32_w];rw[c9b0])|skip)
  by_cases c10:(a1.size:Int) > 200000
  ·rw[if_pos c10] at H
   have c10b0:decide (200000 < (a1.size:Int))=true:=decide_eq_true c10
   have c10b1:decide (200000 < a1.size)=true:=decide_eq_true (by omega)
   clear c10
   have H':=Aside0.mk H
   clear H
   go_wp2
   go_meet
   case rel=>exact⟨_,(true),zc_,H',⟨by first|omega|exact Nat.le_refl _⟩,⟨by (with_reducible repeat (first|apply Kd.yj_|apply Kd.yk_|apply Kd.R_drew));exact Kd.R_mono HO156.out (fun _ hk=>hk.2)⟩,⟨by (with_reducible repeat (first|apply Kd.yj_|apply Kd.yk_|apply Kd.R_drew));exact Kd.R_mono HO159.out (fun _ hk=>hk.2)⟩,⟨by repeat (with_reducible first|exact HB.out|apply yc_|apply ya_|apply yb_)⟩⟩
  rw[if_neg c10] at H
  have c10b0:decide (200000 < (a1.size:Int))=false:=decide_eq_false c10
  have c10b1:decide (200000 < a1.size)=false:=decide_eq_false (by omega)
  clear c10
  by_cases c11:(t154.length:Int) > 2000
  ·rw[if_pos c11] at H
   have c11b0:decide (2000 < (t154.length:Int))=true:=decide_eq_true c11
   have c11b1:decide (2000 < t154.length)=true:=decide_eq_true (by omega)
   clear c11
   have H':=Aside0.mk H
   clear H
   obtain⟨Ao12,co12,eo12⟩:=Kd.yE_ HO156.out
   subst eo12
   go_wp2
   go_meet
   case rel=>exact⟨_,(true),zc_,H',⟨by first|omega|exact Nat.le_refl _⟩,⟨by (with_reducible repeat (first|apply Kd.yj_|apply Kd.yk_|apply Kd.R_drew));exact Kd.R_mono HO156.out (fun _ hk=>hk.2)⟩,⟨by (with_reducible repeat (first|apply Kd.yj_|apply Kd.yk_|apply Kd.R_drew));exact Kd.R_mono HO159.out (fun _ hk=>hk.2)⟩,⟨by repeat (with_reducible first|exact HB.out|apply yc_|apply ya_|apply yb_)⟩⟩
  rw[if_neg c11] at H
  have c11b0:decide (2000 < (t154.length:Int))=false:=decide_eq_false c11
  have c11b1:decide (2000 < t154.length)=false:=decide_eq_false (by omega)
  clear c11
  have H':=Aside0.mk H
  clear H
  obtain⟨Ao13,co13,eo13⟩:=Kd.yE_ HO156.out
  subst eo13
  obtain⟨Ao14,co14,eo14⟩:=Kd.yE_ HO159.out
  subst eo14
  go_wp2
  go_meet
  case rel=>exact⟨_,(decide ((t157.length:Int) > 2000)),zc_,H',⟨by first|omega|exact Nat.le_refl _⟩,⟨by (with_reducible repeat (first|apply Kd.yj_|apply Kd.yk_|apply Kd.R_drew));exact Kd.R_mono HO156.out (fun _ hk=>hk.2)⟩,⟨by (with_reducible repeat (first|apply Kd.yj_|apply Kd.yk_|apply Kd.R_drew));exact Kd.R_mono HO159.out (fun _ hk=>hk.2)⟩,⟨by repeat (with_reducible first|exact HB.out|apply yc_|apply ya_|apply yb_)⟩⟩
 case rest =>
  clear HC6
  try clear c1
  try clear p2
  try clear c3
  try clear c6
  try clear c9
  try clear c9b0
  try clear c9b1
  try clear c10
  try clear c10b0
  try clear c10b1
  try clear c11
  try clear c11b0
  try clear c11b1
  obtain⟨kq,x14_5,rfl,HA,HJ5,HO_8,HO_9,HB⟩:=hcut
  cases kq with
  | zero=>exact absurd HA.out (by simp [yD_.j0])
  | succ kj5 =>
   have H:=HA.out
   clear HA
   simp only[yD_.j0] at H
   by_cases c15:x14_5=true
   ·subst c15
    have H1:(some (([]:List (S119)),2))=some (r1,r2):=by rw[if_pos rfl] at H;exact H
    clear H
    have H:=H1
    clear H1
    simp only[Option.some.injEq,Prod.mk.injEq] at H
    obtain⟨rfl,rfl⟩:=H
    go_wp2
    go_ret2
    exact⟨_,by first|rfl|(simp [yr_,ys_] <;> rfl)|(simp [*,yr_,ys_] <;> rfl),by first|exact Kd.R_nil _ _ _ _ _|exact Kd.N_nil _ _ _ _ _|exact Kd.V_nil _ _ _ _ _|exact Kd.Q_nil _ _ _ _ _|exact Kd.S_nil _ _ _ _ _,by repeat (with_reducible first|exact HB.out|apply yc_|apply ya_|apply yb_)⟩
   replace c15:=Bool.eq_false_iff.mpr c15
   subst c15
   have H1:(if a2 < 0 then (some (([]:List (S119)),1)) else (if a2 > 20 then (some (([]:List (S119)),1)) else ((yh_.f kj5 t154 t157).bind fun t160=>(some (t160,0)))))=some (r1,r2):=by rw[if_neg (show ¬ (false=true) by decide)] at H;exact H
   clear H
   have H:=H1
   clear H1
   by_cases c16:a2 < 0
   ·rw[if_pos c16] at H
    have c16b0:decide (a2 < 0)=true:=decide_eq_true c16
    clear c16
    simp only[Option.some.injEq,Prod.mk.injEq] at H
    obtain⟨rfl,rfl⟩:=H
    go_wp2
    go_ret2
    exact⟨_,by first|rfl|(simp [yr_,ys_] <;> rfl)|(simp [*,yr_,ys_] <;> rfl),by first|exact Kd.R_nil _ _ _ _ _|exact Kd.N_nil _ _ _ _ _|exact Kd.V_nil _ _ _ _ _|exact Kd.Q_nil _ _ _ _ _|exact Kd.S_nil _ _ _ _ _,by repeat (with_reducible first|exact HB.out|apply yc_|apply ya_|apply yb_)⟩
   rw[if_neg c16] at H
   have c16b0:decide (a2 < 0)=false:=decide_eq_false c16
   clear c16
   by_cases c17:a2 > 20
   ·rw[if_pos c17] at H
    have c17b0:decide (20 < a2)=true:=decide_eq_true c17
    clear c17
    simp only[Option.some.injEq,Prod.mk.injEq] at H
    obtain⟨rfl,rfl⟩:=H
    go_wp2
    go_ret2
    exact⟨_,by first|rfl|(simp [yr_,ys_] <;> rfl)|(simp [*,yr_,ys_] <;> rfl),by first|exact Kd.R_nil _ _ _ _ _|exact Kd.N_nil _ _ _ _ _|exact Kd.V_nil _ _ _ _ _|exact Kd.Q_nil _ _ _ _ _|exact Kd.S_nil _ _ _ _ _,by repeat (with_reducible first|exact HB.out|apply yc_|apply ya_|apply yb_)⟩
   rw[if_neg c17] at H
   have c17b0:decide (20 < a2)=false:=decide_eq_false c17
   clear c17
   replace H:=Option.bind_eq_some_iff.mp H
   obtain⟨t160,A180,H⟩:=H
   replace H:(some (t160,0))=some (r1,r2):=H
   have A18:=Aside0.mk A180
   clear A180
   simp only[Option.some.injEq,Prod.mk.injEq] at H
   obtain⟨rfl,rfl⟩:=H
   obtain⟨Ao19,co19,eo19⟩:=Kd.yE_ HO_8.out
   subst eo19
   obtain⟨Ao20,co20,eo20⟩:=Kd.yE_ HO_9.out
   subst eo20
   go_wp2_with (first|((with_reducible refine yA_ (f:=101) rfl ?_);refine goesL_ (some 42) rfl rfl Tryz.func101 ze_ rfl #[.slice Ao19 t154.length co19,.slice Ao20 t157.length co20] rfl zb_ ?_;(with_reducible refine (yh_.calls kj5 _ _ t154 _ _ t157 t160 _ ?side1 ?side2 ?side3 ?side4 A18.out).mono ?_);(case side1=>repeat (first|exact (Kd.yt_ HO_8.out).2.2|(with_reducible refine Kd.yM_ ?_ _)|(with_reducible refine Kd.yY_ ?_ _)|(with_reducible refine Kd.C_drew ?_)));(case side2=>exact (Kd.yt_ HO_8.out).2.1);(case side3=>repeat (first|exact (Kd.yt_ HO_9.out).2.2|(with_reducible refine Kd.yM_ ?_ _)|(with_reducible refine Kd.yY_ ?_ _)|(with_reducible refine Kd.C_drew ?_)));(case side4=>exact (Kd.yt_ HO_9.out).2.1);rintro e w21 ⟨v161,rfl,ho0,hb⟩;refine⟨_,rfl,?_⟩;have n0_:=Aside0.mk (Kd.yH_ (by (with_reducible repeat (first|apply Kd.yj_|apply Kd.yk_|apply Kd.R_drew));exact HO_8.out) hb);have n1_:=Aside0.mk (Kd.yH_ zk_ hb);have n2_:=Aside0.mk (Kd.y0_ ho0 (yp_ za_));have n3_:=Aside0.mk (yn_ za_ hb);clear HO_8;clear HO_9;clear HB;have HO_8:=n0_;have HO_9:=n1_;have HO162:=n2_;have HB:=n3_;clear n0_ n1_ n2_ n3_;(try clear hb);(try clear hb2);(try clear hk);(try clear hi);(try clear ho0)))
   go_ret2
   exact⟨_,by first|rfl|(simp [yr_,ys_] <;> rfl)|(simp [*,yr_,ys_] <;> rfl),by (with_reducible repeat (first|apply Kd.yj_|apply Kd.yk_|apply Kd.R_drew));exact HO162.out,by repeat (with_reducible first|exact HB.out|apply yc_|apply ya_|apply yb_)⟩

end Go.Proofs.YthimblhfjfngiaaGreat.PText

namespace Go.Proofs.YthimblhfjfngiaaGreat.PText
open Go.RowKit Go.Proofs.YthimblhfjfngiaaGreatW.PrintWords Go.Proofs.YthimblhfjfngiaaGreatW.PrintLast Go.Proofs.YthimblhfjfngiaaGreatW.PrintMore
attribute [local go_sem] yT_ yU_ y5_ y6_ yI_ yJ_ yV_ yW_   -- for this text's walks alone
set_option linter.unusedVariables false
set_option linter.unusedSimpArgs false

def yu_.l0:Nat→List (S91)→Int→Bool→List (S119)→Int→Int→Option ((List (S91)) × Int)
 | 0,_,_,_,_,_,_=>none
 | k+1,x8,x9,x10,x23,x24,x25=>if x25 < x24 then (if 0≤x25 then (if x25 < (x23.length:Int) then (if ((rd_T119 x23 x25).f0)=32 then (yu_.l0 k x8 (wrap64 (x9+(((rd_T119 x23 x25).f1).size:Int))) false x23 x24 (wrap64 (x25+1))) else (if x10=true then (if 0≤(wrap64 ((x8.length:Int) - 1)) then (if (wrap64 ((x8.length:Int) - 1)) < (x8.length:Int) then (if ((rd_T119 x23 x25).f0)=45 then (yu_.l0 k (x8.set ((wrap64 ((x8.length:Int) - 1)):Int).toNat (⟨(rd_T91 x8 (wrap64 ((x8.length:Int) - 1))).f0,wrap64 (x9+(((rd_T119 x23 x25).f1).size:Int)),(rd_T91 x8 (wrap64 ((x8.length:Int) - 1))).f2⟩:S91)) (wrap64 (x9+(((rd_T119 x23 x25).f1).size:Int))) true x23 x24 (wrap64 (x25+1))) else (if ((rd_T91 x8 (wrap64 ((x8.length:Int) - 1))).f2).size+((rd_T119 x23 x25).f1).size≤9223372036854775807 then (yu_.l0 k (x8.set ((wrap64 ((x8.length:Int) - 1)):Int).toNat (⟨(rd_T91 x8 (wrap64 ((x8.length:Int) - 1))).f0,(rd_T91 x8 (wrap64 ((x8.length:Int) - 1))).f1,((rd_T91 x8 (wrap64 ((x8.length:Int) - 1))).f2)++((rd_T119 x23 x25).f1)⟩:S91)) x9 true x23 x24 (wrap64 (x25+1))) else (none))) else (none)) else (none)) else (if x8.length < 4398046511104 then ((some (x8++[(⟨x9,x9,(⟨#[]⟩:ByteArray)⟩:S91)]:List (S91))).bind fun y171=>(if 0≤(wrap64 ((y171.length:Int) - 1)) then (if (wrap64 ((y171.length:Int) - 1)) < (y171.length:Int) then (if ((rd_T119 x23 x25).f0)=45 then (yu_.l0 k (y171.set ((wrap64 ((y171.length:Int) - 1)):Int).toNat (⟨(rd_T91 y171 (wrap64 ((y171.length:Int) - 1))).f0,wrap64 (x9+(((rd_T119 x23 x25).f1).size:Int)),(rd_T91 y171 (wrap64 ((y171.length:Int) - 1))).f2⟩:S91)) (wrap64 (x9+(((rd_T119 x23 x25).f1).size:Int))) true x23 x24 (wrap64 (x25+1))) else (if ((rd_T91 y171 (wrap64 ((y171.length:Int) - 1))).f2).size+((rd_T119 x23 x25).f1).size≤9223372036854775807 then (yu_.l0 k (y171.set ((wrap64 ((y171.length:Int) - 1)):Int).toNat (⟨(rd_T91 y171 (wrap64 ((y171.length:Int) - 1))).f0,(rd_T91 y171 (wrap64 ((y171.length:Int) - 1))).f1,((rd_T91 y171 (wrap64 ((y171.length:Int) - 1))).f2)++((rd_T119 x23 x25).f1)⟩:S91)) x9 true x23 x24 (wrap64 (x25+1))) else (none))) else (none)) else (none))) else (none)))) else (none)) else (none)) else (some (x8,0))
def yu_.f (k:Nat) (a0:ByteArray) (a1:ByteArray):Option ((List (S91)) × Int):=(yD_.f k a0 a1 0).bind fun bt163=>(if bt163.2=0 then (yu_.l0 k ([]:List (S91)) 0 false bt163.1 (bt163.1.length:Int) 0) else (some (([]:List (S91)),bt163.2)))
theorem yu_.mono_l:∀ k,(∀ y0 y1 y2 y3 y4 y5,LeO (yu_.l0 k y0 y1 y2 y3 y4 y5) (yu_.l0 (k+1) y0 y1 y2 y3 y4 y5))
 | 0=>fun _ _ _ _ _ _ r h=>by simp [yu_.l0] at h
 | k+1=>by
  have ih0:=yu_.mono_l k
  ·intro y0 y1 y2 y3 y4 y5
   unfold yu_.l0
   repeat' first
   | (with_reducible exact ih0 _ _ _ _ _ _)
   | (with_reducible exact yD_.mono _ _ _ _)
   | (with_reducible exact LeO.refl _)
   | (with_reducible exact LeO.none _)
   | (with_reducible refine LeO.ite ?_ ?_)
   | (with_reducible refine LeO.bind ?_ (fun _=>?_))
   | exact ih0 _ _ _ _ _ _
   | exact yD_.mono _ _ _ _
   | exact LeO.none _
   | refine LeO.ite ?_ ?_
   | refine LeO.bind ?_ (fun _=>?_)
theorem yu_.mono:∀ a0 a1 k,LeO (yu_.f k a0 a1) (yu_.f (k+1) a0 a1):=by
 intro a0 a1 k
 have ih0:=yu_.mono_l k
 unfold yu_.f
 repeat' first
   | (with_reducible exact ih0 _ _ _ _ _ _)
   | (with_reducible exact yD_.mono _ _ _ _)
   | (with_reducible exact LeO.refl _)
   | (with_reducible exact LeO.none _)
   | (with_reducible refine LeO.ite ?_ ?_)
   | (with_reducible refine LeO.bind ?_ (fun _=>?_))
   | exact ih0 _ _ _ _ _ _
   | exact yD_.mono _ _ _ _
   | exact LeO.none _
   | refine LeO.ite ?_ ?_
   | refine LeO.bind ?_ (fun _=>?_)
def yu_.T19:Bool × List (List Nat × List Nat):=(true,[([],[]),([0],[0]),([1],[1]),([2],[2]),([],[]),([4],[4]),([3,5],[3,5]),([0,0,1,2,3,4,5,6],[0]),([7,0,1,2,3,4,5,6],[7]),([8,6,0,1,2,3,4,5,6],[6,8])])
def yu_.B19:List Nat:=[0,1,3,7,0,16,63,127,255,511]
theorem yu_.tab19:rtab .any (opsOf Tryz.f50 19)=yu_.T19:=by kernel_rfl
theorem yu_.bits19:waitsOk yu_.T19.2 yu_.B19=true:=by kernel_rfl
set_option maxHeartbeats 8000000 in
set_option maxRecDepth 100000 in
theorem yu_.calls (k:Nat) (a0:ByteArray) (a1:ByteArray) (r1:List (S91)) (r2:Int) (w:World) (h:yu_.f k a0 a1=some (r1,r2)) :
  Calls Tryz.prog 50 #[.string a0,.string a1] w fun e w'=>∃ v0_:Value,e=.returned (.tuple #[v0_,.int .i64 r2])∧Kd.R k91 91 w' w.heap.size (fun _=>True) v0_ r1∧Below w.heap.size w w':=by
 have hu119:=Tryz.underlying119
 have hu91:=Tryz.underlying91
 have HB:=Aside0.mk (Below.refl w.heap.size w)
 have H:((yD_.f k a0 a1 0).bind fun bt163=>(if bt163.2=0 then (yu_.l0 k ([]:List (S91)) 0 false bt163.1 (bt163.1.length:Int) 0) else (some (([]:List (S91)),bt163.2))))=some (r1,r2):=h
 clear h
 replace H:=Option.bind_eq_some_iff.mp H
 obtain⟨⟨t163,t164⟩,A30,H⟩:=H
 replace H:(if t164=0 then (yu_.l0 k ([]:List (S91)) 0 false t163 (t163.length:Int) 0) else (some (([]:List (S91)),t164)))=some (r1,r2):=H
 have A3:=Aside0.mk A30
 clear A30
 by_cases c4:t164=0
 rotate_left
 ·rw[if_neg c4] at H
  have c4b0:(t164 == 0)=false:=beq_eq_false_iff_ne.mpr c4
  have c4b1:(t164 != 0)=true:=bne_iff_ne.mpr c4
  simp only[Option.some.injEq,Prod.mk.injEq] at H
  obtain⟨rfl,rfl⟩:=H
  go_enter Tryz.func50,Tryz.ntmps50
  go_wp2_with (first|((with_reducible refine yA_ (f:=69) rfl ?_);refine goesL_ (some 17) rfl rfl Tryz.func69 ze_ rfl #[.string a0,.string a1,.int .i64 0] rfl zb_ ?_;(with_reducible refine (yD_.calls k a0 a1 0 t163 t164 _ A3.out).mono ?_);rintro e w55 ⟨v165,rfl,ho0,hb⟩;refine⟨_,rfl,?_⟩;have n0_:=Aside0.mk (Kd.y0_ ho0 (yp_ za_));have n1_:=Aside0.mk (yn_ za_ hb);clear HB;have HO166:=n0_;have HB:=n1_;clear n0_ n1_;(try clear hb);(try clear hb2);(try clear hk);(try clear hi);(try clear ho0)))
  go_ret2
  exact⟨_,by first|rfl|(simp [yr_,ys_] <;> rfl)|(simp [*,yr_,ys_] <;> rfl),by first|exact Kd.R_nil _ _ _ _ _|exact Kd.N_nil _ _ _ _ _|exact Kd.V_nil _ _ _ _ _|exact Kd.Q_nil _ _ _ _ _|exact Kd.S_nil _ _ _ _ _,by repeat (with_reducible first|exact HB.out|apply yc_|apply ya_|apply yb_)⟩
 rw[if_pos c4] at H
 have c4b0:(t164 == 0)=true:=beq_iff_eq.mpr c4
 have c4b1:(t164 != 0)=false:=bne_eq_false_iff_eq.mpr c4
 clear c4
 have H':=Aside0.mk H
 clear H
 go_enter Tryz.func50,Tryz.ntmps50
 go_wp2_with (first|((with_reducible refine yA_ (f:=69) rfl ?_);refine goesL_ (some 17) rfl rfl Tryz.func69 ze_ rfl #[.string a0,.string a1,.int .i64 0] rfl zb_ ?_;(with_reducible refine (yD_.calls k a0 a1 0 t163 t164 _ A3.out).mono ?_);rintro e w5 ⟨v165,rfl,ho0,hb⟩;refine⟨_,rfl,?_⟩;have n0_:=Aside0.mk (Kd.y0_ ho0 (yp_ za_));have n1_:=Aside0.mk (yn_ za_ hb);clear HB;have HO166:=n0_;have HB:=n1_;clear n0_ n1_;(try clear hb);(try clear hb2);(try clear hk);(try clear hi);(try clear ho0);obtain⟨Ao6,co6,eo6⟩:=Kd.yE_ HO166.out;subst eo6))
 try simp only[Act.put,List.setIfInBounds_toArray,List.set_cons_succ,List.set_cons_zero]
 go_loopg [8,9,10,25] k (fun kq v8 v9 v10 v25 w'=>∃ (x8_1:List (S91)) (x9_1:Int) (x10_1:Bool) (x25_1:Int),v9=.int .i64 x9_1∧v10=.bool x10_1∧v25=.int .i64 x25_1∧Aside0 (yu_.l0 kq x8_1 x9_1 x10_1 t163 (t163.length:Int) x25_1=some (r1,r2))∧Aside0 (kq≤k)∧Aside0 (Kd.R k91 91 w' w.heap.size (fun _=>True) v8 x8_1)∧Aside0 (Kd.R k119 119 w' w.heap.size (fun _=>True) (.slice Ao6 t163.length co6) t163)∧Aside0 (Below w.heap.size w w'))
 case atStart=>exact⟨(([]:List (S91))),(0),(false),(0),zc_,zc_,zc_,H',⟨Nat.le_refl _⟩,⟨by first|exact Kd.R_nil _ _ _ _ _|exact Kd.N_nil _ _ _ _ _|exact Kd.V_nil _ _ _ _ _|exact Kd.Q_nil _ _ _ _ _|exact Kd.S_nil _ _ _ _ _⟩,⟨by (with_reducible repeat (first|apply Kd.yj_|apply Kd.yk_|apply Kd.R_drew));exact HO166.out⟩,⟨by repeat (with_reducible first|exact HB.out|apply yc_|apply ya_|apply yb_)⟩⟩
 case round =>
  clear H'
  try clear p2
  try clear c4
  try clear c4b0
  try clear c4b1
  try clear c5
  try clear c6
  obtain⟨x8_1,x9_1,x10_1,x25_1,rfl,rfl,rfl,HA,HK1,HO_8,HO_23,HB⟩:=hrel
  cases gk with
  | zero=>exact absurd HA.out (by simp [yu_.l0])
  | succ k1 =>
   have H:=HA.out
   clear HA
   simp only[yu_.l0] at H
   by_cases c7:x25_1 < (t163.length:Int)
   rotate_left
   ·rw[if_neg c7] at H
    have c7b0:decide (x25_1 < (t163.length:Int))=false:=decide_eq_false c7
    clear c7
    simp only[Option.some.injEq,Prod.mk.injEq] at H
    obtain⟨rfl,rfl⟩:=H
    go_wp2
    go_ret2
    exact⟨_,by first|rfl|(simp [yr_,ys_] <;> rfl)|(simp [*,yr_,ys_] <;> rfl),by (with_reducible repeat (first|apply Kd.yj_|apply Kd.yk_|apply Kd.R_drew));exact HO_8.out,by repeat (with_reducible first|exact HB.out|apply yc_|apply ya_|apply yb_)⟩
   rw[if_pos c7] at H
   have c7b0:decide (x25_1 < (t163.length:Int))=true:=decide_eq_true c7
   clear c7
   by_cases c8:0≤x25_1
   rotate_left
   ·rw[if_neg c8] at H
    exact absurd H (by simp)
   rw[if_pos c8] at H
   have c8b0:decide (0≤x25_1)=true:=decide_eq_true c8
   clear c8
   by_cases c9:x25_1 < (t163.length:Int)
   rotate_left
   ·rw[if_neg c9] at H
    exact absurd H (by simp)
   rw[if_pos c9] at H
   have c9b0:decide (x25_1 < (t163.length:Int))=true:=decide_eq_true c9
   clear c9
   by_cases c10:((rd_T119 t163 x25_1).f0)=32
   ·rw[if_pos c10] at H
    have c10b0:(((rd_T119 t163 x25_1).f0) == 32)=true:=beq_iff_eq.mpr c10
    have c10b1:(((rd_T119 t163 x25_1).f0) != 32)=false:=bne_eq_false_iff_eq.mpr c10
    clear c10
    have H':=Aside0.mk H
    clear H
    have p167:0≤(x25_1:Int):=of_decide_eq_true zd_
    have q167:x25_1 < (t163.length:Int):=of_decide_eq_true zd_
    obtain⟨ad167,e167,hx167_0,hx167_1⟩:=at_T119 (Kd.yt_ HO_23.out).2.2 x25_1 p167 q167
    cases e167
    replace p167:=eq_true p167
    replace q167:=eq_true q167
    go_wp2_with (first|((with_reducible refine yO_ (N:=12) rfl ?_);refine yS_ ?hg (N:=12) ?hd (cs:=#[.int .u8 0,.string (⟨#[]⟩:ByteArray)]) (t:=119) ?hr ?_;(case hd=>rfl);(case hg=>rfl);(case hr=>first|(go_simp;done)|(go_simp;rfl));intro gb168 hg w11 hbox hb;have n0_:=Aside0.mk (Kd.yH_ (by (with_reducible repeat (first|apply Kd.yj_|apply Kd.yk_|apply Kd.R_drew));exact HO_8.out) hb);have n1_:=Aside0.mk (Kd.yH_ (Kd.yWb_ (by (with_reducible repeat (first|apply Kd.yj_|apply Kd.yk_|apply Kd.R_drew));exact HO_23.out) gb168 (Nat.le_of_eq hg.symm)) hb);have n2_:=Aside0.mk (yn_ za_ hb);have n3_:=Aside0.mk (hbox);have n4_:=Aside0.mk ((by rw[hg];exact (yp_ za_):w.heap.size≤gb168));have n5_:=Aside0.mk ((by rw[hg];exact (yp_ za_):w.heap.size≤gb168));clear HO_8;clear HO_23;clear HB;have HO_8:=n0_;have HO_23:=n1_;have HB:=n2_;have BK168:=n3_;have GW168:=n4_;have GE168:=n5_;clear n0_ n1_ n2_ n3_ n4_ n5_;clear hb hbox hg;have hcz12_0:w11.cell? ⟨gb168,0,none⟩=some (.int .u8 0):=(yl_ BK168.out 0).trans rfl;have hcz12_1:w11.cell? ⟨gb168,1,none⟩=some (.string (⟨#[]⟩:ByteArray)):=(yl_ BK168.out 1).trans rfl;have hfz12_0:=yi_ BK168.out 0;have hfz12_1:=yi_ BK168.out 1))
    go_roundg k1
    case measure=>have:=HK1.out;omega
    case rel=>exact⟨(x8_1),(wrap64 (x9_1+(((rd_T119 t163 x25_1).f1).size:Int))),(false),(wrap64 (x25_1+1)),zc_,zc_,zc_,H',⟨by have:=HK1.out;omega⟩,⟨by (with_reducible repeat (first|apply Kd.yj_|apply Kd.yk_|apply Kd.R_drew));exact Kd.R_mono (Kd.R_far (p:=⟨gb168,1,none⟩) (Kd.R_far (p:=⟨gb168,0,none⟩) (Kd.yJb_ HO_8.out BK168.out (by decide)) (fun _ hk=>hk.2) (.int .u8 ((rd_T119 t163 x25_1).f0))) (fun _ hk=>hk.2) (.string ((rd_T119 t163 x25_1).f1))) (fun _ hk=>trivial)⟩,⟨by (with_reducible repeat (first|apply Kd.yj_|apply Kd.yk_|apply Kd.R_drew));exact Kd.R_mono (Kd.R_far (p:=⟨gb168,1,none⟩) (Kd.R_far (p:=⟨gb168,0,none⟩) (Kd.R_mono HO_23.out (fun k_ hk=>(⟨hk,hk.2⟩:_∧k_≠gb168))) (fun _ hk=>hk.2) (.int .u8 ((rd_T119 t163 x25_1).f0))) (fun _ hk=>hk.2) (.string ((rd_T119 t163 x25_1).f1))) (fun _ hk=>trivial)⟩,⟨by repeat (with_reducible first|exact HB.out|apply yc_|apply ya_|apply yb_|refine yq_ ?_ GE168.out)⟩⟩
   rw[if_neg c10] at H
   have c10b0:(((rd_T119 t163 x25_1).f0) == 32)=false:=beq_eq_false_iff_ne.mpr c10
   have c10b1:(((rd_T119 t163 x25_1).f0) != 32)=true:=bne_iff_ne.mpr c10
   by_cases c13:x10_1=true
   ·subst c13
    have H1:(if 0≤(wrap64 ((x8_1.length:Int) - 1)) then (if (wrap64 ((x8_1.length:Int) - 1)) < (x8_1.length:Int) then (if ((rd_T119 t163 x25_1).f0)=45 then (yu_.l0 k1 (x8_1.set ((wrap64 ((x8_1.length:Int) - 1)):Int).toNat (⟨(rd_T91 x8_1 (wrap64 ((x8_1.length:Int) - 1))).f0,wrap64 (x9_1+(((rd_T119 t163 x25_1).f1).size:Int)),(rd_T91 x8_1 (wrap64 ((x8_1.length:Int) - 1))).f2⟩:S91)) (wrap64 (x9_1+(((rd_T119 t163 x25_1).f1).size:Int))) true t163 (t163.length:Int) (wrap64 (x25_1+1))) else (if ((rd_T91 x8_1 (wrap64 ((x8_1.length:Int) - 1))).f2).size+((rd_T119 t163 x25_1).f1).size≤9223372036854775807 then (yu_.l0 k1 (x8_1.set ((wrap64 ((x8_1.length:Int) - 1)):Int).toNat (⟨(rd_T91 x8_1 (wrap64 ((x8_1.length:Int) - 1))).f0,(rd_T91 x8_1 (wrap64 ((x8_1.length:Int) - 1))).f1,((rd_T91 x8_1 (wrap64 ((x8_1.length:Int) - 1))).f2)++((rd_T119 t163 x25_1).f1)⟩:S91)) x9_1 true t163 (t163.length:Int) (wrap64 (x25_1+1))) else (none))) else (none)) else (none))=some (r1,r2):=by rw[if_pos rfl] at H;exact H
    clear H
    have H:=H1
    clear H1
    obtain⟨ji14,hji14⟩:∃ j_:Int,(wrap64 ((x8_1.length:Int) - 1))=j_:=⟨_,rfl⟩
    replace H:(if 0≤(ji14) then (if (ji14) < (x8_1.length:Int) then (if ((rd_T119 t163 x25_1).f0)=45 then (yu_.l0 k1 (x8_1.set ((ji14):Int).toNat (⟨(rd_T91 x8_1 (ji14)).f0,wrap64 (x9_1+(((rd_T119 t163 x25_1).f1).size:Int)),(rd_T91 x8_1 (ji14)).f2⟩:S91)) (wrap64 (x9_1+(((rd_T119 t163 x25_1).f1).size:Int))) true t163 (t163.length:Int) (wrap64 (x25_1+1))) else (if ((rd_T91 x8_1 (ji14)).f2).size+((rd_T119 t163 x25_1).f1).size≤9223372036854775807 then (yu_.l0 k1 (x8_1.set ((ji14):Int).toNat (⟨(rd_T91 x8_1 (ji14)).f0,(rd_T91 x8_1 (ji14)).f1,((rd_T91 x8_1 (ji14)).f2)++((rd_T119 t163 x25_1).f1)⟩:S91)) x9_1 true t163 (t163.length:Int) (wrap64 (x25_1+1))) else (none))) else (none)) else (none))=some (r1,r2):=by first|(rw[hji14] at H;exact H)|(simp only[hji14] at H ⊢;exact H)
    have hji14w:(IntKind.i64.wrap ((x8_1.length:Int) - 1))=ji14:=(i64_w _).trans hji14
    by_cases c15:0≤(ji14)
    rotate_left
    ·rw[if_neg c15] at H
     exact absurd H (by simp)
    rw[if_pos c15] at H
    have c15b0:decide (0≤(ji14))=true:=decide_eq_true c15
    clear c15
    by_cases c16:(ji14) < (x8_1.length:Int)
    rotate_left
    ·rw[if_neg c16] at H
     exact absurd H (by simp)
    rw[if_pos c16] at H
    have c16b0:decide ((ji14) < (x8_1.length:Int))=true:=decide_eq_true c16
    clear c16
    by_cases c18:((rd_T119 t163 x25_1).f0)=45
    ·rw[if_pos c18] at H
     have c18b0:(((rd_T119 t163 x25_1).f0) == 45)=true:=beq_iff_eq.mpr c18
     have c18b1:(((rd_T119 t163 x25_1).f0) != 45)=false:=bne_eq_false_iff_eq.mpr c18
     clear c18
     obtain⟨y169,hy169⟩:∃ y_:List (S91),y_=(x8_1.set ((ji14):Int).toNat (⟨(rd_T91 x8_1 (ji14)).f0,wrap64 (x9_1+(((rd_T119 t163 x25_1).f1).size:Int)),(rd_T91 x8_1 (ji14)).f2⟩:S91)):=⟨_,rfl⟩
     replace H:(yu_.l0 k1 y169 (wrap64 (x9_1+(((rd_T119 t163 x25_1).f1).size:Int))) true t163 (t163.length:Int) (wrap64 (x25_1+1)))=some (r1,r2):=by first|(rw[hy169];with_reducible exact H)|(have H2_:=(Option.bind_some _ _).symm.trans H;rw[hy169];with_reducible exact H2_)|(have H2_:=(Option.bind_some _ _).symm.trans H;with_reducible exact H2_)|with_reducible exact H|(rw[hy169];exact H)|exact H
     have Ny169:=Aside0.mk hy169
     clear hy169
     have H':=Aside0.mk H
     clear H
     have p167:0≤(x25_1:Int):=of_decide_eq_true zd_
     have q167:x25_1 < (t163.length:Int):=of_decide_eq_true zd_
     obtain⟨ad167,e167,hx167_0,hx167_1⟩:=at_T119 (Kd.yt_ HO_23.out).2.2 x25_1 p167 q167
     cases e167
     replace p167:=eq_true p167
     replace q167:=eq_true q167
     go_wp2_with (first|((with_reducible refine yO_ (N:=12) rfl ?_);refine yS_ ?hg (N:=12) ?hd (cs:=#[.int .u8 0,.string (⟨#[]⟩:ByteArray)]) (t:=119) ?hr ?_;(case hd=>rfl);(case hg=>rfl);(case hr=>first|(go_simp;done)|(go_simp;rfl));intro gb168 hg w19 hbox hb;have n0_:=Aside0.mk (Kd.yH_ (by (with_reducible repeat (first|apply Kd.yj_|apply Kd.yk_|apply Kd.R_drew));exact HO_8.out) hb);have n1_:=Aside0.mk (Kd.yH_ (Kd.yWb_ (by (with_reducible repeat (first|apply Kd.yj_|apply Kd.yk_|apply Kd.R_drew));exact HO_23.out) gb168 (Nat.le_of_eq hg.symm)) hb);have n2_:=Aside0.mk (yn_ za_ hb);have n3_:=Aside0.mk (hbox);have n4_:=Aside0.mk ((by rw[hg];exact (yp_ za_):w.heap.size≤gb168));have n5_:=Aside0.mk ((by rw[hg];exact (yp_ za_):w.heap.size≤gb168));clear HO_8;clear HO_23;clear HB;have HO_8:=n0_;have HO_23:=n1_;have HB:=n2_;have BK168:=n3_;have GW168:=n4_;have GE168:=n5_;clear n0_ n1_ n2_ n3_ n4_ n5_;clear hb hbox hg;have hcz20_0:w19.cell? ⟨gb168,0,none⟩=some (.int .u8 0):=(yl_ BK168.out 0).trans rfl;have hcz20_1:w19.cell? ⟨gb168,1,none⟩=some (.string (⟨#[]⟩:ByteArray)):=(yl_ BK168.out 1).trans rfl;have hfz20_0:=yi_ BK168.out 0;have hfz20_1:=yi_ BK168.out 1)|((with_reducible refine y7_ (t:=119) (p:=12) rfl ?_);refine y2_ (t:=119) (p:=12) (v:=?vo_w21) (w1:=((w19.setCell ⟨gb168,0,none⟩ (.int .u8 ((rd_T119 t163 x25_1).f0))).setCell ⟨gb168,1,none⟩ (.string ((rd_T119 t163 x25_1).f1)))) ?hg ?ho ?hn ?hr ?_;(case ho=>rfl);(case hg=>rfl);(case hn=>rfl);(case hr=>first|(go_simp;done)|(go_simp;rfl));intro w21 hw;have n0_:Aside0 (Kd.R k91 91 w21 w.heap.size (fun _=>True) u8 x8_1):=⟨(by rw[hw];exact (by (with_reducible repeat (first|apply Kd.yj_|apply Kd.yk_|apply Kd.R_drew));exact Kd.R_mono (Kd.R_far (p:=⟨gb168,1,none⟩) (Kd.R_far (p:=⟨gb168,0,none⟩) (Kd.yJb_ HO_8.out BK168.out (by decide)) (fun _ hk=>hk.2) (.int .u8 ((rd_T119 t163 x25_1).f0))) (fun _ hk=>hk.2) (.string ((rd_T119 t163 x25_1).f1))) (fun _ hk=>trivial)))⟩;have n1_:Aside0 (Kd.R k119 119 w21 w.heap.size (fun k_=>k_≠gb168) (.slice (some ad167) t163.length co6) t163):=⟨(by rw[hw];exact (by (with_reducible repeat (first|apply Kd.yj_|apply Kd.yk_|apply Kd.R_drew));exact Kd.R_mono (Kd.R_far (p:=⟨gb168,1,none⟩) (Kd.R_far (p:=⟨gb168,0,none⟩) (Kd.R_mono HO_23.out (fun k_ hk=>(⟨hk,hk.2⟩:_∧k_≠gb168))) (fun _ hk=>hk.2) (.int .u8 ((rd_T119 t163 x25_1).f0))) (fun _ hk=>hk.2) (.string ((rd_T119 t163 x25_1).f1))) (fun _ hk=>hk.1.2)))⟩;have n2_:Aside0 (w21.heap[gb168]?=some (.cells #[.int .u8 ((rd_T119 t163 x25_1).f0),.string ((rd_T119 t163 x25_1).f1)] 119 (0,0))):=⟨(by rw[hw];exact zi_)⟩;have n3_:Aside0 (Below w.heap.size w w21):=⟨(by rw[hw];exact (by repeat (with_reducible first|exact HB.out|apply yc_|apply ya_|apply yb_|refine yq_ ?_ GE168.out)))⟩;clear hw;clear HO_8;clear HO_23;clear BK168;clear HB;have HO_8:=n0_;have HO_23:=n1_;have BK168:=n2_;have HB:=n3_;clear n0_ n1_ n2_ n3_;have hcz22_0:w21.cell? ⟨gb168,0,none⟩=some (.int .u8 ((rd_T119 t163 x25_1).f0)):=(yl_ BK168.out 0).trans rfl;have hcz22_1:w21.cell? ⟨gb168,1,none⟩=some (.string ((rd_T119 t163 x25_1).f1)):=(yl_ BK168.out 1).trans rfl;have hfz22_0:=yi_ BK168.out 0;have hfz22_1:=yi_ BK168.out 1;obtain⟨Ao23,co23,eo23⟩:=Kd.yE_ HO_8.out;subst eo23;have p17:0≤((ji14):Int):=of_decide_eq_true zd_;have q17:((ji14):Int) < ((x8_1.length:Int):Int):=of_decide_eq_true zd_;obtain⟨go17,co17,eo17,gb17,gl17,cl17,HG17⟩:=Kd.R_form HO_8.out (by omega);(first|cases eo17|(injection eo17 with ea_ en_ ec_;(first|subst ea_|(injection ea_ with ea_;subst ea_));subst ec_;clear en_));have GB17:=Aside0.mk gb17;have GG17:=Aside0.mk HG17;clear gb17 gl17 HG17;obtain⟨ce17,hcl17,hM17,hcc17,hfr17⟩:=Kd.R_elem HO_8.out z91 ((ji14):Int) p17 q17;obtain rfl:=yrb_ hM17;have hx17_0:w21.cell? ⟨go17,((ji14):Int).toNat * 3,none⟩=some (.int .i64 ((rd_T91 x8_1 (ji14)).f0)):=hcc17 0 _ rfl;have hx17_1:w21.cell? ⟨go17,((ji14):Int).toNat * 3+1,none⟩=some (.int .i64 ((rd_T91 x8_1 (ji14)).f1)):=hcc17 1 _ rfl;have hx17_2:w21.cell? ⟨go17,((ji14):Int).toNat * 3+2,none⟩=some (.string ((rd_T91 x8_1 (ji14)).f2)):=hcc17 2 _ rfl;have hf17_0:w21.frozen? ⟨go17,((ji14):Int).toNat * 3,none⟩=false:=hfr17 0;have hf17_1:w21.frozen? ⟨go17,((ji14):Int).toNat * 3+1,none⟩=false:=hfr17 1;have hf17_2:w21.frozen? ⟨go17,((ji14):Int).toNat * 3+2,none⟩=false:=hfr17 2;clear hcl17 hcc17 hfr17 hM17;replace p17:=eq_true p17;replace q17:=eq_true q17;have HX24:=Aside0.mk (show Kd.R k91 91 w21 w.heap.size (fun _=>True) (.slice (some ⟨go17,0,none⟩) x8_1.length co23) x8_1 from (by (with_reducible repeat (first|apply Kd.yj_|apply Kd.yk_|apply Kd.R_drew));exact HO_8.out));obtain⟨ce24,hcl24,hM24,hcc24,hfr24⟩:=Kd.R_elem HX24.out z91 ((ji14):Int) (of_decide_eq_true zd_) (by have h_:((ji14):Int) < ((x8_1.length:Int):Int):=of_decide_eq_true zd_;first|exact h_|(have e_:=(Kd.yt_ HO_8.out).1;omega)|simpa using h_);obtain rfl:=yrb_ hM24;have HP24:=Kd.R_seg HX24.out ((ji14):Int) (of_decide_eq_true zd_) (by have h_:((ji14):Int) < ((x8_1.length:Int):Int):=of_decide_eq_true zd_;first|exact h_|(have e_:=(Kd.yt_ HO_8.out).1;omega)|simpa using h_) (seg:=[.int .i64 (wrap64 (x9_1+(((rd_T119 t163 x25_1).f1).size:Int)))]) (j:=1) hcl24 hcc24 (show 2≤3 from by decide) (x':=(⟨(rd_T91 x8_1 (ji14)).f0,wrap64 (x9_1+(((rd_T119 t163 x25_1).f1).size:Int)),(rd_T91 x8_1 (ji14)).f2⟩:S91)) (yQb_ _ _ _ (⟨(rd_T91 x8_1 (ji14)).f0,wrap64 (x9_1+(((rd_T119 t163 x25_1).f1).size:Int)),(rd_T91 x8_1 (ji14)).f2⟩:S91) ) (fun _ hk=>hk);have hx24_1:=hcc24 1 _ rfl;(try simp only[show (k91).sz=3 from rfl,Nat.mul_one,Nat.add_zero] at hx24_1);have hf24_1:=hfr24 1;(try simp only[show (k91).sz=3 from rfl,Nat.mul_one,Nat.add_zero] at hf24_1);clear hcl24 hcc24 hfr24 hM24)|((with_reducible refine y7_ (t:=3) (p:=61) rfl ?_);refine y2_ (t:=3) (p:=61) (v:=?vo_w25) (w1:=(w21.setCell ⟨go17,((ji14):Int).toNat * 3+1,none⟩ (.int .i64 (wrap64 (x9_1+(((rd_T119 t163 x25_1).f1).size:Int)))))) ?hg ?ho ?hn ?hr ?_;(case ho=>rfl);(case hg=>rfl);(case hn=>rfl);(case hr=>first|(go_simp;done)|(go_simp;rfl));intro w25 hw;have hg:w21.grownBy w25 (some go17):=(by rw[hw];exact HP24.2);have hp_:Kd.R k91 91 w25 w.heap.size (fun _=>True) (.slice (some ⟨go17,0,none⟩) x8_1.length co23) y169:=(by rw[hw,Ny169.out];exact HP24.1);clear HP24;have n0_:=Aside0.mk (hp_);have n1_:=Aside0.mk (Kd.yhb_ (v:=(.slice (some ⟨go17,0,none⟩) x8_1.length co23)) (by (with_reducible repeat (first|apply Kd.yj_|apply Kd.yk_|apply Kd.R_drew));exact HO_23.out) (Kd.ybb_ HO_8.out) (by decide) hg);have n2_:=Aside0.mk (yCb_ (g:=gb168) (o:=.cells #[.int .u8 ((rd_T119 t163 x25_1).f0),.string ((rd_T119 t163 x25_1).f1)] 119 (0,0)) (by (with_reducible repeat (first|refine yw_ ?_ _|refine yz_ ?_|refine yv_ ?_ _));exact BK168.out) hg (Kd.R_ne HO_8.out BK168.out (by decide)));have n3_:=Aside0.mk ((by rw[hw];exact yq_ (HB.out) GB17.out:Below w.heap.size w w25));clear HO_8;clear HO_23;clear BK168;clear HB;have HO_8:=n0_;have HO_23:=n1_;have BK168:=n2_;have HB:=n3_;clear n0_ n1_ n2_ n3_;clear hg hw hp_))
     go_roundg k1
     case measure=>have:=HK1.out;omega
     case rel=>exact⟨(y169),(wrap64 (x9_1+(((rd_T119 t163 x25_1).f1).size:Int))),(true),(wrap64 (x25_1+1)),zc_,zc_,zc_,H',⟨by have:=HK1.out;omega⟩,⟨by (with_reducible repeat (first|apply Kd.yj_|apply Kd.yk_|apply Kd.R_drew));exact HO_8.out⟩,⟨by (with_reducible repeat (first|apply Kd.yj_|apply Kd.yk_|apply Kd.R_drew));exact Kd.R_mono HO_23.out (fun _ hk=>trivial)⟩,⟨by repeat (with_reducible first|exact HB.out|apply yc_|apply ya_|apply yb_|refine yq_ ?_ GE168.out)⟩⟩
    rw[if_neg c18] at H
    have c18b0:(((rd_T119 t163 x25_1).f0) == 45)=false:=beq_eq_false_iff_ne.mpr c18
    have c18b1:(((rd_T119 t163 x25_1).f0) != 45)=true:=bne_iff_ne.mpr c18
    by_cases c26:((rd_T91 x8_1 (ji14)).f2).size+((rd_T119 t163 x25_1).f1).size≤9223372036854775807
    rotate_left
    ·rw[if_neg c26] at H
     exact absurd H (by simp)
    rw[if_pos c26] at H
    have c26b0:=eq_true c26
    have c26b1:decide (((rd_T91 x8_1 (ji14)).f2).size+((rd_T119 t163 x25_1).f1).size≤9223372036854775807)=true:=decide_eq_true c26
    try have c26b2:(9223372036854775807 < ((rd_T91 x8_1 (ji14)).f2).size+((rd_T119 t163 x25_1).f1).size)=False:=eq_false (Nat.not_lt.2 c26)
    obtain⟨y170,hy170⟩:∃ y_:List (S91),y_=(x8_1.set ((ji14):Int).toNat (⟨(rd_T91 x8_1 (ji14)).f0,(rd_T91 x8_1 (ji14)).f1,((rd_T91 x8_1 (ji14)).f2)++((rd_T119 t163 x25_1).f1)⟩:S91)):=⟨_,rfl⟩
    replace H:(yu_.l0 k1 y170 x9_1 true t163 (t163.length:Int) (wrap64 (x25_1+1)))=some (r1,r2):=by first|(rw[hy170];with_reducible exact H)|(have H2_:=(Option.bind_some _ _).symm.trans H;rw[hy170];with_reducible exact H2_)|(have H2_:=(Option.bind_some _ _).symm.trans H;with_reducible exact H2_)|with_reducible exact H|(rw[hy170];exact H)|exact H
    have Ny170:=Aside0.mk hy170
    clear hy170
    have H':=Aside0.mk H
    clear H
    have p167:0≤(x25_1:Int):=of_decide_eq_true zd_
    have q167:x25_1 < (t163.length:Int):=of_decide_eq_true zd_
    obtain⟨ad167,e167,hx167_0,hx167_1⟩:=at_T119 (Kd.yt_ HO_23.out).2.2 x25_1 p167 q167
    cases e167
    replace p167:=eq_true p167
    replace q167:=eq_true q167
    try go_wp2_with (first|((with_reducible refine yO_ (N:=12) rfl ?_);refine yS_ ?hg (N:=12) ?hd (cs:=#[.int .u8 0,.string (⟨#[]⟩:ByteArray)]) (t:=119) ?hr ?_;(case hd=>rfl);(case hg=>rfl);(case hr=>first|(go_simp;done)|(go_simp;rfl));intro gb168 hg w27 hbox hb;have n0_:=Aside0.mk (Kd.yH_ (by (with_reducible repeat (first|apply Kd.yj_|apply Kd.yk_|apply Kd.R_drew));exact HO_8.out) hb);have n1_:=Aside0.mk (Kd.yH_ (Kd.yWb_ (by (with_reducible repeat (first|apply Kd.yj_|apply Kd.yk_|apply Kd.R_drew));exact HO_23.out) gb168 (Nat.le_of_eq hg.symm)) hb);have n2_:=Aside0.mk (yn_ za_ hb);have n3_:=Aside0.mk (hbox);have n4_:=Aside0.mk ((by rw[hg];exact (yp_ za_):w.heap.size≤gb168));have n5_:=Aside0.mk ((by rw[hg];exact (yp_ za_):w.heap.size≤gb168));clear HO_8;clear HO_23;clear HB;have HO_8:=n0_;have HO_23:=n1_;have HB:=n2_;have BK168:=n3_;have GW168:=n4_;have GE168:=n5_;clear n0_ n1_ n2_ n3_ n4_ n5_;clear hb hbox hg;have hcz28_0:w27.cell? ⟨gb168,0,none⟩=some (.int .u8 0):=(yl_ BK168.out 0).trans rfl;have hcz28_1:w27.cell? ⟨gb168,1,none⟩=some (.string (⟨#[]⟩:ByteArray)):=(yl_ BK168.out 1).trans rfl;have hfz28_0:=yi_ BK168.out 0;have hfz28_1:=yi_ BK168.out 1)|((with_reducible refine y7_ (t:=119) (p:=12) rfl ?_);refine y2_ (t:=119) (p:=12) (v:=?vo_w29) (w1:=((w27.setCell ⟨gb168,0,none⟩ (.int .u8 ((rd_T119 t163 x25_1).f0))).setCell ⟨gb168,1,none⟩ (.string ((rd_T119 t163 x25_1).f1)))) ?hg ?ho ?hn ?hr ?_;(case ho=>rfl);(case hg=>rfl);(case hn=>rfl);(case hr=>first|(go_simp;done)|(go_simp;rfl));intro w29 hw;have n0_:Aside0 (Kd.R k91 91 w29 w.heap.size (fun _=>True) u8 x8_1):=⟨(by rw[hw];exact (by (with_reducible repeat (first|apply Kd.yj_|apply Kd.yk_|apply Kd.R_drew));exact Kd.R_mono (Kd.R_far (p:=⟨gb168,1,none⟩) (Kd.R_far (p:=⟨gb168,0,none⟩) (Kd.yJb_ HO_8.out BK168.out (by decide)) (fun _ hk=>hk.2) (.int .u8 ((rd_T119 t163 x25_1).f0))) (fun _ hk=>hk.2) (.string ((rd_T119 t163 x25_1).f1))) (fun _ hk=>trivial)))⟩;have n1_:Aside0 (Kd.R k119 119 w29 w.heap.size (fun k_=>k_≠gb168) (.slice (some ad167) t163.length co6) t163):=⟨(by rw[hw];exact (by (with_reducible repeat (first|apply Kd.yj_|apply Kd.yk_|apply Kd.R_drew));exact Kd.R_mono (Kd.R_far (p:=⟨gb168,1,none⟩) (Kd.R_far (p:=⟨gb168,0,none⟩) (Kd.R_mono HO_23.out (fun k_ hk=>(⟨hk,hk.2⟩:_∧k_≠gb168))) (fun _ hk=>hk.2) (.int .u8 ((rd_T119 t163 x25_1).f0))) (fun _ hk=>hk.2) (.string ((rd_T119 t163 x25_1).f1))) (fun _ hk=>hk.1.2)))⟩;have n2_:Aside0 (w29.heap[gb168]?=some (.cells #[.int .u8 ((rd_T119 t163 x25_1).f0),.string ((rd_T119 t163 x25_1).f1)] 119 (0,0))):=⟨(by rw[hw];exact zi_)⟩;have n3_:Aside0 (Below w.heap.size w w29):=⟨(by rw[hw];exact (by repeat (with_reducible first|exact HB.out|apply yc_|apply ya_|apply yb_|refine yq_ ?_ GE168.out)))⟩;clear hw;clear HO_8;clear HO_23;clear BK168;clear HB;have HO_8:=n0_;have HO_23:=n1_;have BK168:=n2_;have HB:=n3_;clear n0_ n1_ n2_ n3_;have hcz30_0:w29.cell? ⟨gb168,0,none⟩=some (.int .u8 ((rd_T119 t163 x25_1).f0)):=(yl_ BK168.out 0).trans rfl;have hcz30_1:w29.cell? ⟨gb168,1,none⟩=some (.string ((rd_T119 t163 x25_1).f1)):=(yl_ BK168.out 1).trans rfl;have hfz30_0:=yi_ BK168.out 0;have hfz30_1:=yi_ BK168.out 1;obtain⟨Ao31,co31,eo31⟩:=Kd.yE_ HO_8.out;subst eo31;have p17:0≤((ji14):Int):=of_decide_eq_true zd_;have q17:((ji14):Int) < ((x8_1.length:Int):Int):=of_decide_eq_true zd_;obtain⟨go17,co17,eo17,gb17,gl17,cl17,HG17⟩:=Kd.R_form HO_8.out (by omega);(first|cases eo17|(injection eo17 with ea_ en_ ec_;(first|subst ea_|(injection ea_ with ea_;subst ea_));subst ec_;clear en_));have GB17:=Aside0.mk gb17;have GG17:=Aside0.mk HG17;clear gb17 gl17 HG17;obtain⟨ce17,hcl17,hM17,hcc17,hfr17⟩:=Kd.R_elem HO_8.out z91 ((ji14):Int) p17 q17;obtain rfl:=yrb_ hM17;have hx17_0:w29.cell? ⟨go17,((ji14):Int).toNat * 3,none⟩=some (.int .i64 ((rd_T91 x8_1 (ji14)).f0)):=hcc17 0 _ rfl;have hx17_1:w29.cell? ⟨go17,((ji14):Int).toNat * 3+1,none⟩=some (.int .i64 ((rd_T91 x8_1 (ji14)).f1)):=hcc17 1 _ rfl;have hx17_2:w29.cell? ⟨go17,((ji14):Int).toNat * 3+2,none⟩=some (.string ((rd_T91 x8_1 (ji14)).f2)):=hcc17 2 _ rfl;have hf17_0:w29.frozen? ⟨go17,((ji14):Int).toNat * 3,none⟩=false:=hfr17 0;have hf17_1:w29.frozen? ⟨go17,((ji14):Int).toNat * 3+1,none⟩=false:=hfr17 1;have hf17_2:w29.frozen? ⟨go17,((ji14):Int).toNat * 3+2,none⟩=false:=hfr17 2;clear hcl17 hcc17 hfr17 hM17;replace p17:=eq_true p17;replace q17:=eq_true q17))
    have n0_:=Aside0.mk (Kd.R_drew HO_8.out)
    have n1_:=Aside0.mk (Kd.R_drew HO_23.out)
    have n2_:=Aside0.mk (yz_ BK168.out)
    have n3_:=Aside0.mk (yb_ HB.out)
    clear HO_8
    clear HO_23
    clear BK168
    clear HB
    have HO_8:=n0_
    have HO_23:=n1_
    have BK168:=n2_
    have HB:=n3_
    clear n0_ n1_ n2_ n3_
    obtain⟨ce33,hcl33,hM33,hcc33,hfr33⟩:=Kd.R_elem HO_8.out z91 ((ji14):Int) (of_decide_eq_true zd_) (by have h_:((ji14):Int) < ((x8_1.length:Int):Int):=of_decide_eq_true zd_;first|exact h_|(have e_:=(Kd.yt_ HO_8.out).1;omega)|simpa using h_)
    obtain rfl:=yrb_ hM33
    have HP33:=(Kd.R_seg HO_8.out ((ji14):Int) (of_decide_eq_true zd_) (by have h_:((ji14):Int) < ((x8_1.length:Int):Int):=of_decide_eq_true zd_;first|exact h_|(have e_:=(Kd.yt_ HO_8.out).1;omega)|simpa using h_) (seg:=[.string (((rd_T91 x8_1 (ji14)).f2)++((rd_T119 t163 x25_1).f1))]) (j:=2) hcl33 hcc33 (show 3≤3 from by decide) (x':=(⟨(rd_T91 x8_1 (ji14)).f0,(rd_T91 x8_1 (ji14)).f1,((rd_T91 x8_1 (ji14)).f2)++((rd_T119 t163 x25_1).f1)⟩:S91)) (yQb_ _ _ _ (⟨(rd_T91 x8_1 (ji14)).f0,(rd_T91 x8_1 (ji14)).f1,((rd_T91 x8_1 (ji14)).f2)++((rd_T119 t163 x25_1).f1)⟩:S91) ) (fun _ hk=>hk)).1
    rw[← Ny170.out] at HP33
    have HQ33:=Aside0.mk HP33
    have hxq33:=hcc33 2 _ rfl
    have hfq33:World.frozen? _ ⟨go17,((ji14):Int).toNat * 3+2,none⟩=false:=hfr33 2
    clear hcl33 hcc33 hfr33 hM33 HP33
    refine start_ (n:=10) (S:=fun w'=>w'.cell? ⟨gb168,0,none⟩=some (.int .u8 ((rd_T119 t163 x25_1).f0))∧w'.cell? ⟨gb168,1,none⟩=some (.string ((rd_T119 t163 x25_1).f1))∧w'.cell? ⟨go17,(ji14).toNat * 3+2,none⟩=some (.string ((rd_T91 x8_1 (ji14)).f2))) (ds:=[9]) (bA 10 0) ze_ rfl rfl ⟨(yl_ BK168.out 0).trans rfl,(yl_ BK168.out 1).trans rfl,hxq33⟩ (fun hHeld=>?_);refine yQ_ yu_.tab19 yu_.bits19 (fun HT_ HW_=>?_)
    have GG17:=(show Aside0 (w29.drew.heap[go17]?=some (.cells cl17 91)) from GG17)
    generalize w29.drew=w32 at HO_8 HO_23 BK168 HB HQ33 GG17 hxq33 hfq33 hHeld ⊢
    refine pu_ 0 62 (bA 10 1) HT_ ?_
    refine pu_ 1 63 (bA 10 3) HT_ ?_
    refine pu_ 2 64 (bA 10 7) HT_ ?_
    refine pu_ 4 66 (bA 10 23) HT_ ?_
    refine tk_ 3 65 (bA 10 31) rfl HT_ HW_ hHeld (by rintro w' ⟨s0,s1,s2⟩;go_simp;with_reducible rfl) ?_
    refine tk_ 5 67 (bA 10 63) rfl HT_ HW_ hHeld (by rintro w' ⟨s0,s1,s2⟩;go_simp;with_reducible rfl) ?_
    refine pu_ 6 68 (bA 10 127) HT_ ?_
    refine pu_ 7 69 (bA 10 255) HT_ ?_
    refine pu_ 8 70 (bA 10 511) HT_ ?_
    refine last_ (i:=9) (N:=none) (bA 10 1023) rfl rfl (one_of HT_.out ze_) (by decide) (fun K hK=>?_)
    refine skip_ (w1:=?_) (by rfl) rfl ?_ ?_
    rotate_left
    ·go_simp
     rfl
    refine hK.out _ _ ?_
    clear hK K
    refine done_ (ycb_ HT_.out ze_) ?_
    try go_wp2
    go_roundg k1
    case measure=>have:=HK1.out;omega
    case rel=>exact⟨(y170),(x9_1),(true),(wrap64 (x25_1+1)),zc_,zc_,zc_,H',⟨by have:=HK1.out;omega⟩,⟨by (with_reducible repeat (first|apply Kd.yj_|apply Kd.yk_|apply Kd.R_drew));exact HQ33.out⟩,⟨by (with_reducible repeat (first|apply Kd.yj_|apply Kd.yk_|apply Kd.R_drew));exact Kd.R_mono (Kd.R_far (p:=⟨go17,((ji14):Int).toNat * 3+2,none⟩) (Kd.yJb_ HO_23.out GG17.out (by decide)) (fun _ hk=>hk.2) (.string (((rd_T91 x8_1 (ji14)).f2)++((rd_T119 t163 x25_1).f1)))) (fun _ hk=>trivial)⟩,⟨by repeat (with_reducible first|exact HB.out|apply yc_|apply ya_|apply yb_|refine yq_ ?_ GB17.out|refine yq_ ?_ GE168.out)⟩⟩
   replace c13:=Bool.eq_false_iff.mpr c13
   subst c13
   have H1:(if x8_1.length < 4398046511104 then ((some (x8_1++[(⟨x9_1,x9_1,(⟨#[]⟩:ByteArray)⟩:S91)]:List (S91))).bind fun y171=>(if 0≤(wrap64 ((y171.length:Int) - 1)) then (if (wrap64 ((y171.length:Int) - 1)) < (y171.length:Int) then (if ((rd_T119 t163 x25_1).f0)=45 then (yu_.l0 k1 (y171.set ((wrap64 ((y171.length:Int) - 1)):Int).toNat (⟨(rd_T91 y171 (wrap64 ((y171.length:Int) - 1))).f0,wrap64 (x9_1+(((rd_T119 t163 x25_1).f1).size:Int)),(rd_T91 y171 (wrap64 ((y171.length:Int) - 1))).f2⟩:S91)) (wrap64 (x9_1+(((rd_T119 t163 x25_1).f1).size:Int))) true t163 (t163.length:Int) (wrap64 (x25_1+1))) else (if ((rd_T91 y171 (wrap64 ((y171.length:Int) - 1))).f2).size+((rd_T119 t163 x25_1).f1).size≤9223372036854775807 then (yu_.l0 k1 (y171.set ((wrap64 ((y171.length:Int) - 1)):Int).toNat (⟨(rd_T91 y171 (wrap64 ((y171.length:Int) - 1))).f0,(rd_T91 y171 (wrap64 ((y171.length:Int) - 1))).f1,((rd_T91 y171 (wrap64 ((y171.length:Int) - 1))).f2)++((rd_T119 t163 x25_1).f1)⟩:S91)) x9_1 true t163 (t163.length:Int) (wrap64 (x25_1+1))) else (none))) else (none)) else (none))) else (none))=some (r1,r2):=by rw[if_neg (show ¬ (false=true) by decide)] at H;exact H
   clear H
   have H:=H1
   clear H1
   by_cases c34:x8_1.length < 4398046511104
   rotate_left
   ·rw[if_neg c34] at H
    exact absurd H (by simp)
   rw[if_pos c34] at H
   have LMc34:=Aside0.mk c34
   clear c34
   obtain⟨y171,hy171⟩:∃ y_:List (S91),y_=(x8_1++[(⟨x9_1,x9_1,(⟨#[]⟩:ByteArray)⟩:S91)]):=⟨_,rfl⟩
   replace H:(if 0≤(wrap64 ((y171.length:Int) - 1)) then (if (wrap64 ((y171.length:Int) - 1)) < (y171.length:Int) then (if ((rd_T119 t163 x25_1).f0)=45 then (yu_.l0 k1 (y171.set ((wrap64 ((y171.length:Int) - 1)):Int).toNat (⟨(rd_T91 y171 (wrap64 ((y171.length:Int) - 1))).f0,wrap64 (x9_1+(((rd_T119 t163 x25_1).f1).size:Int)),(rd_T91 y171 (wrap64 ((y171.length:Int) - 1))).f2⟩:S91)) (wrap64 (x9_1+(((rd_T119 t163 x25_1).f1).size:Int))) true t163 (t163.length:Int) (wrap64 (x25_1+1))) else (if ((rd_T91 y171 (wrap64 ((y171.length:Int) - 1))).f2).size+((rd_T119 t163 x25_1).f1).size≤9223372036854775807 then (yu_.l0 k1 (y171.set ((wrap64 ((y171.length:Int) - 1)):Int).toNat (⟨(rd_T91 y171 (wrap64 ((y171.length:Int) - 1))).f0,(rd_T91 y171 (wrap64 ((y171.length:Int) - 1))).f1,((rd_T91 y171 (wrap64 ((y171.length:Int) - 1))).f2)++((rd_T119 t163 x25_1).f1)⟩:S91)) x9_1 true t163 (t163.length:Int) (wrap64 (x25_1+1))) else (none))) else (none)) else (none))=some (r1,r2):=by first|(rw[hy171];with_reducible exact H)|(have H2_:=(Option.bind_some _ _).symm.trans H;rw[hy171];with_reducible exact H2_)|(have H2_:=(Option.bind_some _ _).symm.trans H;with_reducible exact H2_)|with_reducible exact H|(rw[hy171];exact H)|exact H
   have Ny171:=Aside0.mk hy171
   clear hy171
   obtain⟨ji35,hji35⟩:∃ j_:Int,(wrap64 ((y171.length:Int) - 1))=j_:=⟨_,rfl⟩
   replace H:(if 0≤(ji35) then (if (ji35) < (y171.length:Int) then (if ((rd_T119 t163 x25_1).f0)=45 then (yu_.l0 k1 (y171.set ((ji35):Int).toNat (⟨(rd_T91 y171 (ji35)).f0,wrap64 (x9_1+(((rd_T119 t163 x25_1).f1).size:Int)),(rd_T91 y171 (ji35)).f2⟩:S91)) (wrap64 (x9_1+(((rd_T119 t163 x25_1).f1).size:Int))) true t163 (t163.length:Int) (wrap64 (x25_1+1))) else (if ((rd_T91 y171 (ji35)).f2).size+((rd_T119 t163 x25_1).f1).size≤9223372036854775807 then (yu_.l0 k1 (y171.set ((ji35):Int).toNat (⟨(rd_T91 y171 (ji35)).f0,(rd_T91 y171 (ji35)).f1,((rd_T91 y171 (ji35)).f2)++((rd_T119 t163 x25_1).f1)⟩:S91)) x9_1 true t163 (t163.length:Int) (wrap64 (x25_1+1))) else (none))) else (none)) else (none))=some (r1,r2):=by first|(rw[hji35] at H;exact H)|(simp only[hji35] at H ⊢;exact H)
   have hji35w:(IntKind.i64.wrap ((y171.length:Int) - 1))=ji35:=(i64_w _).trans hji35
   by_cases c36:0≤(ji35)
   rotate_left
   ·rw[if_neg c36] at H
    exact absurd H (by simp)
   rw[if_pos c36] at H
   have c36b0:decide (0≤(ji35))=true:=decide_eq_true c36
   clear c36
   by_cases c37:(ji35) < (y171.length:Int)
   rotate_left
   ·rw[if_neg c37] at H
    exact absurd H (by simp)
   rw[if_pos c37] at H
   have c37b0:decide ((ji35) < (y171.length:Int))=true:=decide_eq_true c37
   clear c37
   by_cases c39:((rd_T119 t163 x25_1).f0)=45
   ·rw[if_pos c39] at H
    have c39b0:(((rd_T119 t163 x25_1).f0) == 45)=true:=beq_iff_eq.mpr c39
    have c39b1:(((rd_T119 t163 x25_1).f0) != 45)=false:=bne_eq_false_iff_eq.mpr c39
    clear c39
    obtain⟨y174,hy174⟩:∃ y_:List (S91),y_=(y171.set ((ji35):Int).toNat (⟨(rd_T91 y171 (ji35)).f0,wrap64 (x9_1+(((rd_T119 t163 x25_1).f1).size:Int)),(rd_T91 y171 (ji35)).f2⟩:S91)):=⟨_,rfl⟩
    replace H:(yu_.l0 k1 y174 (wrap64 (x9_1+(((rd_T119 t163 x25_1).f1).size:Int))) true t163 (t163.length:Int) (wrap64 (x25_1+1)))=some (r1,r2):=by first|(rw[hy174];with_reducible exact H)|(have H2_:=(Option.bind_some _ _).symm.trans H;rw[hy174];with_reducible exact H2_)|(have H2_:=(Option.bind_some _ _).symm.trans H;with_reducible exact H2_)|with_reducible exact H|(rw[hy174];exact H)|exact H
    have Ny174:=Aside0.mk hy174
    clear hy174
    have H':=Aside0.mk H
    clear H
    have p167:0≤(x25_1:Int):=of_decide_eq_true zd_
    have q167:x25_1 < (t163.length:Int):=of_decide_eq_true zd_
    obtain⟨ad167,e167,hx167_0,hx167_1⟩:=at_T119 (Kd.yt_ HO_23.out).2.2 x25_1 p167 q167
    cases e167
    replace p167:=eq_true p167
    replace q167:=eq_true q167
    go_wp2_with (first|((with_reducible refine yO_ (N:=12) rfl ?_);refine yS_ ?hg (N:=12) ?hd (cs:=#[.int .u8 0,.string (⟨#[]⟩:ByteArray)]) (t:=119) ?hr ?_;(case hd=>rfl);(case hg=>rfl);(case hr=>first|(go_simp;done)|(go_simp;rfl));intro gb168 hg w40 hbox hb;have n0_:=Aside0.mk (Kd.yH_ (by (with_reducible repeat (first|apply Kd.yj_|apply Kd.yk_|apply Kd.R_drew));exact HO_8.out) hb);have n1_:=Aside0.mk (Kd.yH_ (Kd.yWb_ (by (with_reducible repeat (first|apply Kd.yj_|apply Kd.yk_|apply Kd.R_drew));exact HO_23.out) gb168 (Nat.le_of_eq hg.symm)) hb);have n2_:=Aside0.mk (yn_ za_ hb);have n3_:=Aside0.mk (hbox);have n4_:=Aside0.mk ((by rw[hg];exact (yp_ za_):w.heap.size≤gb168));have n5_:=Aside0.mk ((by rw[hg];exact (yp_ za_):w.heap.size≤gb168));clear HO_8;clear HO_23;clear HB;have HO_8:=n0_;have HO_23:=n1_;have HB:=n2_;have BK168:=n3_;have GW168:=n4_;have GE168:=n5_;clear n0_ n1_ n2_ n3_ n4_ n5_;clear hb hbox hg;have hcz41_0:w40.cell? ⟨gb168,0,none⟩=some (.int .u8 0):=(yl_ BK168.out 0).trans rfl;have hcz41_1:w40.cell? ⟨gb168,1,none⟩=some (.string (⟨#[]⟩:ByteArray)):=(yl_ BK168.out 1).trans rfl;have hfz41_0:=yi_ BK168.out 0;have hfz41_1:=yi_ BK168.out 1)|((with_reducible refine yL_ (b:=.append) (xs:=#[.tmp 39,.tmp 43]) rfl ?_);at_builtin;refine Kd.ydb_ k91 (w0:=w) w.heap.size rfl (.tmp 39) (.tmp 43) 68 91 (.agg #[(.int .i64 0),(.int .i64 0),(.string ⟨#[]⟩)]) 32 rfl Tryz.underlying68 info91 rfl (by decide) (by omega) u8 x8_1 (⟨x9_1,x9_1,(⟨#[]⟩:ByteArray)⟩:S91) [.int .i64 x9_1,.int .i64 x9_1,.string (⟨#[]⟩:ByteArray)] (fun _=>True) (fun _=>False) rfl (by first|(go_simp;done)|(go_simp;rfl)) ?aP (fun _ hk=>hk.elim) ?aF ?aO ?aB ?aS ?aL ?_;(case aP=>exact yQb_ _ _ _ (⟨x9_1,x9_1,(⟨#[]⟩:ByteArray)⟩:S91));(case aB=>exact (by repeat (with_reducible first|exact HB.out|apply yc_|apply ya_|apply yb_|refine yq_ ?_ GE168.out)));(case aF=>exact (fun _ _=>trivial));(case aO=>exact (by (with_reducible repeat (first|apply Kd.yj_|apply Kd.yk_|apply Kd.R_drew));exact Kd.R_mono (Kd.R_far (p:=⟨gb168,1,none⟩) (Kd.R_far (p:=⟨gb168,0,none⟩) (Kd.yJb_ HO_8.out BK168.out (by decide)) (fun _ hk=>hk.2) (.int .u8 ((rd_T119 t163 x25_1).f0))) (fun _ hk=>hk.2) (.string ((rd_T119 t163 x25_1).f1))) (fun _ hk=>trivial)));(case aS=>exact (yp_ (by repeat (with_reducible first|exact HB.out|apply yc_|apply ya_|apply yb_|refine yq_ ?_ GE168.out))));(case aL=>have:=LMc34.out;omega);intro v172 w42 ho hb hg hat;rw[← Ny171.out] at ho;have n0_:=Aside0.mk (Kd.yhb_ (by (with_reducible repeat (first|apply Kd.yj_|apply Kd.yk_|apply Kd.R_drew));exact (Kd.R_mono (Kd.R_far (p:=⟨gb168,1,none⟩) (Kd.R_far (p:=⟨gb168,0,none⟩) (Kd.R_mono HO_23.out (fun k_ hk=>(⟨hk,hk.2⟩:_∧k_≠gb168))) (fun _ hk=>hk.2) (.int .u8 ((rd_T119 t163 x25_1).f0))) (fun _ hk=>hk.2) (.string ((rd_T119 t163 x25_1).f1))) (fun _ h_=>h_.1))) (Kd.ybb_ (by (with_reducible repeat (first|apply Kd.yj_|apply Kd.yk_|apply Kd.R_drew));exact (Kd.R_mono (Kd.R_far (p:=⟨gb168,1,none⟩) (Kd.R_far (p:=⟨gb168,0,none⟩) (Kd.yJb_ HO_8.out BK168.out (by decide)) (fun _ hk=>hk.2) (.int .u8 ((rd_T119 t163 x25_1).f0))) (fun _ hk=>hk.2) (.string ((rd_T119 t163 x25_1).f1))) (fun _ h_=>h_.1)))) (by decide) hg);have n1_:=Aside0.mk (yCb_ (g:=gb168) (o:=.cells #[.int .u8 ((rd_T119 t163 x25_1).f0),.string ((rd_T119 t163 x25_1).f1)] 119 (0,0)) zi_ hg (Kd.R_ne HO_8.out BK168.out (by decide)));have n2_:=Aside0.mk (hb);have n3_:=Aside0.mk (ho);clear HO_23;clear BK168;clear HB;clear HO_8;have HO_23:=n0_;have BK168:=n1_;have HB:=n2_;have HO173:=n3_;clear n0_ n1_ n2_ n3_;clear ho hb hg hat;obtain⟨Ao43,co43,eo43⟩:=Kd.yE_ HO173.out;subst eo43;have p38:0≤((ji35):Int):=of_decide_eq_true zd_;have q38:((ji35):Int) < ((y171.length:Int):Int):=of_decide_eq_true zd_;obtain⟨go38,co38,eo38,gb38,gl38,cl38,HG38⟩:=Kd.R_form HO173.out (by omega);(first|cases eo38|(injection eo38 with ea_ en_ ec_;(first|subst ea_|(injection ea_ with ea_;subst ea_));subst ec_;clear en_));have GB38:=Aside0.mk gb38;have GG38:=Aside0.mk HG38;clear gb38 gl38 HG38;obtain⟨ce38,hcl38,hM38,hcc38,hfr38⟩:=Kd.R_elem HO173.out z91 ((ji35):Int) p38 q38;obtain rfl:=yrb_ hM38;have hx38_0:w42.cell? ⟨go38,((ji35):Int).toNat * 3,none⟩=some (.int .i64 ((rd_T91 y171 (ji35)).f0)):=hcc38 0 _ rfl;have hx38_1:w42.cell? ⟨go38,((ji35):Int).toNat * 3+1,none⟩=some (.int .i64 ((rd_T91 y171 (ji35)).f1)):=hcc38 1 _ rfl;have hx38_2:w42.cell? ⟨go38,((ji35):Int).toNat * 3+2,none⟩=some (.string ((rd_T91 y171 (ji35)).f2)):=hcc38 2 _ rfl;have hf38_0:w42.frozen? ⟨go38,((ji35):Int).toNat * 3,none⟩=false:=hfr38 0;have hf38_1:w42.frozen? ⟨go38,((ji35):Int).toNat * 3+1,none⟩=false:=hfr38 1;have hf38_2:w42.frozen? ⟨go38,((ji35):Int).toNat * 3+2,none⟩=false:=hfr38 2;clear hcl38 hcc38 hfr38 hM38;replace p38:=eq_true p38;replace q38:=eq_true q38;have hcz44_0:w42.cell? ⟨gb168,0,none⟩=some (.int .u8 ((rd_T119 t163 x25_1).f0)):=(yl_ BK168.out 0).trans rfl;have hcz44_1:w42.cell? ⟨gb168,1,none⟩=some (.string ((rd_T119 t163 x25_1).f1)):=(yl_ BK168.out 1).trans rfl;have hfz44_0:=yi_ BK168.out 0;have hfz44_1:=yi_ BK168.out 1;have HX45:=Aside0.mk (show Kd.R k91 91 w42 w.heap.size (fun _=>True) (.slice (some ⟨go38,0,none⟩) y171.length co43) y171 from (by (with_reducible repeat (first|apply Kd.yj_|apply Kd.yk_|apply Kd.R_drew));exact HO173.out));obtain⟨ce45,hcl45,hM45,hcc45,hfr45⟩:=Kd.R_elem HX45.out z91 ((ji35):Int) (of_decide_eq_true zd_) (by have h_:((ji35):Int) < ((y171.length:Int):Int):=of_decide_eq_true zd_;first|exact h_|(have e_:=(Kd.yt_ HO173.out).1;omega)|simpa using h_);obtain rfl:=yrb_ hM45;have HP45:=Kd.R_seg HX45.out ((ji35):Int) (of_decide_eq_true zd_) (by have h_:((ji35):Int) < ((y171.length:Int):Int):=of_decide_eq_true zd_;first|exact h_|(have e_:=(Kd.yt_ HO173.out).1;omega)|simpa using h_) (seg:=[.int .i64 (wrap64 (x9_1+(((rd_T119 t163 x25_1).f1).size:Int)))]) (j:=1) hcl45 hcc45 (show 2≤3 from by decide) (x':=(⟨(rd_T91 y171 (ji35)).f0,wrap64 (x9_1+(((rd_T119 t163 x25_1).f1).size:Int)),(rd_T91 y171 (ji35)).f2⟩:S91)) (yQb_ _ _ _ (⟨(rd_T91 y171 (ji35)).f0,wrap64 (x9_1+(((rd_T119 t163 x25_1).f1).size:Int)),(rd_T91 y171 (ji35)).f2⟩:S91) ) (fun _ hk=>hk);have hx45_1:=hcc45 1 _ rfl;(try simp only[show (k91).sz=3 from rfl,Nat.mul_one,Nat.add_zero] at hx45_1);have hf45_1:=hfr45 1;(try simp only[show (k91).sz=3 from rfl,Nat.mul_one,Nat.add_zero] at hf45_1);clear hcl45 hcc45 hfr45 hM45)|((with_reducible refine y7_ (t:=3) (p:=61) rfl ?_);refine y2_ (t:=3) (p:=61) (v:=?vo_w46) (w1:=(w42.setCell ⟨go38,((ji35):Int).toNat * 3+1,none⟩ (.int .i64 (wrap64 (x9_1+(((rd_T119 t163 x25_1).f1).size:Int)))))) ?hg ?ho ?hn ?hr ?_;(case ho=>rfl);(case hg=>rfl);(case hn=>rfl);(case hr=>first|(go_simp;done)|(go_simp;rfl));intro w46 hw;have hg:w42.grownBy w46 (some go38):=(by rw[hw];exact HP45.2);have hp_:Kd.R k91 91 w46 w.heap.size (fun _=>True) (.slice (some ⟨go38,0,none⟩) y171.length co43) y174:=(by rw[hw,Ny174.out];exact HP45.1);clear HP45;have n0_:=Aside0.mk (Kd.yhb_ (v:=(.slice (some ⟨go38,0,none⟩) y171.length co43)) (by (with_reducible repeat (first|apply Kd.yj_|apply Kd.yk_|apply Kd.R_drew));exact HO_23.out) (Kd.ybb_ HO173.out) (by decide) hg);have n1_:=Aside0.mk (yCb_ (g:=gb168) (o:=.cells #[.int .u8 ((rd_T119 t163 x25_1).f0),.string ((rd_T119 t163 x25_1).f1)] 119 (0,0)) (by (with_reducible repeat (first|refine yw_ ?_ _|refine yz_ ?_|refine yv_ ?_ _));exact BK168.out) hg (Kd.R_ne HO173.out BK168.out (by decide)));have n2_:=Aside0.mk (hp_);have n3_:=Aside0.mk ((by rw[hw];exact yq_ (HB.out) GB38.out:Below w.heap.size w w46));clear HO_23;clear BK168;clear HO173;clear HB;have HO_23:=n0_;have BK168:=n1_;have HO173:=n2_;have HB:=n3_;clear n0_ n1_ n2_ n3_;clear hg hw hp_))
    go_roundg k1
    case measure=>have:=HK1.out;omega
    case rel=>exact⟨(y174),(wrap64 (x9_1+(((rd_T119 t163 x25_1).f1).size:Int))),(true),(wrap64 (x25_1+1)),zc_,zc_,zc_,H',⟨by have:=HK1.out;omega⟩,⟨by (with_reducible repeat (first|apply Kd.yj_|apply Kd.yk_|apply Kd.R_drew));exact HO173.out⟩,⟨by (with_reducible repeat (first|apply Kd.yj_|apply Kd.yk_|apply Kd.R_drew));exact Kd.R_mono HO_23.out (fun _ hk=>trivial)⟩,⟨by repeat (with_reducible first|exact HB.out|apply yc_|apply ya_|apply yb_|refine yq_ ?_ GE168.out)⟩⟩
   rw[if_neg c39] at H
   have c39b0:(((rd_T119 t163 x25_1).f0) == 45)=false:=beq_eq_false_iff_ne.mpr c39
   have c39b1:(((rd_T119 t163 x25_1).f0) != 45)=true:=bne_iff_ne.mpr c39
   by_cases c47:((rd_T91 y171 (ji35)).f2).size+((rd_T119 t163 x25_1).f1).size≤9223372036854775807
   rotate_left
   ·rw[if_neg c47] at H
    exact absurd H (by simp)
   rw[if_pos c47] at H
   have c47b0:=eq_true c47
   have c47b1:decide (((rd_T91 y171 (ji35)).f2).size+((rd_T119 t163 x25_1).f1).size≤9223372036854775807)=true:=decide_eq_true c47
   try have c47b2:(9223372036854775807 < ((rd_T91 y171 (ji35)).f2).size+((rd_T119 t163 x25_1).f1).size)=False:=eq_false (Nat.not_lt.2 c47)
   obtain⟨y175,hy175⟩:∃ y_:List (S91),y_=(y171.set ((ji35):Int).toNat (⟨(rd_T91 y171 (ji35)).f0,(rd_T91 y171 (ji35)).f1,((rd_T91 y171 (ji35)).f2)++((rd_T119 t163 x25_1).f1)⟩:S91)):=⟨_,rfl⟩
   replace H:(yu_.l0 k1 y175 x9_1 true t163 (t163.length:Int) (wrap64 (x25_1+1)))=some (r1,r2):=by first|(rw[hy175];with_reducible exact H)|(have H2_:=(Option.bind_some _ _).symm.trans H;rw[hy175];with_reducible exact H2_)|(have H2_:=(Option.bind_some _ _).symm.trans H;with_reducible exact H2_)|with_reducible exact H|(rw[hy175];exact H)|exact H
   have Ny175:=Aside0.mk hy175
   clear hy175
   have H':=Aside0.mk H
   clear H
   have p167:0≤(x25_1:Int):=of_decide_eq_true zd_
   have q167:x25_1 < (t163.length:Int):=of_decide_eq_true zd_
   obtain⟨ad167,e167,hx167_0,hx167_1⟩:=at_T119 (Kd.yt_ HO_23.out).2.2 x25_1 p167 q167
   cases e167
   replace p167:=eq_true p167
   replace q167:=eq_true q167
   try go_wp2_with (first|((with_reducible refine yO_ (N:=12) rfl ?_);refine yS_ ?hg (N:=12) ?hd (cs:=#[.int .u8 0,.string (⟨#[]⟩:ByteArray)]) (t:=119) ?hr ?_;(case hd=>rfl);(case hg=>rfl);(case hr=>first|(go_simp;done)|(go_simp;rfl));intro gb168 hg w48 hbox hb;have n0_:=Aside0.mk (Kd.yH_ (by (with_reducible repeat (first|apply Kd.yj_|apply Kd.yk_|apply Kd.R_drew));exact HO_8.out) hb);have n1_:=Aside0.mk (Kd.yH_ (Kd.yWb_ (by (with_reducible repeat (first|apply Kd.yj_|apply Kd.yk_|apply Kd.R_drew));exact HO_23.out) gb168 (Nat.le_of_eq hg.symm)) hb);have n2_:=Aside0.mk (yn_ za_ hb);have n3_:=Aside0.mk (hbox);have n4_:=Aside0.mk ((by rw[hg];exact (yp_ za_):w.heap.size≤gb168));have n5_:=Aside0.mk ((by rw[hg];exact (yp_ za_):w.heap.size≤gb168));clear HO_8;clear HO_23;clear HB;have HO_8:=n0_;have HO_23:=n1_;have HB:=n2_;have BK168:=n3_;have GW168:=n4_;have GE168:=n5_;clear n0_ n1_ n2_ n3_ n4_ n5_;clear hb hbox hg;have hcz49_0:w48.cell? ⟨gb168,0,none⟩=some (.int .u8 0):=(yl_ BK168.out 0).trans rfl;have hcz49_1:w48.cell? ⟨gb168,1,none⟩=some (.string (⟨#[]⟩:ByteArray)):=(yl_ BK168.out 1).trans rfl;have hfz49_0:=yi_ BK168.out 0;have hfz49_1:=yi_ BK168.out 1)|((with_reducible refine yL_ (b:=.append) (xs:=#[.tmp 39,.tmp 43]) rfl ?_);at_builtin;refine Kd.ydb_ k91 (w0:=w) w.heap.size rfl (.tmp 39) (.tmp 43) 68 91 (.agg #[(.int .i64 0),(.int .i64 0),(.string ⟨#[]⟩)]) 32 rfl Tryz.underlying68 info91 rfl (by decide) (by omega) u8 x8_1 (⟨x9_1,x9_1,(⟨#[]⟩:ByteArray)⟩:S91) [.int .i64 x9_1,.int .i64 x9_1,.string (⟨#[]⟩:ByteArray)] (fun _=>True) (fun _=>False) rfl (by first|(go_simp;done)|(go_simp;rfl)) ?aP (fun _ hk=>hk.elim) ?aF ?aO ?aB ?aS ?aL ?_;(case aP=>exact yQb_ _ _ _ (⟨x9_1,x9_1,(⟨#[]⟩:ByteArray)⟩:S91));(case aB=>exact (by repeat (with_reducible first|exact HB.out|apply yc_|apply ya_|apply yb_|refine yq_ ?_ GE168.out)));(case aF=>exact (fun _ _=>trivial));(case aO=>exact (by (with_reducible repeat (first|apply Kd.yj_|apply Kd.yk_|apply Kd.R_drew));exact Kd.R_mono (Kd.R_far (p:=⟨gb168,1,none⟩) (Kd.R_far (p:=⟨gb168,0,none⟩) (Kd.yJb_ HO_8.out BK168.out (by decide)) (fun _ hk=>hk.2) (.int .u8 ((rd_T119 t163 x25_1).f0))) (fun _ hk=>hk.2) (.string ((rd_T119 t163 x25_1).f1))) (fun _ hk=>trivial)));(case aS=>exact (yp_ (by repeat (with_reducible first|exact HB.out|apply yc_|apply ya_|apply yb_|refine yq_ ?_ GE168.out))));(case aL=>have:=LMc34.out;omega);intro v172 w50 ho hb hg hat;rw[← Ny171.out] at ho;have n0_:=Aside0.mk (Kd.yhb_ (by (with_reducible repeat (first|apply Kd.yj_|apply Kd.yk_|apply Kd.R_drew));exact (Kd.R_mono (Kd.R_far (p:=⟨gb168,1,none⟩) (Kd.R_far (p:=⟨gb168,0,none⟩) (Kd.R_mono HO_23.out (fun k_ hk=>(⟨hk,hk.2⟩:_∧k_≠gb168))) (fun _ hk=>hk.2) (.int .u8 ((rd_T119 t163 x25_1).f0))) (fun _ hk=>hk.2) (.string ((rd_T119 t163 x25_1).f1))) (fun _ h_=>h_.1))) (Kd.ybb_ (by (with_reducible repeat (first|apply Kd.yj_|apply Kd.yk_|apply Kd.R_drew));exact (Kd.R_mono (Kd.R_far (p:=⟨gb168,1,none⟩) (Kd.R_far (p:=⟨gb168,0,none⟩) (Kd.yJb_ HO_8.out BK168.out (by decide)) (fun _ hk=>hk.2) (.int .u8 ((rd_T119 t163 x25_1).f0))) (fun _ hk=>hk.2) (.string ((rd_T119 t163 x25_1).f1))) (fun _ h_=>h_.1)))) (by decide) hg);have n1_:=Aside0.mk (yCb_ (g:=gb168) (o:=.cells #[.int .u8 ((rd_T119 t163 x25_1).f0),.string ((rd_T119 t163 x25_1).f1)] 119 (0,0)) zi_ hg (Kd.R_ne HO_8.out BK168.out (by decide)));have n2_:=Aside0.mk (hb);have n3_:=Aside0.mk (ho);clear HO_23;clear BK168;clear HB;clear HO_8;have HO_23:=n0_;have BK168:=n1_;have HB:=n2_;have HO173:=n3_;clear n0_ n1_ n2_ n3_;clear ho hb hg hat;obtain⟨Ao51,co51,eo51⟩:=Kd.yE_ HO173.out;subst eo51;have p38:0≤((ji35):Int):=of_decide_eq_true zd_;have q38:((ji35):Int) < ((y171.length:Int):Int):=of_decide_eq_true zd_;obtain⟨go38,co38,eo38,gb38,gl38,cl38,HG38⟩:=Kd.R_form HO173.out (by omega);(first|cases eo38|(injection eo38 with ea_ en_ ec_;(first|subst ea_|(injection ea_ with ea_;subst ea_));subst ec_;clear en_));have GB38:=Aside0.mk gb38;have GG38:=Aside0.mk HG38;clear gb38 gl38 HG38;obtain⟨ce38,hcl38,hM38,hcc38,hfr38⟩:=Kd.R_elem HO173.out z91 ((ji35):Int) p38 q38;obtain rfl:=yrb_ hM38;have hx38_0:w50.cell? ⟨go38,((ji35):Int).toNat * 3,none⟩=some (.int .i64 ((rd_T91 y171 (ji35)).f0)):=hcc38 0 _ rfl;have hx38_1:w50.cell? ⟨go38,((ji35):Int).toNat * 3+1,none⟩=some (.int .i64 ((rd_T91 y171 (ji35)).f1)):=hcc38 1 _ rfl;have hx38_2:w50.cell? ⟨go38,((ji35):Int).toNat * 3+2,none⟩=some (.string ((rd_T91 y171 (ji35)).f2)):=hcc38 2 _ rfl;have hf38_0:w50.frozen? ⟨go38,((ji35):Int).toNat * 3,none⟩=false:=hfr38 0;have hf38_1:w50.frozen? ⟨go38,((ji35):Int).toNat * 3+1,none⟩=false:=hfr38 1;have hf38_2:w50.frozen? ⟨go38,((ji35):Int).toNat * 3+2,none⟩=false:=hfr38 2;clear hcl38 hcc38 hfr38 hM38;replace p38:=eq_true p38;replace q38:=eq_true q38;have hcz52_0:w50.cell? ⟨gb168,0,none⟩=some (.int .u8 ((rd_T119 t163 x25_1).f0)):=(yl_ BK168.out 0).trans rfl;have hcz52_1:w50.cell? ⟨gb168,1,none⟩=some (.string ((rd_T119 t163 x25_1).f1)):=(yl_ BK168.out 1).trans rfl;have hfz52_0:=yi_ BK168.out 0;have hfz52_1:=yi_ BK168.out 1))
   have n0_:=Aside0.mk (Kd.R_drew HO_23.out)
   have n1_:=Aside0.mk (Kd.R_drew HO173.out)
   have n2_:=Aside0.mk (yz_ BK168.out)
   have n3_:=Aside0.mk (yb_ HB.out)
   clear HO_23
   clear HO173
   clear BK168
   clear HB
   have HO_23:=n0_
   have HO173:=n1_
   have BK168:=n2_
   have HB:=n3_
   clear n0_ n1_ n2_ n3_
   obtain⟨ce54,hcl54,hM54,hcc54,hfr54⟩:=Kd.R_elem HO173.out z91 ((ji35):Int) (of_decide_eq_true zd_) (by have h_:((ji35):Int) < ((y171.length:Int):Int):=of_decide_eq_true zd_;first|exact h_|(have e_:=(Kd.yt_ HO173.out).1;omega)|simpa using h_)
   obtain rfl:=yrb_ hM54
   have HP54:=(Kd.R_seg HO173.out ((ji35):Int) (of_decide_eq_true zd_) (by have h_:((ji35):Int) < ((y171.length:Int):Int):=of_decide_eq_true zd_;first|exact h_|(have e_:=(Kd.yt_ HO173.out).1;omega)|simpa using h_) (seg:=[.string (((rd_T91 y171 (ji35)).f2)++((rd_T119 t163 x25_1).f1))]) (j:=2) hcl54 hcc54 (show 3≤3 from by decide) (x':=(⟨(rd_T91 y171 (ji35)).f0,(rd_T91 y171 (ji35)).f1,((rd_T91 y171 (ji35)).f2)++((rd_T119 t163 x25_1).f1)⟩:S91)) (yQb_ _ _ _ (⟨(rd_T91 y171 (ji35)).f0,(rd_T91 y171 (ji35)).f1,((rd_T91 y171 (ji35)).f2)++((rd_T119 t163 x25_1).f1)⟩:S91) ) (fun _ hk=>hk)).1
   rw[← Ny175.out] at HP54
   have HQ54:=Aside0.mk HP54
   have hxq54:=hcc54 2 _ rfl
   have hfq54:World.frozen? _ ⟨go38,((ji35):Int).toNat * 3+2,none⟩=false:=hfr54 2
   clear hcl54 hcc54 hfr54 hM54 HP54
   refine start_ (n:=10) (S:=fun w'=>w'.cell? ⟨gb168,0,none⟩=some (.int .u8 ((rd_T119 t163 x25_1).f0))∧w'.cell? ⟨gb168,1,none⟩=some (.string ((rd_T119 t163 x25_1).f1))∧w'.cell? ⟨go38,(ji35).toNat * 3+2,none⟩=some (.string ((rd_T91 y171 (ji35)).f2))) (ds:=[9]) (bA 10 0) ze_ rfl rfl ⟨(yl_ BK168.out 0).trans rfl,(yl_ BK168.out 1).trans rfl,hxq54⟩ (fun hHeld=>?_);refine yQ_ yu_.tab19 yu_.bits19 (fun HT_ HW_=>?_)
   have GG38:=(show Aside0 (w50.drew.heap[go38]?=some (.cells cl38 91)) from GG38)
   generalize w50.drew=w53 at HO_23 HO173 BK168 HB HQ54 GG38 hxq54 hfq54 hHeld ⊢
   refine pu_ 0 62 (bA 10 1) HT_ ?_
   refine pu_ 1 63 (bA 10 3) HT_ ?_
   refine pu_ 2 64 (bA 10 7) HT_ ?_
   refine pu_ 4 66 (bA 10 23) HT_ ?_
   refine tk_ 3 65 (bA 10 31) rfl HT_ HW_ hHeld (by rintro w' ⟨s0,s1,s2⟩;go_simp;with_reducible rfl) ?_
   refine tk_ 5 67 (bA 10 63) rfl HT_ HW_ hHeld (by rintro w' ⟨s0,s1,s2⟩;go_simp;with_reducible rfl) ?_
   refine pu_ 6 68 (bA 10 127) HT_ ?_
   refine pu_ 7 69 (bA 10 255) HT_ ?_
   refine pu_ 8 70 (bA 10 511) HT_ ?_
   refine last_ (i:=9) (N:=none) (bA 10 1023) rfl rfl (one_of HT_.out ze_) (by decide) (fun K hK=>?_)
   refine skip_ (w1:=?_) (by rfl) rfl ?_ ?_
   rotate_left
   ·go_simp
    rfl
   refine hK.out _ _ ?_
   clear hK K
   refine done_ (ycb_ HT_.out ze_) ?_
   try go_wp2
   go_roundg k1
   case measure=>have:=HK1.out;omega
   case rel=>exact⟨(y175),(x9_1),(true),(wrap64 (x25_1+1)),zc_,zc_,zc_,H',⟨by have:=HK1.out;omega⟩,⟨by (with_reducible repeat (first|apply Kd.yj_|apply Kd.yk_|apply Kd.R_drew));exact HQ54.out⟩,⟨by (with_reducible repeat (first|apply Kd.yj_|apply Kd.yk_|apply Kd.R_drew));exact Kd.R_mono (Kd.R_far (p:=⟨go38,((ji35):Int).toNat * 3+2,none⟩) (Kd.yJb_ HO_23.out GG38.out (by decide)) (fun _ hk=>hk.2) (.string (((rd_T91 y171 (ji35)).f2)++((rd_T119 t163 x25_1).f1)))) (fun _ hk=>trivial)⟩,⟨by repeat (with_reducible first|exact HB.out|apply yc_|apply ya_|apply yb_|refine yq_ ?_ GB38.out|refine yq_ ?_ GE168.out)⟩⟩

end Go.Proofs.YthimblhfjfngiaaGreat.PText

-- mended25

namespace Go.Proofs.YthimblhfjfngiaaGreat.PText
open Go.RowKit Go.Proofs.YthimblhfjfngiaaGreatW.PrintWords Go.Proofs.YthimblhfjfngiaaGreatW.PrintLast Go.Proofs.YthimblhfjfngiaaGreatW.PrintMore
attribute [local go_sem] yT_ yU_ y5_ y6_ yI_ yJ_ yV_ yW_   -- for this text's walks alone
set_option linter.unusedVariables false
set_option linter.unusedSimpArgs false

def yUb_.f (k:Nat) (a0:ByteArray) (a1:ByteArray) (a2:ByteArray):Option ((List (S91)) × (List (S91)) × Int):=(yu_.f k a0 a1).bind fun bt333=>(if bt333.2=0 then ((yu_.f k a0 a2).bind fun bt337=>(if bt337.2=0 then (some (bt333.1,bt337.1,0)) else (some (([]:List (S91)),([]:List (S91)),bt337.2)))) else (some (([]:List (S91)),([]:List (S91)),bt333.2)))
set_option maxHeartbeats 8000000 in
set_option maxRecDepth 100000 in
theorem yUb_.calls (k:Nat) (a0:ByteArray) (a1:ByteArray) (a2:ByteArray) (r1:List (S91)) (r2:List (S91)) (r3:Int) (w:World) (h:yUb_.f k a0 a1 a2=some (r1,r2,r3)) :
  Calls Tryz.prog 57 #[.string a0,.string a1,.string a2] w fun e w'=>∃ v0_ v1_:Value,e=.returned (.tuple #[v0_,v1_,.int .i64 r3])∧Kd.R k91 91 w' w.heap.size (fun k_=>some k_≠(v1_:Value).ownBlock) v0_ r1∧Kd.R k91 91 w' w.heap.size (fun k_=>some k_≠(v0_:Value).ownBlock) v1_ r2∧Below w.heap.size w w':=by
 have HB:=Aside0.mk (Below.refl w.heap.size w)
 have H:((yu_.f k a0 a1).bind fun bt333=>(if bt333.2=0 then ((yu_.f k a0 a2).bind fun bt337=>(if bt337.2=0 then (some (bt333.1,bt337.1,0)) else (some (([]:List (S91)),([]:List (S91)),bt337.2)))) else (some (([]:List (S91)),([]:List (S91)),bt333.2))))=some (r1,r2,r3):=h
 clear h
 replace H:=Option.bind_eq_some_iff.mp H
 obtain⟨⟨t333,t334⟩,A40,H⟩:=H
 replace H:(if t334=0 then ((yu_.f k a0 a2).bind fun bt337=>(if bt337.2=0 then (some (t333,bt337.1,0)) else (some (([]:List (S91)),([]:List (S91)),bt337.2)))) else (some (([]:List (S91)),([]:List (S91)),t334)))=some (r1,r2,r3):=H
 have A4:=Aside0.mk A40
 clear A40
 by_cases c5:t334=0
 rotate_left
 ·rw[if_neg c5] at H
  have c5b0:(t334 == 0)=false:=beq_eq_false_iff_ne.mpr c5
  have c5b1:(t334 != 0)=true:=bne_iff_ne.mpr c5
  simp only[Option.some.injEq,Prod.mk.injEq] at H
  obtain⟨rfl,rfl,rfl⟩:=H
  go_enter Tryz.func57,Tryz.ntmps57
  go_wp2_with (first|((with_reducible refine yA_ (f:=50) rfl ?_);refine goesL_ (some 12) rfl rfl Tryz.func50 ze_ rfl #[.string a0,.string a1] rfl zb_ ?_;(with_reducible refine (yu_.calls k a0 a1 t333 t334 _ A4.out).mono ?_);rintro e w12 ⟨v335,rfl,ho0,hb⟩;refine⟨_,rfl,?_⟩;have n0_:=Aside0.mk (Kd.y0_ ho0 (yp_ za_));have n1_:=Aside0.mk (yn_ za_ hb);clear HB;have HO336:=n0_;have HB:=n1_;clear n0_ n1_;(try clear hb);(try clear hb2);(try clear hk);(try clear hi);(try clear ho0)))
  go_ret3
  exact⟨_,_,by first|rfl|(simp [yr_,ys_] <;> rfl)|(simp [*,yr_,ys_] <;> rfl),by first|exact Kd.R_nil _ _ _ _ _|exact Kd.N_nil _ _ _ _ _|exact Kd.V_nil _ _ _ _ _|exact Kd.Q_nil _ _ _ _ _|exact Kd.S_nil _ _ _ _ _,by first|exact Kd.R_nil _ _ _ _ _|exact Kd.N_nil _ _ _ _ _|exact Kd.V_nil _ _ _ _ _|exact Kd.Q_nil _ _ _ _ _|exact Kd.S_nil _ _ _ _ _,by repeat (with_reducible first|exact HB.out|apply yc_|apply ya_|apply yb_)⟩
 rw[if_pos c5] at H
 have c5b0:(t334 == 0)=true:=beq_iff_eq.mpr c5
 have c5b1:(t334 != 0)=false:=bne_eq_false_iff_eq.mpr c5
 clear c5
 replace H:=Option.bind_eq_some_iff.mp H
 obtain⟨⟨t337,t338⟩,A60,H⟩:=H
 replace H:(if t338=0 then (some (t333,t337,0)) else (some (([]:List (S91)),([]:List (S91)),t338)))=some (r1,r2,r3):=H
 have A6:=Aside0.mk A60
 clear A60
 by_cases c7:t338=0
 ·rw[if_pos c7] at H
  have c7b0:(t338 == 0)=true:=beq_iff_eq.mpr c7
  have c7b1:(t338 != 0)=false:=bne_eq_false_iff_eq.mpr c7
  clear c7
  simp only[Option.some.injEq,Prod.mk.injEq] at H
  obtain⟨rfl,rfl,rfl⟩:=H
  go_enter Tryz.func57,Tryz.ntmps57
  go_wp2_with (first|((with_reducible refine yA_ (f:=50) rfl ?_);refine goesL_ (some 12) rfl rfl Tryz.func50 ze_ rfl #[.string a0,.string a1] rfl zb_ ?_;(with_reducible refine (yu_.calls k a0 a1 t333 t334 _ A4.out).mono ?_);rintro e w8 ⟨v335,rfl,ho0,hb⟩;refine⟨_,rfl,?_⟩;have n0_:=Aside0.mk (Kd.y0_ ho0 (yp_ za_));have n1_:=Aside0.mk (yn_ za_ hb);clear HB;have HO336:=n0_;have HB:=n1_;clear n0_ n1_;(try clear hb);(try clear hb2);(try clear hk);(try clear hi);(try clear ho0))|((with_reducible refine yA_ (f:=50) rfl ?_);refine goesL_ (some 21) rfl rfl Tryz.func50 ze_ rfl #[.string a0,.string a2] rfl zb_ ?_;(with_reducible refine (yu_.calls k a0 a2 t337 t338 _ A6.out).mono ?_);rintro e w9 ⟨v339,rfl,ho0,hb⟩;refine⟨_,rfl,?_⟩;have n0_:=Aside0.mk (Kd.yVb_ (by (with_reducible repeat (first|apply Kd.yj_|apply Kd.yk_|apply Kd.R_drew));exact HO336.out) (Kd.R_base ho0) hb);have n1_:=Aside0.mk (Kd.y0_ (Kd.R_new' ho0 (Kd.R_lt (by (with_reducible repeat (first|apply Kd.yj_|apply Kd.yk_|apply Kd.R_drew));exact HO336.out))) (yp_ za_));have n2_:=Aside0.mk (yn_ za_ hb);clear HO336;clear HB;have HO336:=n0_;have HO340:=n1_;have HB:=n2_;clear n0_ n1_ n2_;(try clear hb);(try clear hb2);(try clear hk);(try clear hi);(try clear ho0)))
  go_ret3
  exact⟨_,_,by first|rfl|(simp [yr_,ys_] <;> rfl)|(simp [*,yr_,ys_] <;> rfl),by (with_reducible repeat (first|apply Kd.yj_|apply Kd.yk_|apply Kd.R_drew));exact Kd.R_mono HO336.out (fun _ hk=>hk.2),by (with_reducible repeat (first|apply Kd.yj_|apply Kd.yk_|apply Kd.R_drew));exact Kd.R_mono HO340.out (fun _ hk=>hk.2),by repeat (with_reducible first|exact HB.out|apply yc_|apply ya_|apply yb_)⟩
 rw[if_neg c7] at H
 have c7b0:(t338 == 0)=false:=beq_eq_false_iff_ne.mpr c7
 have c7b1:(t338 != 0)=true:=bne_iff_ne.mpr c7
 simp only[Option.some.injEq,Prod.mk.injEq] at H
 obtain⟨rfl,rfl,rfl⟩:=H
 go_enter Tryz.func57,Tryz.ntmps57
 go_wp2_with (first|((with_reducible refine yA_ (f:=50) rfl ?_);refine goesL_ (some 12) rfl rfl Tryz.func50 ze_ rfl #[.string a0,.string a1] rfl zb_ ?_;(with_reducible refine (yu_.calls k a0 a1 t333 t334 _ A4.out).mono ?_);rintro e w10 ⟨v335,rfl,ho0,hb⟩;refine⟨_,rfl,?_⟩;have n0_:=Aside0.mk (Kd.y0_ ho0 (yp_ za_));have n1_:=Aside0.mk (yn_ za_ hb);clear HB;have HO336:=n0_;have HB:=n1_;clear n0_ n1_;(try clear hb);(try clear hb2);(try clear hk);(try clear hi);(try clear ho0))|((with_reducible refine yA_ (f:=50) rfl ?_);refine goesL_ (some 21) rfl rfl Tryz.func50 ze_ rfl #[.string a0,.string a2] rfl zb_ ?_;(with_reducible refine (yu_.calls k a0 a2 t337 t338 _ A6.out).mono ?_);rintro e w11 ⟨v339,rfl,ho0,hb⟩;refine⟨_,rfl,?_⟩;have n0_:=Aside0.mk (Kd.yVb_ (by (with_reducible repeat (first|apply Kd.yj_|apply Kd.yk_|apply Kd.R_drew));exact HO336.out) (Kd.R_base ho0) hb);have n1_:=Aside0.mk (Kd.y0_ (Kd.R_new' ho0 (Kd.R_lt (by (with_reducible repeat (first|apply Kd.yj_|apply Kd.yk_|apply Kd.R_drew));exact HO336.out))) (yp_ za_));have n2_:=Aside0.mk (yn_ za_ hb);clear HO336;clear HB;have HO336:=n0_;have HO340:=n1_;have HB:=n2_;clear n0_ n1_ n2_;(try clear hb);(try clear hb2);(try clear hk);(try clear hi);(try clear ho0)))
 go_ret3
 exact⟨_,_,by first|rfl|(simp [yr_,ys_] <;> rfl)|(simp [*,yr_,ys_] <;> rfl),by first|exact Kd.R_nil _ _ _ _ _|exact Kd.N_nil _ _ _ _ _|exact Kd.V_nil _ _ _ _ _|exact Kd.Q_nil _ _ _ _ _|exact Kd.S_nil _ _ _ _ _,by first|exact Kd.R_nil _ _ _ _ _|exact Kd.N_nil _ _ _ _ _|exact Kd.V_nil _ _ _ _ _|exact Kd.Q_nil _ _ _ _ _|exact Kd.S_nil _ _ _ _ _,by repeat (with_reducible first|exact HB.out|apply yc_|apply ya_|apply yb_)⟩

end Go.Proofs.YthimblhfjfngiaaGreat.PText

