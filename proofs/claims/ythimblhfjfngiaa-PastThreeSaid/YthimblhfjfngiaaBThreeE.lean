/- PastThree holds: for every three texts the statement answers true. Part 5 of 25. -/
import Derived.Test.YthimblhfjfngiaaBThreeD
namespace Go.Proofs.Ythimblhfjfngiaa.PText
open Go.RowKit Go.Proofs.YthimblhfjfngiaaW.PrintWords Go.Proofs.YthimblhfjfngiaaW.PrintLast Go.Proofs.YthimblhfjfngiaaW.PrintMore
attribute [local go_sem] y2_ y3_ yfb_ ygb_ yS_ yT_ y4_ y5_   -- for this text's walks alone
set_option linter.unusedVariables false
set_option linter.unusedSimpArgs false

theorem yBb_ {W W':World} {n:Nat} {a:Addr} {v:Value} (hq:W.drewN n=W') (h:W.cell? a=some v):W'.cell? a=some v:=by subst hq;exact h
mutual
def yd_.l0:Nat→List ByteArray→List ByteArray→Int→Int→List (List Int)→Int→Option ((List (S106)))
 | 0,_,_,_,_,_,_=>none
 | k+1,x0,x1,x5,x6,x7,x8=>if x8 ≥ 0 then (if 0≤(wrap64 (x6+1)) then (if (wrap64 (x6+1):Int).toNat≤35184372088832 then (if 0≤x8 then (if x8 < (x7.length:Int) then (yd_.l1 k x0 x1 x5 x6 (x7.set (x8:Int).toNat (List.replicate (wrap64 (x6+1):Int).toNat 0)) x8 x6) else (none)) else (none)) else (none)) else (none)) else (yd_.l2 k x0 x1 x5 x6 x7 ([]:List (S106)) 0 0)
def yd_.l1:Nat→List ByteArray→List ByteArray→Int→Int→List (List Int)→Int→Int→Option ((List (S106)))
 | 0,_,_,_,_,_,_,_=>none
 | k+1,x0,x1,x5,x6,x7,x8,x9=>if x9 ≥ 0 then (if x8=x5 then (yd_.j2 k x0 x1 x5 x6 x7 x8 x9 true) else (yd_.j2 k x0 x1 x5 x6 x7 x8 x9 (x9 == x6))) else (yd_.l0 k x0 x1 x5 x6 x7 (wrap64 (x8 - 1)))
def yd_.j2:Nat→List ByteArray→List ByteArray→Int→Int→List (List Int)→Int→Int→Bool→Option ((List (S106)))
 | 0,_,_,_,_,_,_,_,_=>none
 | k+1,x0,x1,x5,x6,x7,x8,x9,x44=>if x44=true then (yd_.l1 k x0 x1 x5 x6 x7 x8 (wrap64 (x9 - 1))) else (if 0≤(wrap64 (x8+1)) then (if (wrap64 (x8+1)) < (x7.length:Int) then (if 0≤x9 then (if x9 < ((rd_L6 x7 (wrap64 (x8+1))).length:Int) then (if 0≤x8 then (if x8 < (x7.length:Int) then (if 0≤(wrap64 (x9+1)) then (if (wrap64 (x9+1)) < ((rd_L6 x7 x8).length:Int) then (if (rd (rd_L6 x7 x8) (wrap64 (x9+1))) > (rd (rd_L6 x7 (wrap64 (x8+1))) x9) then (if x8 < (x0.length:Int) then (if x9 < (x1.length:Int) then (if (rdOf ByteArray.empty x0 x8).toList=(rdOf ByteArray.empty x1 x9).toList then (if (wrap64 (x9+1)) < ((rd_L6 x7 (wrap64 (x8+1))).length:Int) then (if (wrap64 ((rd (rd_L6 x7 (wrap64 (x8+1))) (wrap64 (x9+1)))+1)) > (rd (rd_L6 x7 x8) (wrap64 (x9+1))) then (if x9 < ((rd_L6 x7 x8).length:Int) then (yd_.l1 k x0 x1 x5 x6 (x7.set (x8:Int).toNat ((rd_L6 x7 x8).set (x9:Int).toNat (wrap64 ((rd (rd_L6 x7 (wrap64 (x8+1))) (wrap64 (x9+1)))+1)))) x8 (wrap64 (x9 - 1))) else (none)) else (if x9 < ((rd_L6 x7 x8).length:Int) then (yd_.l1 k x0 x1 x5 x6 (x7.set (x8:Int).toNat ((rd_L6 x7 x8).set (x9:Int).toNat (rd (rd_L6 x7 x8) (wrap64 (x9+1))))) x8 (wrap64 (x9 - 1))) else (none))) else (none)) else (if x9 < ((rd_L6 x7 x8).length:Int) then (yd_.l1 k x0 x1 x5 x6 (x7.set (x8:Int).toNat ((rd_L6 x7 x8).set (x9:Int).toNat (rd (rd_L6 x7 x8) (wrap64 (x9+1))))) x8 (wrap64 (x9 - 1))) else (none))) else (none)) else (none)) else (if x8 < (x0.length:Int) then (if x9 < (x1.length:Int) then (if (rdOf ByteArray.empty x0 x8).toList=(rdOf ByteArray.empty x1 x9).toList then (if (wrap64 (x9+1)) < ((rd_L6 x7 (wrap64 (x8+1))).length:Int) then (if (wrap64 ((rd (rd_L6 x7 (wrap64 (x8+1))) (wrap64 (x9+1)))+1)) > (rd (rd_L6 x7 (wrap64 (x8+1))) x9) then (if x9 < ((rd_L6 x7 x8).length:Int) then (yd_.l1 k x0 x1 x5 x6 (x7.set (x8:Int).toNat ((rd_L6 x7 x8).set (x9:Int).toNat (wrap64 ((rd (rd_L6 x7 (wrap64 (x8+1))) (wrap64 (x9+1)))+1)))) x8 (wrap64 (x9 - 1))) else (none)) else (if x9 < ((rd_L6 x7 x8).length:Int) then (yd_.l1 k x0 x1 x5 x6 (x7.set (x8:Int).toNat ((rd_L6 x7 x8).set (x9:Int).toNat (rd (rd_L6 x7 (wrap64 (x8+1))) x9))) x8 (wrap64 (x9 - 1))) else (none))) else (none)) else (if x9 < ((rd_L6 x7 x8).length:Int) then (yd_.l1 k x0 x1 x5 x6 (x7.set (x8:Int).toNat ((rd_L6 x7 x8).set (x9:Int).toNat (rd (rd_L6 x7 (wrap64 (x8+1))) x9))) x8 (wrap64 (x9 - 1))) else (none))) else (none)) else (none))) else (none)) else (none)) else (none)) else (none)) else (none)) else (none)) else (none)) else (none))
def yd_.l2:Nat→List ByteArray→List ByteArray→Int→Int→List (List Int)→List (S106)→Int→Int→Option ((List (S106)))
 | 0,_,_,_,_,_,_,_,_=>none
 | k+1,x0,x1,x5,x6,x7,x11,x12,x13=>if x12 < x5 then (yd_.j4 k x0 x1 x5 x6 x7 x11 x12 x13 true) else (yd_.j4 k x0 x1 x5 x6 x7 x11 x12 x13 (decide (x13 < x6)))
def yd_.j4:Nat→List ByteArray→List ByteArray→Int→Int→List (List Int)→List (S106)→Int→Int→Bool→Option ((List (S106)))
 | 0,_,_,_,_,_,_,_,_,_=>none
 | k+1,x0,x1,x5,x6,x7,x11,x12,x13,x118=>if x118=true then (if x12 < x5 then (if x13 < x6 then (if 0≤x12 then (if x12 < (x0.length:Int) then (if 0≤x13 then (if x13 < (x1.length:Int) then (yd_.j5 k x0 x1 x5 x6 x7 x11 x12 x13 ((rdOf ByteArray.empty x0 x12).toList == (rdOf ByteArray.empty x1 x13).toList)) else (none)) else (none)) else (none)) else (none)) else (yd_.j5 k x0 x1 x5 x6 x7 x11 x12 x13 false)) else (yd_.j5 k x0 x1 x5 x6 x7 x11 x12 x13 false)) else (some x11)
def yd_.j5:Nat→List ByteArray→List ByteArray→Int→Int→List (List Int)→List (S106)→Int→Int→Bool→Option ((List (S106)))
 | 0,_,_,_,_,_,_,_,_,_=>none
 | k+1,x0,x1,x5,x6,x7,x11,x12,x13,x129=>if x129=true then (if 0≤x12 then (if x12 < (x0.length:Int) then (if x11.length < 5864062014805 then (yd_.l2 k x0 x1 x5 x6 x7 (x11++[(⟨32,rdOf ByteArray.empty x0 x12⟩:S106)]) (wrap64 (x12+1)) (wrap64 (x13+1))) else (none)) else (none)) else (none)) else (if x12 < x5 then (if x13=x6 then (if 0≤x12 then (if x12 < (x0.length:Int) then (if x11.length < 5864062014805 then (yd_.l2 k x0 x1 x5 x6 x7 (x11++[(⟨45,rdOf ByteArray.empty x0 x12⟩:S106)]) (wrap64 (x12+1)) x13) else (none)) else (none)) else (none)) else (if 0≤(wrap64 (x12+1)) then (if (wrap64 (x12+1)) < (x7.length:Int) then (if 0≤x13 then (if x13 < ((rd_L6 x7 (wrap64 (x12+1))).length:Int) then (if 0≤x12 then (if x12 < (x7.length:Int) then (if 0≤(wrap64 (x13+1)) then (if (wrap64 (x13+1)) < ((rd_L6 x7 x12).length:Int) then (if (rd (rd_L6 x7 (wrap64 (x12+1))) x13) ≥ (rd (rd_L6 x7 x12) (wrap64 (x13+1))) then (if x12 < (x0.length:Int) then (if x11.length < 5864062014805 then (yd_.l2 k x0 x1 x5 x6 x7 (x11++[(⟨45,rdOf ByteArray.empty x0 x12⟩:S106)]) (wrap64 (x12+1)) x13) else (none)) else (none)) else (if x13 < (x1.length:Int) then (if x11.length < 5864062014805 then (yd_.l2 k x0 x1 x5 x6 x7 (x11++[(⟨43,rdOf ByteArray.empty x1 x13⟩:S106)]) x12 (wrap64 (x13+1))) else (none)) else (none))) else (none)) else (none)) else (none)) else (none)) else (none)) else (none)) else (none)) else (none))) else (if 0≤x13 then (if x13 < (x1.length:Int) then (if x11.length < 5864062014805 then (yd_.l2 k x0 x1 x5 x6 x7 (x11++[(⟨43,rdOf ByteArray.empty x1 x13⟩:S106)]) x12 (wrap64 (x13+1))) else (none)) else (none)) else (none)))
end
def yd_.f (k:Nat) (l0:List ByteArray) (l1:List ByteArray):Option ((List (S106))):=if 0≤(wrap64 ((l0.length:Int)+1)) then (if (wrap64 ((l0.length:Int)+1):Int).toNat≤11728124029610 then (yd_.l0 k l0 l1 (l0.length:Int) (l1.length:Int) (List.replicate (wrap64 ((l0.length:Int)+1):Int).toNat []) (l0.length:Int)) else (none)) else (none)
set_option maxHeartbeats 8000000 in
set_option maxRecDepth 100000 in
theorem yd_.calls (k:Nat) (A0:Option Addr) (c0:Nat) (l0:List ByteArray) (A1:Option Addr) (c1:Nat) (l1:List ByteArray) (r:List (S106)) (w:World) (hr0:Kd.C Kd.string w A0 l0.length l0) (hc0:l0.length≤c0) (hr1:Kd.C Kd.string w A1 l1.length l1) (hc1:l1.length≤c1) (h:yd_.f k l0 l1=some r) :
  Calls Try.prog 49 #[.slice A0 l0.length c0,.slice A1 l1.length c1] w fun e w'=>∃ v0_:Value,e=.returned (v0_)∧Kd.R k106 106 w' w.heap.size (fun _=>True) v0_ r∧Below w.heap.size w w':=by
 have hu106:=Try.underlying106
 have HR0:=Aside0.mk hr0
 have HC0:=Aside0.mk hc0
 clear hr0 hc0
 have HR1:=Aside0.mk hr1
 have HC1:=Aside0.mk hc1
 clear hr1 hc1
 have HB:=Aside0.mk (Below.refl w.heap.size w)
 have H:(if 0≤(wrap64 ((l0.length:Int)+1)) then (if (wrap64 ((l0.length:Int)+1):Int).toNat≤11728124029610 then (yd_.l0 k l0 l1 (l0.length:Int) (l1.length:Int) (List.replicate (wrap64 ((l0.length:Int)+1):Int).toNat []) (l0.length:Int)) else (none)) else (none))=some r:=h
 clear h
 obtain ⟨ji3,hji3⟩:∃ j_:Int,(wrap64 ((l0.length:Int)+1))=j_:=⟨_,rfl⟩
 replace H:(if 0≤(ji3) then (if (ji3:Int).toNat≤11728124029610 then (yd_.l0 k l0 l1 (l0.length:Int) (l1.length:Int) (List.replicate (ji3:Int).toNat []) (l0.length:Int)) else (none)) else (none))=some r:=by first|(rw [hji3] at H;exact H)|(simp only [hji3] at H ⊢;exact H)
 have hji3w:(IntKind.i64.wrap ((l0.length:Int)+1))=ji3:=(i64_w _).trans hji3
 by_cases c4:0≤(ji3)
 rotate_left
 ·rw [if_neg c4] at H
  exact absurd H (by simp)
 rw [if_pos c4] at H
 have c4b0:=eq_true c4
 have c4b1:decide (0≤(ji3))=true:=decide_eq_true c4
 clear c4
 by_cases c5:(ji3:Int).toNat≤11728124029610
 rotate_left
 ·rw [if_neg c5] at H
  exact absurd H (by simp)
 rw [if_pos c5] at H
 have c5b0:=eq_true c5
 have c5b1:decide ((ji3:Int).toNat≤11728124029610)=true:=decide_eq_true c5
 clear c5
 obtain ⟨y202,hy202⟩:∃ y_:List (List Int),y_=(List.replicate (ji3:Int).toNat []):=⟨_,rfl⟩
 replace H:(yd_.l0 k l0 l1 (l0.length:Int) (l1.length:Int) y202 (l0.length:Int))=some r:=by first|(rw [hy202];with_reducible exact H)|(have H2_:=(Option.bind_some _ _).symm.trans H;rw [hy202];with_reducible exact H2_)|(have H2_:=(Option.bind_some _ _).symm.trans H;with_reducible exact H2_)|with_reducible exact H|(rw [hy202];exact H)|exact H
 have Ny202:=Aside0.mk hy202
 clear hy202
 have H':=Aside0.mk H
 clear H
 go_enter Try.func49,Try.ntmps49
 go_wp2_with (first|((with_reducible refine yL_ (N:=20) rfl ?_);refine Kd.S_make (Kd.slice 3 (Kd.int .i64)) _ 43 rfl (N:=20) rfl 127 _ _ rfl ji3 rfl rfl Try.underlying127 (.slice none 0 0) 24 info43 rfl (by decide) (by omega) [] (ok:=fun _=>True) (okp:=fun _=>True) ⟨_,rfl,Kd.R_nil _ _ _ _ _⟩ (fun _ hk=>hk) trivial (of_decide_eq_true (by assumption)) (Nat.le_trans (Nat.mul_le_mul_right _ (of_decide_eq_true (by assumption):ji3.toNat≤11728124029610)) (by omega)) (Below.refl _ _) (Nat.le_refl _) ?_;intro v203 w6 ho7 hb hg_ hnew_;clear hg_ hnew_;(first|rw [← Ny202.out] at ho7|(simp only [Int.reduceToNat] at ho7;rw [← Ny202.out] at ho7));have n0_:=Aside0.mk (Kd.S_lower ho7 (yn_ (by repeat (with_reducible first|exact HB.out|apply yc_|apply ya_|apply yb_))));have n1_:=Aside0.mk (yp_ (by repeat (with_reducible first|exact HB.out|apply yc_|apply ya_|apply yb_)) hb);clear HB;have HO204:=n0_;have HB:=n1_;clear n0_ n1_;clear hb ho7))
 repeat (go_quiet (first|((with_reducible refine yL_ (N:=20) rfl ?_);refine Kd.S_make (Kd.slice 3 (Kd.int .i64)) _ 43 rfl (N:=20) rfl 127 _ _ rfl ji3 rfl rfl Try.underlying127 (.slice none 0 0) 24 info43 rfl (by decide) (by omega) [] (ok:=fun _=>True) (okp:=fun _=>True) ⟨_,rfl,Kd.R_nil _ _ _ _ _⟩ (fun _ hk=>hk) trivial (of_decide_eq_true (by assumption)) (Nat.le_trans (Nat.mul_le_mul_right _ (of_decide_eq_true (by assumption):ji3.toNat≤11728124029610)) (by omega)) (Below.refl _ _) (Nat.le_refl _) ?_;intro v203 w6 ho7 hb hg_ hnew_;clear hg_ hnew_;(first|rw [← Ny202.out] at ho7|(simp only [Int.reduceToNat] at ho7;rw [← Ny202.out] at ho7));have n0_:=Aside0.mk (Kd.S_lower ho7 (yn_ (by repeat (with_reducible first|exact HB.out|apply yc_|apply ya_|apply yb_))));have n1_:=Aside0.mk (yp_ (by repeat (with_reducible first|exact HB.out|apply yc_|apply ya_|apply yb_)) hb);clear HB;have HO204:=n0_;have HB:=n1_;clear n0_ n1_;clear hb ho7));try go_wp2_with (first|((with_reducible refine yL_ (N:=20) rfl ?_);refine Kd.S_make (Kd.slice 3 (Kd.int .i64)) _ 43 rfl (N:=20) rfl 127 _ _ rfl ji3 rfl rfl Try.underlying127 (.slice none 0 0) 24 info43 rfl (by decide) (by omega) [] (ok:=fun _=>True) (okp:=fun _=>True) ⟨_,rfl,Kd.R_nil _ _ _ _ _⟩ (fun _ hk=>hk) trivial (of_decide_eq_true (by assumption)) (Nat.le_trans (Nat.mul_le_mul_right _ (of_decide_eq_true (by assumption):ji3.toNat≤11728124029610)) (by omega)) (Below.refl _ _) (Nat.le_refl _) ?_;intro v203 w6 ho7 hb hg_ hnew_;clear hg_ hnew_;(first|rw [← Ny202.out] at ho7|(simp only [Int.reduceToNat] at ho7;rw [← Ny202.out] at ho7));have n0_:=Aside0.mk (Kd.S_lower ho7 (yn_ (by repeat (with_reducible first|exact HB.out|apply yc_|apply ya_|apply yb_))));have n1_:=Aside0.mk (yp_ (by repeat (with_reducible first|exact HB.out|apply yc_|apply ya_|apply yb_)) hb);clear HB;have HO204:=n0_;have HB:=n1_;clear n0_ n1_;clear hb ho7)))
 try simp only [Act.put,List.setIfInBounds_toArray,List.set_cons_succ,List.set_cons_zero]
 go_loopg [8] k (fun kq v8 w'=>∃ (x7_1:List (List Int)) (x8_1:Int),v8=.int .i64 x8_1∧Aside0 (yd_.l0 kq l0 l1 (l0.length:Int) (l1.length:Int) x7_1 x8_1=some r)∧Aside0 (kq≤k)∧Aside0 (Kd.S (Kd.slice 3 (Kd.int .i64)) 43 w' w.heap.size (fun _=>True) v203 x7_1)∧Aside0 (Below w.heap.size w w'))
 case atStart=>exact ⟨(y202),((l0.length:Int)),(by first|rfl|(simp;done)|(simp [*];done)),H',⟨Nat.le_refl _⟩,⟨by (with_reducible repeat (first|apply Kd.yW_|apply Kd.yU_|apply Kd.S_drew));exact HO204.out⟩,⟨by repeat (with_reducible first|exact HB.out|apply yc_|apply ya_|apply yb_)⟩⟩
 case round =>
  clear H'
  try clear c1
  try clear p2
  try clear c4
  try clear c4b0
  try clear c4b1
  try clear c5
  try clear c5b0
  try clear c5b1
  try clear p6
  obtain ⟨x7_1,x8_1,rfl,HA,HK1,HO_7,HB⟩:=hrel
  cases gk with
  | zero=>exact absurd HA.out (by simp [yd_.l0])
  | succ k1 =>
   have H:=HA.out
   clear HA
   simp only [yd_.l0] at H
   by_cases c8:x8_1 ≥ 0
   rotate_left
   ·rw [if_neg c8] at H
    have c8b0:decide (0≤x8_1)=false:=decide_eq_false c8
    clear c8
    have H':=Aside0.mk H
    clear H
    go_wp2
    repeat (go_quiet (fail);try go_wp2)
    try simp only [Act.put,List.setIfInBounds_toArray,List.set_cons_succ,List.set_cons_zero]
    go_loopg [11,12,13] k1 (fun kq v11 v12 v13 w'=>∃ (x11_2:List (S106)) (x12_2:Int) (x13_2:Int),v12=.int .i64 x12_2∧v13=.int .i64 x13_2∧Aside0 (yd_.l2 kq l0 l1 (l0.length:Int) (l1.length:Int) x7_1 x11_2 x12_2 x13_2=some r)∧Aside0 (kq≤k1)∧Aside0 (Kd.S (Kd.slice 3 (Kd.int .i64)) 43 w' w.heap.size (fun _=>True) v203 x7_1)∧Aside0 (Kd.R k106 106 w' w.heap.size (fun _=>True) v11 x11_2)∧Aside0 (Below w.heap.size w w'))
    case atStart=>exact ⟨(([]:List (S106))),(0),(0),(by first|rfl|(simp;done)|(simp [*];done)),(by first|rfl|(simp;done)|(simp [*];done)),H',⟨Nat.le_refl _⟩,⟨by (with_reducible repeat (first|apply Kd.yW_|apply Kd.yU_|apply Kd.S_drew));exact HO_7.out⟩,⟨by first|exact Kd.R_nil _ _ _ _ _|exact Kd.N_nil _ _ _ _ _|exact Kd.V_nil _ _ _ _ _|exact Kd.Q_nil _ _ _ _ _|exact Kd.S_nil _ _ _ _ _⟩,⟨by repeat (with_reducible first|exact HB.out|apply yc_|apply ya_|apply yb_)⟩⟩
    case round =>
     clear H'
     try clear c1
     try clear c2
     try clear p2
     try clear q2
     try clear hx2
     try clear c3
     try clear c4
     try clear q4
     try clear c5
     try clear p5
     try clear q5
     try clear hx5
     try clear hf5
     try clear c6
     try clear p6
     try clear q6
     try clear hx6
     try clear hf6
     try clear c8
     try clear c8b0
     try clear c10
     try clear c11
     try clear c12
     try clear c13
     try clear c19
     try clear c19b0
     try clear c20
     try clear p20
     try clear q20
     try clear hx20
     try clear c21
     try clear p21
     try clear q21
     try clear hx21
     try clear c23
     try clear p23
     try clear q23
     try clear hx23
     try clear c24
     try clear p24
     try clear q24
     try clear hx24
     try clear c25
     try clear c26
     try clear c27
     try clear c28
     try clear c29
     try clear c31
     try clear c32
     try clear c33
     try clear c33b0
     try clear c34
     try clear c35
     try clear c47
     try clear c49
     try clear q49
     try clear c51
     try clear c51b0
     try clear c52
     try clear c52b0
     try clear c53
     try clear c53b0
     try clear c53b1
     try clear c54
     try clear c54b0
     try clear c55
     try clear c55b0
     try clear c56
     try clear c56b0
     try clear p57
     try clear q57
     try clear hx57
     try clear hf57
     try clear c58
     try clear q58
     try clear c60
     try clear c60b0
     try clear p61
     try clear q61
     try clear hx61
     try clear hf61
     try clear c62
     try clear q62
     try clear c64
     try clear c64b0
     try clear p64
     try clear p65
     try clear q65
     try clear hx65
     try clear hf65
     try clear c66
     try clear q66
     try clear hx209_0
     try clear hx210_0
     try clear hx211_0
     try clear hx212_0
     try clear hx233_0
     try clear hx234_0
     try clear hx235_0
     try clear hx236_0
     try clear hx237_0
     try clear hx238_0
     try clear hx239_0
     try clear hx243_0
     try clear hx247_0
     try clear hx57_0
     try clear hx61_0
     try clear hx65_0
     try clear p209
     try clear p210
     try clear p211
     try clear p212
     try clear p233
     try clear p234
     try clear p235
     try clear p236
     try clear p237
     try clear p238
     try clear p239
     try clear p243
     try clear p247
     try clear p57
     try clear p61
     try clear p65
     try clear q209
     try clear q210
     try clear q211
     try clear q212
     try clear q233
     try clear q234
     try clear q235
     try clear q236
     try clear q237
     try clear q238
     try clear q239
     try clear q243
     try clear q247
     try clear q57
     try clear q61
     try clear q65
     obtain ⟨x11_2,x12_2,x13_2,rfl,rfl,HA,HK2,HO_7,HO_11,HB⟩:=hrel
     cases gk with
     | zero=>exact absurd HA.out (by simp [yd_.l2])
     | succ k2 =>
      have H:=HA.out
      clear HA
      simp only [yd_.l2] at H
      have HC68:=Aside0.mk H
      clear H
      go_upto_region 19 with (fail)
      repeat (go_quiet (fail);go_upto_region 19 with (fail))
      go_cut [118] (fun v118 wc=>∃ (kq:Nat) (x118_67:Bool),v118=.bool x118_67∧Aside0 (yd_.j4 kq l0 l1 (l0.length:Int) (l1.length:Int) x7_1 x11_2 x12_2 x13_2 x118_67=some r)∧Aside0 (kq≤k2)∧Aside0 (Kd.S (Kd.slice 3 (Kd.int .i64)) 43 wc w.heap.size (fun _=>True) v203 x7_1)∧Aside0 (Kd.R k106 106 wc w.heap.size (fun _=>True) u11 x11_2)∧Aside0 (Below w.heap.size w wc))
      case first =>
       have H:=HC68.out
       clear HC68
       by_cases c69:x12_2 < (l0.length:Int)
       ·rw [if_pos c69] at H
        have c69b0:decide (x12_2 < (l0.length:Int))=true:=decide_eq_true c69
        clear c69
        (first|rw [c69b0]|(simp only [i64_w,i32_w];rw [c69b0])|skip)
        have H':=Aside0.mk H
        clear H
        go_wp2
        repeat (go_quiet (fail);try go_wp2)
        go_meet
        case rel=>exact ⟨_,(true),(by first|rfl|(simp;done)|(simp [*];done)),H',⟨by have:=HK1.out;have:=HK2.out;first|omega|exact Nat.le_refl _⟩,⟨by (with_reducible repeat (first|apply Kd.yW_|apply Kd.yU_|apply Kd.S_drew));exact HO_7.out⟩,⟨by (with_reducible repeat (first|apply Kd.yg_|apply Kd.yh_|apply Kd.R_drew));exact HO_11.out⟩,⟨by repeat (with_reducible first|exact HB.out|apply yc_|apply ya_|apply yb_)⟩⟩
       rw [if_neg c69] at H
       have c69b0:decide (x12_2 < (l0.length:Int))=false:=decide_eq_false c69
       clear c69
       (first|rw [c69b0]|(simp only [i64_w,i32_w];rw [c69b0])|skip)
       have H':=Aside0.mk H
       clear H
       go_wp2
       repeat (go_quiet (fail);try go_wp2)
       go_meet
       case rel=>exact ⟨_,(decide (x13_2 < (l1.length:Int))),(by first|rfl|(simp;done)|(simp [*];done)),H',⟨by have:=HK1.out;have:=HK2.out;first|omega|exact Nat.le_refl _⟩,⟨by (with_reducible repeat (first|apply Kd.yW_|apply Kd.yU_|apply Kd.S_drew));exact HO_7.out⟩,⟨by (with_reducible repeat (first|apply Kd.yg_|apply Kd.yh_|apply Kd.R_drew));exact HO_11.out⟩,⟨by repeat (with_reducible first|exact HB.out|apply yc_|apply ya_|apply yb_)⟩⟩
      case rest =>
       clear HC68
       try clear c1
       try clear c2
       try clear p2
       try clear q2
       try clear hx2
       try clear c3
       try clear c4
       try clear q4
       try clear c5
       try clear p5
       try clear q5
       try clear hx5
       try clear hf5
       try clear c6
       try clear p6
       try clear q6
       try clear hx6
       try clear hf6
       try clear c8
       try clear c8b0
       try clear c10
       try clear c11
       try clear c12
       try clear c13
       try clear c19
       try clear c19b0
       try clear c20
       try clear p20
       try clear q20
       try clear hx20
       try clear c21
       try clear p21
       try clear q21
       try clear hx21
       try clear c23
       try clear p23
       try clear q23
       try clear hx23
       try clear c24
       try clear p24
       try clear q24
       try clear hx24
       try clear c25
       try clear c26
       try clear c27
       try clear c28
       try clear c29
       try clear c31
       try clear c32
       try clear c33
       try clear c33b0
       try clear c34
       try clear c35
       try clear c47
       try clear c49
       try clear q49
       try clear c51
       try clear c51b0
       try clear c52
       try clear c52b0
       try clear c53
       try clear c53b0
       try clear c53b1
       try clear c54
       try clear c54b0
       try clear c55
       try clear c55b0
       try clear c56
       try clear c56b0
       try clear p57
       try clear q57
       try clear hx57
       try clear hf57
       try clear c58
       try clear q58
       try clear c60
       try clear c60b0
       try clear p61
       try clear q61
       try clear hx61
       try clear hf61
       try clear c62
       try clear q62
       try clear c64
       try clear c64b0
       try clear p64
       try clear p65
       try clear q65
       try clear hx65
       try clear hf65
       try clear c66
       try clear q66
       try clear c69
       try clear c69b0
       try clear hx209_0
       try clear hx210_0
       try clear hx211_0
       try clear hx212_0
       try clear hx233_0
       try clear hx234_0
       try clear hx235_0
       try clear hx236_0
       try clear hx237_0
       try clear hx238_0
       try clear hx239_0
       try clear hx243_0
       try clear hx247_0
       try clear hx57_0
       try clear hx61_0
       try clear hx65_0
       try clear p2
       try clear p20
       try clear p209
       try clear p21
       try clear p210
       try clear p211
       try clear p212
       try clear p23
       try clear p233
       try clear p234
       try clear p235
       try clear p236
       try clear p237
       try clear p238
       try clear p239
       try clear p24
       try clear p243
       try clear p247
       try clear p5
       try clear p57
       try clear p6
       try clear p61
       try clear p64
       try clear p65
       try clear q2
       try clear q20
       try clear q209
       try clear q21
       try clear q210
       try clear q211
       try clear q212
       try clear q23
       try clear q233
       try clear q234
       try clear q235
       try clear q236
       try clear q237
       try clear q238
       try clear q239
       try clear q24
       try clear q243
       try clear q247
       try clear q4
       try clear q49
       try clear q5
       try clear q57
       try clear q58
       try clear q6
       try clear q61
       try clear q62
       try clear q65
       try clear q66
       obtain ⟨kq,x118_67,rfl,HA,HJ67,HO_7,HO_11,HB⟩:=hcut
       cases kq with
       | zero=>exact absurd HA.out (by simp [yd_.j4])
       | succ kj67 =>
        have H:=HA.out
        clear HA
        simp only [yd_.j4] at H
        by_cases c70:x118_67=true
        rotate_left
        ·replace c70:=Bool.eq_false_iff.mpr c70
         subst c70
         have H1:(some x11_2)=some r:=by rw [if_neg (show ¬ (false=true) by decide)] at H;exact H
         clear H
         have H:=H1
         clear H1
         obtain rfl:=Option.some.inj H
         go_wp2
         repeat (go_quiet (fail);try go_wp2)
         go_ret
         exact ⟨_,by first|rfl|(simp [yq_,yr_] <;> rfl)|(simp only [← hji3];first|rfl|(simp [yq_,yr_] <;> rfl))|(simp [*,yq_,yr_] <;> rfl),by (with_reducible repeat (first|apply Kd.yg_|apply Kd.yh_|apply Kd.R_drew));exact HO_11.out,by repeat (with_reducible first|exact HB.out|apply yc_|apply ya_|apply yb_)⟩
        subst c70
        have H1:(if x12_2 < (l0.length:Int) then (if x13_2 < (l1.length:Int) then (if 0≤x12_2 then (if x12_2 < (l0.length:Int) then (if 0≤x13_2 then (if x13_2 < (l1.length:Int) then (yd_.j5 kj67 l0 l1 (l0.length:Int) (l1.length:Int) x7_1 x11_2 x12_2 x13_2 ((rdOf ByteArray.empty l0 x12_2).toList == (rdOf ByteArray.empty l1 x13_2).toList)) else (none)) else (none)) else (none)) else (none)) else (yd_.j5 kj67 l0 l1 (l0.length:Int) (l1.length:Int) x7_1 x11_2 x12_2 x13_2 false)) else (yd_.j5 kj67 l0 l1 (l0.length:Int) (l1.length:Int) x7_1 x11_2 x12_2 x13_2 false))=some r:=by rw [if_pos rfl] at H;exact H
        clear H
        have H:=H1
        clear H1
        have HC71:=Aside0.mk H
        clear H
        go_upto_region 22 with (fail)
        repeat (go_quiet (fail);go_upto_region 22 with (fail))
        go_cut [129] (fun v129 wc=>∃ (kq:Nat) (x129_70:Bool),v129=.bool x129_70∧Aside0 (yd_.j5 kq l0 l1 (l0.length:Int) (l1.length:Int) x7_1 x11_2 x12_2 x13_2 x129_70=some r)∧Aside0 (kq≤kj67)∧Aside0 (Kd.S (Kd.slice 3 (Kd.int .i64)) 43 wc w.heap.size (fun _=>True) v203 x7_1)∧Aside0 (Kd.R k106 106 wc w.heap.size (fun _=>True) u11 x11_2)∧Aside0 (Below w.heap.size w wc))
        case first =>
         have H:=HC71.out
         clear HC71
         by_cases c72:x12_2 < (l0.length:Int)
         rotate_left
         ·rw [if_neg c72] at H
          have c72b0:decide (x12_2 < (l0.length:Int))=false:=decide_eq_false c72
          clear c72
          (first|rw [c72b0]|(simp only [i64_w,i32_w];rw [c72b0])|skip)
          have H':=Aside0.mk H
          clear H
          go_wp2
          repeat (go_quiet (fail);try go_wp2)
          go_meet
          case rel=>exact ⟨_,(false),(by first|rfl|(simp;done)|(simp [*];done)),H',⟨by have:=HK1.out;have:=HK2.out;have:=HJ67.out;first|omega|exact Nat.le_refl _⟩,⟨by (with_reducible repeat (first|apply Kd.yW_|apply Kd.yU_|apply Kd.S_drew));exact HO_7.out⟩,⟨by (with_reducible repeat (first|apply Kd.yg_|apply Kd.yh_|apply Kd.R_drew));exact HO_11.out⟩,⟨by repeat (with_reducible first|exact HB.out|apply yc_|apply ya_|apply yb_)⟩⟩
         rw [if_pos c72] at H
         have c72b0:decide (x12_2 < (l0.length:Int))=true:=decide_eq_true c72
         clear c72
         (first|rw [c72b0]|(simp only [i64_w,i32_w];rw [c72b0])|skip)
         by_cases c73:x13_2 < (l1.length:Int)
         rotate_left
         ·rw [if_neg c73] at H
          have c73b0:decide (x13_2 < (l1.length:Int))=false:=decide_eq_false c73
          clear c73
          have H':=Aside0.mk H
          clear H
          go_wp2
          repeat (go_quiet (fail);try go_wp2)
          go_meet
          case rel=>exact ⟨_,(false),(by first|rfl|(simp;done)|(simp [*];done)),H',⟨by have:=HK1.out;have:=HK2.out;have:=HJ67.out;first|omega|exact Nat.le_refl _⟩,⟨by (with_reducible repeat (first|apply Kd.yW_|apply Kd.yU_|apply Kd.S_drew));exact HO_7.out⟩,⟨by (with_reducible repeat (first|apply Kd.yg_|apply Kd.yh_|apply Kd.R_drew));exact HO_11.out⟩,⟨by repeat (with_reducible first|exact HB.out|apply yc_|apply ya_|apply yb_)⟩⟩
         rw [if_pos c73] at H
         have c73b0:decide (x13_2 < (l1.length:Int))=true:=decide_eq_true c73
         clear c73
         by_cases c74:0≤x12_2
         rotate_left
         ·rw [if_neg c74] at H
          exact absurd H (by simp)
         rw [if_pos c74] at H
         have c74b0:decide (0≤x12_2)=true:=decide_eq_true c74
         clear c74
         by_cases c75:x12_2 < (l0.length:Int)
         rotate_left
         ·rw [if_neg c75] at H
          exact absurd H (by simp)
         rw [if_pos c75] at H
         have c75b0:decide (x12_2 < (l0.length:Int))=true:=decide_eq_true c75
         clear c75
         by_cases c76:0≤x13_2
         rotate_left
         ·rw [if_neg c76] at H
          exact absurd H (by simp)
         rw [if_pos c76] at H
         have c76b0:decide (0≤x13_2)=true:=decide_eq_true c76
         clear c76
         by_cases c77:x13_2 < (l1.length:Int)
         rotate_left
         ·rw [if_neg c77] at H
          exact absurd H (by simp)
         rw [if_pos c77] at H
         have c77b0:decide (x13_2 < (l1.length:Int))=true:=decide_eq_true c77
         clear c77
         have H':=Aside0.mk H
         clear H
         have p251:0≤(x12_2:Int):=of_decide_eq_true (by assumption)
         have q251:x12_2 < (l0.length:Int):=of_decide_eq_true (by assumption)
         obtain ⟨ad251,e251,hx251_0⟩:=Kd.yZ_ HR0.out x12_2 p251 q251
         cases e251
         replace hx251_0:=(HB.out.cell (World.block_lt_of_cell? w _ hx251_0)).trans hx251_0
         replace p251:=eq_true p251
         replace q251:=eq_true q251
         have p252:0≤(x13_2:Int):=of_decide_eq_true (by assumption)
         have q252:x13_2 < (l1.length:Int):=of_decide_eq_true (by assumption)
         obtain ⟨ad252,e252,hx252_0⟩:=Kd.yZ_ HR1.out x13_2 p252 q252
         cases e252
         replace hx252_0:=(HB.out.cell (World.block_lt_of_cell? w _ hx252_0)).trans hx252_0
         replace p252:=eq_true p252
         replace q252:=eq_true q252
         go_wp2
         repeat (go_quiet (fail);try go_wp2)
         go_meet
         case rel=>exact ⟨_,(((rdOf ByteArray.empty l0 x12_2).toList == (rdOf ByteArray.empty l1 x13_2).toList)),(by first|rfl|(simp;done)|(simp [*];done)),H',⟨by have:=HK1.out;have:=HK2.out;have:=HJ67.out;first|omega|exact Nat.le_refl _⟩,⟨by (with_reducible repeat (first|apply Kd.yW_|apply Kd.yU_|apply Kd.S_drew));exact HO_7.out⟩,⟨by (with_reducible repeat (first|apply Kd.yg_|apply Kd.yh_|apply Kd.R_drew));exact HO_11.out⟩,⟨by repeat (with_reducible first|exact HB.out|apply yc_|apply ya_|apply yb_)⟩⟩
        case rest =>
         clear HC71
         try clear c1
         try clear c2
         try clear p2
         try clear q2
         try clear hx2
         try clear c3
         try clear c4
         try clear q4
         try clear c5
         try clear p5
         try clear q5
         try clear hx5
         try clear hf5
         try clear c6
         try clear p6
         try clear q6
         try clear hx6
         try clear hf6
         try clear c7
         try clear c8
         try clear c8b0
         try clear c10
         try clear c11
         try clear c12
         try clear c13
         try clear c19
         try clear c19b0
         try clear c20
         try clear p20
         try clear q20
         try clear hx20
         try clear c21
         try clear p21
         try clear q21
         try clear hx21
         try clear c23
         try clear p23
         try clear q23
         try clear hx23
         try clear c24
         try clear p24
         try clear q24
         try clear hx24
         try clear c25
         try clear p25
         try clear q25
         try clear hx25
         try clear c26
         try clear c27
         try clear c28
         try clear c29
         try clear c31
         try clear c32
         try clear c33
         try clear c33b0
         try clear c34
         try clear c35
         try clear c47
         try clear c49
         try clear q49
         try clear c51
         try clear c51b0
         try clear c52
         try clear c52b0
         try clear c53
         try clear c53b0
         try clear c53b1
         try clear c54
         try clear c54b0
         try clear c55
         try clear c55b0
         try clear c56
         try clear c56b0
         try clear p57
         try clear q57
         try clear hx57
         try clear hf57
         try clear c58
         try clear q58
         try clear c60
         try clear c60b0
         try clear p61
         try clear q61
         try clear hx61
         try clear hf61
         try clear c62
         try clear q62
         try clear c64
         try clear c64b0
         try clear p64
         try clear p65
         try clear q65
         try clear hx65
         try clear hf65
         try clear c66
         try clear q66
         try clear c69
         try clear c69b0
         try clear c70
         try clear c72
         try clear c72b0
         try clear c73
         try clear c73b0
         try clear c74
         try clear c74b0
         try clear c75
         try clear c75b0
         try clear c76
         try clear c76b0
         try clear c77
         try clear c77b0
         try clear hx209_0
         try clear hx210_0
         try clear hx211_0
         try clear hx212_0
         try clear hx233_0
         try clear hx234_0
         try clear hx235_0
         try clear hx236_0
         try clear hx237_0
         try clear hx238_0
         try clear hx239_0
         try clear hx243_0
         try clear hx247_0
         try clear hx251_0
         try clear hx252_0
         try clear hx57_0
         try clear hx61_0
         try clear hx65_0
         try clear p2
         try clear p20
         try clear p209
         try clear p21
         try clear p210
         try clear p211
         try clear p212
         try clear p23
         try clear p233
         try clear p234
         try clear p235
         try clear p236
         try clear p237
         try clear p238
         try clear p239
         try clear p24
         try clear p243
         try clear p247
         try clear p251
         try clear p252
         try clear p5
         try clear p57
         try clear p6
         try clear p61
         try clear p64
         try clear p65
         try clear q2
         try clear q20
         try clear q209
         try clear q21
         try clear q210
         try clear q211
         try clear q212
         try clear q23
         try clear q233
         try clear q234
         try clear q235
         try clear q236
         try clear q237
         try clear q238
         try clear q239
         try clear q24
         try clear q243
         try clear q247
         try clear q251
         try clear q252
         try clear q4
         try clear q49
         try clear q5
         try clear q57
         try clear q58
         try clear q6
         try clear q61
         try clear q62
         try clear q65
         try clear q66
         obtain ⟨kq,x129_70,rfl,HA,HJ70,HO_7,HO_11,HB⟩:=hcut
         cases kq with
         | zero=>exact absurd HA.out (by simp [yd_.j5])
         | succ kj70 =>
          have H:=HA.out
          clear HA
          simp only [yd_.j5] at H
          by_cases c78:x129_70=true
          ·subst c78
           have H1:(if 0≤x12_2 then (if x12_2 < (l0.length:Int) then (if x11_2.length < 5864062014805 then (yd_.l2 kj70 l0 l1 (l0.length:Int) (l1.length:Int) x7_1 (x11_2++[(⟨32,rdOf ByteArray.empty l0 x12_2⟩:S106)]) (wrap64 (x12_2+1)) (wrap64 (x13_2+1))) else (none)) else (none)) else (none))=some r:=by rw [if_pos rfl] at H;exact H
           clear H
           have H:=H1
           clear H1
           by_cases c79:0≤x12_2
           rotate_left
           ·rw [if_neg c79] at H
            exact absurd H (by simp)
           rw [if_pos c79] at H
           have c79b0:decide (0≤x12_2)=true:=decide_eq_true c79
           clear c79
           by_cases c80:x12_2 < (l0.length:Int)
           rotate_left
           ·rw [if_neg c80] at H
            exact absurd H (by simp)
           rw [if_pos c80] at H
           have c80b0:decide (x12_2 < (l0.length:Int))=true:=decide_eq_true c80
           clear c80
           by_cases c81:x11_2.length < 5864062014805
           rotate_left
           ·rw [if_neg c81] at H
            exact absurd H (by simp)
           rw [if_pos c81] at H
           have LMc81:=Aside0.mk c81
           clear c81
           obtain ⟨y254,hy254⟩:∃ y_:List (S106),y_=(x11_2++[(⟨32,rdOf ByteArray.empty l0 x12_2⟩:S106)]):=⟨_,rfl⟩
           replace H:(yd_.l2 kj70 l0 l1 (l0.length:Int) (l1.length:Int) x7_1 y254 (wrap64 (x12_2+1)) (wrap64 (x13_2+1)))=some r:=by first|(rw [hy254];with_reducible exact H)|(have H2_:=(Option.bind_some _ _).symm.trans H;rw [hy254];with_reducible exact H2_)|(have H2_:=(Option.bind_some _ _).symm.trans H;with_reducible exact H2_)|with_reducible exact H|(rw [hy254];exact H)|exact H
           have Ny254:=Aside0.mk hy254
           clear hy254
           have H':=Aside0.mk H
           clear H
           have p253:0≤(x12_2:Int):=of_decide_eq_true (by assumption)
           have q253:x12_2 < (l0.length:Int):=of_decide_eq_true (by assumption)
           obtain ⟨ad253,e253,hx253_0⟩:=Kd.yZ_ HR0.out x12_2 p253 q253
           cases e253
           replace hx253_0:=(HB.out.cell (World.block_lt_of_cell? w _ hx253_0)).trans hx253_0
           replace p253:=eq_true p253
           replace q253:=eq_true q253
           go_wp2_with (first|((with_reducible refine yF_ (b:=.append) (xs:=#[.tmp 149,.tmp 155]) rfl ?_);at_builtin;refine Kd.y7_ k106 (w0:=w) w.heap.size rfl (.tmp 149) (.tmp 155) 103 106 (.agg #[(.int .u8 0),(.string ⟨#[]⟩)]) 24 rfl Try.underlying103 yKb_ rfl (by decide) (by omega) u11 x11_2 (⟨32,rdOf ByteArray.empty l0 x12_2⟩:S106) [.int .u8 32,.string (rdOf ByteArray.empty l0 x12_2)] (fun _=>True) (fun _=>False) rfl rfl ?aP (fun _ hk=>hk.elim) ?aF ?aO ?aB ?aS ?aL ?_;(case aP=>exact ywb_ _ _ _ (⟨32,rdOf ByteArray.empty l0 x12_2⟩:S106));(case aB=>exact (by repeat (with_reducible first|exact HB.out|apply yc_|apply ya_|apply yb_)));(case aF=>exact (fun _ _=>trivial));(case aO=>exact (by (with_reducible repeat (first|apply Kd.yg_|apply Kd.yh_|apply Kd.R_drew));exact HO_11.out));(case aS=>exact (yn_ (by repeat (with_reducible first|exact HB.out|apply yc_|apply ya_|apply yb_))));(case aL=>have:=LMc81.out;omega);intro v255 w82 ho hb hg hat;rw [← Ny254.out] at ho;have n0_:=Aside0.mk (Kd.yJb_ (by (with_reducible repeat (first|apply Kd.yW_|apply Kd.yU_|apply Kd.S_drew));exact HO_7.out) (Kd.yO_ (by (with_reducible repeat (first|apply Kd.yg_|apply Kd.yh_|apply Kd.R_drew));exact HO_11.out)) (by decide) hg);have n1_:=Aside0.mk (hb);have n2_:=Aside0.mk (ho);clear HO_7;clear HB;clear HO_11;have HO_7:=n0_;have HB:=n1_;have HO256:=n2_;clear n0_ n1_ n2_;clear ho hb hg hat))
           repeat (go_quiet (first|((with_reducible refine yF_ (b:=.append) (xs:=#[.tmp 149,.tmp 155]) rfl ?_);at_builtin;refine Kd.y7_ k106 (w0:=w) w.heap.size rfl (.tmp 149) (.tmp 155) 103 106 (.agg #[(.int .u8 0),(.string ⟨#[]⟩)]) 24 rfl Try.underlying103 yKb_ rfl (by decide) (by omega) u11 x11_2 (⟨32,rdOf ByteArray.empty l0 x12_2⟩:S106) [.int .u8 32,.string (rdOf ByteArray.empty l0 x12_2)] (fun _=>True) (fun _=>False) rfl rfl ?aP (fun _ hk=>hk.elim) ?aF ?aO ?aB ?aS ?aL ?_;(case aP=>exact ywb_ _ _ _ (⟨32,rdOf ByteArray.empty l0 x12_2⟩:S106));(case aB=>exact (by repeat (with_reducible first|exact HB.out|apply yc_|apply ya_|apply yb_)));(case aF=>exact (fun _ _=>trivial));(case aO=>exact (by (with_reducible repeat (first|apply Kd.yg_|apply Kd.yh_|apply Kd.R_drew));exact HO_11.out));(case aS=>exact (yn_ (by repeat (with_reducible first|exact HB.out|apply yc_|apply ya_|apply yb_))));(case aL=>have:=LMc81.out;omega);intro v255 w82 ho hb hg hat;rw [← Ny254.out] at ho;have n0_:=Aside0.mk (Kd.yJb_ (by (with_reducible repeat (first|apply Kd.yW_|apply Kd.yU_|apply Kd.S_drew));exact HO_7.out) (Kd.yO_ (by (with_reducible repeat (first|apply Kd.yg_|apply Kd.yh_|apply Kd.R_drew));exact HO_11.out)) (by decide) hg);have n1_:=Aside0.mk (hb);have n2_:=Aside0.mk (ho);clear HO_7;clear HB;clear HO_11;have HO_7:=n0_;have HB:=n1_;have HO256:=n2_;clear n0_ n1_ n2_;clear ho hb hg hat));try go_wp2_with (first|((with_reducible refine yF_ (b:=.append) (xs:=#[.tmp 149,.tmp 155]) rfl ?_);at_builtin;refine Kd.y7_ k106 (w0:=w) w.heap.size rfl (.tmp 149) (.tmp 155) 103 106 (.agg #[(.int .u8 0),(.string ⟨#[]⟩)]) 24 rfl Try.underlying103 yKb_ rfl (by decide) (by omega) u11 x11_2 (⟨32,rdOf ByteArray.empty l0 x12_2⟩:S106) [.int .u8 32,.string (rdOf ByteArray.empty l0 x12_2)] (fun _=>True) (fun _=>False) rfl rfl ?aP (fun _ hk=>hk.elim) ?aF ?aO ?aB ?aS ?aL ?_;(case aP=>exact ywb_ _ _ _ (⟨32,rdOf ByteArray.empty l0 x12_2⟩:S106));(case aB=>exact (by repeat (with_reducible first|exact HB.out|apply yc_|apply ya_|apply yb_)));(case aF=>exact (fun _ _=>trivial));(case aO=>exact (by (with_reducible repeat (first|apply Kd.yg_|apply Kd.yh_|apply Kd.R_drew));exact HO_11.out));(case aS=>exact (yn_ (by repeat (with_reducible first|exact HB.out|apply yc_|apply ya_|apply yb_))));(case aL=>have:=LMc81.out;omega);intro v255 w82 ho hb hg hat;rw [← Ny254.out] at ho;have n0_:=Aside0.mk (Kd.yJb_ (by (with_reducible repeat (first|apply Kd.yW_|apply Kd.yU_|apply Kd.S_drew));exact HO_7.out) (Kd.yO_ (by (with_reducible repeat (first|apply Kd.yg_|apply Kd.yh_|apply Kd.R_drew));exact HO_11.out)) (by decide) hg);have n1_:=Aside0.mk (hb);have n2_:=Aside0.mk (ho);clear HO_7;clear HB;clear HO_11;have HO_7:=n0_;have HB:=n1_;have HO256:=n2_;clear n0_ n1_ n2_;clear ho hb hg hat)))
           go_roundg kj70
           case measure=>have:=HK1.out;have:=HK2.out;have:=HJ67.out;have:=HJ70.out;omega
           case rel=>exact ⟨(y254),(wrap64 (x12_2+1)),(wrap64 (x13_2+1)),(by first|rfl|(simp;done)|(simp [*];done)),(by first|rfl|(simp;done)|(simp [*];done)),H',⟨by have:=HK1.out;have:=HK2.out;have:=HJ67.out;have:=HJ70.out;omega⟩,⟨by (with_reducible repeat (first|apply Kd.yW_|apply Kd.yU_|apply Kd.S_drew));exact HO_7.out⟩,⟨by (with_reducible repeat (first|apply Kd.yg_|apply Kd.yh_|apply Kd.R_drew));exact HO256.out⟩,⟨by repeat (with_reducible first|exact HB.out|apply yc_|apply ya_|apply yb_)⟩⟩
          replace c78:=Bool.eq_false_iff.mpr c78
          subst c78
          have H1:(if x12_2 < (l0.length:Int) then (if x13_2=(l1.length:Int) then (if 0≤x12_2 then (if x12_2 < (l0.length:Int) then (if x11_2.length < 5864062014805 then (yd_.l2 kj70 l0 l1 (l0.length:Int) (l1.length:Int) x7_1 (x11_2++[(⟨45,rdOf ByteArray.empty l0 x12_2⟩:S106)]) (wrap64 (x12_2+1)) x13_2) else (none)) else (none)) else (none)) else (if 0≤(wrap64 (x12_2+1)) then (if (wrap64 (x12_2+1)) < (x7_1.length:Int) then (if 0≤x13_2 then (if x13_2 < ((rd_L6 x7_1 (wrap64 (x12_2+1))).length:Int) then (if 0≤x12_2 then (if x12_2 < (x7_1.length:Int) then (if 0≤(wrap64 (x13_2+1)) then (if (wrap64 (x13_2+1)) < ((rd_L6 x7_1 x12_2).length:Int) then (if (rd (rd_L6 x7_1 (wrap64 (x12_2+1))) x13_2) ≥ (rd (rd_L6 x7_1 x12_2) (wrap64 (x13_2+1))) then (if x12_2 < (l0.length:Int) then (if x11_2.length < 5864062014805 then (yd_.l2 kj70 l0 l1 (l0.length:Int) (l1.length:Int) x7_1 (x11_2++[(⟨45,rdOf ByteArray.empty l0 x12_2⟩:S106)]) (wrap64 (x12_2+1)) x13_2) else (none)) else (none)) else (if x13_2 < (l1.length:Int) then (if x11_2.length < 5864062014805 then (yd_.l2 kj70 l0 l1 (l0.length:Int) (l1.length:Int) x7_1 (x11_2++[(⟨43,rdOf ByteArray.empty l1 x13_2⟩:S106)]) x12_2 (wrap64 (x13_2+1))) else (none)) else (none))) else (none)) else (none)) else (none)) else (none)) else (none)) else (none)) else (none)) else (none))) else (if 0≤x13_2 then (if x13_2 < (l1.length:Int) then (if x11_2.length < 5864062014805 then (yd_.l2 kj70 l0 l1 (l0.length:Int) (l1.length:Int) x7_1 (x11_2++[(⟨43,rdOf ByteArray.empty l1 x13_2⟩:S106)]) x12_2 (wrap64 (x13_2+1))) else (none)) else (none)) else (none)))=some r:=by rw [if_neg (show ¬ (false=true) by decide)] at H;exact H
          clear H
          have H:=H1
          clear H1
          by_cases c83:x12_2 < (l0.length:Int)
          rotate_left
          ·rw [if_neg c83] at H
           have c83b0:decide (x12_2 < (l0.length:Int))=false:=decide_eq_false c83
           clear c83
           by_cases c108:0≤x13_2
           rotate_left
           ·rw [if_neg c108] at H
            exact absurd H (by simp)
           rw [if_pos c108] at H
           have c108b0:decide (0≤x13_2)=true:=decide_eq_true c108
           clear c108
           by_cases c109:x13_2 < (l1.length:Int)
           rotate_left
           ·rw [if_neg c109] at H
            exact absurd H (by simp)
           rw [if_pos c109] at H
           have c109b0:decide (x13_2 < (l1.length:Int))=true:=decide_eq_true c109
           clear c109
           by_cases c110:x11_2.length < 5864062014805
           rotate_left
           ·rw [if_neg c110] at H
            exact absurd H (by simp)
           rw [if_pos c110] at H
           have LMc110:=Aside0.mk c110
           clear c110
           obtain ⟨y274,hy274⟩:∃ y_:List (S106),y_=(x11_2++[(⟨43,rdOf ByteArray.empty l1 x13_2⟩:S106)]):=⟨_,rfl⟩
           replace H:(yd_.l2 kj70 l0 l1 (l0.length:Int) (l1.length:Int) x7_1 y274 x12_2 (wrap64 (x13_2+1)))=some r:=by first|(rw [hy274];with_reducible exact H)|(have H2_:=(Option.bind_some _ _).symm.trans H;rw [hy274];with_reducible exact H2_)|(have H2_:=(Option.bind_some _ _).symm.trans H;with_reducible exact H2_)|with_reducible exact H|(rw [hy274];exact H)|exact H
           have Ny274:=Aside0.mk hy274
           clear hy274
           have H':=Aside0.mk H
           clear H
           have p273:0≤(x13_2:Int):=of_decide_eq_true (by assumption)
           have q273:x13_2 < (l1.length:Int):=of_decide_eq_true (by assumption)
           obtain ⟨ad273,e273,hx273_0⟩:=Kd.yZ_ HR1.out x13_2 p273 q273
           cases e273
           replace hx273_0:=(HB.out.cell (World.block_lt_of_cell? w _ hx273_0)).trans hx273_0
           replace p273:=eq_true p273
           replace q273:=eq_true q273
           go_wp2_with (first|((with_reducible refine yF_ (b:=.append) (xs:=#[.tmp 119,.tmp 125]) rfl ?_);at_builtin;refine Kd.y7_ k106 (w0:=w) w.heap.size rfl (.tmp 119) (.tmp 125) 103 106 (.agg #[(.int .u8 0),(.string ⟨#[]⟩)]) 24 rfl Try.underlying103 yKb_ rfl (by decide) (by omega) u11 x11_2 (⟨43,rdOf ByteArray.empty l1 x13_2⟩:S106) [.int .u8 43,.string (rdOf ByteArray.empty l1 x13_2)] (fun _=>True) (fun _=>False) rfl rfl ?aP (fun _ hk=>hk.elim) ?aF ?aO ?aB ?aS ?aL ?_;(case aP=>exact ywb_ _ _ _ (⟨43,rdOf ByteArray.empty l1 x13_2⟩:S106));(case aB=>exact (by repeat (with_reducible first|exact HB.out|apply yc_|apply ya_|apply yb_)));(case aF=>exact (fun _ _=>trivial));(case aO=>exact (by (with_reducible repeat (first|apply Kd.yg_|apply Kd.yh_|apply Kd.R_drew));exact HO_11.out));(case aS=>exact (yn_ (by repeat (with_reducible first|exact HB.out|apply yc_|apply ya_|apply yb_))));(case aL=>have:=LMc110.out;omega);intro v275 w111 ho hb hg hat;rw [← Ny274.out] at ho;have n0_:=Aside0.mk (Kd.yJb_ (by (with_reducible repeat (first|apply Kd.yW_|apply Kd.yU_|apply Kd.S_drew));exact HO_7.out) (Kd.yO_ (by (with_reducible repeat (first|apply Kd.yg_|apply Kd.yh_|apply Kd.R_drew));exact HO_11.out)) (by decide) hg);have n1_:=Aside0.mk (hb);have n2_:=Aside0.mk (ho);clear HO_7;clear HB;clear HO_11;have HO_7:=n0_;have HB:=n1_;have HO276:=n2_;clear n0_ n1_ n2_;clear ho hb hg hat))
           repeat (go_quiet (first|((with_reducible refine yF_ (b:=.append) (xs:=#[.tmp 119,.tmp 125]) rfl ?_);at_builtin;refine Kd.y7_ k106 (w0:=w) w.heap.size rfl (.tmp 119) (.tmp 125) 103 106 (.agg #[(.int .u8 0),(.string ⟨#[]⟩)]) 24 rfl Try.underlying103 yKb_ rfl (by decide) (by omega) u11 x11_2 (⟨43,rdOf ByteArray.empty l1 x13_2⟩:S106) [.int .u8 43,.string (rdOf ByteArray.empty l1 x13_2)] (fun _=>True) (fun _=>False) rfl rfl ?aP (fun _ hk=>hk.elim) ?aF ?aO ?aB ?aS ?aL ?_;(case aP=>exact ywb_ _ _ _ (⟨43,rdOf ByteArray.empty l1 x13_2⟩:S106));(case aB=>exact (by repeat (with_reducible first|exact HB.out|apply yc_|apply ya_|apply yb_)));(case aF=>exact (fun _ _=>trivial));(case aO=>exact (by (with_reducible repeat (first|apply Kd.yg_|apply Kd.yh_|apply Kd.R_drew));exact HO_11.out));(case aS=>exact (yn_ (by repeat (with_reducible first|exact HB.out|apply yc_|apply ya_|apply yb_))));(case aL=>have:=LMc110.out;omega);intro v275 w111 ho hb hg hat;rw [← Ny274.out] at ho;have n0_:=Aside0.mk (Kd.yJb_ (by (with_reducible repeat (first|apply Kd.yW_|apply Kd.yU_|apply Kd.S_drew));exact HO_7.out) (Kd.yO_ (by (with_reducible repeat (first|apply Kd.yg_|apply Kd.yh_|apply Kd.R_drew));exact HO_11.out)) (by decide) hg);have n1_:=Aside0.mk (hb);have n2_:=Aside0.mk (ho);clear HO_7;clear HB;clear HO_11;have HO_7:=n0_;have HB:=n1_;have HO276:=n2_;clear n0_ n1_ n2_;clear ho hb hg hat));try go_wp2_with (first|((with_reducible refine yF_ (b:=.append) (xs:=#[.tmp 119,.tmp 125]) rfl ?_);at_builtin;refine Kd.y7_ k106 (w0:=w) w.heap.size rfl (.tmp 119) (.tmp 125) 103 106 (.agg #[(.int .u8 0),(.string ⟨#[]⟩)]) 24 rfl Try.underlying103 yKb_ rfl (by decide) (by omega) u11 x11_2 (⟨43,rdOf ByteArray.empty l1 x13_2⟩:S106) [.int .u8 43,.string (rdOf ByteArray.empty l1 x13_2)] (fun _=>True) (fun _=>False) rfl rfl ?aP (fun _ hk=>hk.elim) ?aF ?aO ?aB ?aS ?aL ?_;(case aP=>exact ywb_ _ _ _ (⟨43,rdOf ByteArray.empty l1 x13_2⟩:S106));(case aB=>exact (by repeat (with_reducible first|exact HB.out|apply yc_|apply ya_|apply yb_)));(case aF=>exact (fun _ _=>trivial));(case aO=>exact (by (with_reducible repeat (first|apply Kd.yg_|apply Kd.yh_|apply Kd.R_drew));exact HO_11.out));(case aS=>exact (yn_ (by repeat (with_reducible first|exact HB.out|apply yc_|apply ya_|apply yb_))));(case aL=>have:=LMc110.out;omega);intro v275 w111 ho hb hg hat;rw [← Ny274.out] at ho;have n0_:=Aside0.mk (Kd.yJb_ (by (with_reducible repeat (first|apply Kd.yW_|apply Kd.yU_|apply Kd.S_drew));exact HO_7.out) (Kd.yO_ (by (with_reducible repeat (first|apply Kd.yg_|apply Kd.yh_|apply Kd.R_drew));exact HO_11.out)) (by decide) hg);have n1_:=Aside0.mk (hb);have n2_:=Aside0.mk (ho);clear HO_7;clear HB;clear HO_11;have HO_7:=n0_;have HB:=n1_;have HO276:=n2_;clear n0_ n1_ n2_;clear ho hb hg hat)))
           go_roundg kj70
           case measure=>have:=HK1.out;have:=HK2.out;have:=HJ67.out;have:=HJ70.out;omega
           case rel=>exact ⟨(y274),(x12_2),(wrap64 (x13_2+1)),(by first|rfl|(simp;done)|(simp [*];done)),(by first|rfl|(simp;done)|(simp [*];done)),H',⟨by have:=HK1.out;have:=HK2.out;have:=HJ67.out;have:=HJ70.out;omega⟩,⟨by (with_reducible repeat (first|apply Kd.yW_|apply Kd.yU_|apply Kd.S_drew));exact HO_7.out⟩,⟨by (with_reducible repeat (first|apply Kd.yg_|apply Kd.yh_|apply Kd.R_drew));exact HO276.out⟩,⟨by repeat (with_reducible first|exact HB.out|apply yc_|apply ya_|apply yb_)⟩⟩
          rw [if_pos c83] at H
          have c83b0:decide (x12_2 < (l0.length:Int))=true:=decide_eq_true c83
          clear c83
          by_cases c84:x13_2=(l1.length:Int)
          ·rw [if_pos c84] at H
           have c84b0:(x13_2 == (l1.length:Int))=true:=beq_iff_eq.mpr c84
           have c84b1:(x13_2 != (l1.length:Int))=false:=bne_eq_false_iff_eq.mpr c84
           clear c84
           by_cases c85:0≤x12_2
           rotate_left
           ·rw [if_neg c85] at H
            exact absurd H (by simp)
           rw [if_pos c85] at H
           have c85b0:decide (0≤x12_2)=true:=decide_eq_true c85
           clear c85
           by_cases c86:x12_2 < (l0.length:Int)
           rotate_left
           ·rw [if_neg c86] at H
            exact absurd H (by simp)
           rw [if_pos c86] at H
           have c86b0:decide (x12_2 < (l0.length:Int))=true:=decide_eq_true c86
           clear c86
           by_cases c87:x11_2.length < 5864062014805
           rotate_left
           ·rw [if_neg c87] at H
            exact absurd H (by simp)
           rw [if_pos c87] at H
           have LMc87:=Aside0.mk c87
           clear c87
           obtain ⟨y258,hy258⟩:∃ y_:List (S106),y_=(x11_2++[(⟨45,rdOf ByteArray.empty l0 x12_2⟩:S106)]):=⟨_,rfl⟩
           replace H:(yd_.l2 kj70 l0 l1 (l0.length:Int) (l1.length:Int) x7_1 y258 (wrap64 (x12_2+1)) x13_2)=some r:=by first|(rw [hy258];with_reducible exact H)|(have H2_:=(Option.bind_some _ _).symm.trans H;rw [hy258];with_reducible exact H2_)|(have H2_:=(Option.bind_some _ _).symm.trans H;with_reducible exact H2_)|with_reducible exact H|(rw [hy258];exact H)|exact H
           have Ny258:=Aside0.mk hy258
           clear hy258
           have H':=Aside0.mk H
           clear H
           have p257:0≤(x12_2:Int):=of_decide_eq_true (by assumption)
           have q257:x12_2 < (l0.length:Int):=of_decide_eq_true (by assumption)
           obtain ⟨ad257,e257,hx257_0⟩:=Kd.yZ_ HR0.out x12_2 p257 q257
           cases e257
           replace hx257_0:=(HB.out.cell (World.block_lt_of_cell? w _ hx257_0)).trans hx257_0
           replace p257:=eq_true p257
           replace q257:=eq_true q257
           go_wp2_with (first|((with_reducible refine yF_ (b:=.append) (xs:=#[.tmp 189,.tmp 195]) rfl ?_);at_builtin;refine Kd.y7_ k106 (w0:=w) w.heap.size rfl (.tmp 189) (.tmp 195) 103 106 (.agg #[(.int .u8 0),(.string ⟨#[]⟩)]) 24 rfl Try.underlying103 yKb_ rfl (by decide) (by omega) u11 x11_2 (⟨45,rdOf ByteArray.empty l0 x12_2⟩:S106) [.int .u8 45,.string (rdOf ByteArray.empty l0 x12_2)] (fun _=>True) (fun _=>False) rfl rfl ?aP (fun _ hk=>hk.elim) ?aF ?aO ?aB ?aS ?aL ?_;(case aP=>exact ywb_ _ _ _ (⟨45,rdOf ByteArray.empty l0 x12_2⟩:S106));(case aB=>exact (by repeat (with_reducible first|exact HB.out|apply yc_|apply ya_|apply yb_)));(case aF=>exact (fun _ _=>trivial));(case aO=>exact (by (with_reducible repeat (first|apply Kd.yg_|apply Kd.yh_|apply Kd.R_drew));exact HO_11.out));(case aS=>exact (yn_ (by repeat (with_reducible first|exact HB.out|apply yc_|apply ya_|apply yb_))));(case aL=>have:=LMc87.out;omega);intro v259 w88 ho hb hg hat;rw [← Ny258.out] at ho;have n0_:=Aside0.mk (Kd.yJb_ (by (with_reducible repeat (first|apply Kd.yW_|apply Kd.yU_|apply Kd.S_drew));exact HO_7.out) (Kd.yO_ (by (with_reducible repeat (first|apply Kd.yg_|apply Kd.yh_|apply Kd.R_drew));exact HO_11.out)) (by decide) hg);have n1_:=Aside0.mk (hb);have n2_:=Aside0.mk (ho);clear HO_7;clear HB;clear HO_11;have HO_7:=n0_;have HB:=n1_;have HO260:=n2_;clear n0_ n1_ n2_;clear ho hb hg hat))
           repeat (go_quiet (first|((with_reducible refine yF_ (b:=.append) (xs:=#[.tmp 189,.tmp 195]) rfl ?_);at_builtin;refine Kd.y7_ k106 (w0:=w) w.heap.size rfl (.tmp 189) (.tmp 195) 103 106 (.agg #[(.int .u8 0),(.string ⟨#[]⟩)]) 24 rfl Try.underlying103 yKb_ rfl (by decide) (by omega) u11 x11_2 (⟨45,rdOf ByteArray.empty l0 x12_2⟩:S106) [.int .u8 45,.string (rdOf ByteArray.empty l0 x12_2)] (fun _=>True) (fun _=>False) rfl rfl ?aP (fun _ hk=>hk.elim) ?aF ?aO ?aB ?aS ?aL ?_;(case aP=>exact ywb_ _ _ _ (⟨45,rdOf ByteArray.empty l0 x12_2⟩:S106));(case aB=>exact (by repeat (with_reducible first|exact HB.out|apply yc_|apply ya_|apply yb_)));(case aF=>exact (fun _ _=>trivial));(case aO=>exact (by (with_reducible repeat (first|apply Kd.yg_|apply Kd.yh_|apply Kd.R_drew));exact HO_11.out));(case aS=>exact (yn_ (by repeat (with_reducible first|exact HB.out|apply yc_|apply ya_|apply yb_))));(case aL=>have:=LMc87.out;omega);intro v259 w88 ho hb hg hat;rw [← Ny258.out] at ho;have n0_:=Aside0.mk (Kd.yJb_ (by (with_reducible repeat (first|apply Kd.yW_|apply Kd.yU_|apply Kd.S_drew));exact HO_7.out) (Kd.yO_ (by (with_reducible repeat (first|apply Kd.yg_|apply Kd.yh_|apply Kd.R_drew));exact HO_11.out)) (by decide) hg);have n1_:=Aside0.mk (hb);have n2_:=Aside0.mk (ho);clear HO_7;clear HB;clear HO_11;have HO_7:=n0_;have HB:=n1_;have HO260:=n2_;clear n0_ n1_ n2_;clear ho hb hg hat));try go_wp2_with (first|((with_reducible refine yF_ (b:=.append) (xs:=#[.tmp 189,.tmp 195]) rfl ?_);at_builtin;refine Kd.y7_ k106 (w0:=w) w.heap.size rfl (.tmp 189) (.tmp 195) 103 106 (.agg #[(.int .u8 0),(.string ⟨#[]⟩)]) 24 rfl Try.underlying103 yKb_ rfl (by decide) (by omega) u11 x11_2 (⟨45,rdOf ByteArray.empty l0 x12_2⟩:S106) [.int .u8 45,.string (rdOf ByteArray.empty l0 x12_2)] (fun _=>True) (fun _=>False) rfl rfl ?aP (fun _ hk=>hk.elim) ?aF ?aO ?aB ?aS ?aL ?_;(case aP=>exact ywb_ _ _ _ (⟨45,rdOf ByteArray.empty l0 x12_2⟩:S106));(case aB=>exact (by repeat (with_reducible first|exact HB.out|apply yc_|apply ya_|apply yb_)));(case aF=>exact (fun _ _=>trivial));(case aO=>exact (by (with_reducible repeat (first|apply Kd.yg_|apply Kd.yh_|apply Kd.R_drew));exact HO_11.out));(case aS=>exact (yn_ (by repeat (with_reducible first|exact HB.out|apply yc_|apply ya_|apply yb_))));(case aL=>have:=LMc87.out;omega);intro v259 w88 ho hb hg hat;rw [← Ny258.out] at ho;have n0_:=Aside0.mk (Kd.yJb_ (by (with_reducible repeat (first|apply Kd.yW_|apply Kd.yU_|apply Kd.S_drew));exact HO_7.out) (Kd.yO_ (by (with_reducible repeat (first|apply Kd.yg_|apply Kd.yh_|apply Kd.R_drew));exact HO_11.out)) (by decide) hg);have n1_:=Aside0.mk (hb);have n2_:=Aside0.mk (ho);clear HO_7;clear HB;clear HO_11;have HO_7:=n0_;have HB:=n1_;have HO260:=n2_;clear n0_ n1_ n2_;clear ho hb hg hat)))
           go_roundg kj70
           case measure=>have:=HK1.out;have:=HK2.out;have:=HJ67.out;have:=HJ70.out;omega
           case rel=>exact ⟨(y258),(wrap64 (x12_2+1)),(x13_2),(by first|rfl|(simp;done)|(simp [*];done)),(by first|rfl|(simp;done)|(simp [*];done)),H',⟨by have:=HK1.out;have:=HK2.out;have:=HJ67.out;have:=HJ70.out;omega⟩,⟨by (with_reducible repeat (first|apply Kd.yW_|apply Kd.yU_|apply Kd.S_drew));exact HO_7.out⟩,⟨by (with_reducible repeat (first|apply Kd.yg_|apply Kd.yh_|apply Kd.R_drew));exact HO260.out⟩,⟨by repeat (with_reducible first|exact HB.out|apply yc_|apply ya_|apply yb_)⟩⟩
          rw [if_neg c84] at H
          have c84b0:(x13_2 == (l1.length:Int))=false:=beq_eq_false_iff_ne.mpr c84
          have c84b1:(x13_2 != (l1.length:Int))=true:=bne_iff_ne.mpr c84
          obtain ⟨ji89,hji89⟩:∃ j_:Int,(wrap64 (x12_2+1))=j_:=⟨_,rfl⟩
          replace H:(if 0≤(ji89) then (if (ji89) < (x7_1.length:Int) then (if 0≤x13_2 then (if x13_2 < ((rd_L6 x7_1 (ji89)).length:Int) then (if 0≤x12_2 then (if x12_2 < (x7_1.length:Int) then (if 0≤(wrap64 (x13_2+1)) then (if (wrap64 (x13_2+1)) < ((rd_L6 x7_1 x12_2).length:Int) then (if (rd (rd_L6 x7_1 (ji89)) x13_2) ≥ (rd (rd_L6 x7_1 x12_2) (wrap64 (x13_2+1))) then (if x12_2 < (l0.length:Int) then (if x11_2.length < 5864062014805 then (yd_.l2 kj70 l0 l1 (l0.length:Int) (l1.length:Int) x7_1 (x11_2++[(⟨45,rdOf ByteArray.empty l0 x12_2⟩:S106)]) ji89 x13_2) else (none)) else (none)) else (if x13_2 < (l1.length:Int) then (if x11_2.length < 5864062014805 then (yd_.l2 kj70 l0 l1 (l0.length:Int) (l1.length:Int) x7_1 (x11_2++[(⟨43,rdOf ByteArray.empty l1 x13_2⟩:S106)]) x12_2 (wrap64 (x13_2+1))) else (none)) else (none))) else (none)) else (none)) else (none)) else (none)) else (none)) else (none)) else (none)) else (none))=some r:=by first|(rw [hji89] at H;exact H)|(simp only [hji89] at H ⊢;exact H)
          have hji89w:(IntKind.i64.wrap (x12_2+1))=ji89:=(i64_w _).trans hji89
          by_cases c90:0≤(ji89)
          rotate_left
          ·rw [if_neg c90] at H
           exact absurd H (by simp)
          rw [if_pos c90] at H
          have c90b0:decide (0≤(ji89))=true:=decide_eq_true c90
          clear c90
          by_cases c91:(ji89) < (x7_1.length:Int)
          rotate_left
          ·rw [if_neg c91] at H
           exact absurd H (by simp)
          rw [if_pos c91] at H
          have c91b0:decide ((ji89) < (x7_1.length:Int))=true:=decide_eq_true c91
          clear c91
          by_cases c92:0≤x13_2
          rotate_left
          ·rw [if_neg c92] at H
           exact absurd H (by simp)
          rw [if_pos c92] at H
          have c92b0:decide (0≤x13_2)=true:=decide_eq_true c92
          clear c92
          by_cases c93:x13_2 < ((rd_L6 x7_1 (ji89)).length:Int)
          rotate_left
          ·rw [if_neg c93] at H
           exact absurd H (by simp)
          rw [if_pos c93] at H
          have c93b0:decide (x13_2 < ((rd_L6 x7_1 (ji89)).length:Int))=true:=decide_eq_true c93
          clear c93
          by_cases c94:0≤x12_2
          rotate_left
          ·rw [if_neg c94] at H
           exact absurd H (by simp)
          rw [if_pos c94] at H
          have c94b0:decide (0≤x12_2)=true:=decide_eq_true c94
          clear c94
          by_cases c95:x12_2 < (x7_1.length:Int)
          rotate_left
          ·rw [if_neg c95] at H
           exact absurd H (by simp)
          rw [if_pos c95] at H
          have c95b0:decide (x12_2 < (x7_1.length:Int))=true:=decide_eq_true c95
          clear c95
          obtain ⟨ji96,hji96⟩:∃ j_:Int,(wrap64 (x13_2+1))=j_:=⟨_,rfl⟩
          replace H:(if 0≤(ji96) then (if (ji96) < ((rd_L6 x7_1 x12_2).length:Int) then (if (rd (rd_L6 x7_1 (ji89)) x13_2) ≥ (rd (rd_L6 x7_1 x12_2) (ji96)) then (if x12_2 < (l0.length:Int) then (if x11_2.length < 5864062014805 then (yd_.l2 kj70 l0 l1 (l0.length:Int) (l1.length:Int) x7_1 (x11_2++[(⟨45,rdOf ByteArray.empty l0 x12_2⟩:S106)]) ji89 x13_2) else (none)) else (none)) else (if x13_2 < (l1.length:Int) then (if x11_2.length < 5864062014805 then (yd_.l2 kj70 l0 l1 (l0.length:Int) (l1.length:Int) x7_1 (x11_2++[(⟨43,rdOf ByteArray.empty l1 x13_2⟩:S106)]) x12_2 ji96) else (none)) else (none))) else (none)) else (none))=some r:=by first|(rw [hji96] at H;exact H)|(simp only [hji96] at H ⊢;exact H)
          have hji96w:(IntKind.i64.wrap (x13_2+1))=ji96:=(i64_w _).trans hji96
          by_cases c97:0≤(ji96)
          rotate_left
          ·rw [if_neg c97] at H
           exact absurd H (by simp)
          rw [if_pos c97] at H
          have c97b0:decide (0≤(ji96))=true:=decide_eq_true c97
          clear c97
          by_cases c98:(ji96) < ((rd_L6 x7_1 x12_2).length:Int)
          rotate_left
          ·rw [if_neg c98] at H
           exact absurd H (by simp)
          rw [if_pos c98] at H
          have c98b0:decide ((ji96) < ((rd_L6 x7_1 x12_2).length:Int))=true:=decide_eq_true c98
          clear c98
          by_cases c99:(rd (rd_L6 x7_1 (ji89)) x13_2) ≥ (rd (rd_L6 x7_1 x12_2) (ji96))
          ·rw [if_pos c99] at H
           have c99b0:decide ((rd (rd_L6 x7_1 x12_2) (ji96))≤(rd (rd_L6 x7_1 (ji89)) x13_2))=true:=decide_eq_true c99
           clear c99
           by_cases c100:x12_2 < (l0.length:Int)
           rotate_left
           ·rw [if_neg c100] at H
            exact absurd H (by simp)
           rw [if_pos c100] at H
           have c100b0:decide (x12_2 < (l0.length:Int))=true:=decide_eq_true c100
           clear c100
           by_cases c101:x11_2.length < 5864062014805
           rotate_left
           ·rw [if_neg c101] at H
            exact absurd H (by simp)
           rw [if_pos c101] at H
           have LMc101:=Aside0.mk c101
           clear c101
           obtain ⟨y266,hy266⟩:∃ y_:List (S106),y_=(x11_2++[(⟨45,rdOf ByteArray.empty l0 x12_2⟩:S106)]):=⟨_,rfl⟩
           replace H:(yd_.l2 kj70 l0 l1 (l0.length:Int) (l1.length:Int) x7_1 y266 ji89 x13_2)=some r:=by first|(rw [hy266];with_reducible exact H)|(have H2_:=(Option.bind_some _ _).symm.trans H;rw [hy266];with_reducible exact H2_)|(have H2_:=(Option.bind_some _ _).symm.trans H;with_reducible exact H2_)|with_reducible exact H|(rw [hy266];exact H)|exact H
           have Ny266:=Aside0.mk hy266
           clear hy266
           have H':=Aside0.mk H
           clear H
           obtain ⟨Ao102,co102,eo102⟩:=Kd.S_slice HO_7.out
           subst eo102
           have p261:0≤((ji89):Int):=of_decide_eq_true (by assumption)
           have q261:(ji89) < (x7_1.length:Int):=of_decide_eq_true (by assumption)
           obtain ⟨ad261,A261_0,c261_0,e261,hx261_0,hl261_0,hi261_0⟩:=at_L6 (Kd.yy_ HO_7.out).2.2 (ji89) p261 q261
           cases e261
           obtain ⟨ce261,hce261,hMe261,hcc261⟩:=Kd.S_get HO_7.out [] (ji89) p261 (by first|exact q261|exact of_decide_eq_true (by assumption)|(have e_:=(Kd.yy_ HO_7.out).1;omega))
           obtain ⟨ve261_0,rfl,ge261_0⟩:=hMe261
           have hv261_0:=hcc261 0 _ rfl
           rw [Nat.add_zero,show ((Kd.slice 3 (Kd.int .i64))).sz=1 from rfl,Nat.mul_one] at hv261_0
           replace hv261_0:=Option.some.inj (hv261_0.symm.trans hx261_0)
           rw [hv261_0] at ge261_0
           have HL261_0:=Aside0.mk (show Kd.R (Kd.int .i64) 3 _ _ _ _ (rd_L6 x7_1 (ji89)) from ge261_0)
           clear hv261_0 ge261_0
           have HX261_0:=Aside0.mk hx261_0
           clear hcc261 hce261
           have HR261_0:=Aside0.mk hi261_0
           have HC261_0:=Aside0.mk hl261_0
           clear hi261_0 hl261_0
           replace p261:=eq_true p261
           replace q261:=eq_true q261
           have p262:0≤(x13_2:Int):=of_decide_eq_true (by assumption)
           have q262:x13_2 < ((rd_L6 x7_1 (ji89)).length:Int):=of_decide_eq_true (by assumption)
           obtain ⟨ad262,e262,hx262_0⟩:=Kd.at_int (by repeat (first|(with_reducible exact HR261_0.out)|(with_reducible refine Kd.yK_ ?_ _)|(with_reducible refine Kd.y1_ ?_ _)|(with_reducible refine Kd.C_drew ?_)|exact HR261_0.out)) x13_2 p262 q262
           cases e262
           replace p262:=eq_true p262
           replace q262:=eq_true q262
           have p263:0≤(x12_2:Int):=of_decide_eq_true (by assumption)
           have q263:x12_2 < (x7_1.length:Int):=of_decide_eq_true (by assumption)
           obtain ⟨ad263,A263_0,c263_0,e263,hx263_0,hl263_0,hi263_0⟩:=at_L6 (Kd.yy_ HO_7.out).2.2 x12_2 p263 q263
           obtain rfl:ad261=ad263:=(by injection e263)
           obtain ⟨ce263,hce263,hMe263,hcc263⟩:=Kd.S_get HO_7.out [] x12_2 p263 (by first|exact q263|exact of_decide_eq_true (by assumption)|(have e_:=(Kd.yy_ HO_7.out).1;omega))
           obtain ⟨ve263_0,rfl,ge263_0⟩:=hMe263
           have hv263_0:=hcc263 0 _ rfl
           rw [Nat.add_zero,show ((Kd.slice 3 (Kd.int .i64))).sz=1 from rfl,Nat.mul_one] at hv263_0
           replace hv263_0:=Option.some.inj (hv263_0.symm.trans hx263_0)
           rw [hv263_0] at ge263_0
           have HL263_0:=Aside0.mk (show Kd.R (Kd.int .i64) 3 _ _ _ _ (rd_L6 x7_1 x12_2) from ge263_0)
           clear hv263_0 ge263_0
           have HX263_0:=Aside0.mk hx263_0
           clear hcc263 hce263
           have HR263_0:=Aside0.mk hi263_0
           have HC263_0:=Aside0.mk hl263_0
           clear hi263_0 hl263_0
           replace p263:=eq_true p263
           replace q263:=eq_true q263
           have p264:0≤((ji96):Int):=of_decide_eq_true (by assumption)
           have q264:(ji96) < ((rd_L6 x7_1 x12_2).length:Int):=of_decide_eq_true (by assumption)
           obtain ⟨ad264,e264,hx264_0⟩:=Kd.at_int (by repeat (first|(with_reducible exact HR263_0.out)|(with_reducible refine Kd.yK_ ?_ _)|(with_reducible refine Kd.y1_ ?_ _)|(with_reducible refine Kd.C_drew ?_)|exact HR263_0.out)) (ji96) p264 q264
           cases e264
           replace p264:=eq_true p264
           replace q264:=eq_true q264
           have p265:0≤(x12_2:Int):=of_decide_eq_true (by assumption)
           have q265:x12_2 < (l0.length:Int):=of_decide_eq_true (by assumption)
           obtain ⟨ad265,e265,hx265_0⟩:=Kd.yZ_ HR0.out x12_2 p265 q265
           cases e265
           replace hx265_0:=(HB.out.cell (World.block_lt_of_cell? w _ hx265_0)).trans hx265_0
           replace p265:=eq_true p265
           replace q265:=eq_true q265
           go_wp2_with (first|((with_reducible refine yF_ (b:=.append) (xs:=#[.tmp 189,.tmp 195]) rfl ?_);at_builtin;refine Kd.y7_ k106 (w0:=w) w.heap.size rfl (.tmp 189) (.tmp 195) 103 106 (.agg #[(.int .u8 0),(.string ⟨#[]⟩)]) 24 rfl Try.underlying103 yKb_ rfl (by decide) (by omega) u11 x11_2 (⟨45,rdOf ByteArray.empty l0 x12_2⟩:S106) [.int .u8 45,.string (rdOf ByteArray.empty l0 x12_2)] (fun _=>True) (fun _=>False) rfl rfl ?aP (fun _ hk=>hk.elim) ?aF ?aO ?aB ?aS ?aL ?_;(case aP=>exact ywb_ _ _ _ (⟨45,rdOf ByteArray.empty l0 x12_2⟩:S106));(case aB=>exact (by repeat (with_reducible first|exact HB.out|apply yc_|apply ya_|apply yb_)));(case aF=>exact (fun _ _=>trivial));(case aO=>exact (by (with_reducible repeat (first|apply Kd.yg_|apply Kd.yh_|apply Kd.R_drew));exact HO_11.out));(case aS=>exact (yn_ (by repeat (with_reducible first|exact HB.out|apply yc_|apply ya_|apply yb_))));(case aL=>have:=LMc101.out;omega);intro v267 w103 ho hb hg hat;rw [← Ny266.out] at ho;have n0_:=Aside0.mk (Kd.yJb_ (by (with_reducible repeat (first|apply Kd.yW_|apply Kd.yU_|apply Kd.S_drew));exact HO_7.out) (Kd.yO_ (by (with_reducible repeat (first|apply Kd.yg_|apply Kd.yh_|apply Kd.R_drew));exact HO_11.out)) (by decide) hg);have n1_:=Aside0.mk (Kd.ybb_ (by (with_reducible repeat (first|apply Kd.yg_|apply Kd.yh_|apply Kd.R_drew));exact HL261_0.out) (Kd.yO_ (by (with_reducible repeat (first|apply Kd.yg_|apply Kd.yh_|apply Kd.R_drew));exact HO_11.out)) (by decide) hg);have n2_:=Aside0.mk (Kd.ybb_ (by (with_reducible repeat (first|apply Kd.yg_|apply Kd.yh_|apply Kd.R_drew));exact HL263_0.out) (Kd.yO_ (by (with_reducible repeat (first|apply Kd.yg_|apply Kd.yh_|apply Kd.R_drew));exact HO_11.out)) (by decide) hg);have n3_:=Aside0.mk (hb);have n4_:=Aside0.mk (ho);clear HO_7;clear HL261_0;clear HL263_0;clear HB;clear HO_11;have HO_7:=n0_;have HL261_0:=n1_;have HL263_0:=n2_;have HB:=n3_;have HO268:=n4_;clear n0_ n1_ n2_ n3_ n4_;clear ho hb hg hat))
           repeat (go_quiet (first|((with_reducible refine yF_ (b:=.append) (xs:=#[.tmp 189,.tmp 195]) rfl ?_);at_builtin;refine Kd.y7_ k106 (w0:=w) w.heap.size rfl (.tmp 189) (.tmp 195) 103 106 (.agg #[(.int .u8 0),(.string ⟨#[]⟩)]) 24 rfl Try.underlying103 yKb_ rfl (by decide) (by omega) u11 x11_2 (⟨45,rdOf ByteArray.empty l0 x12_2⟩:S106) [.int .u8 45,.string (rdOf ByteArray.empty l0 x12_2)] (fun _=>True) (fun _=>False) rfl rfl ?aP (fun _ hk=>hk.elim) ?aF ?aO ?aB ?aS ?aL ?_;(case aP=>exact ywb_ _ _ _ (⟨45,rdOf ByteArray.empty l0 x12_2⟩:S106));(case aB=>exact (by repeat (with_reducible first|exact HB.out|apply yc_|apply ya_|apply yb_)));(case aF=>exact (fun _ _=>trivial));(case aO=>exact (by (with_reducible repeat (first|apply Kd.yg_|apply Kd.yh_|apply Kd.R_drew));exact HO_11.out));(case aS=>exact (yn_ (by repeat (with_reducible first|exact HB.out|apply yc_|apply ya_|apply yb_))));(case aL=>have:=LMc101.out;omega);intro v267 w103 ho hb hg hat;rw [← Ny266.out] at ho;have n0_:=Aside0.mk (Kd.yJb_ (by (with_reducible repeat (first|apply Kd.yW_|apply Kd.yU_|apply Kd.S_drew));exact HO_7.out) (Kd.yO_ (by (with_reducible repeat (first|apply Kd.yg_|apply Kd.yh_|apply Kd.R_drew));exact HO_11.out)) (by decide) hg);have n1_:=Aside0.mk (Kd.ybb_ (by (with_reducible repeat (first|apply Kd.yg_|apply Kd.yh_|apply Kd.R_drew));exact HL261_0.out) (Kd.yO_ (by (with_reducible repeat (first|apply Kd.yg_|apply Kd.yh_|apply Kd.R_drew));exact HO_11.out)) (by decide) hg);have n2_:=Aside0.mk (Kd.ybb_ (by (with_reducible repeat (first|apply Kd.yg_|apply Kd.yh_|apply Kd.R_drew));exact HL263_0.out) (Kd.yO_ (by (with_reducible repeat (first|apply Kd.yg_|apply Kd.yh_|apply Kd.R_drew));exact HO_11.out)) (by decide) hg);have n3_:=Aside0.mk (hb);have n4_:=Aside0.mk (ho);clear HO_7;clear HL261_0;clear HL263_0;clear HB;clear HO_11;have HO_7:=n0_;have HL261_0:=n1_;have HL263_0:=n2_;have HB:=n3_;have HO268:=n4_;clear n0_ n1_ n2_ n3_ n4_;clear ho hb hg hat));try go_wp2_with (first|((with_reducible refine yF_ (b:=.append) (xs:=#[.tmp 189,.tmp 195]) rfl ?_);at_builtin;refine Kd.y7_ k106 (w0:=w) w.heap.size rfl (.tmp 189) (.tmp 195) 103 106 (.agg #[(.int .u8 0),(.string ⟨#[]⟩)]) 24 rfl Try.underlying103 yKb_ rfl (by decide) (by omega) u11 x11_2 (⟨45,rdOf ByteArray.empty l0 x12_2⟩:S106) [.int .u8 45,.string (rdOf ByteArray.empty l0 x12_2)] (fun _=>True) (fun _=>False) rfl rfl ?aP (fun _ hk=>hk.elim) ?aF ?aO ?aB ?aS ?aL ?_;(case aP=>exact ywb_ _ _ _ (⟨45,rdOf ByteArray.empty l0 x12_2⟩:S106));(case aB=>exact (by repeat (with_reducible first|exact HB.out|apply yc_|apply ya_|apply yb_)));(case aF=>exact (fun _ _=>trivial));(case aO=>exact (by (with_reducible repeat (first|apply Kd.yg_|apply Kd.yh_|apply Kd.R_drew));exact HO_11.out));(case aS=>exact (yn_ (by repeat (with_reducible first|exact HB.out|apply yc_|apply ya_|apply yb_))));(case aL=>have:=LMc101.out;omega);intro v267 w103 ho hb hg hat;rw [← Ny266.out] at ho;have n0_:=Aside0.mk (Kd.yJb_ (by (with_reducible repeat (first|apply Kd.yW_|apply Kd.yU_|apply Kd.S_drew));exact HO_7.out) (Kd.yO_ (by (with_reducible repeat (first|apply Kd.yg_|apply Kd.yh_|apply Kd.R_drew));exact HO_11.out)) (by decide) hg);have n1_:=Aside0.mk (Kd.ybb_ (by (with_reducible repeat (first|apply Kd.yg_|apply Kd.yh_|apply Kd.R_drew));exact HL261_0.out) (Kd.yO_ (by (with_reducible repeat (first|apply Kd.yg_|apply Kd.yh_|apply Kd.R_drew));exact HO_11.out)) (by decide) hg);have n2_:=Aside0.mk (Kd.ybb_ (by (with_reducible repeat (first|apply Kd.yg_|apply Kd.yh_|apply Kd.R_drew));exact HL263_0.out) (Kd.yO_ (by (with_reducible repeat (first|apply Kd.yg_|apply Kd.yh_|apply Kd.R_drew));exact HO_11.out)) (by decide) hg);have n3_:=Aside0.mk (hb);have n4_:=Aside0.mk (ho);clear HO_7;clear HL261_0;clear HL263_0;clear HB;clear HO_11;have HO_7:=n0_;have HL261_0:=n1_;have HL263_0:=n2_;have HB:=n3_;have HO268:=n4_;clear n0_ n1_ n2_ n3_ n4_;clear ho hb hg hat)))
           go_roundg kj70
           case measure=>have:=HK1.out;have:=HK2.out;have:=HJ67.out;have:=HJ70.out;omega
           case rel=>exact ⟨(y266),(ji89),(x13_2),(by first|rfl|(simp;done)|(simp only [← hji89] <;> (first|rfl|simp))|(simp [*];done)),(by first|rfl|(simp;done)|(simp [*];done)),H',⟨by have:=HK1.out;have:=HK2.out;have:=HJ67.out;have:=HJ70.out;omega⟩,⟨by (with_reducible repeat (first|apply Kd.yW_|apply Kd.yU_|apply Kd.S_drew));exact HO_7.out⟩,⟨by (with_reducible repeat (first|apply Kd.yg_|apply Kd.yh_|apply Kd.R_drew));exact HO268.out⟩,⟨by repeat (with_reducible first|exact HB.out|apply yc_|apply ya_|apply yb_)⟩⟩
          rw [if_neg c99] at H
          have c99b0:decide ((rd (rd_L6 x7_1 x12_2) (ji96))≤(rd (rd_L6 x7_1 (ji89)) x13_2))=false:=decide_eq_false c99
          clear c99
          by_cases c104:x13_2 < (l1.length:Int)
          rotate_left
          ·rw [if_neg c104] at H
           exact absurd H (by simp)
          rw [if_pos c104] at H
          have c104b0:decide (x13_2 < (l1.length:Int))=true:=decide_eq_true c104
          clear c104
          by_cases c105:x11_2.length < 5864062014805
          rotate_left
          ·rw [if_neg c105] at H
           exact absurd H (by simp)
          rw [if_pos c105] at H
          have LMc105:=Aside0.mk c105
          clear c105
          obtain ⟨y270,hy270⟩:∃ y_:List (S106),y_=(x11_2++[(⟨43,rdOf ByteArray.empty l1 x13_2⟩:S106)]):=⟨_,rfl⟩
          replace H:(yd_.l2 kj70 l0 l1 (l0.length:Int) (l1.length:Int) x7_1 y270 x12_2 ji96)=some r:=by first|(rw [hy270];with_reducible exact H)|(have H2_:=(Option.bind_some _ _).symm.trans H;rw [hy270];with_reducible exact H2_)|(have H2_:=(Option.bind_some _ _).symm.trans H;with_reducible exact H2_)|with_reducible exact H|(rw [hy270];exact H)|exact H
          have Ny270:=Aside0.mk hy270
          clear hy270
          have H':=Aside0.mk H
          clear H
          obtain ⟨Ao106,co106,eo106⟩:=Kd.S_slice HO_7.out
          subst eo106
          have p261:0≤((ji89):Int):=of_decide_eq_true (by assumption)
          have q261:(ji89) < (x7_1.length:Int):=of_decide_eq_true (by assumption)
          obtain ⟨ad261,A261_0,c261_0,e261,hx261_0,hl261_0,hi261_0⟩:=at_L6 (Kd.yy_ HO_7.out).2.2 (ji89) p261 q261
          cases e261
          obtain ⟨ce261,hce261,hMe261,hcc261⟩:=Kd.S_get HO_7.out [] (ji89) p261 (by first|exact q261|exact of_decide_eq_true (by assumption)|(have e_:=(Kd.yy_ HO_7.out).1;omega))
          obtain ⟨ve261_0,rfl,ge261_0⟩:=hMe261
          have hv261_0:=hcc261 0 _ rfl
          rw [Nat.add_zero,show ((Kd.slice 3 (Kd.int .i64))).sz=1 from rfl,Nat.mul_one] at hv261_0
          replace hv261_0:=Option.some.inj (hv261_0.symm.trans hx261_0)
          rw [hv261_0] at ge261_0
          have HL261_0:=Aside0.mk (show Kd.R (Kd.int .i64) 3 _ _ _ _ (rd_L6 x7_1 (ji89)) from ge261_0)
          clear hv261_0 ge261_0
          have HX261_0:=Aside0.mk hx261_0
          clear hcc261 hce261
          have HR261_0:=Aside0.mk hi261_0
          have HC261_0:=Aside0.mk hl261_0
          clear hi261_0 hl261_0
          replace p261:=eq_true p261
          replace q261:=eq_true q261
          have p262:0≤(x13_2:Int):=of_decide_eq_true (by assumption)
          have q262:x13_2 < ((rd_L6 x7_1 (ji89)).length:Int):=of_decide_eq_true (by assumption)
          obtain ⟨ad262,e262,hx262_0⟩:=Kd.at_int (by repeat (first|(with_reducible exact HR261_0.out)|(with_reducible refine Kd.yK_ ?_ _)|(with_reducible refine Kd.y1_ ?_ _)|(with_reducible refine Kd.C_drew ?_)|exact HR261_0.out)) x13_2 p262 q262
          cases e262
          replace p262:=eq_true p262
          replace q262:=eq_true q262
          have p263:0≤(x12_2:Int):=of_decide_eq_true (by assumption)
          have q263:x12_2 < (x7_1.length:Int):=of_decide_eq_true (by assumption)
          obtain ⟨ad263,A263_0,c263_0,e263,hx263_0,hl263_0,hi263_0⟩:=at_L6 (Kd.yy_ HO_7.out).2.2 x12_2 p263 q263
          obtain rfl:ad261=ad263:=(by injection e263)
          obtain ⟨ce263,hce263,hMe263,hcc263⟩:=Kd.S_get HO_7.out [] x12_2 p263 (by first|exact q263|exact of_decide_eq_true (by assumption)|(have e_:=(Kd.yy_ HO_7.out).1;omega))
          obtain ⟨ve263_0,rfl,ge263_0⟩:=hMe263
          have hv263_0:=hcc263 0 _ rfl
          rw [Nat.add_zero,show ((Kd.slice 3 (Kd.int .i64))).sz=1 from rfl,Nat.mul_one] at hv263_0
          replace hv263_0:=Option.some.inj (hv263_0.symm.trans hx263_0)
          rw [hv263_0] at ge263_0
          have HL263_0:=Aside0.mk (show Kd.R (Kd.int .i64) 3 _ _ _ _ (rd_L6 x7_1 x12_2) from ge263_0)
          clear hv263_0 ge263_0
          have HX263_0:=Aside0.mk hx263_0
          clear hcc263 hce263
          have HR263_0:=Aside0.mk hi263_0
          have HC263_0:=Aside0.mk hl263_0
          clear hi263_0 hl263_0
          replace p263:=eq_true p263
          replace q263:=eq_true q263
          have p264:0≤((ji96):Int):=of_decide_eq_true (by assumption)
          have q264:(ji96) < ((rd_L6 x7_1 x12_2).length:Int):=of_decide_eq_true (by assumption)
          obtain ⟨ad264,e264,hx264_0⟩:=Kd.at_int (by repeat (first|(with_reducible exact HR263_0.out)|(with_reducible refine Kd.yK_ ?_ _)|(with_reducible refine Kd.y1_ ?_ _)|(with_reducible refine Kd.C_drew ?_)|exact HR263_0.out)) (ji96) p264 q264
          cases e264
          replace p264:=eq_true p264
          replace q264:=eq_true q264
          have p269:0≤(x13_2:Int):=of_decide_eq_true (by assumption)
          have q269:x13_2 < (l1.length:Int):=of_decide_eq_true (by assumption)
          obtain ⟨ad269,e269,hx269_0⟩:=Kd.yZ_ HR1.out x13_2 p269 q269
          cases e269
          replace hx269_0:=(HB.out.cell (World.block_lt_of_cell? w _ hx269_0)).trans hx269_0
          replace p269:=eq_true p269
          replace q269:=eq_true q269
          go_wp2_with (first|((with_reducible refine yF_ (b:=.append) (xs:=#[.tmp 119,.tmp 125]) rfl ?_);at_builtin;refine Kd.y7_ k106 (w0:=w) w.heap.size rfl (.tmp 119) (.tmp 125) 103 106 (.agg #[(.int .u8 0),(.string ⟨#[]⟩)]) 24 rfl Try.underlying103 yKb_ rfl (by decide) (by omega) u11 x11_2 (⟨43,rdOf ByteArray.empty l1 x13_2⟩:S106) [.int .u8 43,.string (rdOf ByteArray.empty l1 x13_2)] (fun _=>True) (fun _=>False) rfl rfl ?aP (fun _ hk=>hk.elim) ?aF ?aO ?aB ?aS ?aL ?_;(case aP=>exact ywb_ _ _ _ (⟨43,rdOf ByteArray.empty l1 x13_2⟩:S106));(case aB=>exact (by repeat (with_reducible first|exact HB.out|apply yc_|apply ya_|apply yb_)));(case aF=>exact (fun _ _=>trivial));(case aO=>exact (by (with_reducible repeat (first|apply Kd.yg_|apply Kd.yh_|apply Kd.R_drew));exact HO_11.out));(case aS=>exact (yn_ (by repeat (with_reducible first|exact HB.out|apply yc_|apply ya_|apply yb_))));(case aL=>have:=LMc105.out;omega);intro v271 w107 ho hb hg hat;rw [← Ny270.out] at ho;have n0_:=Aside0.mk (Kd.yJb_ (by (with_reducible repeat (first|apply Kd.yW_|apply Kd.yU_|apply Kd.S_drew));exact HO_7.out) (Kd.yO_ (by (with_reducible repeat (first|apply Kd.yg_|apply Kd.yh_|apply Kd.R_drew));exact HO_11.out)) (by decide) hg);have n1_:=Aside0.mk (Kd.ybb_ (by (with_reducible repeat (first|apply Kd.yg_|apply Kd.yh_|apply Kd.R_drew));exact HL261_0.out) (Kd.yO_ (by (with_reducible repeat (first|apply Kd.yg_|apply Kd.yh_|apply Kd.R_drew));exact HO_11.out)) (by decide) hg);have n2_:=Aside0.mk (Kd.ybb_ (by (with_reducible repeat (first|apply Kd.yg_|apply Kd.yh_|apply Kd.R_drew));exact HL263_0.out) (Kd.yO_ (by (with_reducible repeat (first|apply Kd.yg_|apply Kd.yh_|apply Kd.R_drew));exact HO_11.out)) (by decide) hg);have n3_:=Aside0.mk (hb);have n4_:=Aside0.mk (ho);clear HO_7;clear HL261_0;clear HL263_0;clear HB;clear HO_11;have HO_7:=n0_;have HL261_0:=n1_;have HL263_0:=n2_;have HB:=n3_;have HO272:=n4_;clear n0_ n1_ n2_ n3_ n4_;clear ho hb hg hat))
          repeat (go_quiet (first|((with_reducible refine yF_ (b:=.append) (xs:=#[.tmp 119,.tmp 125]) rfl ?_);at_builtin;refine Kd.y7_ k106 (w0:=w) w.heap.size rfl (.tmp 119) (.tmp 125) 103 106 (.agg #[(.int .u8 0),(.string ⟨#[]⟩)]) 24 rfl Try.underlying103 yKb_ rfl (by decide) (by omega) u11 x11_2 (⟨43,rdOf ByteArray.empty l1 x13_2⟩:S106) [.int .u8 43,.string (rdOf ByteArray.empty l1 x13_2)] (fun _=>True) (fun _=>False) rfl rfl ?aP (fun _ hk=>hk.elim) ?aF ?aO ?aB ?aS ?aL ?_;(case aP=>exact ywb_ _ _ _ (⟨43,rdOf ByteArray.empty l1 x13_2⟩:S106));(case aB=>exact (by repeat (with_reducible first|exact HB.out|apply yc_|apply ya_|apply yb_)));(case aF=>exact (fun _ _=>trivial));(case aO=>exact (by (with_reducible repeat (first|apply Kd.yg_|apply Kd.yh_|apply Kd.R_drew));exact HO_11.out));(case aS=>exact (yn_ (by repeat (with_reducible first|exact HB.out|apply yc_|apply ya_|apply yb_))));(case aL=>have:=LMc105.out;omega);intro v271 w107 ho hb hg hat;rw [← Ny270.out] at ho;have n0_:=Aside0.mk (Kd.yJb_ (by (with_reducible repeat (first|apply Kd.yW_|apply Kd.yU_|apply Kd.S_drew));exact HO_7.out) (Kd.yO_ (by (with_reducible repeat (first|apply Kd.yg_|apply Kd.yh_|apply Kd.R_drew));exact HO_11.out)) (by decide) hg);have n1_:=Aside0.mk (Kd.ybb_ (by (with_reducible repeat (first|apply Kd.yg_|apply Kd.yh_|apply Kd.R_drew));exact HL261_0.out) (Kd.yO_ (by (with_reducible repeat (first|apply Kd.yg_|apply Kd.yh_|apply Kd.R_drew));exact HO_11.out)) (by decide) hg);have n2_:=Aside0.mk (Kd.ybb_ (by (with_reducible repeat (first|apply Kd.yg_|apply Kd.yh_|apply Kd.R_drew));exact HL263_0.out) (Kd.yO_ (by (with_reducible repeat (first|apply Kd.yg_|apply Kd.yh_|apply Kd.R_drew));exact HO_11.out)) (by decide) hg);have n3_:=Aside0.mk (hb);have n4_:=Aside0.mk (ho);clear HO_7;clear HL261_0;clear HL263_0;clear HB;clear HO_11;have HO_7:=n0_;have HL261_0:=n1_;have HL263_0:=n2_;have HB:=n3_;have HO272:=n4_;clear n0_ n1_ n2_ n3_ n4_;clear ho hb hg hat));try go_wp2_with (first|((with_reducible refine yF_ (b:=.append) (xs:=#[.tmp 119,.tmp 125]) rfl ?_);at_builtin;refine Kd.y7_ k106 (w0:=w) w.heap.size rfl (.tmp 119) (.tmp 125) 103 106 (.agg #[(.int .u8 0),(.string ⟨#[]⟩)]) 24 rfl Try.underlying103 yKb_ rfl (by decide) (by omega) u11 x11_2 (⟨43,rdOf ByteArray.empty l1 x13_2⟩:S106) [.int .u8 43,.string (rdOf ByteArray.empty l1 x13_2)] (fun _=>True) (fun _=>False) rfl rfl ?aP (fun _ hk=>hk.elim) ?aF ?aO ?aB ?aS ?aL ?_;(case aP=>exact ywb_ _ _ _ (⟨43,rdOf ByteArray.empty l1 x13_2⟩:S106));(case aB=>exact (by repeat (with_reducible first|exact HB.out|apply yc_|apply ya_|apply yb_)));(case aF=>exact (fun _ _=>trivial));(case aO=>exact (by (with_reducible repeat (first|apply Kd.yg_|apply Kd.yh_|apply Kd.R_drew));exact HO_11.out));(case aS=>exact (yn_ (by repeat (with_reducible first|exact HB.out|apply yc_|apply ya_|apply yb_))));(case aL=>have:=LMc105.out;omega);intro v271 w107 ho hb hg hat;rw [← Ny270.out] at ho;have n0_:=Aside0.mk (Kd.yJb_ (by (with_reducible repeat (first|apply Kd.yW_|apply Kd.yU_|apply Kd.S_drew));exact HO_7.out) (Kd.yO_ (by (with_reducible repeat (first|apply Kd.yg_|apply Kd.yh_|apply Kd.R_drew));exact HO_11.out)) (by decide) hg);have n1_:=Aside0.mk (Kd.ybb_ (by (with_reducible repeat (first|apply Kd.yg_|apply Kd.yh_|apply Kd.R_drew));exact HL261_0.out) (Kd.yO_ (by (with_reducible repeat (first|apply Kd.yg_|apply Kd.yh_|apply Kd.R_drew));exact HO_11.out)) (by decide) hg);have n2_:=Aside0.mk (Kd.ybb_ (by (with_reducible repeat (first|apply Kd.yg_|apply Kd.yh_|apply Kd.R_drew));exact HL263_0.out) (Kd.yO_ (by (with_reducible repeat (first|apply Kd.yg_|apply Kd.yh_|apply Kd.R_drew));exact HO_11.out)) (by decide) hg);have n3_:=Aside0.mk (hb);have n4_:=Aside0.mk (ho);clear HO_7;clear HL261_0;clear HL263_0;clear HB;clear HO_11;have HO_7:=n0_;have HL261_0:=n1_;have HL263_0:=n2_;have HB:=n3_;have HO272:=n4_;clear n0_ n1_ n2_ n3_ n4_;clear ho hb hg hat)))
          go_roundg kj70
          case measure=>have:=HK1.out;have:=HK2.out;have:=HJ67.out;have:=HJ70.out;omega
          case rel=>exact ⟨(y270),(x12_2),(ji96),(by first|rfl|(simp;done)|(simp [*];done)),(by first|rfl|(simp;done)|(simp only [← hji96] <;> (first|rfl|simp))|(simp [*];done)),H',⟨by have:=HK1.out;have:=HK2.out;have:=HJ67.out;have:=HJ70.out;omega⟩,⟨by (with_reducible repeat (first|apply Kd.yW_|apply Kd.yU_|apply Kd.S_drew));exact HO_7.out⟩,⟨by (with_reducible repeat (first|apply Kd.yg_|apply Kd.yh_|apply Kd.R_drew));exact HO272.out⟩,⟨by repeat (with_reducible first|exact HB.out|apply yc_|apply ya_|apply yb_)⟩⟩
   rw [if_pos c8] at H
   have c8b0:decide (0≤x8_1)=true:=decide_eq_true c8
   clear c8
   obtain ⟨ji9,hji9⟩:∃ j_:Int,(wrap64 ((l1.length:Int)+1))=j_:=⟨_,rfl⟩
   replace H:(if 0≤(ji9) then (if (ji9:Int).toNat≤35184372088832 then (if 0≤x8_1 then (if x8_1 < (x7_1.length:Int) then (yd_.l1 k1 l0 l1 (l0.length:Int) (l1.length:Int) (x7_1.set (x8_1:Int).toNat (List.replicate (ji9:Int).toNat 0)) x8_1 (l1.length:Int)) else (none)) else (none)) else (none)) else (none))=some r:=by first|(rw [hji9] at H;exact H)|(simp only [hji9] at H ⊢;exact H)
   have hji9w:(IntKind.i64.wrap ((l1.length:Int)+1))=ji9:=(i64_w _).trans hji9
   by_cases c10:0≤(ji9)
   rotate_left
   ·rw [if_neg c10] at H
    exact absurd H (by simp)
   rw [if_pos c10] at H
   have c10b0:=eq_true c10
   have c10b1:decide (0≤(ji9))=true:=decide_eq_true c10
   clear c10
   by_cases c11:(ji9:Int).toNat≤35184372088832
   rotate_left
   ·rw [if_neg c11] at H
    exact absurd H (by simp)
   rw [if_pos c11] at H
   have c11b0:=eq_true c11
   have c11b1:decide ((ji9:Int).toNat≤35184372088832)=true:=decide_eq_true c11
   clear c11
   obtain ⟨y205,hy205⟩:∃ y_:List Int,y_=(List.replicate (ji9:Int).toNat 0):=⟨_,rfl⟩
   replace H:(if 0≤x8_1 then (if x8_1 < (x7_1.length:Int) then (yd_.l1 k1 l0 l1 (l0.length:Int) (l1.length:Int) (x7_1.set (x8_1:Int).toNat y205) x8_1 (l1.length:Int)) else (none)) else (none))=some r:=by first|(rw [hy205];with_reducible exact H)|(have H2_:=(Option.bind_some _ _).symm.trans H;rw [hy205];with_reducible exact H2_)|(have H2_:=(Option.bind_some _ _).symm.trans H;with_reducible exact H2_)|with_reducible exact H|(rw [hy205];exact H)|exact H
   have Ny205:=Aside0.mk hy205
   clear hy205
   by_cases c12:0≤x8_1
   rotate_left
   ·rw [if_neg c12] at H
    exact absurd H (by simp)
   rw [if_pos c12] at H
   have c12b0:decide (0≤x8_1)=true:=decide_eq_true c12
   clear c12
   by_cases c13:x8_1 < (x7_1.length:Int)
   rotate_left
   ·rw [if_neg c13] at H
    exact absurd H (by simp)
   rw [if_pos c13] at H
   have c13b0:decide (x8_1 < (x7_1.length:Int))=true:=decide_eq_true c13
   clear c13
   obtain ⟨y208,hy208⟩:∃ y_:List (List Int),y_=(x7_1.set (x8_1:Int).toNat y205):=⟨_,rfl⟩
   replace H:(yd_.l1 k1 l0 l1 (l0.length:Int) (l1.length:Int) y208 x8_1 (l1.length:Int))=some r:=by first|(rw [hy208];with_reducible exact H)|(have H2_:=(Option.bind_some _ _).symm.trans H;rw [hy208];with_reducible exact H2_)|(have H2_:=(Option.bind_some _ _).symm.trans H;with_reducible exact H2_)|with_reducible exact H|(rw [hy208];exact H)|exact H
   have Ny208:=Aside0.mk hy208
   clear hy208
   have H':=Aside0.mk H
   clear H
   go_wp2_with (first|((with_reducible refine yL_ (N:=30) rfl ?_);refine Kd.R_make (Kd.int .i64) _ 3 rfl (N:=30) rfl 43 _ _ rfl ji9 rfl rfl Try.underlying43 (.int .i64 0) 8 info3 rfl (by decide) (by omega) 0 (ok:=fun _=>True) (okp:=fun _=>True) rfl (fun _ hk=>hk) trivial (of_decide_eq_true (by assumption)) (Nat.le_trans (Nat.mul_le_mul_right _ (of_decide_eq_true (by assumption):ji9.toNat≤35184372088832)) (by omega)) (Below.refl _ _) (Nat.le_refl _) ?_;intro v206 w15 ho16 hb hg_ hnew_;clear hg_ hnew_;(first|rw [← Ny205.out] at ho16|(simp only [Int.reduceToNat] at ho16;rw [← Ny205.out] at ho16));have n0_:=Aside0.mk (Kd.S_elder' (by (with_reducible repeat (first|apply Kd.yW_|apply Kd.yU_|apply Kd.S_drew));exact HO_7.out) (Kd.R_base ho16) hb);have n1_:=Aside0.mk (Kd.yJ_ ho16 (yn_ (by repeat (with_reducible first|exact HB.out|apply yc_|apply ya_|apply yb_))));have n2_:=Aside0.mk (yp_ (by repeat (with_reducible first|exact HB.out|apply yc_|apply ya_|apply yb_)) hb);clear HO_7;clear HB;have HO_7:=n0_;have HO207:=n1_;have HB:=n2_;clear n0_ n1_ n2_;clear hb ho16;have p14:0≤(x8_1:Int):=of_decide_eq_true (by assumption);have q14:(x8_1:Int) < ((x7_1.length:Int):Int):=of_decide_eq_true (by assumption);obtain ⟨go14,co14,eo14,gb14,gl14,cl14,HG14⟩:=Kd.S_form HO_7.out (by omega);(first|cases eo14|(injection eo14 with ea_ en_ ec_;(first|subst ea_|(injection ea_ with ea_;subst ea_));subst ec_;clear en_));have GB14:=Aside0.mk gb14;have GG14:=Aside0.mk HG14;clear gb14 gl14 HG14;obtain ⟨_,ce14,hcl14,hM14,hcc14,hfr14,_,_⟩:=Kd.S_elem HO_7.out [] (x8_1:Int) p14 q14;obtain ⟨ve14_0,rfl,ge14_0⟩:=hM14;have hx14_0:=hcc14 0 _ rfl;have hf14_0:=hfr14 0;(try simp only [show ((Kd.slice 3 (Kd.int .i64))).sz=1 from rfl,Nat.mul_one,Nat.add_zero] at hx14_0);(try simp only [show ((Kd.slice 3 (Kd.int .i64))).sz=1 from rfl,Nat.mul_one,Nat.add_zero] at hf14_0);clear hcl14 hcc14 hfr14;(try clear hM14);replace p14:=eq_true p14;replace q14:=eq_true q14;have n_:=Aside0.mk (Kd.S_mono (ok':=(fun k_=>some k_ ≠ (v206:Value).ownBlock)) HO_7.out (fun k_ hk=>hk.2));clear HO_7;have HO_7:=n_;clear n_;have HX17:=Aside0.mk (show Kd.S (Kd.slice 3 (Kd.int .i64)) 43 w15 w.heap.size (fun k_=>((fun _=>True)) k_∧¬ ((fun k_=>some k_=(v206:Value).ownBlock)) k_) (.slice (some ⟨go14,0,none⟩) x7_1.length co14) x7_1 from (by (with_reducible repeat (first|apply Kd.yW_|apply Kd.yU_|apply Kd.S_drew));exact Kd.S_mono HO_7.out (fun k_ hk=>⟨trivial,fun e_=>hk e_⟩)));obtain ⟨oki17,ce17,hcl17,hM17,hcc17,hfr17,hoki17,hH17⟩:=Kd.S_elem HX17.out [] (x8_1:Int) (of_decide_eq_true (by assumption)) (by have h_:(x8_1:Int) < ((x7_1.length:Int):Int):=of_decide_eq_true (by assumption);first|exact h_|(have e_:=(Kd.yy_ HO_7.out).1;omega)|simpa using h_);obtain ⟨ve17_0,rfl,ge17_0⟩:=hM17;have HP17:=Kd.S_seg hH17 (of_decide_eq_true (by assumption)) (by have h_:(x8_1:Int) < ((x7_1.length:Int):Int):=of_decide_eq_true (by assumption);first|exact h_|(have e_:=(Kd.yy_ HO_7.out).1;omega)|simpa using h_) (seg:=[v206]) (j:=0) (show 1≤1 from by decide) (x':=y205) (Kd.M_row (Kd.R_mono (Kd.R_tight rfl (Kd.R_mono (ok':=fun k_=>((fun _=>True)) k_∧k_ ≠ go14) (Kd.yHb_ (HO207.out) (Kd.yWb_ HO_7.out) (by decide)) (fun k_ hk=>⟨trivial,fun e_=>(hk.2) (by rw [e_];rfl)⟩))) (fun _ h_=>Or.inr (h_)))) (fun _ hk=>hk) (fun k_ hk_=>((Kd.R_mono (ok':=fun k_=>((fun _=>True)) k_∧k_ ≠ go14) (Kd.yHb_ (HO207.out) (Kd.yWb_ HO_7.out) (by decide)) (fun k_ hk=>⟨trivial,fun e_=>(hk.2) (by rw [e_];rfl)⟩))).1 k_ hk_.symm);have hx17_0:=hcc17 0 _ rfl;(try simp only [show ((Kd.slice 3 (Kd.int .i64))).sz=1 from rfl,Nat.mul_one,Nat.add_zero] at hx17_0);have hf17_0:=hfr17 0;(try simp only [show ((Kd.slice 3 (Kd.int .i64))).sz=1 from rfl,Nat.mul_one,Nat.add_zero] at hf17_0);clear hcl17 hcc17 hfr17 hoki17 hH17;(try clear hM17);(try simp only [show ((Kd.slice 3 (Kd.int .i64))).sz=1 from rfl,Nat.mul_one,Nat.add_zero] at HP17))|((with_reducible refine yM_ (t:=43) (p:=31) rfl ?_);(try (rw [y8_ w15];generalize hq_:World.drewN w15 _=w15;have n0_:=Aside0.mk (Kd.S_at hq_ HO_7.out);have n1_:=Aside0.mk (ymb_ hq_ HB.out);clear hq_ HO_7 HB;have HO_7:=n0_;have HB:=n1_;clear n0_ n1_;(try (have n_:=Aside0.mk (Kd.S_mono (ok':=(fun k_=>some k_ ≠ (v206:Value).ownBlock)) HO_7.out (fun k_ hk=>hk.2));clear HO_7;have HO_7:=n_;clear n_));(try (have HX17:=Aside0.mk (show Kd.S (Kd.slice 3 (Kd.int .i64)) 43 w15 w.heap.size (fun k_=>((fun _=>True)) k_∧¬ ((fun k_=>some k_=(v206:Value).ownBlock)) k_) (.slice (some ⟨go14,0,none⟩) x7_1.length co14) x7_1 from (by (with_reducible repeat (first|apply Kd.yW_|apply Kd.yU_|apply Kd.S_drew));exact Kd.S_mono HO_7.out (fun k_ hk=>⟨trivial,fun e_=>hk e_⟩)))));(try (obtain ⟨oki17,ce17,hcl17,hM17,hcc17,hfr17,hoki17,hH17⟩:=Kd.S_elem HX17.out [] (x8_1:Int) (of_decide_eq_true (by assumption)) (by have h_:(x8_1:Int) < ((x7_1.length:Int):Int):=of_decide_eq_true (by assumption);first|exact h_|(have e_:=(Kd.yy_ HO_7.out).1;omega)|simpa using h_)));(try (obtain ⟨ve17_0,rfl,ge17_0⟩:=hM17));(try (have HP17:=Kd.S_seg hH17 (of_decide_eq_true (by assumption)) (by have h_:(x8_1:Int) < ((x7_1.length:Int):Int):=of_decide_eq_true (by assumption);first|exact h_|(have e_:=(Kd.yy_ HO_7.out).1;omega)|simpa using h_) (seg:=[v206]) (j:=0) (show 1≤1 from by decide) (x':=y205) (Kd.M_row (Kd.R_mono (Kd.R_tight rfl (Kd.R_mono (ok':=fun k_=>((fun _=>True)) k_∧k_ ≠ go14) (Kd.yHb_ (HO207.out) (Kd.yWb_ HO_7.out) (by decide)) (fun k_ hk=>⟨trivial,fun e_=>(hk.2) (by rw [e_];rfl)⟩))) (fun _ h_=>Or.inr (h_)))) (fun _ hk=>hk) (fun k_ hk_=>((Kd.R_mono (ok':=fun k_=>((fun _=>True)) k_∧k_ ≠ go14) (Kd.yHb_ (HO207.out) (Kd.yWb_ HO_7.out) (by decide)) (fun k_ hk=>⟨trivial,fun e_=>(hk.2) (by rw [e_];rfl)⟩))).1 k_ hk_.symm)));(try (have hx17_0:=hcc17 0 _ rfl));(try (try simp only [show ((Kd.slice 3 (Kd.int .i64))).sz=1 from rfl,Nat.mul_one,Nat.add_zero] at hx17_0));(try (have hf17_0:=hfr17 0));(try (try simp only [show ((Kd.slice 3 (Kd.int .i64))).sz=1 from rfl,Nat.mul_one,Nat.add_zero] at hf17_0));(try (clear hcl17 hcc17 hfr17 hoki17 hH17;(try clear hM17)));(try (try simp only [show ((Kd.slice 3 (Kd.int .i64))).sz=1 from rfl,Nat.mul_one,Nat.add_zero] at HP17))));refine yH_ (t:=43) (p:=31) (v:=?vo_w18) (w1:=(w15.setCell ⟨go14,(x8_1:Int).toNat,none⟩ (v206))) ?hg ?ho ?hn ?hr ?_;(case ho=>rfl);(case hg=>rfl);(case hn=>rfl);(case hr=>(try obtain ⟨As_,cs_,rfl⟩:=Kd.yC_ HO207.out);first|(go_simp;done)|(go_simp;rfl));intro w18 hw;have hg:w15.grownBy w18 (some go14):=(by rw [hw];exact HP17.2);have hp_:Kd.S (Kd.slice 3 (Kd.int .i64)) 43 w18 w.heap.size (fun _=>True) (.slice (some ⟨go14,0,none⟩) x7_1.length co14) y208:=(by rw [hw,Ny208.out];exact HP17.1);clear HP17;have n0_:=Aside0.mk (hp_);have n1_:=Aside0.mk ((by rw [hw];exact yo_ (HB.out) GB14.out:Below w.heap.size w w18));clear HO_7;clear HB;clear HO207;have HO_7:=n0_;have HB:=n1_;clear n0_ n1_;clear hg hw hp_))
   repeat (go_quiet (first|((with_reducible refine yL_ (N:=30) rfl ?_);refine Kd.R_make (Kd.int .i64) _ 3 rfl (N:=30) rfl 43 _ _ rfl ji9 rfl rfl Try.underlying43 (.int .i64 0) 8 info3 rfl (by decide) (by omega) 0 (ok:=fun _=>True) (okp:=fun _=>True) rfl (fun _ hk=>hk) trivial (of_decide_eq_true (by assumption)) (Nat.le_trans (Nat.mul_le_mul_right _ (of_decide_eq_true (by assumption):ji9.toNat≤35184372088832)) (by omega)) (Below.refl _ _) (Nat.le_refl _) ?_;intro v206 w15 ho16 hb hg_ hnew_;clear hg_ hnew_;(first|rw [← Ny205.out] at ho16|(simp only [Int.reduceToNat] at ho16;rw [← Ny205.out] at ho16));have n0_:=Aside0.mk (Kd.S_elder' (by (with_reducible repeat (first|apply Kd.yW_|apply Kd.yU_|apply Kd.S_drew));exact HO_7.out) (Kd.R_base ho16) hb);have n1_:=Aside0.mk (Kd.yJ_ ho16 (yn_ (by repeat (with_reducible first|exact HB.out|apply yc_|apply ya_|apply yb_))));have n2_:=Aside0.mk (yp_ (by repeat (with_reducible first|exact HB.out|apply yc_|apply ya_|apply yb_)) hb);clear HO_7;clear HB;have HO_7:=n0_;have HO207:=n1_;have HB:=n2_;clear n0_ n1_ n2_;clear hb ho16;have p14:0≤(x8_1:Int):=of_decide_eq_true (by assumption);have q14:(x8_1:Int) < ((x7_1.length:Int):Int):=of_decide_eq_true (by assumption);obtain ⟨go14,co14,eo14,gb14,gl14,cl14,HG14⟩:=Kd.S_form HO_7.out (by omega);(first|cases eo14|(injection eo14 with ea_ en_ ec_;(first|subst ea_|(injection ea_ with ea_;subst ea_));subst ec_;clear en_));have GB14:=Aside0.mk gb14;have GG14:=Aside0.mk HG14;clear gb14 gl14 HG14;obtain ⟨_,ce14,hcl14,hM14,hcc14,hfr14,_,_⟩:=Kd.S_elem HO_7.out [] (x8_1:Int) p14 q14;obtain ⟨ve14_0,rfl,ge14_0⟩:=hM14;have hx14_0:=hcc14 0 _ rfl;have hf14_0:=hfr14 0;(try simp only [show ((Kd.slice 3 (Kd.int .i64))).sz=1 from rfl,Nat.mul_one,Nat.add_zero] at hx14_0);(try simp only [show ((Kd.slice 3 (Kd.int .i64))).sz=1 from rfl,Nat.mul_one,Nat.add_zero] at hf14_0);clear hcl14 hcc14 hfr14;(try clear hM14);replace p14:=eq_true p14;replace q14:=eq_true q14;have n_:=Aside0.mk (Kd.S_mono (ok':=(fun k_=>some k_ ≠ (v206:Value).ownBlock)) HO_7.out (fun k_ hk=>hk.2));clear HO_7;have HO_7:=n_;clear n_;have HX17:=Aside0.mk (show Kd.S (Kd.slice 3 (Kd.int .i64)) 43 w15 w.heap.size (fun k_=>((fun _=>True)) k_∧¬ ((fun k_=>some k_=(v206:Value).ownBlock)) k_) (.slice (some ⟨go14,0,none⟩) x7_1.length co14) x7_1 from (by (with_reducible repeat (first|apply Kd.yW_|apply Kd.yU_|apply Kd.S_drew));exact Kd.S_mono HO_7.out (fun k_ hk=>⟨trivial,fun e_=>hk e_⟩)));obtain ⟨oki17,ce17,hcl17,hM17,hcc17,hfr17,hoki17,hH17⟩:=Kd.S_elem HX17.out [] (x8_1:Int) (of_decide_eq_true (by assumption)) (by have h_:(x8_1:Int) < ((x7_1.length:Int):Int):=of_decide_eq_true (by assumption);first|exact h_|(have e_:=(Kd.yy_ HO_7.out).1;omega)|simpa using h_);obtain ⟨ve17_0,rfl,ge17_0⟩:=hM17;have HP17:=Kd.S_seg hH17 (of_decide_eq_true (by assumption)) (by have h_:(x8_1:Int) < ((x7_1.length:Int):Int):=of_decide_eq_true (by assumption);first|exact h_|(have e_:=(Kd.yy_ HO_7.out).1;omega)|simpa using h_) (seg:=[v206]) (j:=0) (show 1≤1 from by decide) (x':=y205) (Kd.M_row (Kd.R_mono (Kd.R_tight rfl (Kd.R_mono (ok':=fun k_=>((fun _=>True)) k_∧k_ ≠ go14) (Kd.yHb_ (HO207.out) (Kd.yWb_ HO_7.out) (by decide)) (fun k_ hk=>⟨trivial,fun e_=>(hk.2) (by rw [e_];rfl)⟩))) (fun _ h_=>Or.inr (h_)))) (fun _ hk=>hk) (fun k_ hk_=>((Kd.R_mono (ok':=fun k_=>((fun _=>True)) k_∧k_ ≠ go14) (Kd.yHb_ (HO207.out) (Kd.yWb_ HO_7.out) (by decide)) (fun k_ hk=>⟨trivial,fun e_=>(hk.2) (by rw [e_];rfl)⟩))).1 k_ hk_.symm);have hx17_0:=hcc17 0 _ rfl;(try simp only [show ((Kd.slice 3 (Kd.int .i64))).sz=1 from rfl,Nat.mul_one,Nat.add_zero] at hx17_0);have hf17_0:=hfr17 0;(try simp only [show ((Kd.slice 3 (Kd.int .i64))).sz=1 from rfl,Nat.mul_one,Nat.add_zero] at hf17_0);clear hcl17 hcc17 hfr17 hoki17 hH17;(try clear hM17);(try simp only [show ((Kd.slice 3 (Kd.int .i64))).sz=1 from rfl,Nat.mul_one,Nat.add_zero] at HP17))|((with_reducible refine yM_ (t:=43) (p:=31) rfl ?_);(try (rw [y8_ w15];generalize hq_:World.drewN w15 _=w15;have n0_:=Aside0.mk (Kd.S_at hq_ HO_7.out);have n1_:=Aside0.mk (ymb_ hq_ HB.out);clear hq_ HO_7 HB;have HO_7:=n0_;have HB:=n1_;clear n0_ n1_;(try (have n_:=Aside0.mk (Kd.S_mono (ok':=(fun k_=>some k_ ≠ (v206:Value).ownBlock)) HO_7.out (fun k_ hk=>hk.2));clear HO_7;have HO_7:=n_;clear n_));(try (have HX17:=Aside0.mk (show Kd.S (Kd.slice 3 (Kd.int .i64)) 43 w15 w.heap.size (fun k_=>((fun _=>True)) k_∧¬ ((fun k_=>some k_=(v206:Value).ownBlock)) k_) (.slice (some ⟨go14,0,none⟩) x7_1.length co14) x7_1 from (by (with_reducible repeat (first|apply Kd.yW_|apply Kd.yU_|apply Kd.S_drew));exact Kd.S_mono HO_7.out (fun k_ hk=>⟨trivial,fun e_=>hk e_⟩)))));(try (obtain ⟨oki17,ce17,hcl17,hM17,hcc17,hfr17,hoki17,hH17⟩:=Kd.S_elem HX17.out [] (x8_1:Int) (of_decide_eq_true (by assumption)) (by have h_:(x8_1:Int) < ((x7_1.length:Int):Int):=of_decide_eq_true (by assumption);first|exact h_|(have e_:=(Kd.yy_ HO_7.out).1;omega)|simpa using h_)));(try (obtain ⟨ve17_0,rfl,ge17_0⟩:=hM17));(try (have HP17:=Kd.S_seg hH17 (of_decide_eq_true (by assumption)) (by have h_:(x8_1:Int) < ((x7_1.length:Int):Int):=of_decide_eq_true (by assumption);first|exact h_|(have e_:=(Kd.yy_ HO_7.out).1;omega)|simpa using h_) (seg:=[v206]) (j:=0) (show 1≤1 from by decide) (x':=y205) (Kd.M_row (Kd.R_mono (Kd.R_tight rfl (Kd.R_mono (ok':=fun k_=>((fun _=>True)) k_∧k_ ≠ go14) (Kd.yHb_ (HO207.out) (Kd.yWb_ HO_7.out) (by decide)) (fun k_ hk=>⟨trivial,fun e_=>(hk.2) (by rw [e_];rfl)⟩))) (fun _ h_=>Or.inr (h_)))) (fun _ hk=>hk) (fun k_ hk_=>((Kd.R_mono (ok':=fun k_=>((fun _=>True)) k_∧k_ ≠ go14) (Kd.yHb_ (HO207.out) (Kd.yWb_ HO_7.out) (by decide)) (fun k_ hk=>⟨trivial,fun e_=>(hk.2) (by rw [e_];rfl)⟩))).1 k_ hk_.symm)));(try (have hx17_0:=hcc17 0 _ rfl));(try (try simp only [show ((Kd.slice 3 (Kd.int .i64))).sz=1 from rfl,Nat.mul_one,Nat.add_zero] at hx17_0));(try (have hf17_0:=hfr17 0));(try (try simp only [show ((Kd.slice 3 (Kd.int .i64))).sz=1 from rfl,Nat.mul_one,Nat.add_zero] at hf17_0));(try (clear hcl17 hcc17 hfr17 hoki17 hH17;(try clear hM17)));(try (try simp only [show ((Kd.slice 3 (Kd.int .i64))).sz=1 from rfl,Nat.mul_one,Nat.add_zero] at HP17))));refine yH_ (t:=43) (p:=31) (v:=?vo_w18) (w1:=(w15.setCell ⟨go14,(x8_1:Int).toNat,none⟩ (v206))) ?hg ?ho ?hn ?hr ?_;(case ho=>rfl);(case hg=>rfl);(case hn=>rfl);(case hr=>(try obtain ⟨As_,cs_,rfl⟩:=Kd.yC_ HO207.out);first|(go_simp;done)|(go_simp;rfl));intro w18 hw;have hg:w15.grownBy w18 (some go14):=(by rw [hw];exact HP17.2);have hp_:Kd.S (Kd.slice 3 (Kd.int .i64)) 43 w18 w.heap.size (fun _=>True) (.slice (some ⟨go14,0,none⟩) x7_1.length co14) y208:=(by rw [hw,Ny208.out];exact HP17.1);clear HP17;have n0_:=Aside0.mk (hp_);have n1_:=Aside0.mk ((by rw [hw];exact yo_ (HB.out) GB14.out:Below w.heap.size w w18));clear HO_7;clear HB;clear HO207;have HO_7:=n0_;have HB:=n1_;clear n0_ n1_;clear hg hw hp_));try go_wp2_with (first|((with_reducible refine yL_ (N:=30) rfl ?_);refine Kd.R_make (Kd.int .i64) _ 3 rfl (N:=30) rfl 43 _ _ rfl ji9 rfl rfl Try.underlying43 (.int .i64 0) 8 info3 rfl (by decide) (by omega) 0 (ok:=fun _=>True) (okp:=fun _=>True) rfl (fun _ hk=>hk) trivial (of_decide_eq_true (by assumption)) (Nat.le_trans (Nat.mul_le_mul_right _ (of_decide_eq_true (by assumption):ji9.toNat≤35184372088832)) (by omega)) (Below.refl _ _) (Nat.le_refl _) ?_;intro v206 w15 ho16 hb hg_ hnew_;clear hg_ hnew_;(first|rw [← Ny205.out] at ho16|(simp only [Int.reduceToNat] at ho16;rw [← Ny205.out] at ho16));have n0_:=Aside0.mk (Kd.S_elder' (by (with_reducible repeat (first|apply Kd.yW_|apply Kd.yU_|apply Kd.S_drew));exact HO_7.out) (Kd.R_base ho16) hb);have n1_:=Aside0.mk (Kd.yJ_ ho16 (yn_ (by repeat (with_reducible first|exact HB.out|apply yc_|apply ya_|apply yb_))));have n2_:=Aside0.mk (yp_ (by repeat (with_reducible first|exact HB.out|apply yc_|apply ya_|apply yb_)) hb);clear HO_7;clear HB;have HO_7:=n0_;have HO207:=n1_;have HB:=n2_;clear n0_ n1_ n2_;clear hb ho16;have p14:0≤(x8_1:Int):=of_decide_eq_true (by assumption);have q14:(x8_1:Int) < ((x7_1.length:Int):Int):=of_decide_eq_true (by assumption);obtain ⟨go14,co14,eo14,gb14,gl14,cl14,HG14⟩:=Kd.S_form HO_7.out (by omega);(first|cases eo14|(injection eo14 with ea_ en_ ec_;(first|subst ea_|(injection ea_ with ea_;subst ea_));subst ec_;clear en_));have GB14:=Aside0.mk gb14;have GG14:=Aside0.mk HG14;clear gb14 gl14 HG14;obtain ⟨_,ce14,hcl14,hM14,hcc14,hfr14,_,_⟩:=Kd.S_elem HO_7.out [] (x8_1:Int) p14 q14;obtain ⟨ve14_0,rfl,ge14_0⟩:=hM14;have hx14_0:=hcc14 0 _ rfl;have hf14_0:=hfr14 0;(try simp only [show ((Kd.slice 3 (Kd.int .i64))).sz=1 from rfl,Nat.mul_one,Nat.add_zero] at hx14_0);(try simp only [show ((Kd.slice 3 (Kd.int .i64))).sz=1 from rfl,Nat.mul_one,Nat.add_zero] at hf14_0);clear hcl14 hcc14 hfr14;(try clear hM14);replace p14:=eq_true p14;replace q14:=eq_true q14;have n_:=Aside0.mk (Kd.S_mono (ok':=(fun k_=>some k_ ≠ (v206:Value).ownBlock)) HO_7.out (fun k_ hk=>hk.2));clear HO_7;have HO_7:=n_;clear n_;have HX17:=Aside0.mk (show Kd.S (Kd.slice 3 (Kd.int .i64)) 43 w15 w.heap.size (fun k_=>((fun _=>True)) k_∧¬ ((fun k_=>some k_=(v206:Value).ownBlock)) k_) (.slice (some ⟨go14,0,none⟩) x7_1.length co14) x7_1 from (by (with_reducible repeat (first|apply Kd.yW_|apply Kd.yU_|apply Kd.S_drew));exact Kd.S_mono HO_7.out (fun k_ hk=>⟨trivial,fun e_=>hk e_⟩)));obtain ⟨oki17,ce17,hcl17,hM17,hcc17,hfr17,hoki17,hH17⟩:=Kd.S_elem HX17.out [] (x8_1:Int) (of_decide_eq_true (by assumption)) (by have h_:(x8_1:Int) < ((x7_1.length:Int):Int):=of_decide_eq_true (by assumption);first|exact h_|(have e_:=(Kd.yy_ HO_7.out).1;omega)|simpa using h_);obtain ⟨ve17_0,rfl,ge17_0⟩:=hM17;have HP17:=Kd.S_seg hH17 (of_decide_eq_true (by assumption)) (by have h_:(x8_1:Int) < ((x7_1.length:Int):Int):=of_decide_eq_true (by assumption);first|exact h_|(have e_:=(Kd.yy_ HO_7.out).1;omega)|simpa using h_) (seg:=[v206]) (j:=0) (show 1≤1 from by decide) (x':=y205) (Kd.M_row (Kd.R_mono (Kd.R_tight rfl (Kd.R_mono (ok':=fun k_=>((fun _=>True)) k_∧k_ ≠ go14) (Kd.yHb_ (HO207.out) (Kd.yWb_ HO_7.out) (by decide)) (fun k_ hk=>⟨trivial,fun e_=>(hk.2) (by rw [e_];rfl)⟩))) (fun _ h_=>Or.inr (h_)))) (fun _ hk=>hk) (fun k_ hk_=>((Kd.R_mono (ok':=fun k_=>((fun _=>True)) k_∧k_ ≠ go14) (Kd.yHb_ (HO207.out) (Kd.yWb_ HO_7.out) (by decide)) (fun k_ hk=>⟨trivial,fun e_=>(hk.2) (by rw [e_];rfl)⟩))).1 k_ hk_.symm);have hx17_0:=hcc17 0 _ rfl;(try simp only [show ((Kd.slice 3 (Kd.int .i64))).sz=1 from rfl,Nat.mul_one,Nat.add_zero] at hx17_0);have hf17_0:=hfr17 0;(try simp only [show ((Kd.slice 3 (Kd.int .i64))).sz=1 from rfl,Nat.mul_one,Nat.add_zero] at hf17_0);clear hcl17 hcc17 hfr17 hoki17 hH17;(try clear hM17);(try simp only [show ((Kd.slice 3 (Kd.int .i64))).sz=1 from rfl,Nat.mul_one,Nat.add_zero] at HP17))|((with_reducible refine yM_ (t:=43) (p:=31) rfl ?_);(try (rw [y8_ w15];generalize hq_:World.drewN w15 _=w15;have n0_:=Aside0.mk (Kd.S_at hq_ HO_7.out);have n1_:=Aside0.mk (ymb_ hq_ HB.out);clear hq_ HO_7 HB;have HO_7:=n0_;have HB:=n1_;clear n0_ n1_;(try (have n_:=Aside0.mk (Kd.S_mono (ok':=(fun k_=>some k_ ≠ (v206:Value).ownBlock)) HO_7.out (fun k_ hk=>hk.2));clear HO_7;have HO_7:=n_;clear n_));(try (have HX17:=Aside0.mk (show Kd.S (Kd.slice 3 (Kd.int .i64)) 43 w15 w.heap.size (fun k_=>((fun _=>True)) k_∧¬ ((fun k_=>some k_=(v206:Value).ownBlock)) k_) (.slice (some ⟨go14,0,none⟩) x7_1.length co14) x7_1 from (by (with_reducible repeat (first|apply Kd.yW_|apply Kd.yU_|apply Kd.S_drew));exact Kd.S_mono HO_7.out (fun k_ hk=>⟨trivial,fun e_=>hk e_⟩)))));(try (obtain ⟨oki17,ce17,hcl17,hM17,hcc17,hfr17,hoki17,hH17⟩:=Kd.S_elem HX17.out [] (x8_1:Int) (of_decide_eq_true (by assumption)) (by have h_:(x8_1:Int) < ((x7_1.length:Int):Int):=of_decide_eq_true (by assumption);first|exact h_|(have e_:=(Kd.yy_ HO_7.out).1;omega)|simpa using h_)));(try (obtain ⟨ve17_0,rfl,ge17_0⟩:=hM17));(try (have HP17:=Kd.S_seg hH17 (of_decide_eq_true (by assumption)) (by have h_:(x8_1:Int) < ((x7_1.length:Int):Int):=of_decide_eq_true (by assumption);first|exact h_|(have e_:=(Kd.yy_ HO_7.out).1;omega)|simpa using h_) (seg:=[v206]) (j:=0) (show 1≤1 from by decide) (x':=y205) (Kd.M_row (Kd.R_mono (Kd.R_tight rfl (Kd.R_mono (ok':=fun k_=>((fun _=>True)) k_∧k_ ≠ go14) (Kd.yHb_ (HO207.out) (Kd.yWb_ HO_7.out) (by decide)) (fun k_ hk=>⟨trivial,fun e_=>(hk.2) (by rw [e_];rfl)⟩))) (fun _ h_=>Or.inr (h_)))) (fun _ hk=>hk) (fun k_ hk_=>((Kd.R_mono (ok':=fun k_=>((fun _=>True)) k_∧k_ ≠ go14) (Kd.yHb_ (HO207.out) (Kd.yWb_ HO_7.out) (by decide)) (fun k_ hk=>⟨trivial,fun e_=>(hk.2) (by rw [e_];rfl)⟩))).1 k_ hk_.symm)));(try (have hx17_0:=hcc17 0 _ rfl));(try (try simp only [show ((Kd.slice 3 (Kd.int .i64))).sz=1 from rfl,Nat.mul_one,Nat.add_zero] at hx17_0));(try (have hf17_0:=hfr17 0));(try (try simp only [show ((Kd.slice 3 (Kd.int .i64))).sz=1 from rfl,Nat.mul_one,Nat.add_zero] at hf17_0));(try (clear hcl17 hcc17 hfr17 hoki17 hH17;(try clear hM17)));(try (try simp only [show ((Kd.slice 3 (Kd.int .i64))).sz=1 from rfl,Nat.mul_one,Nat.add_zero] at HP17))));refine yH_ (t:=43) (p:=31) (v:=?vo_w18) (w1:=(w15.setCell ⟨go14,(x8_1:Int).toNat,none⟩ (v206))) ?hg ?ho ?hn ?hr ?_;(case ho=>rfl);(case hg=>rfl);(case hn=>rfl);(case hr=>(try obtain ⟨As_,cs_,rfl⟩:=Kd.yC_ HO207.out);first|(go_simp;done)|(go_simp;rfl));intro w18 hw;have hg:w15.grownBy w18 (some go14):=(by rw [hw];exact HP17.2);have hp_:Kd.S (Kd.slice 3 (Kd.int .i64)) 43 w18 w.heap.size (fun _=>True) (.slice (some ⟨go14,0,none⟩) x7_1.length co14) y208:=(by rw [hw,Ny208.out];exact HP17.1);clear HP17;have n0_:=Aside0.mk (hp_);have n1_:=Aside0.mk ((by rw [hw];exact yo_ (HB.out) GB14.out:Below w.heap.size w w18));clear HO_7;clear HB;clear HO207;have HO_7:=n0_;have HB:=n1_;clear n0_ n1_;clear hg hw hp_)))
   try simp only [Act.put,List.setIfInBounds_toArray,List.set_cons_succ,List.set_cons_zero]
   go_loopg [9] k1 (fun kq v9 w'=>∃ (x7_2:List (List Int)) (x9_2:Int),v9=.int .i64 x9_2∧Aside0 (yd_.l1 kq l0 l1 (l0.length:Int) (l1.length:Int) x7_2 x8_1 x9_2=some r)∧Aside0 (kq≤k1)∧Aside0 (Kd.S (Kd.slice 3 (Kd.int .i64)) 43 w' w.heap.size (fun _=>True) (.slice (some ⟨go14,0,none⟩) x7_1.length co14) x7_2)∧Aside0 (Below w.heap.size w w'))
   case atStart=>exact ⟨(y208),((l1.length:Int)),(by first|rfl|(simp;done)|(simp [*];done)),H',⟨Nat.le_refl _⟩,⟨by (with_reducible repeat (first|apply Kd.yW_|apply Kd.yU_|apply Kd.S_drew));exact HO_7.out⟩,⟨by repeat (with_reducible first|exact HB.out|apply yc_|apply ya_|apply yb_)⟩⟩
   case round =>
    clear H'
    try clear c1
    try clear p1
    try clear q1
    try clear hx1
    try clear p2
    try clear c4
    try clear c4b0
    try clear c4b1
    try clear c5
    try clear c5b0
    try clear c5b1
    try clear p6
    try clear c8
    try clear c8b0
    try clear c10
    try clear c10b0
    try clear c10b1
    try clear c11
    try clear c11b0
    try clear c11b1
    try clear c12
    try clear c12b0
    try clear c13
    try clear c13b0
    try clear c14
    try clear p14
    try clear q14
    try clear hx14
    try clear hf14
    try clear c17
    try clear hx17
    try clear hf17
    try clear hx14_0
    try clear hx17_0
    try clear p14
    try clear p2
    try clear p6
    try clear q14
    obtain ⟨x7_2,x9_2,rfl,HA,HK2,HO_7,HB⟩:=hrel
    have hl7_2:=(Kd.yy_ HO_7.out).1
    rw [hl7_2] at HO_7
    (try simp only [hl7_2])
    cases gk with
    | zero=>exact absurd HA.out (by simp [yd_.l1])
    | succ k2 =>
     have H:=HA.out
     clear HA
     simp only [yd_.l1] at H
     by_cases c19:x9_2 ≥ 0
     rotate_left
     ·rw [if_neg c19] at H
      have c19b0:decide (0≤x9_2)=false:=decide_eq_false c19
      clear c19
      have H':=Aside0.mk H
      clear H
      go_wp2
      repeat (go_quiet (fail);try go_wp2)
      (try simp only [← hl7_2])
      go_roundg k2
      case measure=>have:=HK1.out;have:=HK2.out;omega
      case rel=>exact ⟨(x7_2),(wrap64 (x8_1 - 1)),(by first|rfl|(simp;done)|(simp [*];done)),H',⟨by have:=HK1.out;have:=HK2.out;omega⟩,⟨by (try simp only [hl7_2]);(with_reducible repeat (first|apply Kd.yW_|apply Kd.yU_|apply Kd.S_drew));exact HO_7.out⟩,⟨by repeat (with_reducible first|exact HB.out|apply yc_|apply ya_|apply yb_)⟩⟩
     rw [if_pos c19] at H
     have c19b0:decide (0≤x9_2)=true:=decide_eq_true c19
     clear c19
     have HC20:=Aside0.mk H
     clear H
     go_upto_region 10 with (fail)
     repeat (go_quiet (fail);go_upto_region 10 with (fail))
     go_cut [44] (fun v44 wc=>∃ (kq:Nat) (x44_19:Bool),v44=.bool x44_19∧Aside0 (yd_.j2 kq l0 l1 (l0.length:Int) (l1.length:Int) x7_2 x8_1 x9_2 x44_19=some r)∧Aside0 (kq≤k2)∧Aside0 (Kd.S (Kd.slice 3 (Kd.int .i64)) 43 wc w.heap.size (fun _=>True) (.slice (some ⟨go14,0,none⟩) x7_2.length co14) x7_2)∧Aside0 (Below w.heap.size w wc))
     case first =>
      have H:=HC20.out
      clear HC20
      by_cases c21:x8_1=(l0.length:Int)
      ·rw [if_pos c21] at H
       have c21b0:(x8_1 == (l0.length:Int))=true:=beq_iff_eq.mpr c21
       have c21b1:(x8_1 != (l0.length:Int))=false:=bne_eq_false_iff_eq.mpr c21
       clear c21
       (first|rw [c21b0]|(simp only [i64_w,i32_w];rw [c21b0])|skip)
       have H':=Aside0.mk H
       clear H
       go_wp2
       repeat (go_quiet (fail);try go_wp2)
       go_meet
       case rel=>exact ⟨_,(true),(by first|rfl|(simp;done)|(simp [*];done)),H',⟨by have:=HK1.out;have:=HK2.out;first|omega|exact Nat.le_refl _⟩,⟨by (try simp only [hl7_2]);(with_reducible repeat (first|apply Kd.yW_|apply Kd.yU_|apply Kd.S_drew));exact HO_7.out⟩,⟨by repeat (with_reducible first|exact HB.out|apply yc_|apply ya_|apply yb_)⟩⟩
      rw [if_neg c21] at H
      have c21b0:(x8_1 == (l0.length:Int))=false:=beq_eq_false_iff_ne.mpr c21
      have c21b1:(x8_1 != (l0.length:Int))=true:=bne_iff_ne.mpr c21
      (first|rw [c21b0]|(simp only [i64_w,i32_w];rw [c21b0])|skip)
      have H':=Aside0.mk H
      clear H
      go_wp2
      repeat (go_quiet (fail);try go_wp2)
      go_meet
      case rel=>exact ⟨_,((x9_2 == (l1.length:Int))),(by first|rfl|(simp;done)|(simp [*];done)),H',⟨by have:=HK1.out;have:=HK2.out;first|omega|exact Nat.le_refl _⟩,⟨by (try simp only [hl7_2]);(with_reducible repeat (first|apply Kd.yW_|apply Kd.yU_|apply Kd.S_drew));exact HO_7.out⟩,⟨by repeat (with_reducible first|exact HB.out|apply yc_|apply ya_|apply yb_)⟩⟩
     case rest =>
      clear HC20
      try clear c1
      try clear p1
      try clear q1
      try clear hx1
      try clear c2
      try clear p2
      try clear c4
      try clear c4b0
      try clear c4b1
      try clear c5
      try clear c5b0
      try clear c5b1
      try clear p6
      try clear c8
      try clear c8b0
      try clear c10
      try clear c10b0
      try clear c10b1
      try clear c11
      try clear c11b0
      try clear c11b1
      try clear c12
      try clear c12b0
      try clear c13
      try clear c13b0
      try clear c14
      try clear p14
      try clear q14
      try clear hx14
      try clear hf14
      try clear c17
      try clear hx17
      try clear hf17
      try clear c19
      try clear c19b0
      try clear c21
      try clear c21b0
      try clear c21b1
      try clear hx14_0
      try clear hx17_0
      try clear p1
      try clear p14
      try clear p2
      try clear p6
      try clear q1
      try clear q14
      obtain ⟨kq,x44_19,rfl,HA,HJ19,HO_7,HB⟩:=hcut
      cases kq with
      | zero=>exact absurd HA.out (by simp [yd_.j2])
      | succ kj19 =>
       have H:=HA.out
       clear HA
       simp only [yd_.j2] at H
       by_cases c22:x44_19=true
       ·subst c22
        have H1:(yd_.l1 kj19 l0 l1 (l0.length:Int) (l1.length:Int) x7_2 x8_1 (wrap64 (x9_2 - 1)))=some r:=by rw [if_pos rfl] at H;exact H
        clear H
        have H:=H1
        clear H1
        have H':=Aside0.mk H
        clear H
        go_wp2
        repeat (go_quiet (fail);try go_wp2)
        (try simp only [← hl7_2])
        go_roundg kj19
        case measure=>have:=HK1.out;have:=HK2.out;have:=HJ19.out;omega
        case rel=>exact ⟨(x7_2),(wrap64 (x9_2 - 1)),(by first|rfl|(simp;done)|(simp [*];done)),H',⟨by have:=HK1.out;have:=HK2.out;have:=HJ19.out;omega⟩,⟨by (try simp only [hl7_2]);(with_reducible repeat (first|apply Kd.yW_|apply Kd.yU_|apply Kd.S_drew));exact HO_7.out⟩,⟨by repeat (with_reducible first|exact HB.out|apply yc_|apply ya_|apply yb_)⟩⟩
       replace c22:=Bool.eq_false_iff.mpr c22
       subst c22
       have H1:(if 0≤(wrap64 (x8_1+1)) then (if (wrap64 (x8_1+1)) < (x7_2.length:Int) then (if 0≤x9_2 then (if x9_2 < ((rd_L6 x7_2 (wrap64 (x8_1+1))).length:Int) then (if 0≤x8_1 then (if x8_1 < (x7_2.length:Int) then (if 0≤(wrap64 (x9_2+1)) then (if (wrap64 (x9_2+1)) < ((rd_L6 x7_2 x8_1).length:Int) then (if (rd (rd_L6 x7_2 x8_1) (wrap64 (x9_2+1))) > (rd (rd_L6 x7_2 (wrap64 (x8_1+1))) x9_2) then (if x8_1 < (l0.length:Int) then (if x9_2 < (l1.length:Int) then (if (rdOf ByteArray.empty l0 x8_1).toList=(rdOf ByteArray.empty l1 x9_2).toList then (if (wrap64 (x9_2+1)) < ((rd_L6 x7_2 (wrap64 (x8_1+1))).length:Int) then (if (wrap64 ((rd (rd_L6 x7_2 (wrap64 (x8_1+1))) (wrap64 (x9_2+1)))+1)) > (rd (rd_L6 x7_2 x8_1) (wrap64 (x9_2+1))) then (if x9_2 < ((rd_L6 x7_2 x8_1).length:Int) then (yd_.l1 kj19 l0 l1 (l0.length:Int) (l1.length:Int) (x7_2.set (x8_1:Int).toNat ((rd_L6 x7_2 x8_1).set (x9_2:Int).toNat (wrap64 ((rd (rd_L6 x7_2 (wrap64 (x8_1+1))) (wrap64 (x9_2+1)))+1)))) x8_1 (wrap64 (x9_2 - 1))) else (none)) else (if x9_2 < ((rd_L6 x7_2 x8_1).length:Int) then (yd_.l1 kj19 l0 l1 (l0.length:Int) (l1.length:Int) (x7_2.set (x8_1:Int).toNat ((rd_L6 x7_2 x8_1).set (x9_2:Int).toNat (rd (rd_L6 x7_2 x8_1) (wrap64 (x9_2+1))))) x8_1 (wrap64 (x9_2 - 1))) else (none))) else (none)) else (if x9_2 < ((rd_L6 x7_2 x8_1).length:Int) then (yd_.l1 kj19 l0 l1 (l0.length:Int) (l1.length:Int) (x7_2.set (x8_1:Int).toNat ((rd_L6 x7_2 x8_1).set (x9_2:Int).toNat (rd (rd_L6 x7_2 x8_1) (wrap64 (x9_2+1))))) x8_1 (wrap64 (x9_2 - 1))) else (none))) else (none)) else (none)) else (if x8_1 < (l0.length:Int) then (if x9_2 < (l1.length:Int) then (if (rdOf ByteArray.empty l0 x8_1).toList=(rdOf ByteArray.empty l1 x9_2).toList then (if (wrap64 (x9_2+1)) < ((rd_L6 x7_2 (wrap64 (x8_1+1))).length:Int) then (if (wrap64 ((rd (rd_L6 x7_2 (wrap64 (x8_1+1))) (wrap64 (x9_2+1)))+1)) > (rd (rd_L6 x7_2 (wrap64 (x8_1+1))) x9_2) then (if x9_2 < ((rd_L6 x7_2 x8_1).length:Int) then (yd_.l1 kj19 l0 l1 (l0.length:Int) (l1.length:Int) (x7_2.set (x8_1:Int).toNat ((rd_L6 x7_2 x8_1).set (x9_2:Int).toNat (wrap64 ((rd (rd_L6 x7_2 (wrap64 (x8_1+1))) (wrap64 (x9_2+1)))+1)))) x8_1 (wrap64 (x9_2 - 1))) else (none)) else (if x9_2 < ((rd_L6 x7_2 x8_1).length:Int) then (yd_.l1 kj19 l0 l1 (l0.length:Int) (l1.length:Int) (x7_2.set (x8_1:Int).toNat ((rd_L6 x7_2 x8_1).set (x9_2:Int).toNat (rd (rd_L6 x7_2 (wrap64 (x8_1+1))) x9_2))) x8_1 (wrap64 (x9_2 - 1))) else (none))) else (none)) else (if x9_2 < ((rd_L6 x7_2 x8_1).length:Int) then (yd_.l1 kj19 l0 l1 (l0.length:Int) (l1.length:Int) (x7_2.set (x8_1:Int).toNat ((rd_L6 x7_2 x8_1).set (x9_2:Int).toNat (rd (rd_L6 x7_2 (wrap64 (x8_1+1))) x9_2))) x8_1 (wrap64 (x9_2 - 1))) else (none))) else (none)) else (none))) else (none)) else (none)) else (none)) else (none)) else (none)) else (none)) else (none)) else (none))=some r:=by rw [if_neg (show ¬ (false=true) by decide)] at H;exact H
       clear H
       have H:=H1
       clear H1
       obtain ⟨ji23,hji23⟩:∃ j_:Int,(wrap64 (x8_1+1))=j_:=⟨_,rfl⟩
       replace H:(if 0≤(ji23) then (if (ji23) < (x7_2.length:Int) then (if 0≤x9_2 then (if x9_2 < ((rd_L6 x7_2 (ji23)).length:Int) then (if 0≤x8_1 then (if x8_1 < (x7_2.length:Int) then (if 0≤(wrap64 (x9_2+1)) then (if (wrap64 (x9_2+1)) < ((rd_L6 x7_2 x8_1).length:Int) then (if (rd (rd_L6 x7_2 x8_1) (wrap64 (x9_2+1))) > (rd (rd_L6 x7_2 (ji23)) x9_2) then (if x8_1 < (l0.length:Int) then (if x9_2 < (l1.length:Int) then (if (rdOf ByteArray.empty l0 x8_1).toList=(rdOf ByteArray.empty l1 x9_2).toList then (if (wrap64 (x9_2+1)) < ((rd_L6 x7_2 (ji23)).length:Int) then (if (wrap64 ((rd (rd_L6 x7_2 (ji23)) (wrap64 (x9_2+1)))+1)) > (rd (rd_L6 x7_2 x8_1) (wrap64 (x9_2+1))) then (if x9_2 < ((rd_L6 x7_2 x8_1).length:Int) then (yd_.l1 kj19 l0 l1 (l0.length:Int) (l1.length:Int) (x7_2.set (x8_1:Int).toNat ((rd_L6 x7_2 x8_1).set (x9_2:Int).toNat (wrap64 ((rd (rd_L6 x7_2 (ji23)) (wrap64 (x9_2+1)))+1)))) x8_1 (wrap64 (x9_2 - 1))) else (none)) else (if x9_2 < ((rd_L6 x7_2 x8_1).length:Int) then (yd_.l1 kj19 l0 l1 (l0.length:Int) (l1.length:Int) (x7_2.set (x8_1:Int).toNat ((rd_L6 x7_2 x8_1).set (x9_2:Int).toNat (rd (rd_L6 x7_2 x8_1) (wrap64 (x9_2+1))))) x8_1 (wrap64 (x9_2 - 1))) else (none))) else (none)) else (if x9_2 < ((rd_L6 x7_2 x8_1).length:Int) then (yd_.l1 kj19 l0 l1 (l0.length:Int) (l1.length:Int) (x7_2.set (x8_1:Int).toNat ((rd_L6 x7_2 x8_1).set (x9_2:Int).toNat (rd (rd_L6 x7_2 x8_1) (wrap64 (x9_2+1))))) x8_1 (wrap64 (x9_2 - 1))) else (none))) else (none)) else (none)) else (if x8_1 < (l0.length:Int) then (if x9_2 < (l1.length:Int) then (if (rdOf ByteArray.empty l0 x8_1).toList=(rdOf ByteArray.empty l1 x9_2).toList then (if (wrap64 (x9_2+1)) < ((rd_L6 x7_2 (ji23)).length:Int) then (if (wrap64 ((rd (rd_L6 x7_2 (ji23)) (wrap64 (x9_2+1)))+1)) > (rd (rd_L6 x7_2 (ji23)) x9_2) then (if x9_2 < ((rd_L6 x7_2 x8_1).length:Int) then (yd_.l1 kj19 l0 l1 (l0.length:Int) (l1.length:Int) (x7_2.set (x8_1:Int).toNat ((rd_L6 x7_2 x8_1).set (x9_2:Int).toNat (wrap64 ((rd (rd_L6 x7_2 (ji23)) (wrap64 (x9_2+1)))+1)))) x8_1 (wrap64 (x9_2 - 1))) else (none)) else (if x9_2 < ((rd_L6 x7_2 x8_1).length:Int) then (yd_.l1 kj19 l0 l1 (l0.length:Int) (l1.length:Int) (x7_2.set (x8_1:Int).toNat ((rd_L6 x7_2 x8_1).set (x9_2:Int).toNat (rd (rd_L6 x7_2 (ji23)) x9_2))) x8_1 (wrap64 (x9_2 - 1))) else (none))) else (none)) else (if x9_2 < ((rd_L6 x7_2 x8_1).length:Int) then (yd_.l1 kj19 l0 l1 (l0.length:Int) (l1.length:Int) (x7_2.set (x8_1:Int).toNat ((rd_L6 x7_2 x8_1).set (x9_2:Int).toNat (rd (rd_L6 x7_2 (ji23)) x9_2))) x8_1 (wrap64 (x9_2 - 1))) else (none))) else (none)) else (none))) else (none)) else (none)) else (none)) else (none)) else (none)) else (none)) else (none)) else (none))=some r:=by first|(rw [hji23] at H;exact H)|(simp only [hji23] at H ⊢;exact H)
       have hji23w:(IntKind.i64.wrap (x8_1+1))=ji23:=(i64_w _).trans hji23
       by_cases c24:0≤(ji23)
       rotate_left
       ·rw [if_neg c24] at H
        exact absurd H (by simp)
       rw [if_pos c24] at H
       have c24b0:decide (0≤(ji23))=true:=decide_eq_true c24
       clear c24
       by_cases c25:(ji23) < (x7_2.length:Int)
       rotate_left
       ·rw [if_neg c25] at H
        exact absurd H (by simp)
       rw [if_pos c25] at H
       have c25b0:decide ((ji23) < (x7_2.length:Int))=true:=decide_eq_true c25
       clear c25
       by_cases c26:0≤x9_2
       rotate_left
       ·rw [if_neg c26] at H
        exact absurd H (by simp)
       rw [if_pos c26] at H
       have c26b0:decide (0≤x9_2)=true:=decide_eq_true c26
       clear c26
       by_cases c27:x9_2 < ((rd_L6 x7_2 (ji23)).length:Int)
       rotate_left
       ·rw [if_neg c27] at H
        exact absurd H (by simp)
       rw [if_pos c27] at H
       have c27b0:decide (x9_2 < ((rd_L6 x7_2 (ji23)).length:Int))=true:=decide_eq_true c27
       clear c27
       by_cases c28:0≤x8_1
       rotate_left
       ·rw [if_neg c28] at H
        exact absurd H (by simp)
       rw [if_pos c28] at H
       have c28b0:decide (0≤x8_1)=true:=decide_eq_true c28
       clear c28
       by_cases c29:x8_1 < (x7_2.length:Int)
       rotate_left
       ·rw [if_neg c29] at H
        exact absurd H (by simp)
       rw [if_pos c29] at H
       have c29b0:decide (x8_1 < (x7_2.length:Int))=true:=decide_eq_true c29
       clear c29
       obtain ⟨ji30,hji30⟩:∃ j_:Int,(wrap64 (x9_2+1))=j_:=⟨_,rfl⟩
       replace H:(if 0≤(ji30) then (if (ji30) < ((rd_L6 x7_2 x8_1).length:Int) then (if (rd (rd_L6 x7_2 x8_1) (ji30)) > (rd (rd_L6 x7_2 (ji23)) x9_2) then (if x8_1 < (l0.length:Int) then (if x9_2 < (l1.length:Int) then (if (rdOf ByteArray.empty l0 x8_1).toList=(rdOf ByteArray.empty l1 x9_2).toList then (if (ji30) < ((rd_L6 x7_2 (ji23)).length:Int) then (if (wrap64 ((rd (rd_L6 x7_2 (ji23)) (ji30))+1)) > (rd (rd_L6 x7_2 x8_1) (ji30)) then (if x9_2 < ((rd_L6 x7_2 x8_1).length:Int) then (yd_.l1 kj19 l0 l1 (l0.length:Int) (l1.length:Int) (x7_2.set (x8_1:Int).toNat ((rd_L6 x7_2 x8_1).set (x9_2:Int).toNat (wrap64 ((rd (rd_L6 x7_2 (ji23)) (ji30))+1)))) x8_1 (wrap64 (x9_2 - 1))) else (none)) else (if x9_2 < ((rd_L6 x7_2 x8_1).length:Int) then (yd_.l1 kj19 l0 l1 (l0.length:Int) (l1.length:Int) (x7_2.set (x8_1:Int).toNat ((rd_L6 x7_2 x8_1).set (x9_2:Int).toNat (rd (rd_L6 x7_2 x8_1) (ji30)))) x8_1 (wrap64 (x9_2 - 1))) else (none))) else (none)) else (if x9_2 < ((rd_L6 x7_2 x8_1).length:Int) then (yd_.l1 kj19 l0 l1 (l0.length:Int) (l1.length:Int) (x7_2.set (x8_1:Int).toNat ((rd_L6 x7_2 x8_1).set (x9_2:Int).toNat (rd (rd_L6 x7_2 x8_1) (ji30)))) x8_1 (wrap64 (x9_2 - 1))) else (none))) else (none)) else (none)) else (if x8_1 < (l0.length:Int) then (if x9_2 < (l1.length:Int) then (if (rdOf ByteArray.empty l0 x8_1).toList=(rdOf ByteArray.empty l1 x9_2).toList then (if (ji30) < ((rd_L6 x7_2 (ji23)).length:Int) then (if (wrap64 ((rd (rd_L6 x7_2 (ji23)) (ji30))+1)) > (rd (rd_L6 x7_2 (ji23)) x9_2) then (if x9_2 < ((rd_L6 x7_2 x8_1).length:Int) then (yd_.l1 kj19 l0 l1 (l0.length:Int) (l1.length:Int) (x7_2.set (x8_1:Int).toNat ((rd_L6 x7_2 x8_1).set (x9_2:Int).toNat (wrap64 ((rd (rd_L6 x7_2 (ji23)) (ji30))+1)))) x8_1 (wrap64 (x9_2 - 1))) else (none)) else (if x9_2 < ((rd_L6 x7_2 x8_1).length:Int) then (yd_.l1 kj19 l0 l1 (l0.length:Int) (l1.length:Int) (x7_2.set (x8_1:Int).toNat ((rd_L6 x7_2 x8_1).set (x9_2:Int).toNat (rd (rd_L6 x7_2 (ji23)) x9_2))) x8_1 (wrap64 (x9_2 - 1))) else (none))) else (none)) else (if x9_2 < ((rd_L6 x7_2 x8_1).length:Int) then (yd_.l1 kj19 l0 l1 (l0.length:Int) (l1.length:Int) (x7_2.set (x8_1:Int).toNat ((rd_L6 x7_2 x8_1).set (x9_2:Int).toNat (rd (rd_L6 x7_2 (ji23)) x9_2))) x8_1 (wrap64 (x9_2 - 1))) else (none))) else (none)) else (none))) else (none)) else (none))=some r:=by first|(rw [hji30] at H;exact H)|(simp only [hji30] at H ⊢;exact H)
       have hji30w:(IntKind.i64.wrap (x9_2+1))=ji30:=(i64_w _).trans hji30
       by_cases c31:0≤(ji30)
       rotate_left
       ·rw [if_neg c31] at H
        exact absurd H (by simp)
       rw [if_pos c31] at H
       have c31b0:decide (0≤(ji30))=true:=decide_eq_true c31
       clear c31
       by_cases c32:(ji30) < ((rd_L6 x7_2 x8_1).length:Int)
       rotate_left
       ·rw [if_neg c32] at H
        exact absurd H (by simp)
       rw [if_pos c32] at H
       have c32b0:decide ((ji30) < ((rd_L6 x7_2 x8_1).length:Int))=true:=decide_eq_true c32
       clear c32
       by_cases c33:(rd (rd_L6 x7_2 x8_1) (ji30)) > (rd (rd_L6 x7_2 (ji23)) x9_2)
       rotate_left
       ·rw [if_neg c33] at H
        have c33b0:decide ((rd (rd_L6 x7_2 (ji23)) x9_2) < (rd (rd_L6 x7_2 x8_1) (ji30)))=false:=decide_eq_false c33
        clear c33
        by_cases c51:x8_1 < (l0.length:Int)
        rotate_left
        ·rw [if_neg c51] at H
         exact absurd H (by simp)
        rw [if_pos c51] at H
        have c51b0:decide (x8_1 < (l0.length:Int))=true:=decide_eq_true c51
        clear c51
        by_cases c52:x9_2 < (l1.length:Int)
        rotate_left
        ·rw [if_neg c52] at H
         exact absurd H (by simp)
        rw [if_pos c52] at H
        have c52b0:decide (x9_2 < (l1.length:Int))=true:=decide_eq_true c52
        clear c52
        by_cases c53:(rdOf ByteArray.empty l0 x8_1).toList=(rdOf ByteArray.empty l1 x9_2).toList
        rotate_left
        ·rw [if_neg c53] at H
         have c53b0:((rdOf ByteArray.empty l0 x8_1).toList == (rdOf ByteArray.empty l1 x9_2).toList)=false:=beq_eq_false_iff_ne.mpr c53
         have c53b1:((rdOf ByteArray.empty l0 x8_1).toList != (rdOf ByteArray.empty l1 x9_2).toList)=true:=bne_iff_ne.mpr c53
         by_cases c64:x9_2 < ((rd_L6 x7_2 x8_1).length:Int)
         rotate_left
         ·rw [if_neg c64] at H
          exact absurd H (by simp)
         rw [if_pos c64] at H
         have c64b0:decide (x9_2 < ((rd_L6 x7_2 x8_1).length:Int))=true:=decide_eq_true c64
         clear c64
         obtain ⟨y248,hy248⟩:∃ y_:List Int,y_=((rd_L6 x7_2 x8_1).set (x9_2:Int).toNat (rd (rd_L6 x7_2 (ji23)) x9_2)):=⟨_,rfl⟩
         replace H:(yd_.l1 kj19 l0 l1 (l0.length:Int) (l1.length:Int) (x7_2.set (x8_1:Int).toNat y248) x8_1 (wrap64 (x9_2 - 1)))=some r:=by first|(rw [hy248];with_reducible exact H)|(have H2_:=(Option.bind_some _ _).symm.trans H;rw [hy248];with_reducible exact H2_)|(have H2_:=(Option.bind_some _ _).symm.trans H;with_reducible exact H2_)|with_reducible exact H|(rw [hy248];exact H)|exact H
         have Ny248:=Aside0.mk hy248
         clear hy248
         obtain ⟨y250,hy250⟩:∃ y_:List (List Int),y_=(x7_2.set (x8_1:Int).toNat y248):=⟨_,rfl⟩
         replace H:(yd_.l1 kj19 l0 l1 (l0.length:Int) (l1.length:Int) y250 x8_1 (wrap64 (x9_2 - 1)))=some r:=by first|(rw [hy250];with_reducible exact H)|(have H2_:=(Option.bind_some _ _).symm.trans H;rw [hy250];with_reducible exact H2_)|(have H2_:=(Option.bind_some _ _).symm.trans H;with_reducible exact H2_)|with_reducible exact H|(rw [hy250];exact H)|exact H
         have Ny250:=Aside0.mk hy250
         clear hy250
         have H':=Aside0.mk H
         clear H
         have p209:0≤((ji23):Int):=of_decide_eq_true (by assumption)
         have q209:(ji23) < (x7_2.length:Int):=of_decide_eq_true (by assumption)
         obtain ⟨ad209,A209_0,c209_0,e209,hx209_0,hl209_0,hi209_0⟩:=at_L6 (Kd.yy_ HO_7.out).2.2 (ji23) p209 q209
         obtain rfl:(⟨go14,0,none⟩:Addr)=ad209:=(by injection e209)
         obtain ⟨ce209,hce209,hMe209,hcc209⟩:=Kd.S_get HO_7.out [] (ji23) p209 (by first|exact q209|exact of_decide_eq_true (by assumption)|(have e_:=(Kd.yy_ HO_7.out).1;omega))
         obtain ⟨ve209_0,rfl,ge209_0⟩:=hMe209
         have hv209_0:=hcc209 0 _ rfl
         rw [Nat.add_zero,show ((Kd.slice 3 (Kd.int .i64))).sz=1 from rfl,Nat.mul_one] at hv209_0
         replace hv209_0:=Option.some.inj (hv209_0.symm.trans hx209_0)
         rw [hv209_0] at ge209_0
         have HL209_0:=Aside0.mk (show Kd.R (Kd.int .i64) 3 _ _ _ _ (rd_L6 x7_2 (ji23)) from ge209_0)
         clear hv209_0 ge209_0
         have HX209_0:=Aside0.mk hx209_0
         clear hcc209 hce209
         (first|simp only [add_plain] at hx209_0|simp only [add_at] at hx209_0|simp only [Addr.add,Nat.zero_add] at hx209_0|skip)
         have HR209_0:=Aside0.mk hi209_0
         have HC209_0:=Aside0.mk hl209_0
         clear hi209_0 hl209_0
         replace p209:=eq_true p209
         replace q209:=eq_true q209
         have p210:0≤(x9_2:Int):=of_decide_eq_true (by assumption)
         have q210:x9_2 < ((rd_L6 x7_2 (ji23)).length:Int):=of_decide_eq_true (by assumption)
         obtain ⟨ad210,e210,hx210_0⟩:=Kd.at_int (by repeat (first|(with_reducible exact HR209_0.out)|(with_reducible refine Kd.yK_ ?_ _)|(with_reducible refine Kd.y1_ ?_ _)|(with_reducible refine Kd.C_drew ?_)|exact HR209_0.out)) x9_2 p210 q210
         cases e210
         replace p210:=eq_true p210
         replace q210:=eq_true q210
         have p211:0≤(x8_1:Int):=of_decide_eq_true (by assumption)
         have q211:x8_1 < (x7_2.length:Int):=of_decide_eq_true (by assumption)
         obtain ⟨ad211,A211_0,c211_0,e211,hx211_0,hl211_0,hi211_0⟩:=at_L6 (Kd.yy_ HO_7.out).2.2 x8_1 p211 q211
         obtain rfl:(⟨go14,0,none⟩:Addr)=ad211:=(by injection e211)
         obtain ⟨ce211,hce211,hMe211,hcc211⟩:=Kd.S_get HO_7.out [] x8_1 p211 (by first|exact q211|exact of_decide_eq_true (by assumption)|(have e_:=(Kd.yy_ HO_7.out).1;omega))
         obtain ⟨ve211_0,rfl,ge211_0⟩:=hMe211
         have hv211_0:=hcc211 0 _ rfl
         rw [Nat.add_zero,show ((Kd.slice 3 (Kd.int .i64))).sz=1 from rfl,Nat.mul_one] at hv211_0
         replace hv211_0:=Option.some.inj (hv211_0.symm.trans hx211_0)
         rw [hv211_0] at ge211_0
         have HL211_0:=Aside0.mk (show Kd.R (Kd.int .i64) 3 _ _ _ _ (rd_L6 x7_2 x8_1) from ge211_0)
         clear hv211_0 ge211_0
         have HX211_0:=Aside0.mk hx211_0
         clear hcc211 hce211
         (first|simp only [add_plain] at hx211_0|simp only [add_at] at hx211_0|simp only [Addr.add,Nat.zero_add] at hx211_0|skip)
         have HR211_0:=Aside0.mk hi211_0
         have HC211_0:=Aside0.mk hl211_0
         clear hi211_0 hl211_0
         replace p211:=eq_true p211
         replace q211:=eq_true q211
         have p212:0≤((ji30):Int):=of_decide_eq_true (by assumption)
         have q212:(ji30) < ((rd_L6 x7_2 x8_1).length:Int):=of_decide_eq_true (by assumption)
         obtain ⟨ad212,e212,hx212_0⟩:=Kd.at_int (by repeat (first|(with_reducible exact HR211_0.out)|(with_reducible refine Kd.yK_ ?_ _)|(with_reducible refine Kd.y1_ ?_ _)|(with_reducible refine Kd.C_drew ?_)|exact HR211_0.out)) (ji30) p212 q212
         cases e212
         replace p212:=eq_true p212
         replace q212:=eq_true q212
         have p233:0≤(x8_1:Int):=of_decide_eq_true (by assumption)
         have q233:x8_1 < (l0.length:Int):=of_decide_eq_true (by assumption)
         obtain ⟨ad233,e233,hx233_0⟩:=Kd.yZ_ HR0.out x8_1 p233 q233
         cases e233
         replace hx233_0:=(HB.out.cell (World.block_lt_of_cell? w _ hx233_0)).trans hx233_0
         replace p233:=eq_true p233
         replace q233:=eq_true q233
         have p234:0≤(x9_2:Int):=of_decide_eq_true (by assumption)
         have q234:x9_2 < (l1.length:Int):=of_decide_eq_true (by assumption)
         obtain ⟨ad234,e234,hx234_0⟩:=Kd.yZ_ HR1.out x9_2 p234 q234
         cases e234
         replace hx234_0:=(HB.out.cell (World.block_lt_of_cell? w _ hx234_0)).trans hx234_0
         replace p234:=eq_true p234
         replace q234:=eq_true q234
         have p247:0≤(x8_1:Int):=of_decide_eq_true (by assumption)
         have q247:x8_1 < (x7_2.length:Int):=of_decide_eq_true (by assumption)
         obtain ⟨ad247,A247_0,c247_0,e247,hx247_0,hl247_0,hi247_0⟩:=at_L6 (Kd.yy_ HO_7.out).2.2 x8_1 p247 q247
         obtain rfl:(⟨go14,0,none⟩:Addr)=ad247:=(by injection e247)
         obtain ⟨ce247,hce247,hMe247,hcc247⟩:=Kd.S_get HO_7.out [] x8_1 p247 (by first|exact q247|exact of_decide_eq_true (by assumption)|(have e_:=(Kd.yy_ HO_7.out).1;omega))
         obtain ⟨ve247_0,rfl,ge247_0⟩:=hMe247
         have hv247_0:=hcc247 0 _ rfl
         rw [Nat.add_zero,show ((Kd.slice 3 (Kd.int .i64))).sz=1 from rfl,Nat.mul_one] at hv247_0
         replace hv247_0:=Option.some.inj (hv247_0.symm.trans hx247_0)
         rw [hv247_0] at ge247_0
         have HL247_0:=Aside0.mk (show Kd.R (Kd.int .i64) 3 _ _ _ _ (rd_L6 x7_2 x8_1) from ge247_0)
         clear hv247_0 ge247_0
         have HX247_0:=Aside0.mk hx247_0
         clear hcc247 hce247
         (first|simp only [add_plain] at hx247_0|simp only [add_at] at hx247_0|simp only [Addr.add,Nat.zero_add] at hx247_0|skip)
         have HR247_0:=Aside0.mk hi247_0
         have HC247_0:=Aside0.mk hl247_0
         clear hi247_0 hl247_0
         replace p247:=eq_true p247
         replace q247:=eq_true q247
         have ea_:=Option.some.inj (hx211_0.symm.trans hx247_0)
         injection ea_ with ea_ en_ ec_
         subst ea_
         subst ec_
         clear en_
         have p65:0≤(x9_2:Int):=of_decide_eq_true (by assumption)
         have q65:(x9_2:Int) < (((rd_L6 x7_2 x8_1).length:Int):Int):=of_decide_eq_true (by assumption)
         obtain ⟨go65,co65,eo65,gb65,gl65,cl65,HG65⟩:=Kd.R_form HL247_0.out (by omega)
         (first|cases eo65|(injection eo65 with ea_ en_ ec_;(first|subst ea_|(injection ea_ with ea_;subst ea_));subst ec_;clear en_))
         have GB65:=Aside0.mk gb65
         have GG65:=Aside0.mk HG65
         clear gb65 gl65 HG65
         (first|simp only [add_plain] at hx212_0|skip)
         obtain ⟨hx65_0,hf65_0⟩:=Kd.ykb_ 0 HL247_0.out (x9_2:Int) p65 q65
         replace p65:=eq_true p65
         replace q65:=eq_true q65
         have hq66:(x8_1:Int) < (x7_2.length:Int):=(by have h_:(x8_1:Int) < ((x7_2.length:Int):Int):=of_decide_eq_true (by assumption);first|exact h_|(have e_:=(Kd.yy_ HO_7.out).1;omega)|simpa only [List.length_set,List.length_set] using h_)
         obtain ⟨oki66,ce66,hcl66,hM66,hcc66,hok66,hbk66⟩:=Kd.yhb_ HO_7.out [] (x8_1:Int) (of_decide_eq_true (by assumption)) hq66
         obtain ⟨ve66_0,rfl,ge66_0⟩:=hM66
         have hv66:=hcc66 0 _ rfl
         rw [Nat.add_zero,show ((Kd.slice 3 (Kd.int .i64))).sz=1 from rfl,Nat.mul_one] at hv66
         replace hv66:=Option.some.inj (hv66.symm.trans HX247_0.out)
         subst hv66
         clear hcc66 hcl66
         replace ge66_0:=(show Kd.R (Kd.int .i64) 3 _ _ _ _ (rd_L6 x7_2 x8_1) from ge66_0)
         have HP66:=Kd.R_putg ge66_0 (x9_2:Int) (rd (rd_L6 x7_2 (ji23)) x9_2)
         go_wp2_with (first|((with_reducible refine yM_ (t:=3) (p:=110) rfl ?_);(try (rw [y8_ wc];generalize hq_:World.drewN wc _=wc;have n0_:=Aside0.mk (Kd.S_at hq_ HO_7.out);have nX_:=Aside0.mk (yBb_ hq_ HX247_0.out);have n2_:=Aside0.mk (ymb_ hq_ HB.out);clear hq_ HO_7 HB HX247_0;have HO_7:=n0_;have HX247_0:=nX_;have HB:=n2_;clear n0_ nX_ n2_;(try (have hq66:(x8_1:Int) < (x7_2.length:Int):=(by have h_:(x8_1:Int) < ((x7_2.length:Int):Int):=of_decide_eq_true (by assumption);first|exact h_|(have e_:=(Kd.yy_ HO_7.out).1;omega)|simpa only [List.length_set,List.length_set] using h_)));(try (obtain ⟨oki66,ce66,hcl66,hM66,hcc66,hok66,hbk66⟩:=Kd.yhb_ HO_7.out [] (x8_1:Int) (of_decide_eq_true (by assumption)) hq66));(try (obtain ⟨ve66_0,rfl,ge66_0⟩:=hM66));(try (have hv66:=hcc66 0 _ rfl));(try (rw [Nat.add_zero,show ((Kd.slice 3 (Kd.int .i64))).sz=1 from rfl,Nat.mul_one] at hv66));(try (replace hv66:=Option.some.inj (hv66.symm.trans HX247_0.out)));(try (subst hv66));(try (clear hcc66 hcl66));(try (replace ge66_0:=(show Kd.R (Kd.int .i64) 3 _ _ _ _ (rd_L6 x7_2 x8_1) from ge66_0)));(try (have HP66:=Kd.R_putg ge66_0 (x9_2:Int) (rd (rd_L6 x7_2 (ji23)) x9_2)));(try (obtain ⟨hx65_0,hf65_0⟩:=Kd.ykb_ 0 ge66_0 (x9_2:Int) (of_eq_true p65) (of_eq_true q65)))));refine yH_ (t:=3) (p:=110) (v:=?vo_w67) (w1:=(wc.setCell ⟨go65,(x9_2:Int).toNat,none⟩ (.int .i64 (rd (rd_L6 x7_2 (ji23)) x9_2)))) ?hg ?ho ?hn ?hr ?_;(case ho=>rfl);(case hg=>rfl);(case hn=>rfl);(case hr=>(try obtain ⟨As_,cs_,rfl⟩:=Kd.yC_ HO207.out);first|(go_simp;done)|(go_simp;rfl));intro w67 hw;have hg:wc.grownBy w67 (some go65):=(by rw [hw];exact HP66.2);have hz_:Kd.R (Kd.int .i64) 3 w67 w.heap.size oki66 (.slice (some ⟨go65,0,none⟩) (rd_L6 x7_2 x8_1).length c211_0) y248:=(by rw [hw,Ny248.out];exact HP66.1);have hp_:Kd.S (Kd.slice 3 (Kd.int .i64)) 43 w67 w.heap.size (fun _=>True) (.slice (some ⟨go14,0,none⟩) x7_2.length co14) y250:=(by rw [Ny250.out];exact hbk66 hg (fun k_ e_=>by injection e_ with e_;subst e_;exact ge66_0.1 _ rfl) (Kd.M_row hz_));have hm_:=Kd.R_mono hz_ hok66;clear HP66 hbk66;have n0_:=Aside0.mk (hp_);have n1_:=Aside0.mk ((by rw [hw];exact yo_ (HB.out) GB65.out:Below w.heap.size w w67));have n2_:=Aside0.mk (hm_);have n3_:=Aside0.mk ((Kd.ys_ hm_).2.1);clear HO_7;clear HB;clear HL209_0;clear HL211_0;clear HL247_0;have HO_7:=n0_;have HB:=n1_;have HL282:=n2_;have HC249:=n3_;clear n0_ n1_ n2_ n3_;clear hg hw hp_ hz_ hm_ hok66))
         repeat (go_quiet (first|((with_reducible refine yM_ (t:=3) (p:=110) rfl ?_);(try (rw [y8_ wc];generalize hq_:World.drewN wc _=wc;have n0_:=Aside0.mk (Kd.S_at hq_ HO_7.out);have nX_:=Aside0.mk (yBb_ hq_ HX247_0.out);have n2_:=Aside0.mk (ymb_ hq_ HB.out);clear hq_ HO_7 HB HX247_0;have HO_7:=n0_;have HX247_0:=nX_;have HB:=n2_;clear n0_ nX_ n2_;(try (have hq66:(x8_1:Int) < (x7_2.length:Int):=(by have h_:(x8_1:Int) < ((x7_2.length:Int):Int):=of_decide_eq_true (by assumption);first|exact h_|(have e_:=(Kd.yy_ HO_7.out).1;omega)|simpa only [List.length_set,List.length_set] using h_)));(try (obtain ⟨oki66,ce66,hcl66,hM66,hcc66,hok66,hbk66⟩:=Kd.yhb_ HO_7.out [] (x8_1:Int) (of_decide_eq_true (by assumption)) hq66));(try (obtain ⟨ve66_0,rfl,ge66_0⟩:=hM66));(try (have hv66:=hcc66 0 _ rfl));(try (rw [Nat.add_zero,show ((Kd.slice 3 (Kd.int .i64))).sz=1 from rfl,Nat.mul_one] at hv66));(try (replace hv66:=Option.some.inj (hv66.symm.trans HX247_0.out)));(try (subst hv66));(try (clear hcc66 hcl66));(try (replace ge66_0:=(show Kd.R (Kd.int .i64) 3 _ _ _ _ (rd_L6 x7_2 x8_1) from ge66_0)));(try (have HP66:=Kd.R_putg ge66_0 (x9_2:Int) (rd (rd_L6 x7_2 (ji23)) x9_2)));(try (obtain ⟨hx65_0,hf65_0⟩:=Kd.ykb_ 0 ge66_0 (x9_2:Int) (of_eq_true p65) (of_eq_true q65)))));refine yH_ (t:=3) (p:=110) (v:=?vo_w67) (w1:=(wc.setCell ⟨go65,(x9_2:Int).toNat,none⟩ (.int .i64 (rd (rd_L6 x7_2 (ji23)) x9_2)))) ?hg ?ho ?hn ?hr ?_;(case ho=>rfl);(case hg=>rfl);(case hn=>rfl);(case hr=>(try obtain ⟨As_,cs_,rfl⟩:=Kd.yC_ HO207.out);first|(go_simp;done)|(go_simp;rfl));intro w67 hw;have hg:wc.grownBy w67 (some go65):=(by rw [hw];exact HP66.2);have hz_:Kd.R (Kd.int .i64) 3 w67 w.heap.size oki66 (.slice (some ⟨go65,0,none⟩) (rd_L6 x7_2 x8_1).length c211_0) y248:=(by rw [hw,Ny248.out];exact HP66.1);have hp_:Kd.S (Kd.slice 3 (Kd.int .i64)) 43 w67 w.heap.size (fun _=>True) (.slice (some ⟨go14,0,none⟩) x7_2.length co14) y250:=(by rw [Ny250.out];exact hbk66 hg (fun k_ e_=>by injection e_ with e_;subst e_;exact ge66_0.1 _ rfl) (Kd.M_row hz_));have hm_:=Kd.R_mono hz_ hok66;clear HP66 hbk66;have n0_:=Aside0.mk (hp_);have n1_:=Aside0.mk ((by rw [hw];exact yo_ (HB.out) GB65.out:Below w.heap.size w w67));have n2_:=Aside0.mk (hm_);have n3_:=Aside0.mk ((Kd.ys_ hm_).2.1);clear HO_7;clear HB;clear HL209_0;clear HL211_0;clear HL247_0;have HO_7:=n0_;have HB:=n1_;have HL282:=n2_;have HC249:=n3_;clear n0_ n1_ n2_ n3_;clear hg hw hp_ hz_ hm_ hok66));try go_wp2_with (first|((with_reducible refine yM_ (t:=3) (p:=110) rfl ?_);(try (rw [y8_ wc];generalize hq_:World.drewN wc _=wc;have n0_:=Aside0.mk (Kd.S_at hq_ HO_7.out);have nX_:=Aside0.mk (yBb_ hq_ HX247_0.out);have n2_:=Aside0.mk (ymb_ hq_ HB.out);clear hq_ HO_7 HB HX247_0;have HO_7:=n0_;have HX247_0:=nX_;have HB:=n2_;clear n0_ nX_ n2_;(try (have hq66:(x8_1:Int) < (x7_2.length:Int):=(by have h_:(x8_1:Int) < ((x7_2.length:Int):Int):=of_decide_eq_true (by assumption);first|exact h_|(have e_:=(Kd.yy_ HO_7.out).1;omega)|simpa only [List.length_set,List.length_set] using h_)));(try (obtain ⟨oki66,ce66,hcl66,hM66,hcc66,hok66,hbk66⟩:=Kd.yhb_ HO_7.out [] (x8_1:Int) (of_decide_eq_true (by assumption)) hq66));(try (obtain ⟨ve66_0,rfl,ge66_0⟩:=hM66));(try (have hv66:=hcc66 0 _ rfl));(try (rw [Nat.add_zero,show ((Kd.slice 3 (Kd.int .i64))).sz=1 from rfl,Nat.mul_one] at hv66));(try (replace hv66:=Option.some.inj (hv66.symm.trans HX247_0.out)));(try (subst hv66));(try (clear hcc66 hcl66));(try (replace ge66_0:=(show Kd.R (Kd.int .i64) 3 _ _ _ _ (rd_L6 x7_2 x8_1) from ge66_0)));(try (have HP66:=Kd.R_putg ge66_0 (x9_2:Int) (rd (rd_L6 x7_2 (ji23)) x9_2)));(try (obtain ⟨hx65_0,hf65_0⟩:=Kd.ykb_ 0 ge66_0 (x9_2:Int) (of_eq_true p65) (of_eq_true q65)))));refine yH_ (t:=3) (p:=110) (v:=?vo_w67) (w1:=(wc.setCell ⟨go65,(x9_2:Int).toNat,none⟩ (.int .i64 (rd (rd_L6 x7_2 (ji23)) x9_2)))) ?hg ?ho ?hn ?hr ?_;(case ho=>rfl);(case hg=>rfl);(case hn=>rfl);(case hr=>(try obtain ⟨As_,cs_,rfl⟩:=Kd.yC_ HO207.out);first|(go_simp;done)|(go_simp;rfl));intro w67 hw;have hg:wc.grownBy w67 (some go65):=(by rw [hw];exact HP66.2);have hz_:Kd.R (Kd.int .i64) 3 w67 w.heap.size oki66 (.slice (some ⟨go65,0,none⟩) (rd_L6 x7_2 x8_1).length c211_0) y248:=(by rw [hw,Ny248.out];exact HP66.1);have hp_:Kd.S (Kd.slice 3 (Kd.int .i64)) 43 w67 w.heap.size (fun _=>True) (.slice (some ⟨go14,0,none⟩) x7_2.length co14) y250:=(by rw [Ny250.out];exact hbk66 hg (fun k_ e_=>by injection e_ with e_;subst e_;exact ge66_0.1 _ rfl) (Kd.M_row hz_));have hm_:=Kd.R_mono hz_ hok66;clear HP66 hbk66;have n0_:=Aside0.mk (hp_);have n1_:=Aside0.mk ((by rw [hw];exact yo_ (HB.out) GB65.out:Below w.heap.size w w67));have n2_:=Aside0.mk (hm_);have n3_:=Aside0.mk ((Kd.ys_ hm_).2.1);clear HO_7;clear HB;clear HL209_0;clear HL211_0;clear HL247_0;have HO_7:=n0_;have HB:=n1_;have HL282:=n2_;have HC249:=n3_;clear n0_ n1_ n2_ n3_;clear hg hw hp_ hz_ hm_ hok66)))
         (try simp only [← hl7_2])
         go_roundg kj19
         case measure=>have:=HK1.out;have:=HK2.out;have:=HJ19.out;omega
         case rel=>exact ⟨(y250),(wrap64 (x9_2 - 1)),(by first|rfl|(simp;done)|(simp [*];done)),H',⟨by have:=HK1.out;have:=HK2.out;have:=HJ19.out;omega⟩,⟨by (try simp only [hl7_2]);(with_reducible repeat (first|apply Kd.yW_|apply Kd.yU_|apply Kd.S_drew));exact HO_7.out⟩,⟨by repeat (with_reducible first|exact HB.out|apply yc_|apply ya_|apply yb_)⟩⟩
        rw [if_pos c53] at H
        have c53b0:((rdOf ByteArray.empty l0 x8_1).toList == (rdOf ByteArray.empty l1 x9_2).toList)=true:=beq_iff_eq.mpr c53
        have c53b1:((rdOf ByteArray.empty l0 x8_1).toList != (rdOf ByteArray.empty l1 x9_2).toList)=false:=bne_eq_false_iff_eq.mpr c53
        clear c53
        by_cases c54:(ji30) < ((rd_L6 x7_2 (ji23)).length:Int)
        rotate_left
        ·rw [if_neg c54] at H
         exact absurd H (by simp)
        rw [if_pos c54] at H
        have c54b0:decide ((ji30) < ((rd_L6 x7_2 (ji23)).length:Int))=true:=decide_eq_true c54
        clear c54
        by_cases c55:(wrap64 ((rd (rd_L6 x7_2 (ji23)) (ji30))+1)) > (rd (rd_L6 x7_2 (ji23)) x9_2)
        rotate_left
        ·rw [if_neg c55] at H
         have c55b0:decide ((rd (rd_L6 x7_2 (ji23)) x9_2) < (wrap64 ((rd (rd_L6 x7_2 (ji23)) (ji30))+1)))=false:=decide_eq_false c55
         clear c55
         by_cases c60:x9_2 < ((rd_L6 x7_2 x8_1).length:Int)
         rotate_left
         ·rw [if_neg c60] at H
          exact absurd H (by simp)
         rw [if_pos c60] at H
         have c60b0:decide (x9_2 < ((rd_L6 x7_2 x8_1).length:Int))=true:=decide_eq_true c60
         clear c60
         obtain ⟨y244,hy244⟩:∃ y_:List Int,y_=((rd_L6 x7_2 x8_1).set (x9_2:Int).toNat (rd (rd_L6 x7_2 (ji23)) x9_2)):=⟨_,rfl⟩
         replace H:(yd_.l1 kj19 l0 l1 (l0.length:Int) (l1.length:Int) (x7_2.set (x8_1:Int).toNat y244) x8_1 (wrap64 (x9_2 - 1)))=some r:=by first|(rw [hy244];with_reducible exact H)|(have H2_:=(Option.bind_some _ _).symm.trans H;rw [hy244];with_reducible exact H2_)|(have H2_:=(Option.bind_some _ _).symm.trans H;with_reducible exact H2_)|with_reducible exact H|(rw [hy244];exact H)|exact H
         have Ny244:=Aside0.mk hy244
         clear hy244
         obtain ⟨y246,hy246⟩:∃ y_:List (List Int),y_=(x7_2.set (x8_1:Int).toNat y244):=⟨_,rfl⟩
         replace H:(yd_.l1 kj19 l0 l1 (l0.length:Int) (l1.length:Int) y246 x8_1 (wrap64 (x9_2 - 1)))=some r:=by first|(rw [hy246];with_reducible exact H)|(have H2_:=(Option.bind_some _ _).symm.trans H;rw [hy246];with_reducible exact H2_)|(have H2_:=(Option.bind_some _ _).symm.trans H;with_reducible exact H2_)|with_reducible exact H|(rw [hy246];exact H)|exact H
         have Ny246:=Aside0.mk hy246
         clear hy246
         have H':=Aside0.mk H
         clear H
         have p209:0≤((ji23):Int):=of_decide_eq_true (by assumption)
         have q209:(ji23) < (x7_2.length:Int):=of_decide_eq_true (by assumption)
         obtain ⟨ad209,A209_0,c209_0,e209,hx209_0,hl209_0,hi209_0⟩:=at_L6 (Kd.yy_ HO_7.out).2.2 (ji23) p209 q209
         obtain rfl:(⟨go14,0,none⟩:Addr)=ad209:=(by injection e209)
         obtain ⟨ce209,hce209,hMe209,hcc209⟩:=Kd.S_get HO_7.out [] (ji23) p209 (by first|exact q209|exact of_decide_eq_true (by assumption)|(have e_:=(Kd.yy_ HO_7.out).1;omega))
         obtain ⟨ve209_0,rfl,ge209_0⟩:=hMe209
         have hv209_0:=hcc209 0 _ rfl
         rw [Nat.add_zero,show ((Kd.slice 3 (Kd.int .i64))).sz=1 from rfl,Nat.mul_one] at hv209_0
         replace hv209_0:=Option.some.inj (hv209_0.symm.trans hx209_0)
         rw [hv209_0] at ge209_0
         have HL209_0:=Aside0.mk (show Kd.R (Kd.int .i64) 3 _ _ _ _ (rd_L6 x7_2 (ji23)) from ge209_0)
         clear hv209_0 ge209_0
         have HX209_0:=Aside0.mk hx209_0
         clear hcc209 hce209
         (first|simp only [add_plain] at hx209_0|simp only [add_at] at hx209_0|simp only [Addr.add,Nat.zero_add] at hx209_0|skip)
         have HR209_0:=Aside0.mk hi209_0
         have HC209_0:=Aside0.mk hl209_0
         clear hi209_0 hl209_0
         replace p209:=eq_true p209
         replace q209:=eq_true q209
         have p210:0≤(x9_2:Int):=of_decide_eq_true (by assumption)
         have q210:x9_2 < ((rd_L6 x7_2 (ji23)).length:Int):=of_decide_eq_true (by assumption)
         obtain ⟨ad210,e210,hx210_0⟩:=Kd.at_int (by repeat (first|(with_reducible exact HR209_0.out)|(with_reducible refine Kd.yK_ ?_ _)|(with_reducible refine Kd.y1_ ?_ _)|(with_reducible refine Kd.C_drew ?_)|exact HR209_0.out)) x9_2 p210 q210
         cases e210
         replace p210:=eq_true p210
         replace q210:=eq_true q210
         have p211:0≤(x8_1:Int):=of_decide_eq_true (by assumption)
         have q211:x8_1 < (x7_2.length:Int):=of_decide_eq_true (by assumption)
         obtain ⟨ad211,A211_0,c211_0,e211,hx211_0,hl211_0,hi211_0⟩:=at_L6 (Kd.yy_ HO_7.out).2.2 x8_1 p211 q211
         obtain rfl:(⟨go14,0,none⟩:Addr)=ad211:=(by injection e211)
         obtain ⟨ce211,hce211,hMe211,hcc211⟩:=Kd.S_get HO_7.out [] x8_1 p211 (by first|exact q211|exact of_decide_eq_true (by assumption)|(have e_:=(Kd.yy_ HO_7.out).1;omega))
         obtain ⟨ve211_0,rfl,ge211_0⟩:=hMe211
         have hv211_0:=hcc211 0 _ rfl
         rw [Nat.add_zero,show ((Kd.slice 3 (Kd.int .i64))).sz=1 from rfl,Nat.mul_one] at hv211_0
         replace hv211_0:=Option.some.inj (hv211_0.symm.trans hx211_0)
         rw [hv211_0] at ge211_0
         have HL211_0:=Aside0.mk (show Kd.R (Kd.int .i64) 3 _ _ _ _ (rd_L6 x7_2 x8_1) from ge211_0)
         clear hv211_0 ge211_0
         have HX211_0:=Aside0.mk hx211_0
         clear hcc211 hce211
         (first|simp only [add_plain] at hx211_0|simp only [add_at] at hx211_0|simp only [Addr.add,Nat.zero_add] at hx211_0|skip)
         have HR211_0:=Aside0.mk hi211_0
         have HC211_0:=Aside0.mk hl211_0
         clear hi211_0 hl211_0
         replace p211:=eq_true p211
         replace q211:=eq_true q211
         have p212:0≤((ji30):Int):=of_decide_eq_true (by assumption)
         have q212:(ji30) < ((rd_L6 x7_2 x8_1).length:Int):=of_decide_eq_true (by assumption)
         obtain ⟨ad212,e212,hx212_0⟩:=Kd.at_int (by repeat (first|(with_reducible exact HR211_0.out)|(with_reducible refine Kd.yK_ ?_ _)|(with_reducible refine Kd.y1_ ?_ _)|(with_reducible refine Kd.C_drew ?_)|exact HR211_0.out)) (ji30) p212 q212
         cases e212
         replace p212:=eq_true p212
         replace q212:=eq_true q212
         have p233:0≤(x8_1:Int):=of_decide_eq_true (by assumption)
         have q233:x8_1 < (l0.length:Int):=of_decide_eq_true (by assumption)
         obtain ⟨ad233,e233,hx233_0⟩:=Kd.yZ_ HR0.out x8_1 p233 q233
         cases e233
         replace hx233_0:=(HB.out.cell (World.block_lt_of_cell? w _ hx233_0)).trans hx233_0
         replace p233:=eq_true p233
         replace q233:=eq_true q233
         have p234:0≤(x9_2:Int):=of_decide_eq_true (by assumption)
         have q234:x9_2 < (l1.length:Int):=of_decide_eq_true (by assumption)
         obtain ⟨ad234,e234,hx234_0⟩:=Kd.yZ_ HR1.out x9_2 p234 q234
         cases e234
         replace hx234_0:=(HB.out.cell (World.block_lt_of_cell? w _ hx234_0)).trans hx234_0
         replace p234:=eq_true p234
         replace q234:=eq_true q234
         have p235:0≤((ji23):Int):=of_decide_eq_true (by assumption)
         have q235:(ji23) < (x7_2.length:Int):=of_decide_eq_true (by assumption)
         obtain ⟨ad235,A235_0,c235_0,e235,hx235_0,hl235_0,hi235_0⟩:=at_L6 (Kd.yy_ HO_7.out).2.2 (ji23) p235 q235
         obtain rfl:(⟨go14,0,none⟩:Addr)=ad235:=(by injection e235)
         obtain ⟨ce235,hce235,hMe235,hcc235⟩:=Kd.S_get HO_7.out [] (ji23) p235 (by first|exact q235|exact of_decide_eq_true (by assumption)|(have e_:=(Kd.yy_ HO_7.out).1;omega))
         obtain ⟨ve235_0,rfl,ge235_0⟩:=hMe235
         have hv235_0:=hcc235 0 _ rfl
         rw [Nat.add_zero,show ((Kd.slice 3 (Kd.int .i64))).sz=1 from rfl,Nat.mul_one] at hv235_0
         replace hv235_0:=Option.some.inj (hv235_0.symm.trans hx235_0)
         rw [hv235_0] at ge235_0
         have HL235_0:=Aside0.mk (show Kd.R (Kd.int .i64) 3 _ _ _ _ (rd_L6 x7_2 (ji23)) from ge235_0)
         clear hv235_0 ge235_0
         have HX235_0:=Aside0.mk hx235_0
         clear hcc235 hce235
         (first|simp only [add_plain] at hx235_0|simp only [add_at] at hx235_0|simp only [Addr.add,Nat.zero_add] at hx235_0|skip)
         have HR235_0:=Aside0.mk hi235_0
         have HC235_0:=Aside0.mk hl235_0
         clear hi235_0 hl235_0
         replace p235:=eq_true p235
         replace q235:=eq_true q235
         have ea_:=Option.some.inj (hx209_0.symm.trans hx235_0)
         injection ea_ with ea_ en_ ec_
         subst ea_
         subst ec_
         clear en_
         have p236:0≤((ji30):Int):=of_decide_eq_true (by assumption)
         have q236:(ji30) < ((rd_L6 x7_2 (ji23)).length:Int):=of_decide_eq_true (by assumption)
         obtain ⟨ad236,e236,hx236_0⟩:=Kd.at_int (by repeat (first|(with_reducible exact HR235_0.out)|(with_reducible refine Kd.yK_ ?_ _)|(with_reducible refine Kd.y1_ ?_ _)|(with_reducible refine Kd.C_drew ?_)|exact HR235_0.out)) (ji30) p236 q236
         cases e236
         replace p236:=eq_true p236
         replace q236:=eq_true q236
         have p243:0≤(x8_1:Int):=of_decide_eq_true (by assumption)
         have q243:x8_1 < (x7_2.length:Int):=of_decide_eq_true (by assumption)
         obtain ⟨ad243,A243_0,c243_0,e243,hx243_0,hl243_0,hi243_0⟩:=at_L6 (Kd.yy_ HO_7.out).2.2 x8_1 p243 q243
         obtain rfl:(⟨go14,0,none⟩:Addr)=ad243:=(by injection e243)
         obtain ⟨ce243,hce243,hMe243,hcc243⟩:=Kd.S_get HO_7.out [] x8_1 p243 (by first|exact q243|exact of_decide_eq_true (by assumption)|(have e_:=(Kd.yy_ HO_7.out).1;omega))
         obtain ⟨ve243_0,rfl,ge243_0⟩:=hMe243
         have hv243_0:=hcc243 0 _ rfl
         rw [Nat.add_zero,show ((Kd.slice 3 (Kd.int .i64))).sz=1 from rfl,Nat.mul_one] at hv243_0
         replace hv243_0:=Option.some.inj (hv243_0.symm.trans hx243_0)
         rw [hv243_0] at ge243_0
         have HL243_0:=Aside0.mk (show Kd.R (Kd.int .i64) 3 _ _ _ _ (rd_L6 x7_2 x8_1) from ge243_0)
         clear hv243_0 ge243_0
         have HX243_0:=Aside0.mk hx243_0
         clear hcc243 hce243
         (first|simp only [add_plain] at hx243_0|simp only [add_at] at hx243_0|simp only [Addr.add,Nat.zero_add] at hx243_0|skip)
         have HR243_0:=Aside0.mk hi243_0
         have HC243_0:=Aside0.mk hl243_0
         clear hi243_0 hl243_0
         replace p243:=eq_true p243
         replace q243:=eq_true q243
         have ea_:=Option.some.inj (hx211_0.symm.trans hx243_0)
         injection ea_ with ea_ en_ ec_
         subst ea_
         subst ec_
         clear en_
         have p61:0≤(x9_2:Int):=of_decide_eq_true (by assumption)
         have q61:(x9_2:Int) < (((rd_L6 x7_2 x8_1).length:Int):Int):=of_decide_eq_true (by assumption)
         obtain ⟨go61,co61,eo61,gb61,gl61,cl61,HG61⟩:=Kd.R_form HL243_0.out (by omega)
         (first|cases eo61|(injection eo61 with ea_ en_ ec_;(first|subst ea_|(injection ea_ with ea_;subst ea_));subst ec_;clear en_))
         have GB61:=Aside0.mk gb61
         have GG61:=Aside0.mk HG61
         clear gb61 gl61 HG61
         (first|simp only [add_plain] at hx212_0|skip)
         obtain ⟨hx61_0,hf61_0⟩:=Kd.ykb_ 0 HL243_0.out (x9_2:Int) p61 q61
         replace p61:=eq_true p61
         replace q61:=eq_true q61
         have hq62:(x8_1:Int) < (x7_2.length:Int):=(by have h_:(x8_1:Int) < ((x7_2.length:Int):Int):=of_decide_eq_true (by assumption);first|exact h_|(have e_:=(Kd.yy_ HO_7.out).1;omega)|simpa only [List.length_set,List.length_set] using h_)
         obtain ⟨oki62,ce62,hcl62,hM62,hcc62,hok62,hbk62⟩:=Kd.yhb_ HO_7.out [] (x8_1:Int) (of_decide_eq_true (by assumption)) hq62
         obtain ⟨ve62_0,rfl,ge62_0⟩:=hM62
         have hv62:=hcc62 0 _ rfl
         rw [Nat.add_zero,show ((Kd.slice 3 (Kd.int .i64))).sz=1 from rfl,Nat.mul_one] at hv62
         replace hv62:=Option.some.inj (hv62.symm.trans HX243_0.out)
         subst hv62
         clear hcc62 hcl62
         replace ge62_0:=(show Kd.R (Kd.int .i64) 3 _ _ _ _ (rd_L6 x7_2 x8_1) from ge62_0)
         have HP62:=Kd.R_putg ge62_0 (x9_2:Int) (rd (rd_L6 x7_2 (ji23)) x9_2)
         go_wp2_with (first|((with_reducible refine yM_ (t:=3) (p:=110) rfl ?_);(try (rw [y8_ wc];generalize hq_:World.drewN wc _=wc;have n0_:=Aside0.mk (Kd.S_at hq_ HO_7.out);have nX_:=Aside0.mk (yBb_ hq_ HX243_0.out);have n2_:=Aside0.mk (ymb_ hq_ HB.out);clear hq_ HO_7 HB HX243_0;have HO_7:=n0_;have HX243_0:=nX_;have HB:=n2_;clear n0_ nX_ n2_;(try (have hq62:(x8_1:Int) < (x7_2.length:Int):=(by have h_:(x8_1:Int) < ((x7_2.length:Int):Int):=of_decide_eq_true (by assumption);first|exact h_|(have e_:=(Kd.yy_ HO_7.out).1;omega)|simpa only [List.length_set,List.length_set] using h_)));(try (obtain ⟨oki62,ce62,hcl62,hM62,hcc62,hok62,hbk62⟩:=Kd.yhb_ HO_7.out [] (x8_1:Int) (of_decide_eq_true (by assumption)) hq62));(try (obtain ⟨ve62_0,rfl,ge62_0⟩:=hM62));(try (have hv62:=hcc62 0 _ rfl));(try (rw [Nat.add_zero,show ((Kd.slice 3 (Kd.int .i64))).sz=1 from rfl,Nat.mul_one] at hv62));(try (replace hv62:=Option.some.inj (hv62.symm.trans HX243_0.out)));(try (subst hv62));(try (clear hcc62 hcl62));(try (replace ge62_0:=(show Kd.R (Kd.int .i64) 3 _ _ _ _ (rd_L6 x7_2 x8_1) from ge62_0)));(try (have HP62:=Kd.R_putg ge62_0 (x9_2:Int) (rd (rd_L6 x7_2 (ji23)) x9_2)));(try (obtain ⟨hx61_0,hf61_0⟩:=Kd.ykb_ 0 ge62_0 (x9_2:Int) (of_eq_true p61) (of_eq_true q61)))));refine yH_ (t:=3) (p:=110) (v:=?vo_w63) (w1:=(wc.setCell ⟨go61,(x9_2:Int).toNat,none⟩ (.int .i64 (rd (rd_L6 x7_2 (ji23)) x9_2)))) ?hg ?ho ?hn ?hr ?_;(case ho=>rfl);(case hg=>rfl);(case hn=>rfl);(case hr=>(try obtain ⟨As_,cs_,rfl⟩:=Kd.yC_ HO207.out);first|(go_simp;done)|(go_simp;rfl));intro w63 hw;have hg:wc.grownBy w63 (some go61):=(by rw [hw];exact HP62.2);have hz_:Kd.R (Kd.int .i64) 3 w63 w.heap.size oki62 (.slice (some ⟨go61,0,none⟩) (rd_L6 x7_2 x8_1).length c211_0) y244:=(by rw [hw,Ny244.out];exact HP62.1);have hp_:Kd.S (Kd.slice 3 (Kd.int .i64)) 43 w63 w.heap.size (fun _=>True) (.slice (some ⟨go14,0,none⟩) x7_2.length co14) y246:=(by rw [Ny246.out];exact hbk62 hg (fun k_ e_=>by injection e_ with e_;subst e_;exact ge62_0.1 _ rfl) (Kd.M_row hz_));have hm_:=Kd.R_mono hz_ hok62;clear HP62 hbk62;have n0_:=Aside0.mk (hp_);have n1_:=Aside0.mk ((by rw [hw];exact yo_ (HB.out) GB61.out:Below w.heap.size w w63));have n2_:=Aside0.mk (hm_);have n3_:=Aside0.mk ((Kd.ys_ hm_).2.1);clear HO_7;clear HB;clear HL209_0;clear HL211_0;clear HL235_0;clear HL243_0;have HO_7:=n0_;have HB:=n1_;have HL281:=n2_;have HC245:=n3_;clear n0_ n1_ n2_ n3_;clear hg hw hp_ hz_ hm_ hok62))
         repeat (go_quiet (first|((with_reducible refine yM_ (t:=3) (p:=110) rfl ?_);(try (rw [y8_ wc];generalize hq_:World.drewN wc _=wc;have n0_:=Aside0.mk (Kd.S_at hq_ HO_7.out);have nX_:=Aside0.mk (yBb_ hq_ HX243_0.out);have n2_:=Aside0.mk (ymb_ hq_ HB.out);clear hq_ HO_7 HB HX243_0;have HO_7:=n0_;have HX243_0:=nX_;have HB:=n2_;clear n0_ nX_ n2_;(try (have hq62:(x8_1:Int) < (x7_2.length:Int):=(by have h_:(x8_1:Int) < ((x7_2.length:Int):Int):=of_decide_eq_true (by assumption);first|exact h_|(have e_:=(Kd.yy_ HO_7.out).1;omega)|simpa only [List.length_set,List.length_set] using h_)));(try (obtain ⟨oki62,ce62,hcl62,hM62,hcc62,hok62,hbk62⟩:=Kd.yhb_ HO_7.out [] (x8_1:Int) (of_decide_eq_true (by assumption)) hq62));(try (obtain ⟨ve62_0,rfl,ge62_0⟩:=hM62));(try (have hv62:=hcc62 0 _ rfl));(try (rw [Nat.add_zero,show ((Kd.slice 3 (Kd.int .i64))).sz=1 from rfl,Nat.mul_one] at hv62));(try (replace hv62:=Option.some.inj (hv62.symm.trans HX243_0.out)));(try (subst hv62));(try (clear hcc62 hcl62));(try (replace ge62_0:=(show Kd.R (Kd.int .i64) 3 _ _ _ _ (rd_L6 x7_2 x8_1) from ge62_0)));(try (have HP62:=Kd.R_putg ge62_0 (x9_2:Int) (rd (rd_L6 x7_2 (ji23)) x9_2)));(try (obtain ⟨hx61_0,hf61_0⟩:=Kd.ykb_ 0 ge62_0 (x9_2:Int) (of_eq_true p61) (of_eq_true q61)))));refine yH_ (t:=3) (p:=110) (v:=?vo_w63) (w1:=(wc.setCell ⟨go61,(x9_2:Int).toNat,none⟩ (.int .i64 (rd (rd_L6 x7_2 (ji23)) x9_2)))) ?hg ?ho ?hn ?hr ?_;(case ho=>rfl);(case hg=>rfl);(case hn=>rfl);(case hr=>(try obtain ⟨As_,cs_,rfl⟩:=Kd.yC_ HO207.out);first|(go_simp;done)|(go_simp;rfl));intro w63 hw;have hg:wc.grownBy w63 (some go61):=(by rw [hw];exact HP62.2);have hz_:Kd.R (Kd.int .i64) 3 w63 w.heap.size oki62 (.slice (some ⟨go61,0,none⟩) (rd_L6 x7_2 x8_1).length c211_0) y244:=(by rw [hw,Ny244.out];exact HP62.1);have hp_:Kd.S (Kd.slice 3 (Kd.int .i64)) 43 w63 w.heap.size (fun _=>True) (.slice (some ⟨go14,0,none⟩) x7_2.length co14) y246:=(by rw [Ny246.out];exact hbk62 hg (fun k_ e_=>by injection e_ with e_;subst e_;exact ge62_0.1 _ rfl) (Kd.M_row hz_));have hm_:=Kd.R_mono hz_ hok62;clear HP62 hbk62;have n0_:=Aside0.mk (hp_);have n1_:=Aside0.mk ((by rw [hw];exact yo_ (HB.out) GB61.out:Below w.heap.size w w63));have n2_:=Aside0.mk (hm_);have n3_:=Aside0.mk ((Kd.ys_ hm_).2.1);clear HO_7;clear HB;clear HL209_0;clear HL211_0;clear HL235_0;clear HL243_0;have HO_7:=n0_;have HB:=n1_;have HL281:=n2_;have HC245:=n3_;clear n0_ n1_ n2_ n3_;clear hg hw hp_ hz_ hm_ hok62));try go_wp2_with (first|((with_reducible refine yM_ (t:=3) (p:=110) rfl ?_);(try (rw [y8_ wc];generalize hq_:World.drewN wc _=wc;have n0_:=Aside0.mk (Kd.S_at hq_ HO_7.out);have nX_:=Aside0.mk (yBb_ hq_ HX243_0.out);have n2_:=Aside0.mk (ymb_ hq_ HB.out);clear hq_ HO_7 HB HX243_0;have HO_7:=n0_;have HX243_0:=nX_;have HB:=n2_;clear n0_ nX_ n2_;(try (have hq62:(x8_1:Int) < (x7_2.length:Int):=(by have h_:(x8_1:Int) < ((x7_2.length:Int):Int):=of_decide_eq_true (by assumption);first|exact h_|(have e_:=(Kd.yy_ HO_7.out).1;omega)|simpa only [List.length_set,List.length_set] using h_)));(try (obtain ⟨oki62,ce62,hcl62,hM62,hcc62,hok62,hbk62⟩:=Kd.yhb_ HO_7.out [] (x8_1:Int) (of_decide_eq_true (by assumption)) hq62));(try (obtain ⟨ve62_0,rfl,ge62_0⟩:=hM62));(try (have hv62:=hcc62 0 _ rfl));(try (rw [Nat.add_zero,show ((Kd.slice 3 (Kd.int .i64))).sz=1 from rfl,Nat.mul_one] at hv62));(try (replace hv62:=Option.some.inj (hv62.symm.trans HX243_0.out)));(try (subst hv62));(try (clear hcc62 hcl62));(try (replace ge62_0:=(show Kd.R (Kd.int .i64) 3 _ _ _ _ (rd_L6 x7_2 x8_1) from ge62_0)));(try (have HP62:=Kd.R_putg ge62_0 (x9_2:Int) (rd (rd_L6 x7_2 (ji23)) x9_2)));(try (obtain ⟨hx61_0,hf61_0⟩:=Kd.ykb_ 0 ge62_0 (x9_2:Int) (of_eq_true p61) (of_eq_true q61)))));refine yH_ (t:=3) (p:=110) (v:=?vo_w63) (w1:=(wc.setCell ⟨go61,(x9_2:Int).toNat,none⟩ (.int .i64 (rd (rd_L6 x7_2 (ji23)) x9_2)))) ?hg ?ho ?hn ?hr ?_;(case ho=>rfl);(case hg=>rfl);(case hn=>rfl);(case hr=>(try obtain ⟨As_,cs_,rfl⟩:=Kd.yC_ HO207.out);first|(go_simp;done)|(go_simp;rfl));intro w63 hw;have hg:wc.grownBy w63 (some go61):=(by rw [hw];exact HP62.2);have hz_:Kd.R (Kd.int .i64) 3 w63 w.heap.size oki62 (.slice (some ⟨go61,0,none⟩) (rd_L6 x7_2 x8_1).length c211_0) y244:=(by rw [hw,Ny244.out];exact HP62.1);have hp_:Kd.S (Kd.slice 3 (Kd.int .i64)) 43 w63 w.heap.size (fun _=>True) (.slice (some ⟨go14,0,none⟩) x7_2.length co14) y246:=(by rw [Ny246.out];exact hbk62 hg (fun k_ e_=>by injection e_ with e_;subst e_;exact ge62_0.1 _ rfl) (Kd.M_row hz_));have hm_:=Kd.R_mono hz_ hok62;clear HP62 hbk62;have n0_:=Aside0.mk (hp_);have n1_:=Aside0.mk ((by rw [hw];exact yo_ (HB.out) GB61.out:Below w.heap.size w w63));have n2_:=Aside0.mk (hm_);have n3_:=Aside0.mk ((Kd.ys_ hm_).2.1);clear HO_7;clear HB;clear HL209_0;clear HL211_0;clear HL235_0;clear HL243_0;have HO_7:=n0_;have HB:=n1_;have HL281:=n2_;have HC245:=n3_;clear n0_ n1_ n2_ n3_;clear hg hw hp_ hz_ hm_ hok62)))
         (try simp only [← hl7_2])
         go_roundg kj19
         case measure=>have:=HK1.out;have:=HK2.out;have:=HJ19.out;omega
         case rel=>exact ⟨(y246),(wrap64 (x9_2 - 1)),(by first|rfl|(simp;done)|(simp [*];done)),H',⟨by have:=HK1.out;have:=HK2.out;have:=HJ19.out;omega⟩,⟨by (try simp only [hl7_2]);(with_reducible repeat (first|apply Kd.yW_|apply Kd.yU_|apply Kd.S_drew));exact HO_7.out⟩,⟨by repeat (with_reducible first|exact HB.out|apply yc_|apply ya_|apply yb_)⟩⟩
        rw [if_pos c55] at H
        have c55b0:decide ((rd (rd_L6 x7_2 (ji23)) x9_2) < (wrap64 ((rd (rd_L6 x7_2 (ji23)) (ji30))+1)))=true:=decide_eq_true c55
        clear c55
        by_cases c56:x9_2 < ((rd_L6 x7_2 x8_1).length:Int)
        rotate_left
        ·rw [if_neg c56] at H
         exact absurd H (by simp)
        rw [if_pos c56] at H
        have c56b0:decide (x9_2 < ((rd_L6 x7_2 x8_1).length:Int))=true:=decide_eq_true c56
        clear c56
        obtain ⟨y240,hy240⟩:∃ y_:List Int,y_=((rd_L6 x7_2 x8_1).set (x9_2:Int).toNat (wrap64 ((rd (rd_L6 x7_2 (ji23)) (ji30))+1))):=⟨_,rfl⟩
        replace H:(yd_.l1 kj19 l0 l1 (l0.length:Int) (l1.length:Int) (x7_2.set (x8_1:Int).toNat y240) x8_1 (wrap64 (x9_2 - 1)))=some r:=by first|(rw [hy240];with_reducible exact H)|(have H2_:=(Option.bind_some _ _).symm.trans H;rw [hy240];with_reducible exact H2_)|(have H2_:=(Option.bind_some _ _).symm.trans H;with_reducible exact H2_)|with_reducible exact H|(rw [hy240];exact H)|exact H
        have Ny240:=Aside0.mk hy240
        clear hy240
        obtain ⟨y242,hy242⟩:∃ y_:List (List Int),y_=(x7_2.set (x8_1:Int).toNat y240):=⟨_,rfl⟩
        replace H:(yd_.l1 kj19 l0 l1 (l0.length:Int) (l1.length:Int) y242 x8_1 (wrap64 (x9_2 - 1)))=some r:=by first|(rw [hy242];with_reducible exact H)|(have H2_:=(Option.bind_some _ _).symm.trans H;rw [hy242];with_reducible exact H2_)|(have H2_:=(Option.bind_some _ _).symm.trans H;with_reducible exact H2_)|with_reducible exact H|(rw [hy242];exact H)|exact H
        have Ny242:=Aside0.mk hy242
        clear hy242
        have H':=Aside0.mk H
        clear H
        have p209:0≤((ji23):Int):=of_decide_eq_true (by assumption)
        have q209:(ji23) < (x7_2.length:Int):=of_decide_eq_true (by assumption)
        obtain ⟨ad209,A209_0,c209_0,e209,hx209_0,hl209_0,hi209_0⟩:=at_L6 (Kd.yy_ HO_7.out).2.2 (ji23) p209 q209
        obtain rfl:(⟨go14,0,none⟩:Addr)=ad209:=(by injection e209)
        obtain ⟨ce209,hce209,hMe209,hcc209⟩:=Kd.S_get HO_7.out [] (ji23) p209 (by first|exact q209|exact of_decide_eq_true (by assumption)|(have e_:=(Kd.yy_ HO_7.out).1;omega))
        obtain ⟨ve209_0,rfl,ge209_0⟩:=hMe209
        have hv209_0:=hcc209 0 _ rfl
        rw [Nat.add_zero,show ((Kd.slice 3 (Kd.int .i64))).sz=1 from rfl,Nat.mul_one] at hv209_0
        replace hv209_0:=Option.some.inj (hv209_0.symm.trans hx209_0)
        rw [hv209_0] at ge209_0
        have HL209_0:=Aside0.mk (show Kd.R (Kd.int .i64) 3 _ _ _ _ (rd_L6 x7_2 (ji23)) from ge209_0)
        clear hv209_0 ge209_0
        have HX209_0:=Aside0.mk hx209_0
        clear hcc209 hce209
        (first|simp only [add_plain] at hx209_0|simp only [add_at] at hx209_0|simp only [Addr.add,Nat.zero_add] at hx209_0|skip)
        have HR209_0:=Aside0.mk hi209_0
        have HC209_0:=Aside0.mk hl209_0
        clear hi209_0 hl209_0
        replace p209:=eq_true p209
        replace q209:=eq_true q209
        have p210:0≤(x9_2:Int):=of_decide_eq_true (by assumption)
        have q210:x9_2 < ((rd_L6 x7_2 (ji23)).length:Int):=of_decide_eq_true (by assumption)
        obtain ⟨ad210,e210,hx210_0⟩:=Kd.at_int (by repeat (first|(with_reducible exact HR209_0.out)|(with_reducible refine Kd.yK_ ?_ _)|(with_reducible refine Kd.y1_ ?_ _)|(with_reducible refine Kd.C_drew ?_)|exact HR209_0.out)) x9_2 p210 q210
        cases e210
        replace p210:=eq_true p210
        replace q210:=eq_true q210
        have p211:0≤(x8_1:Int):=of_decide_eq_true (by assumption)
        have q211:x8_1 < (x7_2.length:Int):=of_decide_eq_true (by assumption)
        obtain ⟨ad211,A211_0,c211_0,e211,hx211_0,hl211_0,hi211_0⟩:=at_L6 (Kd.yy_ HO_7.out).2.2 x8_1 p211 q211
        obtain rfl:(⟨go14,0,none⟩:Addr)=ad211:=(by injection e211)
        obtain ⟨ce211,hce211,hMe211,hcc211⟩:=Kd.S_get HO_7.out [] x8_1 p211 (by first|exact q211|exact of_decide_eq_true (by assumption)|(have e_:=(Kd.yy_ HO_7.out).1;omega))
        obtain ⟨ve211_0,rfl,ge211_0⟩:=hMe211
        have hv211_0:=hcc211 0 _ rfl
        rw [Nat.add_zero,show ((Kd.slice 3 (Kd.int .i64))).sz=1 from rfl,Nat.mul_one] at hv211_0
        replace hv211_0:=Option.some.inj (hv211_0.symm.trans hx211_0)
        rw [hv211_0] at ge211_0
        have HL211_0:=Aside0.mk (show Kd.R (Kd.int .i64) 3 _ _ _ _ (rd_L6 x7_2 x8_1) from ge211_0)
        clear hv211_0 ge211_0
        have HX211_0:=Aside0.mk hx211_0
        clear hcc211 hce211
        (first|simp only [add_plain] at hx211_0|simp only [add_at] at hx211_0|simp only [Addr.add,Nat.zero_add] at hx211_0|skip)
        have HR211_0:=Aside0.mk hi211_0
        have HC211_0:=Aside0.mk hl211_0
        clear hi211_0 hl211_0
        replace p211:=eq_true p211
        replace q211:=eq_true q211
        have p212:0≤((ji30):Int):=of_decide_eq_true (by assumption)
        have q212:(ji30) < ((rd_L6 x7_2 x8_1).length:Int):=of_decide_eq_true (by assumption)
        obtain ⟨ad212,e212,hx212_0⟩:=Kd.at_int (by repeat (first|(with_reducible exact HR211_0.out)|(with_reducible refine Kd.yK_ ?_ _)|(with_reducible refine Kd.y1_ ?_ _)|(with_reducible refine Kd.C_drew ?_)|exact HR211_0.out)) (ji30) p212 q212
        cases e212
        replace p212:=eq_true p212
        replace q212:=eq_true q212
        have p233:0≤(x8_1:Int):=of_decide_eq_true (by assumption)
        have q233:x8_1 < (l0.length:Int):=of_decide_eq_true (by assumption)
        obtain ⟨ad233,e233,hx233_0⟩:=Kd.yZ_ HR0.out x8_1 p233 q233
        cases e233
        replace hx233_0:=(HB.out.cell (World.block_lt_of_cell? w _ hx233_0)).trans hx233_0
        replace p233:=eq_true p233
        replace q233:=eq_true q233
        have p234:0≤(x9_2:Int):=of_decide_eq_true (by assumption)
        have q234:x9_2 < (l1.length:Int):=of_decide_eq_true (by assumption)
        obtain ⟨ad234,e234,hx234_0⟩:=Kd.yZ_ HR1.out x9_2 p234 q234
        cases e234
        replace hx234_0:=(HB.out.cell (World.block_lt_of_cell? w _ hx234_0)).trans hx234_0
        replace p234:=eq_true p234
        replace q234:=eq_true q234
        have p235:0≤((ji23):Int):=of_decide_eq_true (by assumption)
        have q235:(ji23) < (x7_2.length:Int):=of_decide_eq_true (by assumption)
        obtain ⟨ad235,A235_0,c235_0,e235,hx235_0,hl235_0,hi235_0⟩:=at_L6 (Kd.yy_ HO_7.out).2.2 (ji23) p235 q235
        obtain rfl:(⟨go14,0,none⟩:Addr)=ad235:=(by injection e235)
        obtain ⟨ce235,hce235,hMe235,hcc235⟩:=Kd.S_get HO_7.out [] (ji23) p235 (by first|exact q235|exact of_decide_eq_true (by assumption)|(have e_:=(Kd.yy_ HO_7.out).1;omega))
        obtain ⟨ve235_0,rfl,ge235_0⟩:=hMe235
        have hv235_0:=hcc235 0 _ rfl
        rw [Nat.add_zero,show ((Kd.slice 3 (Kd.int .i64))).sz=1 from rfl,Nat.mul_one] at hv235_0
        replace hv235_0:=Option.some.inj (hv235_0.symm.trans hx235_0)
        rw [hv235_0] at ge235_0
        have HL235_0:=Aside0.mk (show Kd.R (Kd.int .i64) 3 _ _ _ _ (rd_L6 x7_2 (ji23)) from ge235_0)
        clear hv235_0 ge235_0
        have HX235_0:=Aside0.mk hx235_0
        clear hcc235 hce235
        (first|simp only [add_plain] at hx235_0|simp only [add_at] at hx235_0|simp only [Addr.add,Nat.zero_add] at hx235_0|skip)
        have HR235_0:=Aside0.mk hi235_0
        have HC235_0:=Aside0.mk hl235_0
        clear hi235_0 hl235_0
        replace p235:=eq_true p235
        replace q235:=eq_true q235
        have ea_:=Option.some.inj (hx209_0.symm.trans hx235_0)
        injection ea_ with ea_ en_ ec_
        subst ea_
        subst ec_
        clear en_
        have p236:0≤((ji30):Int):=of_decide_eq_true (by assumption)
        have q236:(ji30) < ((rd_L6 x7_2 (ji23)).length:Int):=of_decide_eq_true (by assumption)
        obtain ⟨ad236,e236,hx236_0⟩:=Kd.at_int (by repeat (first|(with_reducible exact HR235_0.out)|(with_reducible refine Kd.yK_ ?_ _)|(with_reducible refine Kd.y1_ ?_ _)|(with_reducible refine Kd.C_drew ?_)|exact HR235_0.out)) (ji30) p236 q236
        cases e236
        replace p236:=eq_true p236
        replace q236:=eq_true q236
        have p237:0≤((ji23):Int):=of_decide_eq_true (by assumption)
        have q237:(ji23) < (x7_2.length:Int):=of_decide_eq_true (by assumption)
        obtain ⟨ad237,A237_0,c237_0,e237,hx237_0,hl237_0,hi237_0⟩:=at_L6 (Kd.yy_ HO_7.out).2.2 (ji23) p237 q237
        obtain rfl:(⟨go14,0,none⟩:Addr)=ad237:=(by injection e237)
        obtain ⟨ce237,hce237,hMe237,hcc237⟩:=Kd.S_get HO_7.out [] (ji23) p237 (by first|exact q237|exact of_decide_eq_true (by assumption)|(have e_:=(Kd.yy_ HO_7.out).1;omega))
        obtain ⟨ve237_0,rfl,ge237_0⟩:=hMe237
        have hv237_0:=hcc237 0 _ rfl
        rw [Nat.add_zero,show ((Kd.slice 3 (Kd.int .i64))).sz=1 from rfl,Nat.mul_one] at hv237_0
        replace hv237_0:=Option.some.inj (hv237_0.symm.trans hx237_0)
        rw [hv237_0] at ge237_0
        have HL237_0:=Aside0.mk (show Kd.R (Kd.int .i64) 3 _ _ _ _ (rd_L6 x7_2 (ji23)) from ge237_0)
        clear hv237_0 ge237_0
        have HX237_0:=Aside0.mk hx237_0
        clear hcc237 hce237
        (first|simp only [add_plain] at hx237_0|simp only [add_at] at hx237_0|simp only [Addr.add,Nat.zero_add] at hx237_0|skip)
        have HR237_0:=Aside0.mk hi237_0
        have HC237_0:=Aside0.mk hl237_0
        clear hi237_0 hl237_0
        replace p237:=eq_true p237
        replace q237:=eq_true q237
        have ea_:=Option.some.inj (hx209_0.symm.trans hx237_0)
        injection ea_ with ea_ en_ ec_
        subst ea_
        subst ec_
        clear en_
        have p238:0≤((ji30):Int):=of_decide_eq_true (by assumption)
        have q238:(ji30) < ((rd_L6 x7_2 (ji23)).length:Int):=of_decide_eq_true (by assumption)
        obtain ⟨ad238,e238,hx238_0⟩:=Kd.at_int (by repeat (first|(with_reducible exact HR237_0.out)|(with_reducible refine Kd.yK_ ?_ _)|(with_reducible refine Kd.y1_ ?_ _)|(with_reducible refine Kd.C_drew ?_)|exact HR237_0.out)) (ji30) p238 q238
        cases e238
        replace p238:=eq_true p238
        replace q238:=eq_true q238
        have p239:0≤(x8_1:Int):=of_decide_eq_true (by assumption)
        have q239:x8_1 < (x7_2.length:Int):=of_decide_eq_true (by assumption)
        obtain ⟨ad239,A239_0,c239_0,e239,hx239_0,hl239_0,hi239_0⟩:=at_L6 (Kd.yy_ HO_7.out).2.2 x8_1 p239 q239
        obtain rfl:(⟨go14,0,none⟩:Addr)=ad239:=(by injection e239)
        obtain ⟨ce239,hce239,hMe239,hcc239⟩:=Kd.S_get HO_7.out [] x8_1 p239 (by first|exact q239|exact of_decide_eq_true (by assumption)|(have e_:=(Kd.yy_ HO_7.out).1;omega))
        obtain ⟨ve239_0,rfl,ge239_0⟩:=hMe239
        have hv239_0:=hcc239 0 _ rfl
        rw [Nat.add_zero,show ((Kd.slice 3 (Kd.int .i64))).sz=1 from rfl,Nat.mul_one] at hv239_0
        replace hv239_0:=Option.some.inj (hv239_0.symm.trans hx239_0)
        rw [hv239_0] at ge239_0
        have HL239_0:=Aside0.mk (show Kd.R (Kd.int .i64) 3 _ _ _ _ (rd_L6 x7_2 x8_1) from ge239_0)
        clear hv239_0 ge239_0
        have HX239_0:=Aside0.mk hx239_0
        clear hcc239 hce239
        (first|simp only [add_plain] at hx239_0|simp only [add_at] at hx239_0|simp only [Addr.add,Nat.zero_add] at hx239_0|skip)
        have HR239_0:=Aside0.mk hi239_0
        have HC239_0:=Aside0.mk hl239_0
        clear hi239_0 hl239_0
        replace p239:=eq_true p239
        replace q239:=eq_true q239
        have ea_:=Option.some.inj (hx211_0.symm.trans hx239_0)
        injection ea_ with ea_ en_ ec_
        subst ea_
        subst ec_
        clear en_
        have p57:0≤(x9_2:Int):=of_decide_eq_true (by assumption)
        have q57:(x9_2:Int) < (((rd_L6 x7_2 x8_1).length:Int):Int):=of_decide_eq_true (by assumption)
        obtain ⟨go57,co57,eo57,gb57,gl57,cl57,HG57⟩:=Kd.R_form HL239_0.out (by omega)
        (first|cases eo57|(injection eo57 with ea_ en_ ec_;(first|subst ea_|(injection ea_ with ea_;subst ea_));subst ec_;clear en_))
        have GB57:=Aside0.mk gb57
        have GG57:=Aside0.mk HG57
        clear gb57 gl57 HG57
        (first|simp only [add_plain] at hx212_0|skip)
        obtain ⟨hx57_0,hf57_0⟩:=Kd.ykb_ 0 HL239_0.out (x9_2:Int) p57 q57
        replace p57:=eq_true p57
        replace q57:=eq_true q57
        have hq58:(x8_1:Int) < (x7_2.length:Int):=(by have h_:(x8_1:Int) < ((x7_2.length:Int):Int):=of_decide_eq_true (by assumption);first|exact h_|(have e_:=(Kd.yy_ HO_7.out).1;omega)|simpa only [List.length_set,List.length_set] using h_)
        obtain ⟨oki58,ce58,hcl58,hM58,hcc58,hok58,hbk58⟩:=Kd.yhb_ HO_7.out [] (x8_1:Int) (of_decide_eq_true (by assumption)) hq58
        obtain ⟨ve58_0,rfl,ge58_0⟩:=hM58
        have hv58:=hcc58 0 _ rfl
        rw [Nat.add_zero,show ((Kd.slice 3 (Kd.int .i64))).sz=1 from rfl,Nat.mul_one] at hv58
        replace hv58:=Option.some.inj (hv58.symm.trans HX239_0.out)
        subst hv58
        clear hcc58 hcl58
        replace ge58_0:=(show Kd.R (Kd.int .i64) 3 _ _ _ _ (rd_L6 x7_2 x8_1) from ge58_0)
        have HP58:=Kd.R_putg ge58_0 (x9_2:Int) (wrap64 ((rd (rd_L6 x7_2 (ji23)) (ji30))+1))
        go_wp2_with (first|((with_reducible refine yM_ (t:=3) (p:=110) rfl ?_);(try (rw [y8_ wc];generalize hq_:World.drewN wc _=wc;have n0_:=Aside0.mk (Kd.S_at hq_ HO_7.out);have nX_:=Aside0.mk (yBb_ hq_ HX239_0.out);have n2_:=Aside0.mk (ymb_ hq_ HB.out);clear hq_ HO_7 HB HX239_0;have HO_7:=n0_;have HX239_0:=nX_;have HB:=n2_;clear n0_ nX_ n2_;(try (have hq58:(x8_1:Int) < (x7_2.length:Int):=(by have h_:(x8_1:Int) < ((x7_2.length:Int):Int):=of_decide_eq_true (by assumption);first|exact h_|(have e_:=(Kd.yy_ HO_7.out).1;omega)|simpa only [List.length_set,List.length_set] using h_)));(try (obtain ⟨oki58,ce58,hcl58,hM58,hcc58,hok58,hbk58⟩:=Kd.yhb_ HO_7.out [] (x8_1:Int) (of_decide_eq_true (by assumption)) hq58));(try (obtain ⟨ve58_0,rfl,ge58_0⟩:=hM58));(try (have hv58:=hcc58 0 _ rfl));(try (rw [Nat.add_zero,show ((Kd.slice 3 (Kd.int .i64))).sz=1 from rfl,Nat.mul_one] at hv58));(try (replace hv58:=Option.some.inj (hv58.symm.trans HX239_0.out)));(try (subst hv58));(try (clear hcc58 hcl58));(try (replace ge58_0:=(show Kd.R (Kd.int .i64) 3 _ _ _ _ (rd_L6 x7_2 x8_1) from ge58_0)));(try (have HP58:=Kd.R_putg ge58_0 (x9_2:Int) (wrap64 ((rd (rd_L6 x7_2 (ji23)) (ji30))+1))));(try (obtain ⟨hx57_0,hf57_0⟩:=Kd.ykb_ 0 ge58_0 (x9_2:Int) (of_eq_true p57) (of_eq_true q57)))));refine yH_ (t:=3) (p:=110) (v:=?vo_w59) (w1:=(wc.setCell ⟨go57,(x9_2:Int).toNat,none⟩ (.int .i64 (wrap64 ((rd (rd_L6 x7_2 (ji23)) (ji30))+1))))) ?hg ?ho ?hn ?hr ?_;(case ho=>rfl);(case hg=>rfl);(case hn=>rfl);(case hr=>(try obtain ⟨As_,cs_,rfl⟩:=Kd.yC_ HO207.out);first|(go_simp;done)|(go_simp;rfl));intro w59 hw;have hg:wc.grownBy w59 (some go57):=(by rw [hw];exact HP58.2);have hz_:Kd.R (Kd.int .i64) 3 w59 w.heap.size oki58 (.slice (some ⟨go57,0,none⟩) (rd_L6 x7_2 x8_1).length c211_0) y240:=(by rw [hw,Ny240.out];exact HP58.1);have hp_:Kd.S (Kd.slice 3 (Kd.int .i64)) 43 w59 w.heap.size (fun _=>True) (.slice (some ⟨go14,0,none⟩) x7_2.length co14) y242:=(by rw [Ny242.out];exact hbk58 hg (fun k_ e_=>by injection e_ with e_;subst e_;exact ge58_0.1 _ rfl) (Kd.M_row hz_));have hm_:=Kd.R_mono hz_ hok58;clear HP58 hbk58;have n0_:=Aside0.mk (hp_);have n1_:=Aside0.mk ((by rw [hw];exact yo_ (HB.out) GB57.out:Below w.heap.size w w59));have n2_:=Aside0.mk (hm_);have n3_:=Aside0.mk ((Kd.ys_ hm_).2.1);clear HO_7;clear HB;clear HL209_0;clear HL211_0;clear HL235_0;clear HL237_0;clear HL239_0;have HO_7:=n0_;have HB:=n1_;have HL280:=n2_;have HC241:=n3_;clear n0_ n1_ n2_ n3_;clear hg hw hp_ hz_ hm_ hok58))
        repeat (go_quiet (first|((with_reducible refine yM_ (t:=3) (p:=110) rfl ?_);(try (rw [y8_ wc];generalize hq_:World.drewN wc _=wc;have n0_:=Aside0.mk (Kd.S_at hq_ HO_7.out);have nX_:=Aside0.mk (yBb_ hq_ HX239_0.out);have n2_:=Aside0.mk (ymb_ hq_ HB.out);clear hq_ HO_7 HB HX239_0;have HO_7:=n0_;have HX239_0:=nX_;have HB:=n2_;clear n0_ nX_ n2_;(try (have hq58:(x8_1:Int) < (x7_2.length:Int):=(by have h_:(x8_1:Int) < ((x7_2.length:Int):Int):=of_decide_eq_true (by assumption);first|exact h_|(have e_:=(Kd.yy_ HO_7.out).1;omega)|simpa only [List.length_set,List.length_set] using h_)));(try (obtain ⟨oki58,ce58,hcl58,hM58,hcc58,hok58,hbk58⟩:=Kd.yhb_ HO_7.out [] (x8_1:Int) (of_decide_eq_true (by assumption)) hq58));(try (obtain ⟨ve58_0,rfl,ge58_0⟩:=hM58));(try (have hv58:=hcc58 0 _ rfl));(try (rw [Nat.add_zero,show ((Kd.slice 3 (Kd.int .i64))).sz=1 from rfl,Nat.mul_one] at hv58));(try (replace hv58:=Option.some.inj (hv58.symm.trans HX239_0.out)));(try (subst hv58));(try (clear hcc58 hcl58));(try (replace ge58_0:=(show Kd.R (Kd.int .i64) 3 _ _ _ _ (rd_L6 x7_2 x8_1) from ge58_0)));(try (have HP58:=Kd.R_putg ge58_0 (x9_2:Int) (wrap64 ((rd (rd_L6 x7_2 (ji23)) (ji30))+1))));(try (obtain ⟨hx57_0,hf57_0⟩:=Kd.ykb_ 0 ge58_0 (x9_2:Int) (of_eq_true p57) (of_eq_true q57)))));refine yH_ (t:=3) (p:=110) (v:=?vo_w59) (w1:=(wc.setCell ⟨go57,(x9_2:Int).toNat,none⟩ (.int .i64 (wrap64 ((rd (rd_L6 x7_2 (ji23)) (ji30))+1))))) ?hg ?ho ?hn ?hr ?_;(case ho=>rfl);(case hg=>rfl);(case hn=>rfl);(case hr=>(try obtain ⟨As_,cs_,rfl⟩:=Kd.yC_ HO207.out);first|(go_simp;done)|(go_simp;rfl));intro w59 hw;have hg:wc.grownBy w59 (some go57):=(by rw [hw];exact HP58.2);have hz_:Kd.R (Kd.int .i64) 3 w59 w.heap.size oki58 (.slice (some ⟨go57,0,none⟩) (rd_L6 x7_2 x8_1).length c211_0) y240:=(by rw [hw,Ny240.out];exact HP58.1);have hp_:Kd.S (Kd.slice 3 (Kd.int .i64)) 43 w59 w.heap.size (fun _=>True) (.slice (some ⟨go14,0,none⟩) x7_2.length co14) y242:=(by rw [Ny242.out];exact hbk58 hg (fun k_ e_=>by injection e_ with e_;subst e_;exact ge58_0.1 _ rfl) (Kd.M_row hz_));have hm_:=Kd.R_mono hz_ hok58;clear HP58 hbk58;have n0_:=Aside0.mk (hp_);have n1_:=Aside0.mk ((by rw [hw];exact yo_ (HB.out) GB57.out:Below w.heap.size w w59));have n2_:=Aside0.mk (hm_);have n3_:=Aside0.mk ((Kd.ys_ hm_).2.1);clear HO_7;clear HB;clear HL209_0;clear HL211_0;clear HL235_0;clear HL237_0;clear HL239_0;have HO_7:=n0_;have HB:=n1_;have HL280:=n2_;have HC241:=n3_;clear n0_ n1_ n2_ n3_;clear hg hw hp_ hz_ hm_ hok58));try go_wp2_with (first|((with_reducible refine yM_ (t:=3) (p:=110) rfl ?_);(try (rw [y8_ wc];generalize hq_:World.drewN wc _=wc;have n0_:=Aside0.mk (Kd.S_at hq_ HO_7.out);have nX_:=Aside0.mk (yBb_ hq_ HX239_0.out);have n2_:=Aside0.mk (ymb_ hq_ HB.out);clear hq_ HO_7 HB HX239_0;have HO_7:=n0_;have HX239_0:=nX_;have HB:=n2_;clear n0_ nX_ n2_;(try (have hq58:(x8_1:Int) < (x7_2.length:Int):=(by have h_:(x8_1:Int) < ((x7_2.length:Int):Int):=of_decide_eq_true (by assumption);first|exact h_|(have e_:=(Kd.yy_ HO_7.out).1;omega)|simpa only [List.length_set,List.length_set] using h_)));(try (obtain ⟨oki58,ce58,hcl58,hM58,hcc58,hok58,hbk58⟩:=Kd.yhb_ HO_7.out [] (x8_1:Int) (of_decide_eq_true (by assumption)) hq58));(try (obtain ⟨ve58_0,rfl,ge58_0⟩:=hM58));(try (have hv58:=hcc58 0 _ rfl));(try (rw [Nat.add_zero,show ((Kd.slice 3 (Kd.int .i64))).sz=1 from rfl,Nat.mul_one] at hv58));(try (replace hv58:=Option.some.inj (hv58.symm.trans HX239_0.out)));(try (subst hv58));(try (clear hcc58 hcl58));(try (replace ge58_0:=(show Kd.R (Kd.int .i64) 3 _ _ _ _ (rd_L6 x7_2 x8_1) from ge58_0)));(try (have HP58:=Kd.R_putg ge58_0 (x9_2:Int) (wrap64 ((rd (rd_L6 x7_2 (ji23)) (ji30))+1))));(try (obtain ⟨hx57_0,hf57_0⟩:=Kd.ykb_ 0 ge58_0 (x9_2:Int) (of_eq_true p57) (of_eq_true q57)))));refine yH_ (t:=3) (p:=110) (v:=?vo_w59) (w1:=(wc.setCell ⟨go57,(x9_2:Int).toNat,none⟩ (.int .i64 (wrap64 ((rd (rd_L6 x7_2 (ji23)) (ji30))+1))))) ?hg ?ho ?hn ?hr ?_;(case ho=>rfl);(case hg=>rfl);(case hn=>rfl);(case hr=>(try obtain ⟨As_,cs_,rfl⟩:=Kd.yC_ HO207.out);first|(go_simp;done)|(go_simp;rfl));intro w59 hw;have hg:wc.grownBy w59 (some go57):=(by rw [hw];exact HP58.2);have hz_:Kd.R (Kd.int .i64) 3 w59 w.heap.size oki58 (.slice (some ⟨go57,0,none⟩) (rd_L6 x7_2 x8_1).length c211_0) y240:=(by rw [hw,Ny240.out];exact HP58.1);have hp_:Kd.S (Kd.slice 3 (Kd.int .i64)) 43 w59 w.heap.size (fun _=>True) (.slice (some ⟨go14,0,none⟩) x7_2.length co14) y242:=(by rw [Ny242.out];exact hbk58 hg (fun k_ e_=>by injection e_ with e_;subst e_;exact ge58_0.1 _ rfl) (Kd.M_row hz_));have hm_:=Kd.R_mono hz_ hok58;clear HP58 hbk58;have n0_:=Aside0.mk (hp_);have n1_:=Aside0.mk ((by rw [hw];exact yo_ (HB.out) GB57.out:Below w.heap.size w w59));have n2_:=Aside0.mk (hm_);have n3_:=Aside0.mk ((Kd.ys_ hm_).2.1);clear HO_7;clear HB;clear HL209_0;clear HL211_0;clear HL235_0;clear HL237_0;clear HL239_0;have HO_7:=n0_;have HB:=n1_;have HL280:=n2_;have HC241:=n3_;clear n0_ n1_ n2_ n3_;clear hg hw hp_ hz_ hm_ hok58)))
        (try simp only [← hl7_2])
        go_roundg kj19
        case measure=>have:=HK1.out;have:=HK2.out;have:=HJ19.out;omega
        case rel=>exact ⟨(y242),(wrap64 (x9_2 - 1)),(by first|rfl|(simp;done)|(simp [*];done)),H',⟨by have:=HK1.out;have:=HK2.out;have:=HJ19.out;omega⟩,⟨by (try simp only [hl7_2]);(with_reducible repeat (first|apply Kd.yW_|apply Kd.yU_|apply Kd.S_drew));exact HO_7.out⟩,⟨by repeat (with_reducible first|exact HB.out|apply yc_|apply ya_|apply yb_)⟩⟩
       rw [if_pos c33] at H
       have c33b0:decide ((rd (rd_L6 x7_2 (ji23)) x9_2) < (rd (rd_L6 x7_2 x8_1) (ji30)))=true:=decide_eq_true c33
       clear c33
       by_cases c34:x8_1 < (l0.length:Int)
       rotate_left
       ·rw [if_neg c34] at H
        exact absurd H (by simp)
       rw [if_pos c34] at H
       have c34b0:decide (x8_1 < (l0.length:Int))=true:=decide_eq_true c34
       clear c34
       by_cases c35:x9_2 < (l1.length:Int)
       rotate_left
       ·rw [if_neg c35] at H
        exact absurd H (by simp)
       rw [if_pos c35] at H
       have c35b0:decide (x9_2 < (l1.length:Int))=true:=decide_eq_true c35
       clear c35
       by_cases c36:(rdOf ByteArray.empty l0 x8_1).toList=(rdOf ByteArray.empty l1 x9_2).toList
       rotate_left
       ·rw [if_neg c36] at H
        have c36b0:((rdOf ByteArray.empty l0 x8_1).toList == (rdOf ByteArray.empty l1 x9_2).toList)=false:=beq_eq_false_iff_ne.mpr c36
        have c36b1:((rdOf ByteArray.empty l0 x8_1).toList != (rdOf ByteArray.empty l1 x9_2).toList)=true:=bne_iff_ne.mpr c36
        by_cases c47:x9_2 < ((rd_L6 x7_2 x8_1).length:Int)
        rotate_left
        ·rw [if_neg c47] at H
         exact absurd H (by simp)
        rw [if_pos c47] at H
        have c47b0:decide (x9_2 < ((rd_L6 x7_2 x8_1).length:Int))=true:=decide_eq_true c47
        clear c47
        obtain ⟨y230,hy230⟩:∃ y_:List Int,y_=((rd_L6 x7_2 x8_1).set (x9_2:Int).toNat (rd (rd_L6 x7_2 x8_1) (ji30))):=⟨_,rfl⟩
        replace H:(yd_.l1 kj19 l0 l1 (l0.length:Int) (l1.length:Int) (x7_2.set (x8_1:Int).toNat y230) x8_1 (wrap64 (x9_2 - 1)))=some r:=by first|(rw [hy230];with_reducible exact H)|(have H2_:=(Option.bind_some _ _).symm.trans H;rw [hy230];with_reducible exact H2_)|(have H2_:=(Option.bind_some _ _).symm.trans H;with_reducible exact H2_)|with_reducible exact H|(rw [hy230];exact H)|exact H
        have Ny230:=Aside0.mk hy230
        clear hy230
        obtain ⟨y232,hy232⟩:∃ y_:List (List Int),y_=(x7_2.set (x8_1:Int).toNat y230):=⟨_,rfl⟩
        replace H:(yd_.l1 kj19 l0 l1 (l0.length:Int) (l1.length:Int) y232 x8_1 (wrap64 (x9_2 - 1)))=some r:=by first|(rw [hy232];with_reducible exact H)|(have H2_:=(Option.bind_some _ _).symm.trans H;rw [hy232];with_reducible exact H2_)|(have H2_:=(Option.bind_some _ _).symm.trans H;with_reducible exact H2_)|with_reducible exact H|(rw [hy232];exact H)|exact H
        have Ny232:=Aside0.mk hy232
        clear hy232
        have H':=Aside0.mk H
        clear H
        have p209:0≤((ji23):Int):=of_decide_eq_true (by assumption)
        have q209:(ji23) < (x7_2.length:Int):=of_decide_eq_true (by assumption)
        obtain ⟨ad209,A209_0,c209_0,e209,hx209_0,hl209_0,hi209_0⟩:=at_L6 (Kd.yy_ HO_7.out).2.2 (ji23) p209 q209
        obtain rfl:(⟨go14,0,none⟩:Addr)=ad209:=(by injection e209)
        obtain ⟨ce209,hce209,hMe209,hcc209⟩:=Kd.S_get HO_7.out [] (ji23) p209 (by first|exact q209|exact of_decide_eq_true (by assumption)|(have e_:=(Kd.yy_ HO_7.out).1;omega))
        obtain ⟨ve209_0,rfl,ge209_0⟩:=hMe209
        have hv209_0:=hcc209 0 _ rfl
        rw [Nat.add_zero,show ((Kd.slice 3 (Kd.int .i64))).sz=1 from rfl,Nat.mul_one] at hv209_0
        replace hv209_0:=Option.some.inj (hv209_0.symm.trans hx209_0)
        rw [hv209_0] at ge209_0
        have HL209_0:=Aside0.mk (show Kd.R (Kd.int .i64) 3 _ _ _ _ (rd_L6 x7_2 (ji23)) from ge209_0)
        clear hv209_0 ge209_0
        have HX209_0:=Aside0.mk hx209_0
        clear hcc209 hce209
        (first|simp only [add_plain] at hx209_0|simp only [add_at] at hx209_0|simp only [Addr.add,Nat.zero_add] at hx209_0|skip)
        have HR209_0:=Aside0.mk hi209_0
        have HC209_0:=Aside0.mk hl209_0
        clear hi209_0 hl209_0
        replace p209:=eq_true p209
        replace q209:=eq_true q209
        have p210:0≤(x9_2:Int):=of_decide_eq_true (by assumption)
        have q210:x9_2 < ((rd_L6 x7_2 (ji23)).length:Int):=of_decide_eq_true (by assumption)
        obtain ⟨ad210,e210,hx210_0⟩:=Kd.at_int (by repeat (first|(with_reducible exact HR209_0.out)|(with_reducible refine Kd.yK_ ?_ _)|(with_reducible refine Kd.y1_ ?_ _)|(with_reducible refine Kd.C_drew ?_)|exact HR209_0.out)) x9_2 p210 q210
        cases e210
        replace p210:=eq_true p210
        replace q210:=eq_true q210
        have p211:0≤(x8_1:Int):=of_decide_eq_true (by assumption)
        have q211:x8_1 < (x7_2.length:Int):=of_decide_eq_true (by assumption)
        obtain ⟨ad211,A211_0,c211_0,e211,hx211_0,hl211_0,hi211_0⟩:=at_L6 (Kd.yy_ HO_7.out).2.2 x8_1 p211 q211
        obtain rfl:(⟨go14,0,none⟩:Addr)=ad211:=(by injection e211)
        obtain ⟨ce211,hce211,hMe211,hcc211⟩:=Kd.S_get HO_7.out [] x8_1 p211 (by first|exact q211|exact of_decide_eq_true (by assumption)|(have e_:=(Kd.yy_ HO_7.out).1;omega))
        obtain ⟨ve211_0,rfl,ge211_0⟩:=hMe211
        have hv211_0:=hcc211 0 _ rfl
        rw [Nat.add_zero,show ((Kd.slice 3 (Kd.int .i64))).sz=1 from rfl,Nat.mul_one] at hv211_0
        replace hv211_0:=Option.some.inj (hv211_0.symm.trans hx211_0)
        rw [hv211_0] at ge211_0
        have HL211_0:=Aside0.mk (show Kd.R (Kd.int .i64) 3 _ _ _ _ (rd_L6 x7_2 x8_1) from ge211_0)
        clear hv211_0 ge211_0
        have HX211_0:=Aside0.mk hx211_0
        clear hcc211 hce211
        (first|simp only [add_plain] at hx211_0|simp only [add_at] at hx211_0|simp only [Addr.add,Nat.zero_add] at hx211_0|skip)
        have HR211_0:=Aside0.mk hi211_0
        have HC211_0:=Aside0.mk hl211_0
        clear hi211_0 hl211_0
        replace p211:=eq_true p211
        replace q211:=eq_true q211
        have p212:0≤((ji30):Int):=of_decide_eq_true (by assumption)
        have q212:(ji30) < ((rd_L6 x7_2 x8_1).length:Int):=of_decide_eq_true (by assumption)
        obtain ⟨ad212,e212,hx212_0⟩:=Kd.at_int (by repeat (first|(with_reducible exact HR211_0.out)|(with_reducible refine Kd.yK_ ?_ _)|(with_reducible refine Kd.y1_ ?_ _)|(with_reducible refine Kd.C_drew ?_)|exact HR211_0.out)) (ji30) p212 q212
        cases e212
        replace p212:=eq_true p212
        replace q212:=eq_true q212
        have p213:0≤(x8_1:Int):=of_decide_eq_true (by assumption)
        have q213:x8_1 < (x7_2.length:Int):=of_decide_eq_true (by assumption)
        obtain ⟨ad213,A213_0,c213_0,e213,hx213_0,hl213_0,hi213_0⟩:=at_L6 (Kd.yy_ HO_7.out).2.2 x8_1 p213 q213
        obtain rfl:(⟨go14,0,none⟩:Addr)=ad213:=(by injection e213)
        obtain ⟨ce213,hce213,hMe213,hcc213⟩:=Kd.S_get HO_7.out [] x8_1 p213 (by first|exact q213|exact of_decide_eq_true (by assumption)|(have e_:=(Kd.yy_ HO_7.out).1;omega))
        obtain ⟨ve213_0,rfl,ge213_0⟩:=hMe213
        have hv213_0:=hcc213 0 _ rfl
        rw [Nat.add_zero,show ((Kd.slice 3 (Kd.int .i64))).sz=1 from rfl,Nat.mul_one] at hv213_0
        replace hv213_0:=Option.some.inj (hv213_0.symm.trans hx213_0)
        rw [hv213_0] at ge213_0
        have HL213_0:=Aside0.mk (show Kd.R (Kd.int .i64) 3 _ _ _ _ (rd_L6 x7_2 x8_1) from ge213_0)
        clear hv213_0 ge213_0
        have HX213_0:=Aside0.mk hx213_0
        clear hcc213 hce213
        (first|simp only [add_plain] at hx213_0|simp only [add_at] at hx213_0|simp only [Addr.add,Nat.zero_add] at hx213_0|skip)
        have HR213_0:=Aside0.mk hi213_0
        have HC213_0:=Aside0.mk hl213_0
        clear hi213_0 hl213_0
        replace p213:=eq_true p213
        replace q213:=eq_true q213
        have ea_:=Option.some.inj (hx211_0.symm.trans hx213_0)
        injection ea_ with ea_ en_ ec_
        subst ea_
        subst ec_
        clear en_
        have p214:0≤((ji30):Int):=of_decide_eq_true (by assumption)
        have q214:(ji30) < ((rd_L6 x7_2 x8_1).length:Int):=of_decide_eq_true (by assumption)
        obtain ⟨ad214,e214,hx214_0⟩:=Kd.at_int (by repeat (first|(with_reducible exact HR213_0.out)|(with_reducible refine Kd.yK_ ?_ _)|(with_reducible refine Kd.y1_ ?_ _)|(with_reducible refine Kd.C_drew ?_)|exact HR213_0.out)) (ji30) p214 q214
        cases e214
        replace p214:=eq_true p214
        replace q214:=eq_true q214
        have p215:0≤(x8_1:Int):=of_decide_eq_true (by assumption)
        have q215:x8_1 < (l0.length:Int):=of_decide_eq_true (by assumption)
        obtain ⟨ad215,e215,hx215_0⟩:=Kd.yZ_ HR0.out x8_1 p215 q215
        cases e215
        replace hx215_0:=(HB.out.cell (World.block_lt_of_cell? w _ hx215_0)).trans hx215_0
        replace p215:=eq_true p215
        replace q215:=eq_true q215
        have p216:0≤(x9_2:Int):=of_decide_eq_true (by assumption)
        have q216:x9_2 < (l1.length:Int):=of_decide_eq_true (by assumption)
        obtain ⟨ad216,e216,hx216_0⟩:=Kd.yZ_ HR1.out x9_2 p216 q216
        cases e216
        replace hx216_0:=(HB.out.cell (World.block_lt_of_cell? w _ hx216_0)).trans hx216_0
        replace p216:=eq_true p216
        replace q216:=eq_true q216
        have p229:0≤(x8_1:Int):=of_decide_eq_true (by assumption)
        have q229:x8_1 < (x7_2.length:Int):=of_decide_eq_true (by assumption)
        obtain ⟨ad229,A229_0,c229_0,e229,hx229_0,hl229_0,hi229_0⟩:=at_L6 (Kd.yy_ HO_7.out).2.2 x8_1 p229 q229
        obtain rfl:(⟨go14,0,none⟩:Addr)=ad229:=(by injection e229)
        obtain ⟨ce229,hce229,hMe229,hcc229⟩:=Kd.S_get HO_7.out [] x8_1 p229 (by first|exact q229|exact of_decide_eq_true (by assumption)|(have e_:=(Kd.yy_ HO_7.out).1;omega))
        obtain ⟨ve229_0,rfl,ge229_0⟩:=hMe229
        have hv229_0:=hcc229 0 _ rfl
        rw [Nat.add_zero,show ((Kd.slice 3 (Kd.int .i64))).sz=1 from rfl,Nat.mul_one] at hv229_0
        replace hv229_0:=Option.some.inj (hv229_0.symm.trans hx229_0)
        rw [hv229_0] at ge229_0
        have HL229_0:=Aside0.mk (show Kd.R (Kd.int .i64) 3 _ _ _ _ (rd_L6 x7_2 x8_1) from ge229_0)
        clear hv229_0 ge229_0
        have HX229_0:=Aside0.mk hx229_0
        clear hcc229 hce229
        (first|simp only [add_plain] at hx229_0|simp only [add_at] at hx229_0|simp only [Addr.add,Nat.zero_add] at hx229_0|skip)
        have HR229_0:=Aside0.mk hi229_0
        have HC229_0:=Aside0.mk hl229_0
        clear hi229_0 hl229_0
        replace p229:=eq_true p229
        replace q229:=eq_true q229
        have ea_:=Option.some.inj (hx211_0.symm.trans hx229_0)
        injection ea_ with ea_ en_ ec_
        subst ea_
        subst ec_
        clear en_
        have p48:0≤(x9_2:Int):=of_decide_eq_true (by assumption)
        have q48:(x9_2:Int) < (((rd_L6 x7_2 x8_1).length:Int):Int):=of_decide_eq_true (by assumption)
        obtain ⟨go48,co48,eo48,gb48,gl48,cl48,HG48⟩:=Kd.R_form HL229_0.out (by omega)
        (first|cases eo48|(injection eo48 with ea_ en_ ec_;(first|subst ea_|(injection ea_ with ea_;subst ea_));subst ec_;clear en_))
        have GB48:=Aside0.mk gb48
        have GG48:=Aside0.mk HG48
        clear gb48 gl48 HG48
        (first|simp only [add_plain] at hx214_0|skip)
        obtain ⟨hx48_0,hf48_0⟩:=Kd.ykb_ 0 HL229_0.out (x9_2:Int) p48 q48
        replace p48:=eq_true p48
        replace q48:=eq_true q48
        have hq49:(x8_1:Int) < (x7_2.length:Int):=(by have h_:(x8_1:Int) < ((x7_2.length:Int):Int):=of_decide_eq_true (by assumption);first|exact h_|(have e_:=(Kd.yy_ HO_7.out).1;omega)|simpa only [List.length_set,List.length_set] using h_)
        obtain ⟨oki49,ce49,hcl49,hM49,hcc49,hok49,hbk49⟩:=Kd.yhb_ HO_7.out [] (x8_1:Int) (of_decide_eq_true (by assumption)) hq49
        obtain ⟨ve49_0,rfl,ge49_0⟩:=hM49
        have hv49:=hcc49 0 _ rfl
        rw [Nat.add_zero,show ((Kd.slice 3 (Kd.int .i64))).sz=1 from rfl,Nat.mul_one] at hv49
        replace hv49:=Option.some.inj (hv49.symm.trans HX229_0.out)
        subst hv49
        clear hcc49 hcl49
        replace ge49_0:=(show Kd.R (Kd.int .i64) 3 _ _ _ _ (rd_L6 x7_2 x8_1) from ge49_0)
        have HP49:=Kd.R_putg ge49_0 (x9_2:Int) (rd (rd_L6 x7_2 x8_1) (ji30))
        go_wp2_with (first|((with_reducible refine yM_ (t:=3) (p:=110) rfl ?_);(try (rw [y8_ wc];generalize hq_:World.drewN wc _=wc;have n0_:=Aside0.mk (Kd.S_at hq_ HO_7.out);have nX_:=Aside0.mk (yBb_ hq_ HX229_0.out);have n2_:=Aside0.mk (ymb_ hq_ HB.out);clear hq_ HO_7 HB HX229_0;have HO_7:=n0_;have HX229_0:=nX_;have HB:=n2_;clear n0_ nX_ n2_;(try (have hq49:(x8_1:Int) < (x7_2.length:Int):=(by have h_:(x8_1:Int) < ((x7_2.length:Int):Int):=of_decide_eq_true (by assumption);first|exact h_|(have e_:=(Kd.yy_ HO_7.out).1;omega)|simpa only [List.length_set,List.length_set] using h_)));(try (obtain ⟨oki49,ce49,hcl49,hM49,hcc49,hok49,hbk49⟩:=Kd.yhb_ HO_7.out [] (x8_1:Int) (of_decide_eq_true (by assumption)) hq49));(try (obtain ⟨ve49_0,rfl,ge49_0⟩:=hM49));(try (have hv49:=hcc49 0 _ rfl));(try (rw [Nat.add_zero,show ((Kd.slice 3 (Kd.int .i64))).sz=1 from rfl,Nat.mul_one] at hv49));(try (replace hv49:=Option.some.inj (hv49.symm.trans HX229_0.out)));(try (subst hv49));(try (clear hcc49 hcl49));(try (replace ge49_0:=(show Kd.R (Kd.int .i64) 3 _ _ _ _ (rd_L6 x7_2 x8_1) from ge49_0)));(try (have HP49:=Kd.R_putg ge49_0 (x9_2:Int) (rd (rd_L6 x7_2 x8_1) (ji30))));(try (obtain ⟨hx48_0,hf48_0⟩:=Kd.ykb_ 0 ge49_0 (x9_2:Int) (of_eq_true p48) (of_eq_true q48)))));refine yH_ (t:=3) (p:=110) (v:=?vo_w50) (w1:=(wc.setCell ⟨go48,(x9_2:Int).toNat,none⟩ (.int .i64 (rd (rd_L6 x7_2 x8_1) (ji30))))) ?hg ?ho ?hn ?hr ?_;(case ho=>rfl);(case hg=>rfl);(case hn=>rfl);(case hr=>(try obtain ⟨As_,cs_,rfl⟩:=Kd.yC_ HO207.out);first|(go_simp;done)|(go_simp;rfl));intro w50 hw;have hg:wc.grownBy w50 (some go48):=(by rw [hw];exact HP49.2);have hz_:Kd.R (Kd.int .i64) 3 w50 w.heap.size oki49 (.slice (some ⟨go48,0,none⟩) (rd_L6 x7_2 x8_1).length c211_0) y230:=(by rw [hw,Ny230.out];exact HP49.1);have hp_:Kd.S (Kd.slice 3 (Kd.int .i64)) 43 w50 w.heap.size (fun _=>True) (.slice (some ⟨go14,0,none⟩) x7_2.length co14) y232:=(by rw [Ny232.out];exact hbk49 hg (fun k_ e_=>by injection e_ with e_;subst e_;exact ge49_0.1 _ rfl) (Kd.M_row hz_));have hm_:=Kd.R_mono hz_ hok49;clear HP49 hbk49;have n0_:=Aside0.mk (hp_);have n1_:=Aside0.mk ((by rw [hw];exact yo_ (HB.out) GB48.out:Below w.heap.size w w50));have n2_:=Aside0.mk (hm_);have n3_:=Aside0.mk ((Kd.ys_ hm_).2.1);clear HO_7;clear HB;clear HL209_0;clear HL211_0;clear HL213_0;clear HL229_0;have HO_7:=n0_;have HB:=n1_;have HL279:=n2_;have HC231:=n3_;clear n0_ n1_ n2_ n3_;clear hg hw hp_ hz_ hm_ hok49))
        repeat (go_quiet (first|((with_reducible refine yM_ (t:=3) (p:=110) rfl ?_);(try (rw [y8_ wc];generalize hq_:World.drewN wc _=wc;have n0_:=Aside0.mk (Kd.S_at hq_ HO_7.out);have nX_:=Aside0.mk (yBb_ hq_ HX229_0.out);have n2_:=Aside0.mk (ymb_ hq_ HB.out);clear hq_ HO_7 HB HX229_0;have HO_7:=n0_;have HX229_0:=nX_;have HB:=n2_;clear n0_ nX_ n2_;(try (have hq49:(x8_1:Int) < (x7_2.length:Int):=(by have h_:(x8_1:Int) < ((x7_2.length:Int):Int):=of_decide_eq_true (by assumption);first|exact h_|(have e_:=(Kd.yy_ HO_7.out).1;omega)|simpa only [List.length_set,List.length_set] using h_)));(try (obtain ⟨oki49,ce49,hcl49,hM49,hcc49,hok49,hbk49⟩:=Kd.yhb_ HO_7.out [] (x8_1:Int) (of_decide_eq_true (by assumption)) hq49));(try (obtain ⟨ve49_0,rfl,ge49_0⟩:=hM49));(try (have hv49:=hcc49 0 _ rfl));(try (rw [Nat.add_zero,show ((Kd.slice 3 (Kd.int .i64))).sz=1 from rfl,Nat.mul_one] at hv49));(try (replace hv49:=Option.some.inj (hv49.symm.trans HX229_0.out)));(try (subst hv49));(try (clear hcc49 hcl49));(try (replace ge49_0:=(show Kd.R (Kd.int .i64) 3 _ _ _ _ (rd_L6 x7_2 x8_1) from ge49_0)));(try (have HP49:=Kd.R_putg ge49_0 (x9_2:Int) (rd (rd_L6 x7_2 x8_1) (ji30))));(try (obtain ⟨hx48_0,hf48_0⟩:=Kd.ykb_ 0 ge49_0 (x9_2:Int) (of_eq_true p48) (of_eq_true q48)))));refine yH_ (t:=3) (p:=110) (v:=?vo_w50) (w1:=(wc.setCell ⟨go48,(x9_2:Int).toNat,none⟩ (.int .i64 (rd (rd_L6 x7_2 x8_1) (ji30))))) ?hg ?ho ?hn ?hr ?_;(case ho=>rfl);(case hg=>rfl);(case hn=>rfl);(case hr=>(try obtain ⟨As_,cs_,rfl⟩:=Kd.yC_ HO207.out);first|(go_simp;done)|(go_simp;rfl));intro w50 hw;have hg:wc.grownBy w50 (some go48):=(by rw [hw];exact HP49.2);have hz_:Kd.R (Kd.int .i64) 3 w50 w.heap.size oki49 (.slice (some ⟨go48,0,none⟩) (rd_L6 x7_2 x8_1).length c211_0) y230:=(by rw [hw,Ny230.out];exact HP49.1);have hp_:Kd.S (Kd.slice 3 (Kd.int .i64)) 43 w50 w.heap.size (fun _=>True) (.slice (some ⟨go14,0,none⟩) x7_2.length co14) y232:=(by rw [Ny232.out];exact hbk49 hg (fun k_ e_=>by injection e_ with e_;subst e_;exact ge49_0.1 _ rfl) (Kd.M_row hz_));have hm_:=Kd.R_mono hz_ hok49;clear HP49 hbk49;have n0_:=Aside0.mk (hp_);have n1_:=Aside0.mk ((by rw [hw];exact yo_ (HB.out) GB48.out:Below w.heap.size w w50));have n2_:=Aside0.mk (hm_);have n3_:=Aside0.mk ((Kd.ys_ hm_).2.1);clear HO_7;clear HB;clear HL209_0;clear HL211_0;clear HL213_0;clear HL229_0;have HO_7:=n0_;have HB:=n1_;have HL279:=n2_;have HC231:=n3_;clear n0_ n1_ n2_ n3_;clear hg hw hp_ hz_ hm_ hok49));try go_wp2_with (first|((with_reducible refine yM_ (t:=3) (p:=110) rfl ?_);(try (rw [y8_ wc];generalize hq_:World.drewN wc _=wc;have n0_:=Aside0.mk (Kd.S_at hq_ HO_7.out);have nX_:=Aside0.mk (yBb_ hq_ HX229_0.out);have n2_:=Aside0.mk (ymb_ hq_ HB.out);clear hq_ HO_7 HB HX229_0;have HO_7:=n0_;have HX229_0:=nX_;have HB:=n2_;clear n0_ nX_ n2_;(try (have hq49:(x8_1:Int) < (x7_2.length:Int):=(by have h_:(x8_1:Int) < ((x7_2.length:Int):Int):=of_decide_eq_true (by assumption);first|exact h_|(have e_:=(Kd.yy_ HO_7.out).1;omega)|simpa only [List.length_set,List.length_set] using h_)));(try (obtain ⟨oki49,ce49,hcl49,hM49,hcc49,hok49,hbk49⟩:=Kd.yhb_ HO_7.out [] (x8_1:Int) (of_decide_eq_true (by assumption)) hq49));(try (obtain ⟨ve49_0,rfl,ge49_0⟩:=hM49));(try (have hv49:=hcc49 0 _ rfl));(try (rw [Nat.add_zero,show ((Kd.slice 3 (Kd.int .i64))).sz=1 from rfl,Nat.mul_one] at hv49));(try (replace hv49:=Option.some.inj (hv49.symm.trans HX229_0.out)));(try (subst hv49));(try (clear hcc49 hcl49));(try (replace ge49_0:=(show Kd.R (Kd.int .i64) 3 _ _ _ _ (rd_L6 x7_2 x8_1) from ge49_0)));(try (have HP49:=Kd.R_putg ge49_0 (x9_2:Int) (rd (rd_L6 x7_2 x8_1) (ji30))));(try (obtain ⟨hx48_0,hf48_0⟩:=Kd.ykb_ 0 ge49_0 (x9_2:Int) (of_eq_true p48) (of_eq_true q48)))));refine yH_ (t:=3) (p:=110) (v:=?vo_w50) (w1:=(wc.setCell ⟨go48,(x9_2:Int).toNat,none⟩ (.int .i64 (rd (rd_L6 x7_2 x8_1) (ji30))))) ?hg ?ho ?hn ?hr ?_;(case ho=>rfl);(case hg=>rfl);(case hn=>rfl);(case hr=>(try obtain ⟨As_,cs_,rfl⟩:=Kd.yC_ HO207.out);first|(go_simp;done)|(go_simp;rfl));intro w50 hw;have hg:wc.grownBy w50 (some go48):=(by rw [hw];exact HP49.2);have hz_:Kd.R (Kd.int .i64) 3 w50 w.heap.size oki49 (.slice (some ⟨go48,0,none⟩) (rd_L6 x7_2 x8_1).length c211_0) y230:=(by rw [hw,Ny230.out];exact HP49.1);have hp_:Kd.S (Kd.slice 3 (Kd.int .i64)) 43 w50 w.heap.size (fun _=>True) (.slice (some ⟨go14,0,none⟩) x7_2.length co14) y232:=(by rw [Ny232.out];exact hbk49 hg (fun k_ e_=>by injection e_ with e_;subst e_;exact ge49_0.1 _ rfl) (Kd.M_row hz_));have hm_:=Kd.R_mono hz_ hok49;clear HP49 hbk49;have n0_:=Aside0.mk (hp_);have n1_:=Aside0.mk ((by rw [hw];exact yo_ (HB.out) GB48.out:Below w.heap.size w w50));have n2_:=Aside0.mk (hm_);have n3_:=Aside0.mk ((Kd.ys_ hm_).2.1);clear HO_7;clear HB;clear HL209_0;clear HL211_0;clear HL213_0;clear HL229_0;have HO_7:=n0_;have HB:=n1_;have HL279:=n2_;have HC231:=n3_;clear n0_ n1_ n2_ n3_;clear hg hw hp_ hz_ hm_ hok49)))
        (try simp only [← hl7_2])
        go_roundg kj19
        case measure=>have:=HK1.out;have:=HK2.out;have:=HJ19.out;omega
        case rel=>exact ⟨(y232),(wrap64 (x9_2 - 1)),(by first|rfl|(simp;done)|(simp [*];done)),H',⟨by have:=HK1.out;have:=HK2.out;have:=HJ19.out;omega⟩,⟨by (try simp only [hl7_2]);(with_reducible repeat (first|apply Kd.yW_|apply Kd.yU_|apply Kd.S_drew));exact HO_7.out⟩,⟨by repeat (with_reducible first|exact HB.out|apply yc_|apply ya_|apply yb_)⟩⟩
       rw [if_pos c36] at H
       have c36b0:((rdOf ByteArray.empty l0 x8_1).toList == (rdOf ByteArray.empty l1 x9_2).toList)=true:=beq_iff_eq.mpr c36
       have c36b1:((rdOf ByteArray.empty l0 x8_1).toList != (rdOf ByteArray.empty l1 x9_2).toList)=false:=bne_eq_false_iff_eq.mpr c36
       clear c36
       by_cases c37:(ji30) < ((rd_L6 x7_2 (ji23)).length:Int)
       rotate_left
       ·rw [if_neg c37] at H
        exact absurd H (by simp)
       rw [if_pos c37] at H
       have c37b0:decide ((ji30) < ((rd_L6 x7_2 (ji23)).length:Int))=true:=decide_eq_true c37
       clear c37
       by_cases c38:(wrap64 ((rd (rd_L6 x7_2 (ji23)) (ji30))+1)) > (rd (rd_L6 x7_2 x8_1) (ji30))
       rotate_left
       ·rw [if_neg c38] at H
        have c38b0:decide ((rd (rd_L6 x7_2 x8_1) (ji30)) < (wrap64 ((rd (rd_L6 x7_2 (ji23)) (ji30))+1)))=false:=decide_eq_false c38
        clear c38
        by_cases c43:x9_2 < ((rd_L6 x7_2 x8_1).length:Int)
        rotate_left
        ·rw [if_neg c43] at H
         exact absurd H (by simp)
        rw [if_pos c43] at H
        have c43b0:decide (x9_2 < ((rd_L6 x7_2 x8_1).length:Int))=true:=decide_eq_true c43
        clear c43
        obtain ⟨y226,hy226⟩:∃ y_:List Int,y_=((rd_L6 x7_2 x8_1).set (x9_2:Int).toNat (rd (rd_L6 x7_2 x8_1) (ji30))):=⟨_,rfl⟩
        replace H:(yd_.l1 kj19 l0 l1 (l0.length:Int) (l1.length:Int) (x7_2.set (x8_1:Int).toNat y226) x8_1 (wrap64 (x9_2 - 1)))=some r:=by first|(rw [hy226];with_reducible exact H)|(have H2_:=(Option.bind_some _ _).symm.trans H;rw [hy226];with_reducible exact H2_)|(have H2_:=(Option.bind_some _ _).symm.trans H;with_reducible exact H2_)|with_reducible exact H|(rw [hy226];exact H)|exact H
        have Ny226:=Aside0.mk hy226
        clear hy226
        obtain ⟨y228,hy228⟩:∃ y_:List (List Int),y_=(x7_2.set (x8_1:Int).toNat y226):=⟨_,rfl⟩
        replace H:(yd_.l1 kj19 l0 l1 (l0.length:Int) (l1.length:Int) y228 x8_1 (wrap64 (x9_2 - 1)))=some r:=by first|(rw [hy228];with_reducible exact H)|(have H2_:=(Option.bind_some _ _).symm.trans H;rw [hy228];with_reducible exact H2_)|(have H2_:=(Option.bind_some _ _).symm.trans H;with_reducible exact H2_)|with_reducible exact H|(rw [hy228];exact H)|exact H
        have Ny228:=Aside0.mk hy228
        clear hy228
        have H':=Aside0.mk H
        clear H
        have p209:0≤((ji23):Int):=of_decide_eq_true (by assumption)
        have q209:(ji23) < (x7_2.length:Int):=of_decide_eq_true (by assumption)
        obtain ⟨ad209,A209_0,c209_0,e209,hx209_0,hl209_0,hi209_0⟩:=at_L6 (Kd.yy_ HO_7.out).2.2 (ji23) p209 q209
        obtain rfl:(⟨go14,0,none⟩:Addr)=ad209:=(by injection e209)
        obtain ⟨ce209,hce209,hMe209,hcc209⟩:=Kd.S_get HO_7.out [] (ji23) p209 (by first|exact q209|exact of_decide_eq_true (by assumption)|(have e_:=(Kd.yy_ HO_7.out).1;omega))
        obtain ⟨ve209_0,rfl,ge209_0⟩:=hMe209
        have hv209_0:=hcc209 0 _ rfl
        rw [Nat.add_zero,show ((Kd.slice 3 (Kd.int .i64))).sz=1 from rfl,Nat.mul_one] at hv209_0
        replace hv209_0:=Option.some.inj (hv209_0.symm.trans hx209_0)
        rw [hv209_0] at ge209_0
        have HL209_0:=Aside0.mk (show Kd.R (Kd.int .i64) 3 _ _ _ _ (rd_L6 x7_2 (ji23)) from ge209_0)
        clear hv209_0 ge209_0
        have HX209_0:=Aside0.mk hx209_0
        clear hcc209 hce209
        (first|simp only [add_plain] at hx209_0|simp only [add_at] at hx209_0|simp only [Addr.add,Nat.zero_add] at hx209_0|skip)
        have HR209_0:=Aside0.mk hi209_0
        have HC209_0:=Aside0.mk hl209_0
        clear hi209_0 hl209_0
        replace p209:=eq_true p209
        replace q209:=eq_true q209
        have p210:0≤(x9_2:Int):=of_decide_eq_true (by assumption)
        have q210:x9_2 < ((rd_L6 x7_2 (ji23)).length:Int):=of_decide_eq_true (by assumption)
        obtain ⟨ad210,e210,hx210_0⟩:=Kd.at_int (by repeat (first|(with_reducible exact HR209_0.out)|(with_reducible refine Kd.yK_ ?_ _)|(with_reducible refine Kd.y1_ ?_ _)|(with_reducible refine Kd.C_drew ?_)|exact HR209_0.out)) x9_2 p210 q210
        cases e210
        replace p210:=eq_true p210
        replace q210:=eq_true q210
        have p211:0≤(x8_1:Int):=of_decide_eq_true (by assumption)
        have q211:x8_1 < (x7_2.length:Int):=of_decide_eq_true (by assumption)
        obtain ⟨ad211,A211_0,c211_0,e211,hx211_0,hl211_0,hi211_0⟩:=at_L6 (Kd.yy_ HO_7.out).2.2 x8_1 p211 q211
        obtain rfl:(⟨go14,0,none⟩:Addr)=ad211:=(by injection e211)
        obtain ⟨ce211,hce211,hMe211,hcc211⟩:=Kd.S_get HO_7.out [] x8_1 p211 (by first|exact q211|exact of_decide_eq_true (by assumption)|(have e_:=(Kd.yy_ HO_7.out).1;omega))
        obtain ⟨ve211_0,rfl,ge211_0⟩:=hMe211
        have hv211_0:=hcc211 0 _ rfl
        rw [Nat.add_zero,show ((Kd.slice 3 (Kd.int .i64))).sz=1 from rfl,Nat.mul_one] at hv211_0
        replace hv211_0:=Option.some.inj (hv211_0.symm.trans hx211_0)
        rw [hv211_0] at ge211_0
        have HL211_0:=Aside0.mk (show Kd.R (Kd.int .i64) 3 _ _ _ _ (rd_L6 x7_2 x8_1) from ge211_0)
        clear hv211_0 ge211_0
        have HX211_0:=Aside0.mk hx211_0
        clear hcc211 hce211
        (first|simp only [add_plain] at hx211_0|simp only [add_at] at hx211_0|simp only [Addr.add,Nat.zero_add] at hx211_0|skip)
        have HR211_0:=Aside0.mk hi211_0
        have HC211_0:=Aside0.mk hl211_0
        clear hi211_0 hl211_0
        replace p211:=eq_true p211
        replace q211:=eq_true q211
        have p212:0≤((ji30):Int):=of_decide_eq_true (by assumption)
        have q212:(ji30) < ((rd_L6 x7_2 x8_1).length:Int):=of_decide_eq_true (by assumption)
        obtain ⟨ad212,e212,hx212_0⟩:=Kd.at_int (by repeat (first|(with_reducible exact HR211_0.out)|(with_reducible refine Kd.yK_ ?_ _)|(with_reducible refine Kd.y1_ ?_ _)|(with_reducible refine Kd.C_drew ?_)|exact HR211_0.out)) (ji30) p212 q212
        cases e212
        replace p212:=eq_true p212
        replace q212:=eq_true q212
        have p213:0≤(x8_1:Int):=of_decide_eq_true (by assumption)
        have q213:x8_1 < (x7_2.length:Int):=of_decide_eq_true (by assumption)
        obtain ⟨ad213,A213_0,c213_0,e213,hx213_0,hl213_0,hi213_0⟩:=at_L6 (Kd.yy_ HO_7.out).2.2 x8_1 p213 q213
        obtain rfl:(⟨go14,0,none⟩:Addr)=ad213:=(by injection e213)
        obtain ⟨ce213,hce213,hMe213,hcc213⟩:=Kd.S_get HO_7.out [] x8_1 p213 (by first|exact q213|exact of_decide_eq_true (by assumption)|(have e_:=(Kd.yy_ HO_7.out).1;omega))
        obtain ⟨ve213_0,rfl,ge213_0⟩:=hMe213
        have hv213_0:=hcc213 0 _ rfl
        rw [Nat.add_zero,show ((Kd.slice 3 (Kd.int .i64))).sz=1 from rfl,Nat.mul_one] at hv213_0
        replace hv213_0:=Option.some.inj (hv213_0.symm.trans hx213_0)
        rw [hv213_0] at ge213_0
        have HL213_0:=Aside0.mk (show Kd.R (Kd.int .i64) 3 _ _ _ _ (rd_L6 x7_2 x8_1) from ge213_0)
        clear hv213_0 ge213_0
        have HX213_0:=Aside0.mk hx213_0
        clear hcc213 hce213
        (first|simp only [add_plain] at hx213_0|simp only [add_at] at hx213_0|simp only [Addr.add,Nat.zero_add] at hx213_0|skip)
        have HR213_0:=Aside0.mk hi213_0
        have HC213_0:=Aside0.mk hl213_0
        clear hi213_0 hl213_0
        replace p213:=eq_true p213
        replace q213:=eq_true q213
        have ea_:=Option.some.inj (hx211_0.symm.trans hx213_0)
        injection ea_ with ea_ en_ ec_
        subst ea_
        subst ec_
        clear en_
        have p214:0≤((ji30):Int):=of_decide_eq_true (by assumption)
        have q214:(ji30) < ((rd_L6 x7_2 x8_1).length:Int):=of_decide_eq_true (by assumption)
        obtain ⟨ad214,e214,hx214_0⟩:=Kd.at_int (by repeat (first|(with_reducible exact HR213_0.out)|(with_reducible refine Kd.yK_ ?_ _)|(with_reducible refine Kd.y1_ ?_ _)|(with_reducible refine Kd.C_drew ?_)|exact HR213_0.out)) (ji30) p214 q214
        cases e214
        replace p214:=eq_true p214
        replace q214:=eq_true q214
        have p215:0≤(x8_1:Int):=of_decide_eq_true (by assumption)
        have q215:x8_1 < (l0.length:Int):=of_decide_eq_true (by assumption)
        obtain ⟨ad215,e215,hx215_0⟩:=Kd.yZ_ HR0.out x8_1 p215 q215
        cases e215
        replace hx215_0:=(HB.out.cell (World.block_lt_of_cell? w _ hx215_0)).trans hx215_0
        replace p215:=eq_true p215
        replace q215:=eq_true q215
        have p216:0≤(x9_2:Int):=of_decide_eq_true (by assumption)
        have q216:x9_2 < (l1.length:Int):=of_decide_eq_true (by assumption)
        obtain ⟨ad216,e216,hx216_0⟩:=Kd.yZ_ HR1.out x9_2 p216 q216
        cases e216
        replace hx216_0:=(HB.out.cell (World.block_lt_of_cell? w _ hx216_0)).trans hx216_0
        replace p216:=eq_true p216
        replace q216:=eq_true q216
        have p217:0≤((ji23):Int):=of_decide_eq_true (by assumption)
        have q217:(ji23) < (x7_2.length:Int):=of_decide_eq_true (by assumption)
        obtain ⟨ad217,A217_0,c217_0,e217,hx217_0,hl217_0,hi217_0⟩:=at_L6 (Kd.yy_ HO_7.out).2.2 (ji23) p217 q217
        obtain rfl:(⟨go14,0,none⟩:Addr)=ad217:=(by injection e217)
        obtain ⟨ce217,hce217,hMe217,hcc217⟩:=Kd.S_get HO_7.out [] (ji23) p217 (by first|exact q217|exact of_decide_eq_true (by assumption)|(have e_:=(Kd.yy_ HO_7.out).1;omega))
        obtain ⟨ve217_0,rfl,ge217_0⟩:=hMe217
        have hv217_0:=hcc217 0 _ rfl
        rw [Nat.add_zero,show ((Kd.slice 3 (Kd.int .i64))).sz=1 from rfl,Nat.mul_one] at hv217_0
        replace hv217_0:=Option.some.inj (hv217_0.symm.trans hx217_0)
        rw [hv217_0] at ge217_0
        have HL217_0:=Aside0.mk (show Kd.R (Kd.int .i64) 3 _ _ _ _ (rd_L6 x7_2 (ji23)) from ge217_0)
        clear hv217_0 ge217_0
        have HX217_0:=Aside0.mk hx217_0
        clear hcc217 hce217
        (first|simp only [add_plain] at hx217_0|simp only [add_at] at hx217_0|simp only [Addr.add,Nat.zero_add] at hx217_0|skip)
        have HR217_0:=Aside0.mk hi217_0
        have HC217_0:=Aside0.mk hl217_0
        clear hi217_0 hl217_0
        replace p217:=eq_true p217
        replace q217:=eq_true q217
        have ea_:=Option.some.inj (hx209_0.symm.trans hx217_0)
        injection ea_ with ea_ en_ ec_
        subst ea_
        subst ec_
        clear en_
        have p218:0≤((ji30):Int):=of_decide_eq_true (by assumption)
        have q218:(ji30) < ((rd_L6 x7_2 (ji23)).length:Int):=of_decide_eq_true (by assumption)
        obtain ⟨ad218,e218,hx218_0⟩:=Kd.at_int (by repeat (first|(with_reducible exact HR217_0.out)|(with_reducible refine Kd.yK_ ?_ _)|(with_reducible refine Kd.y1_ ?_ _)|(with_reducible refine Kd.C_drew ?_)|exact HR217_0.out)) (ji30) p218 q218
        cases e218
        replace p218:=eq_true p218
        replace q218:=eq_true q218
        have p225:0≤(x8_1:Int):=of_decide_eq_true (by assumption)
        have q225:x8_1 < (x7_2.length:Int):=of_decide_eq_true (by assumption)
        obtain ⟨ad225,A225_0,c225_0,e225,hx225_0,hl225_0,hi225_0⟩:=at_L6 (Kd.yy_ HO_7.out).2.2 x8_1 p225 q225
        obtain rfl:(⟨go14,0,none⟩:Addr)=ad225:=(by injection e225)
        obtain ⟨ce225,hce225,hMe225,hcc225⟩:=Kd.S_get HO_7.out [] x8_1 p225 (by first|exact q225|exact of_decide_eq_true (by assumption)|(have e_:=(Kd.yy_ HO_7.out).1;omega))
        obtain ⟨ve225_0,rfl,ge225_0⟩:=hMe225
        have hv225_0:=hcc225 0 _ rfl
        rw [Nat.add_zero,show ((Kd.slice 3 (Kd.int .i64))).sz=1 from rfl,Nat.mul_one] at hv225_0
        replace hv225_0:=Option.some.inj (hv225_0.symm.trans hx225_0)
        rw [hv225_0] at ge225_0
        have HL225_0:=Aside0.mk (show Kd.R (Kd.int .i64) 3 _ _ _ _ (rd_L6 x7_2 x8_1) from ge225_0)
        clear hv225_0 ge225_0
        have HX225_0:=Aside0.mk hx225_0
        clear hcc225 hce225
        (first|simp only [add_plain] at hx225_0|simp only [add_at] at hx225_0|simp only [Addr.add,Nat.zero_add] at hx225_0|skip)
        have HR225_0:=Aside0.mk hi225_0
        have HC225_0:=Aside0.mk hl225_0
        clear hi225_0 hl225_0
        replace p225:=eq_true p225
        replace q225:=eq_true q225
        have ea_:=Option.some.inj (hx211_0.symm.trans hx225_0)
        injection ea_ with ea_ en_ ec_
        subst ea_
        subst ec_
        clear en_
        have p44:0≤(x9_2:Int):=of_decide_eq_true (by assumption)
        have q44:(x9_2:Int) < (((rd_L6 x7_2 x8_1).length:Int):Int):=of_decide_eq_true (by assumption)
        obtain ⟨go44,co44,eo44,gb44,gl44,cl44,HG44⟩:=Kd.R_form HL225_0.out (by omega)
        (first|cases eo44|(injection eo44 with ea_ en_ ec_;(first|subst ea_|(injection ea_ with ea_;subst ea_));subst ec_;clear en_))
        have GB44:=Aside0.mk gb44
        have GG44:=Aside0.mk HG44
        clear gb44 gl44 HG44
        (first|simp only [add_plain] at hx214_0|skip)
        obtain ⟨hx44_0,hf44_0⟩:=Kd.ykb_ 0 HL225_0.out (x9_2:Int) p44 q44
        replace p44:=eq_true p44
        replace q44:=eq_true q44
        have hq45:(x8_1:Int) < (x7_2.length:Int):=(by have h_:(x8_1:Int) < ((x7_2.length:Int):Int):=of_decide_eq_true (by assumption);first|exact h_|(have e_:=(Kd.yy_ HO_7.out).1;omega)|simpa only [List.length_set,List.length_set] using h_)
        obtain ⟨oki45,ce45,hcl45,hM45,hcc45,hok45,hbk45⟩:=Kd.yhb_ HO_7.out [] (x8_1:Int) (of_decide_eq_true (by assumption)) hq45
        obtain ⟨ve45_0,rfl,ge45_0⟩:=hM45
        have hv45:=hcc45 0 _ rfl
        rw [Nat.add_zero,show ((Kd.slice 3 (Kd.int .i64))).sz=1 from rfl,Nat.mul_one] at hv45
        replace hv45:=Option.some.inj (hv45.symm.trans HX225_0.out)
        subst hv45
        clear hcc45 hcl45
        replace ge45_0:=(show Kd.R (Kd.int .i64) 3 _ _ _ _ (rd_L6 x7_2 x8_1) from ge45_0)
        have HP45:=Kd.R_putg ge45_0 (x9_2:Int) (rd (rd_L6 x7_2 x8_1) (ji30))
        go_wp2_with (first|((with_reducible refine yM_ (t:=3) (p:=110) rfl ?_);(try (rw [y8_ wc];generalize hq_:World.drewN wc _=wc;have n0_:=Aside0.mk (Kd.S_at hq_ HO_7.out);have nX_:=Aside0.mk (yBb_ hq_ HX225_0.out);have n2_:=Aside0.mk (ymb_ hq_ HB.out);clear hq_ HO_7 HB HX225_0;have HO_7:=n0_;have HX225_0:=nX_;have HB:=n2_;clear n0_ nX_ n2_;(try (have hq45:(x8_1:Int) < (x7_2.length:Int):=(by have h_:(x8_1:Int) < ((x7_2.length:Int):Int):=of_decide_eq_true (by assumption);first|exact h_|(have e_:=(Kd.yy_ HO_7.out).1;omega)|simpa only [List.length_set,List.length_set] using h_)));(try (obtain ⟨oki45,ce45,hcl45,hM45,hcc45,hok45,hbk45⟩:=Kd.yhb_ HO_7.out [] (x8_1:Int) (of_decide_eq_true (by assumption)) hq45));(try (obtain ⟨ve45_0,rfl,ge45_0⟩:=hM45));(try (have hv45:=hcc45 0 _ rfl));(try (rw [Nat.add_zero,show ((Kd.slice 3 (Kd.int .i64))).sz=1 from rfl,Nat.mul_one] at hv45));(try (replace hv45:=Option.some.inj (hv45.symm.trans HX225_0.out)));(try (subst hv45));(try (clear hcc45 hcl45));(try (replace ge45_0:=(show Kd.R (Kd.int .i64) 3 _ _ _ _ (rd_L6 x7_2 x8_1) from ge45_0)));(try (have HP45:=Kd.R_putg ge45_0 (x9_2:Int) (rd (rd_L6 x7_2 x8_1) (ji30))));(try (obtain ⟨hx44_0,hf44_0⟩:=Kd.ykb_ 0 ge45_0 (x9_2:Int) (of_eq_true p44) (of_eq_true q44)))));refine yH_ (t:=3) (p:=110) (v:=?vo_w46) (w1:=(wc.setCell ⟨go44,(x9_2:Int).toNat,none⟩ (.int .i64 (rd (rd_L6 x7_2 x8_1) (ji30))))) ?hg ?ho ?hn ?hr ?_;(case ho=>rfl);(case hg=>rfl);(case hn=>rfl);(case hr=>(try obtain ⟨As_,cs_,rfl⟩:=Kd.yC_ HO207.out);first|(go_simp;done)|(go_simp;rfl));intro w46 hw;have hg:wc.grownBy w46 (some go44):=(by rw [hw];exact HP45.2);have hz_:Kd.R (Kd.int .i64) 3 w46 w.heap.size oki45 (.slice (some ⟨go44,0,none⟩) (rd_L6 x7_2 x8_1).length c211_0) y226:=(by rw [hw,Ny226.out];exact HP45.1);have hp_:Kd.S (Kd.slice 3 (Kd.int .i64)) 43 w46 w.heap.size (fun _=>True) (.slice (some ⟨go14,0,none⟩) x7_2.length co14) y228:=(by rw [Ny228.out];exact hbk45 hg (fun k_ e_=>by injection e_ with e_;subst e_;exact ge45_0.1 _ rfl) (Kd.M_row hz_));have hm_:=Kd.R_mono hz_ hok45;clear HP45 hbk45;have n0_:=Aside0.mk (hp_);have n1_:=Aside0.mk ((by rw [hw];exact yo_ (HB.out) GB44.out:Below w.heap.size w w46));have n2_:=Aside0.mk (hm_);have n3_:=Aside0.mk ((Kd.ys_ hm_).2.1);clear HO_7;clear HB;clear HL209_0;clear HL211_0;clear HL213_0;clear HL217_0;clear HL225_0;have HO_7:=n0_;have HB:=n1_;have HL278:=n2_;have HC227:=n3_;clear n0_ n1_ n2_ n3_;clear hg hw hp_ hz_ hm_ hok45))
        repeat (go_quiet (first|((with_reducible refine yM_ (t:=3) (p:=110) rfl ?_);(try (rw [y8_ wc];generalize hq_:World.drewN wc _=wc;have n0_:=Aside0.mk (Kd.S_at hq_ HO_7.out);have nX_:=Aside0.mk (yBb_ hq_ HX225_0.out);have n2_:=Aside0.mk (ymb_ hq_ HB.out);clear hq_ HO_7 HB HX225_0;have HO_7:=n0_;have HX225_0:=nX_;have HB:=n2_;clear n0_ nX_ n2_;(try (have hq45:(x8_1:Int) < (x7_2.length:Int):=(by have h_:(x8_1:Int) < ((x7_2.length:Int):Int):=of_decide_eq_true (by assumption);first|exact h_|(have e_:=(Kd.yy_ HO_7.out).1;omega)|simpa only [List.length_set,List.length_set] using h_)));(try (obtain ⟨oki45,ce45,hcl45,hM45,hcc45,hok45,hbk45⟩:=Kd.yhb_ HO_7.out [] (x8_1:Int) (of_decide_eq_true (by assumption)) hq45));(try (obtain ⟨ve45_0,rfl,ge45_0⟩:=hM45));(try (have hv45:=hcc45 0 _ rfl));(try (rw [Nat.add_zero,show ((Kd.slice 3 (Kd.int .i64))).sz=1 from rfl,Nat.mul_one] at hv45));(try (replace hv45:=Option.some.inj (hv45.symm.trans HX225_0.out)));(try (subst hv45));(try (clear hcc45 hcl45));(try (replace ge45_0:=(show Kd.R (Kd.int .i64) 3 _ _ _ _ (rd_L6 x7_2 x8_1) from ge45_0)));(try (have HP45:=Kd.R_putg ge45_0 (x9_2:Int) (rd (rd_L6 x7_2 x8_1) (ji30))));(try (obtain ⟨hx44_0,hf44_0⟩:=Kd.ykb_ 0 ge45_0 (x9_2:Int) (of_eq_true p44) (of_eq_true q44)))));refine yH_ (t:=3) (p:=110) (v:=?vo_w46) (w1:=(wc.setCell ⟨go44,(x9_2:Int).toNat,none⟩ (.int .i64 (rd (rd_L6 x7_2 x8_1) (ji30))))) ?hg ?ho ?hn ?hr ?_;(case ho=>rfl);(case hg=>rfl);(case hn=>rfl);(case hr=>(try obtain ⟨As_,cs_,rfl⟩:=Kd.yC_ HO207.out);first|(go_simp;done)|(go_simp;rfl));intro w46 hw;have hg:wc.grownBy w46 (some go44):=(by rw [hw];exact HP45.2);have hz_:Kd.R (Kd.int .i64) 3 w46 w.heap.size oki45 (.slice (some ⟨go44,0,none⟩) (rd_L6 x7_2 x8_1).length c211_0) y226:=(by rw [hw,Ny226.out];exact HP45.1);have hp_:Kd.S (Kd.slice 3 (Kd.int .i64)) 43 w46 w.heap.size (fun _=>True) (.slice (some ⟨go14,0,none⟩) x7_2.length co14) y228:=(by rw [Ny228.out];exact hbk45 hg (fun k_ e_=>by injection e_ with e_;subst e_;exact ge45_0.1 _ rfl) (Kd.M_row hz_));have hm_:=Kd.R_mono hz_ hok45;clear HP45 hbk45;have n0_:=Aside0.mk (hp_);have n1_:=Aside0.mk ((by rw [hw];exact yo_ (HB.out) GB44.out:Below w.heap.size w w46));have n2_:=Aside0.mk (hm_);have n3_:=Aside0.mk ((Kd.ys_ hm_).2.1);clear HO_7;clear HB;clear HL209_0;clear HL211_0;clear HL213_0;clear HL217_0;clear HL225_0;have HO_7:=n0_;have HB:=n1_;have HL278:=n2_;have HC227:=n3_;clear n0_ n1_ n2_ n3_;clear hg hw hp_ hz_ hm_ hok45));try go_wp2_with (first|((with_reducible refine yM_ (t:=3) (p:=110) rfl ?_);(try (rw [y8_ wc];generalize hq_:World.drewN wc _=wc;have n0_:=Aside0.mk (Kd.S_at hq_ HO_7.out);have nX_:=Aside0.mk (yBb_ hq_ HX225_0.out);have n2_:=Aside0.mk (ymb_ hq_ HB.out);clear hq_ HO_7 HB HX225_0;have HO_7:=n0_;have HX225_0:=nX_;have HB:=n2_;clear n0_ nX_ n2_;(try (have hq45:(x8_1:Int) < (x7_2.length:Int):=(by have h_:(x8_1:Int) < ((x7_2.length:Int):Int):=of_decide_eq_true (by assumption);first|exact h_|(have e_:=(Kd.yy_ HO_7.out).1;omega)|simpa only [List.length_set,List.length_set] using h_)));(try (obtain ⟨oki45,ce45,hcl45,hM45,hcc45,hok45,hbk45⟩:=Kd.yhb_ HO_7.out [] (x8_1:Int) (of_decide_eq_true (by assumption)) hq45));(try (obtain ⟨ve45_0,rfl,ge45_0⟩:=hM45));(try (have hv45:=hcc45 0 _ rfl));(try (rw [Nat.add_zero,show ((Kd.slice 3 (Kd.int .i64))).sz=1 from rfl,Nat.mul_one] at hv45));(try (replace hv45:=Option.some.inj (hv45.symm.trans HX225_0.out)));(try (subst hv45));(try (clear hcc45 hcl45));(try (replace ge45_0:=(show Kd.R (Kd.int .i64) 3 _ _ _ _ (rd_L6 x7_2 x8_1) from ge45_0)));(try (have HP45:=Kd.R_putg ge45_0 (x9_2:Int) (rd (rd_L6 x7_2 x8_1) (ji30))));(try (obtain ⟨hx44_0,hf44_0⟩:=Kd.ykb_ 0 ge45_0 (x9_2:Int) (of_eq_true p44) (of_eq_true q44)))));refine yH_ (t:=3) (p:=110) (v:=?vo_w46) (w1:=(wc.setCell ⟨go44,(x9_2:Int).toNat,none⟩ (.int .i64 (rd (rd_L6 x7_2 x8_1) (ji30))))) ?hg ?ho ?hn ?hr ?_;(case ho=>rfl);(case hg=>rfl);(case hn=>rfl);(case hr=>(try obtain ⟨As_,cs_,rfl⟩:=Kd.yC_ HO207.out);first|(go_simp;done)|(go_simp;rfl));intro w46 hw;have hg:wc.grownBy w46 (some go44):=(by rw [hw];exact HP45.2);have hz_:Kd.R (Kd.int .i64) 3 w46 w.heap.size oki45 (.slice (some ⟨go44,0,none⟩) (rd_L6 x7_2 x8_1).length c211_0) y226:=(by rw [hw,Ny226.out];exact HP45.1);have hp_:Kd.S (Kd.slice 3 (Kd.int .i64)) 43 w46 w.heap.size (fun _=>True) (.slice (some ⟨go14,0,none⟩) x7_2.length co14) y228:=(by rw [Ny228.out];exact hbk45 hg (fun k_ e_=>by injection e_ with e_;subst e_;exact ge45_0.1 _ rfl) (Kd.M_row hz_));have hm_:=Kd.R_mono hz_ hok45;clear HP45 hbk45;have n0_:=Aside0.mk (hp_);have n1_:=Aside0.mk ((by rw [hw];exact yo_ (HB.out) GB44.out:Below w.heap.size w w46));have n2_:=Aside0.mk (hm_);have n3_:=Aside0.mk ((Kd.ys_ hm_).2.1);clear HO_7;clear HB;clear HL209_0;clear HL211_0;clear HL213_0;clear HL217_0;clear HL225_0;have HO_7:=n0_;have HB:=n1_;have HL278:=n2_;have HC227:=n3_;clear n0_ n1_ n2_ n3_;clear hg hw hp_ hz_ hm_ hok45)))
        (try simp only [← hl7_2])
        go_roundg kj19
        case measure=>have:=HK1.out;have:=HK2.out;have:=HJ19.out;omega
        case rel=>exact ⟨(y228),(wrap64 (x9_2 - 1)),(by first|rfl|(simp;done)|(simp [*];done)),H',⟨by have:=HK1.out;have:=HK2.out;have:=HJ19.out;omega⟩,⟨by (try simp only [hl7_2]);(with_reducible repeat (first|apply Kd.yW_|apply Kd.yU_|apply Kd.S_drew));exact HO_7.out⟩,⟨by repeat (with_reducible first|exact HB.out|apply yc_|apply ya_|apply yb_)⟩⟩
       rw [if_pos c38] at H
       have c38b0:decide ((rd (rd_L6 x7_2 x8_1) (ji30)) < (wrap64 ((rd (rd_L6 x7_2 (ji23)) (ji30))+1)))=true:=decide_eq_true c38
       clear c38
       by_cases c39:x9_2 < ((rd_L6 x7_2 x8_1).length:Int)
       rotate_left
       ·rw [if_neg c39] at H
        exact absurd H (by simp)
       rw [if_pos c39] at H
       have c39b0:decide (x9_2 < ((rd_L6 x7_2 x8_1).length:Int))=true:=decide_eq_true c39
       clear c39
       obtain ⟨y222,hy222⟩:∃ y_:List Int,y_=((rd_L6 x7_2 x8_1).set (x9_2:Int).toNat (wrap64 ((rd (rd_L6 x7_2 (ji23)) (ji30))+1))):=⟨_,rfl⟩
       replace H:(yd_.l1 kj19 l0 l1 (l0.length:Int) (l1.length:Int) (x7_2.set (x8_1:Int).toNat y222) x8_1 (wrap64 (x9_2 - 1)))=some r:=by first|(rw [hy222];with_reducible exact H)|(have H2_:=(Option.bind_some _ _).symm.trans H;rw [hy222];with_reducible exact H2_)|(have H2_:=(Option.bind_some _ _).symm.trans H;with_reducible exact H2_)|with_reducible exact H|(rw [hy222];exact H)|exact H
       have Ny222:=Aside0.mk hy222
       clear hy222
       obtain ⟨y224,hy224⟩:∃ y_:List (List Int),y_=(x7_2.set (x8_1:Int).toNat y222):=⟨_,rfl⟩
       replace H:(yd_.l1 kj19 l0 l1 (l0.length:Int) (l1.length:Int) y224 x8_1 (wrap64 (x9_2 - 1)))=some r:=by first|(rw [hy224];with_reducible exact H)|(have H2_:=(Option.bind_some _ _).symm.trans H;rw [hy224];with_reducible exact H2_)|(have H2_:=(Option.bind_some _ _).symm.trans H;with_reducible exact H2_)|with_reducible exact H|(rw [hy224];exact H)|exact H
       have Ny224:=Aside0.mk hy224
       clear hy224
       have H':=Aside0.mk H
       clear H
       have p209:0≤((ji23):Int):=of_decide_eq_true (by assumption)
       have q209:(ji23) < (x7_2.length:Int):=of_decide_eq_true (by assumption)
       obtain ⟨ad209,A209_0,c209_0,e209,hx209_0,hl209_0,hi209_0⟩:=at_L6 (Kd.yy_ HO_7.out).2.2 (ji23) p209 q209
       obtain rfl:(⟨go14,0,none⟩:Addr)=ad209:=(by injection e209)
       obtain ⟨ce209,hce209,hMe209,hcc209⟩:=Kd.S_get HO_7.out [] (ji23) p209 (by first|exact q209|exact of_decide_eq_true (by assumption)|(have e_:=(Kd.yy_ HO_7.out).1;omega))
       obtain ⟨ve209_0,rfl,ge209_0⟩:=hMe209
       have hv209_0:=hcc209 0 _ rfl
       rw [Nat.add_zero,show ((Kd.slice 3 (Kd.int .i64))).sz=1 from rfl,Nat.mul_one] at hv209_0
       replace hv209_0:=Option.some.inj (hv209_0.symm.trans hx209_0)
       rw [hv209_0] at ge209_0
       have HL209_0:=Aside0.mk (show Kd.R (Kd.int .i64) 3 _ _ _ _ (rd_L6 x7_2 (ji23)) from ge209_0)
       clear hv209_0 ge209_0
       have HX209_0:=Aside0.mk hx209_0
       clear hcc209 hce209
       (first|simp only [add_plain] at hx209_0|simp only [add_at] at hx209_0|simp only [Addr.add,Nat.zero_add] at hx209_0|skip)
       have HR209_0:=Aside0.mk hi209_0
       have HC209_0:=Aside0.mk hl209_0
       clear hi209_0 hl209_0
       replace p209:=eq_true p209
       replace q209:=eq_true q209
       have p210:0≤(x9_2:Int):=of_decide_eq_true (by assumption)
       have q210:x9_2 < ((rd_L6 x7_2 (ji23)).length:Int):=of_decide_eq_true (by assumption)
       obtain ⟨ad210,e210,hx210_0⟩:=Kd.at_int (by repeat (first|(with_reducible exact HR209_0.out)|(with_reducible refine Kd.yK_ ?_ _)|(with_reducible refine Kd.y1_ ?_ _)|(with_reducible refine Kd.C_drew ?_)|exact HR209_0.out)) x9_2 p210 q210
       cases e210
       replace p210:=eq_true p210
       replace q210:=eq_true q210
       have p211:0≤(x8_1:Int):=of_decide_eq_true (by assumption)
       have q211:x8_1 < (x7_2.length:Int):=of_decide_eq_true (by assumption)
       obtain ⟨ad211,A211_0,c211_0,e211,hx211_0,hl211_0,hi211_0⟩:=at_L6 (Kd.yy_ HO_7.out).2.2 x8_1 p211 q211
       obtain rfl:(⟨go14,0,none⟩:Addr)=ad211:=(by injection e211)
       obtain ⟨ce211,hce211,hMe211,hcc211⟩:=Kd.S_get HO_7.out [] x8_1 p211 (by first|exact q211|exact of_decide_eq_true (by assumption)|(have e_:=(Kd.yy_ HO_7.out).1;omega))
       obtain ⟨ve211_0,rfl,ge211_0⟩:=hMe211
       have hv211_0:=hcc211 0 _ rfl
       rw [Nat.add_zero,show ((Kd.slice 3 (Kd.int .i64))).sz=1 from rfl,Nat.mul_one] at hv211_0
       replace hv211_0:=Option.some.inj (hv211_0.symm.trans hx211_0)
       rw [hv211_0] at ge211_0
       have HL211_0:=Aside0.mk (show Kd.R (Kd.int .i64) 3 _ _ _ _ (rd_L6 x7_2 x8_1) from ge211_0)
       clear hv211_0 ge211_0
       have HX211_0:=Aside0.mk hx211_0
       clear hcc211 hce211
       (first|simp only [add_plain] at hx211_0|simp only [add_at] at hx211_0|simp only [Addr.add,Nat.zero_add] at hx211_0|skip)
       have HR211_0:=Aside0.mk hi211_0
       have HC211_0:=Aside0.mk hl211_0
       clear hi211_0 hl211_0
       replace p211:=eq_true p211
       replace q211:=eq_true q211
       have p212:0≤((ji30):Int):=of_decide_eq_true (by assumption)
       have q212:(ji30) < ((rd_L6 x7_2 x8_1).length:Int):=of_decide_eq_true (by assumption)
       obtain ⟨ad212,e212,hx212_0⟩:=Kd.at_int (by repeat (first|(with_reducible exact HR211_0.out)|(with_reducible refine Kd.yK_ ?_ _)|(with_reducible refine Kd.y1_ ?_ _)|(with_reducible refine Kd.C_drew ?_)|exact HR211_0.out)) (ji30) p212 q212
       cases e212
       replace p212:=eq_true p212
       replace q212:=eq_true q212
       have p213:0≤(x8_1:Int):=of_decide_eq_true (by assumption)
       have q213:x8_1 < (x7_2.length:Int):=of_decide_eq_true (by assumption)
       obtain ⟨ad213,A213_0,c213_0,e213,hx213_0,hl213_0,hi213_0⟩:=at_L6 (Kd.yy_ HO_7.out).2.2 x8_1 p213 q213
       obtain rfl:(⟨go14,0,none⟩:Addr)=ad213:=(by injection e213)
       obtain ⟨ce213,hce213,hMe213,hcc213⟩:=Kd.S_get HO_7.out [] x8_1 p213 (by first|exact q213|exact of_decide_eq_true (by assumption)|(have e_:=(Kd.yy_ HO_7.out).1;omega))
       obtain ⟨ve213_0,rfl,ge213_0⟩:=hMe213
       have hv213_0:=hcc213 0 _ rfl
       rw [Nat.add_zero,show ((Kd.slice 3 (Kd.int .i64))).sz=1 from rfl,Nat.mul_one] at hv213_0
       replace hv213_0:=Option.some.inj (hv213_0.symm.trans hx213_0)
       rw [hv213_0] at ge213_0
       have HL213_0:=Aside0.mk (show Kd.R (Kd.int .i64) 3 _ _ _ _ (rd_L6 x7_2 x8_1) from ge213_0)
       clear hv213_0 ge213_0
       have HX213_0:=Aside0.mk hx213_0
       clear hcc213 hce213
       (first|simp only [add_plain] at hx213_0|simp only [add_at] at hx213_0|simp only [Addr.add,Nat.zero_add] at hx213_0|skip)
       have HR213_0:=Aside0.mk hi213_0
       have HC213_0:=Aside0.mk hl213_0
       clear hi213_0 hl213_0
       replace p213:=eq_true p213
       replace q213:=eq_true q213
       have ea_:=Option.some.inj (hx211_0.symm.trans hx213_0)
       injection ea_ with ea_ en_ ec_
       subst ea_
       subst ec_
       clear en_
       have p214:0≤((ji30):Int):=of_decide_eq_true (by assumption)
       have q214:(ji30) < ((rd_L6 x7_2 x8_1).length:Int):=of_decide_eq_true (by assumption)
       obtain ⟨ad214,e214,hx214_0⟩:=Kd.at_int (by repeat (first|(with_reducible exact HR213_0.out)|(with_reducible refine Kd.yK_ ?_ _)|(with_reducible refine Kd.y1_ ?_ _)|(with_reducible refine Kd.C_drew ?_)|exact HR213_0.out)) (ji30) p214 q214
       cases e214
       replace p214:=eq_true p214
       replace q214:=eq_true q214
       have p215:0≤(x8_1:Int):=of_decide_eq_true (by assumption)
       have q215:x8_1 < (l0.length:Int):=of_decide_eq_true (by assumption)
       obtain ⟨ad215,e215,hx215_0⟩:=Kd.yZ_ HR0.out x8_1 p215 q215
       cases e215
       replace hx215_0:=(HB.out.cell (World.block_lt_of_cell? w _ hx215_0)).trans hx215_0
       replace p215:=eq_true p215
       replace q215:=eq_true q215
       have p216:0≤(x9_2:Int):=of_decide_eq_true (by assumption)
       have q216:x9_2 < (l1.length:Int):=of_decide_eq_true (by assumption)
       obtain ⟨ad216,e216,hx216_0⟩:=Kd.yZ_ HR1.out x9_2 p216 q216
       cases e216
       replace hx216_0:=(HB.out.cell (World.block_lt_of_cell? w _ hx216_0)).trans hx216_0
       replace p216:=eq_true p216
       replace q216:=eq_true q216
       have p217:0≤((ji23):Int):=of_decide_eq_true (by assumption)
       have q217:(ji23) < (x7_2.length:Int):=of_decide_eq_true (by assumption)
       obtain ⟨ad217,A217_0,c217_0,e217,hx217_0,hl217_0,hi217_0⟩:=at_L6 (Kd.yy_ HO_7.out).2.2 (ji23) p217 q217
       obtain rfl:(⟨go14,0,none⟩:Addr)=ad217:=(by injection e217)
       obtain ⟨ce217,hce217,hMe217,hcc217⟩:=Kd.S_get HO_7.out [] (ji23) p217 (by first|exact q217|exact of_decide_eq_true (by assumption)|(have e_:=(Kd.yy_ HO_7.out).1;omega))
       obtain ⟨ve217_0,rfl,ge217_0⟩:=hMe217
       have hv217_0:=hcc217 0 _ rfl
       rw [Nat.add_zero,show ((Kd.slice 3 (Kd.int .i64))).sz=1 from rfl,Nat.mul_one] at hv217_0
       replace hv217_0:=Option.some.inj (hv217_0.symm.trans hx217_0)
       rw [hv217_0] at ge217_0
       have HL217_0:=Aside0.mk (show Kd.R (Kd.int .i64) 3 _ _ _ _ (rd_L6 x7_2 (ji23)) from ge217_0)
       clear hv217_0 ge217_0
       have HX217_0:=Aside0.mk hx217_0
       clear hcc217 hce217
       (first|simp only [add_plain] at hx217_0|simp only [add_at] at hx217_0|simp only [Addr.add,Nat.zero_add] at hx217_0|skip)
       have HR217_0:=Aside0.mk hi217_0
       have HC217_0:=Aside0.mk hl217_0
       clear hi217_0 hl217_0
       replace p217:=eq_true p217
       replace q217:=eq_true q217
       have ea_:=Option.some.inj (hx209_0.symm.trans hx217_0)
       injection ea_ with ea_ en_ ec_
       subst ea_
       subst ec_
       clear en_
       have p218:0≤((ji30):Int):=of_decide_eq_true (by assumption)
       have q218:(ji30) < ((rd_L6 x7_2 (ji23)).length:Int):=of_decide_eq_true (by assumption)
       obtain ⟨ad218,e218,hx218_0⟩:=Kd.at_int (by repeat (first|(with_reducible exact HR217_0.out)|(with_reducible refine Kd.yK_ ?_ _)|(with_reducible refine Kd.y1_ ?_ _)|(with_reducible refine Kd.C_drew ?_)|exact HR217_0.out)) (ji30) p218 q218
       cases e218
       replace p218:=eq_true p218
       replace q218:=eq_true q218
       have p219:0≤((ji23):Int):=of_decide_eq_true (by assumption)
       have q219:(ji23) < (x7_2.length:Int):=of_decide_eq_true (by assumption)
       obtain ⟨ad219,A219_0,c219_0,e219,hx219_0,hl219_0,hi219_0⟩:=at_L6 (Kd.yy_ HO_7.out).2.2 (ji23) p219 q219
       obtain rfl:(⟨go14,0,none⟩:Addr)=ad219:=(by injection e219)
       obtain ⟨ce219,hce219,hMe219,hcc219⟩:=Kd.S_get HO_7.out [] (ji23) p219 (by first|exact q219|exact of_decide_eq_true (by assumption)|(have e_:=(Kd.yy_ HO_7.out).1;omega))
       obtain ⟨ve219_0,rfl,ge219_0⟩:=hMe219
       have hv219_0:=hcc219 0 _ rfl
       rw [Nat.add_zero,show ((Kd.slice 3 (Kd.int .i64))).sz=1 from rfl,Nat.mul_one] at hv219_0
       replace hv219_0:=Option.some.inj (hv219_0.symm.trans hx219_0)
       rw [hv219_0] at ge219_0
       have HL219_0:=Aside0.mk (show Kd.R (Kd.int .i64) 3 _ _ _ _ (rd_L6 x7_2 (ji23)) from ge219_0)
       clear hv219_0 ge219_0
       have HX219_0:=Aside0.mk hx219_0
       clear hcc219 hce219
       (first|simp only [add_plain] at hx219_0|simp only [add_at] at hx219_0|simp only [Addr.add,Nat.zero_add] at hx219_0|skip)
       have HR219_0:=Aside0.mk hi219_0
       have HC219_0:=Aside0.mk hl219_0
       clear hi219_0 hl219_0
       replace p219:=eq_true p219
       replace q219:=eq_true q219
       have ea_:=Option.some.inj (hx209_0.symm.trans hx219_0)
       injection ea_ with ea_ en_ ec_
       subst ea_
       subst ec_
       clear en_
       have p220:0≤((ji30):Int):=of_decide_eq_true (by assumption)
       have q220:(ji30) < ((rd_L6 x7_2 (ji23)).length:Int):=of_decide_eq_true (by assumption)
       obtain ⟨ad220,e220,hx220_0⟩:=Kd.at_int (by repeat (first|(with_reducible exact HR219_0.out)|(with_reducible refine Kd.yK_ ?_ _)|(with_reducible refine Kd.y1_ ?_ _)|(with_reducible refine Kd.C_drew ?_)|exact HR219_0.out)) (ji30) p220 q220
       cases e220
       replace p220:=eq_true p220
       replace q220:=eq_true q220
       have p221:0≤(x8_1:Int):=of_decide_eq_true (by assumption)
       have q221:x8_1 < (x7_2.length:Int):=of_decide_eq_true (by assumption)
       obtain ⟨ad221,A221_0,c221_0,e221,hx221_0,hl221_0,hi221_0⟩:=at_L6 (Kd.yy_ HO_7.out).2.2 x8_1 p221 q221
       obtain rfl:(⟨go14,0,none⟩:Addr)=ad221:=(by injection e221)
       obtain ⟨ce221,hce221,hMe221,hcc221⟩:=Kd.S_get HO_7.out [] x8_1 p221 (by first|exact q221|exact of_decide_eq_true (by assumption)|(have e_:=(Kd.yy_ HO_7.out).1;omega))
       obtain ⟨ve221_0,rfl,ge221_0⟩:=hMe221
       have hv221_0:=hcc221 0 _ rfl
       rw [Nat.add_zero,show ((Kd.slice 3 (Kd.int .i64))).sz=1 from rfl,Nat.mul_one] at hv221_0
       replace hv221_0:=Option.some.inj (hv221_0.symm.trans hx221_0)
       rw [hv221_0] at ge221_0
       have HL221_0:=Aside0.mk (show Kd.R (Kd.int .i64) 3 _ _ _ _ (rd_L6 x7_2 x8_1) from ge221_0)
       clear hv221_0 ge221_0
       have HX221_0:=Aside0.mk hx221_0
       clear hcc221 hce221
       (first|simp only [add_plain] at hx221_0|simp only [add_at] at hx221_0|simp only [Addr.add,Nat.zero_add] at hx221_0|skip)
       have HR221_0:=Aside0.mk hi221_0
       have HC221_0:=Aside0.mk hl221_0
       clear hi221_0 hl221_0
       replace p221:=eq_true p221
       replace q221:=eq_true q221
       have ea_:=Option.some.inj (hx211_0.symm.trans hx221_0)
       injection ea_ with ea_ en_ ec_
       subst ea_
       subst ec_
       clear en_
       have p40:0≤(x9_2:Int):=of_decide_eq_true (by assumption)
       have q40:(x9_2:Int) < (((rd_L6 x7_2 x8_1).length:Int):Int):=of_decide_eq_true (by assumption)
       obtain ⟨go40,co40,eo40,gb40,gl40,cl40,HG40⟩:=Kd.R_form HL221_0.out (by omega)
       (first|cases eo40|(injection eo40 with ea_ en_ ec_;(first|subst ea_|(injection ea_ with ea_;subst ea_));subst ec_;clear en_))
       have GB40:=Aside0.mk gb40
       have GG40:=Aside0.mk HG40
       clear gb40 gl40 HG40
       (first|simp only [add_plain] at hx214_0|skip)
       obtain ⟨hx40_0,hf40_0⟩:=Kd.ykb_ 0 HL221_0.out (x9_2:Int) p40 q40
       replace p40:=eq_true p40
       replace q40:=eq_true q40
       have hq41:(x8_1:Int) < (x7_2.length:Int):=(by have h_:(x8_1:Int) < ((x7_2.length:Int):Int):=of_decide_eq_true (by assumption);first|exact h_|(have e_:=(Kd.yy_ HO_7.out).1;omega)|simpa only [List.length_set,List.length_set] using h_)
       obtain ⟨oki41,ce41,hcl41,hM41,hcc41,hok41,hbk41⟩:=Kd.yhb_ HO_7.out [] (x8_1:Int) (of_decide_eq_true (by assumption)) hq41
       obtain ⟨ve41_0,rfl,ge41_0⟩:=hM41
       have hv41:=hcc41 0 _ rfl
       rw [Nat.add_zero,show ((Kd.slice 3 (Kd.int .i64))).sz=1 from rfl,Nat.mul_one] at hv41
       replace hv41:=Option.some.inj (hv41.symm.trans HX221_0.out)
       subst hv41
       clear hcc41 hcl41
       replace ge41_0:=(show Kd.R (Kd.int .i64) 3 _ _ _ _ (rd_L6 x7_2 x8_1) from ge41_0)
       have HP41:=Kd.R_putg ge41_0 (x9_2:Int) (wrap64 ((rd (rd_L6 x7_2 (ji23)) (ji30))+1))
       go_wp2_with (first|((with_reducible refine yM_ (t:=3) (p:=110) rfl ?_);(try (rw [y8_ wc];generalize hq_:World.drewN wc _=wc;have n0_:=Aside0.mk (Kd.S_at hq_ HO_7.out);have nX_:=Aside0.mk (yBb_ hq_ HX221_0.out);have n2_:=Aside0.mk (ymb_ hq_ HB.out);clear hq_ HO_7 HB HX221_0;have HO_7:=n0_;have HX221_0:=nX_;have HB:=n2_;clear n0_ nX_ n2_;(try (have hq41:(x8_1:Int) < (x7_2.length:Int):=(by have h_:(x8_1:Int) < ((x7_2.length:Int):Int):=of_decide_eq_true (by assumption);first|exact h_|(have e_:=(Kd.yy_ HO_7.out).1;omega)|simpa only [List.length_set,List.length_set] using h_)));(try (obtain ⟨oki41,ce41,hcl41,hM41,hcc41,hok41,hbk41⟩:=Kd.yhb_ HO_7.out [] (x8_1:Int) (of_decide_eq_true (by assumption)) hq41));(try (obtain ⟨ve41_0,rfl,ge41_0⟩:=hM41));(try (have hv41:=hcc41 0 _ rfl));(try (rw [Nat.add_zero,show ((Kd.slice 3 (Kd.int .i64))).sz=1 from rfl,Nat.mul_one] at hv41));(try (replace hv41:=Option.some.inj (hv41.symm.trans HX221_0.out)));(try (subst hv41));(try (clear hcc41 hcl41));(try (replace ge41_0:=(show Kd.R (Kd.int .i64) 3 _ _ _ _ (rd_L6 x7_2 x8_1) from ge41_0)));(try (have HP41:=Kd.R_putg ge41_0 (x9_2:Int) (wrap64 ((rd (rd_L6 x7_2 (ji23)) (ji30))+1))));(try (obtain ⟨hx40_0,hf40_0⟩:=Kd.ykb_ 0 ge41_0 (x9_2:Int) (of_eq_true p40) (of_eq_true q40)))));refine yH_ (t:=3) (p:=110) (v:=?vo_w42) (w1:=(wc.setCell ⟨go40,(x9_2:Int).toNat,none⟩ (.int .i64 (wrap64 ((rd (rd_L6 x7_2 (ji23)) (ji30))+1))))) ?hg ?ho ?hn ?hr ?_;(case ho=>rfl);(case hg=>rfl);(case hn=>rfl);(case hr=>(try obtain ⟨As_,cs_,rfl⟩:=Kd.yC_ HO207.out);first|(go_simp;done)|(go_simp;rfl));intro w42 hw;have hg:wc.grownBy w42 (some go40):=(by rw [hw];exact HP41.2);have hz_:Kd.R (Kd.int .i64) 3 w42 w.heap.size oki41 (.slice (some ⟨go40,0,none⟩) (rd_L6 x7_2 x8_1).length c211_0) y222:=(by rw [hw,Ny222.out];exact HP41.1);have hp_:Kd.S (Kd.slice 3 (Kd.int .i64)) 43 w42 w.heap.size (fun _=>True) (.slice (some ⟨go14,0,none⟩) x7_2.length co14) y224:=(by rw [Ny224.out];exact hbk41 hg (fun k_ e_=>by injection e_ with e_;subst e_;exact ge41_0.1 _ rfl) (Kd.M_row hz_));have hm_:=Kd.R_mono hz_ hok41;clear HP41 hbk41;have n0_:=Aside0.mk (hp_);have n1_:=Aside0.mk ((by rw [hw];exact yo_ (HB.out) GB40.out:Below w.heap.size w w42));have n2_:=Aside0.mk (hm_);have n3_:=Aside0.mk ((Kd.ys_ hm_).2.1);clear HO_7;clear HB;clear HL209_0;clear HL211_0;clear HL213_0;clear HL217_0;clear HL219_0;clear HL221_0;have HO_7:=n0_;have HB:=n1_;have HL277:=n2_;have HC223:=n3_;clear n0_ n1_ n2_ n3_;clear hg hw hp_ hz_ hm_ hok41))
       repeat (go_quiet (first|((with_reducible refine yM_ (t:=3) (p:=110) rfl ?_);(try (rw [y8_ wc];generalize hq_:World.drewN wc _=wc;have n0_:=Aside0.mk (Kd.S_at hq_ HO_7.out);have nX_:=Aside0.mk (yBb_ hq_ HX221_0.out);have n2_:=Aside0.mk (ymb_ hq_ HB.out);clear hq_ HO_7 HB HX221_0;have HO_7:=n0_;have HX221_0:=nX_;have HB:=n2_;clear n0_ nX_ n2_;(try (have hq41:(x8_1:Int) < (x7_2.length:Int):=(by have h_:(x8_1:Int) < ((x7_2.length:Int):Int):=of_decide_eq_true (by assumption);first|exact h_|(have e_:=(Kd.yy_ HO_7.out).1;omega)|simpa only [List.length_set,List.length_set] using h_)));(try (obtain ⟨oki41,ce41,hcl41,hM41,hcc41,hok41,hbk41⟩:=Kd.yhb_ HO_7.out [] (x8_1:Int) (of_decide_eq_true (by assumption)) hq41));(try (obtain ⟨ve41_0,rfl,ge41_0⟩:=hM41));(try (have hv41:=hcc41 0 _ rfl));(try (rw [Nat.add_zero,show ((Kd.slice 3 (Kd.int .i64))).sz=1 from rfl,Nat.mul_one] at hv41));(try (replace hv41:=Option.some.inj (hv41.symm.trans HX221_0.out)));(try (subst hv41));(try (clear hcc41 hcl41));(try (replace ge41_0:=(show Kd.R (Kd.int .i64) 3 _ _ _ _ (rd_L6 x7_2 x8_1) from ge41_0)));(try (have HP41:=Kd.R_putg ge41_0 (x9_2:Int) (wrap64 ((rd (rd_L6 x7_2 (ji23)) (ji30))+1))));(try (obtain ⟨hx40_0,hf40_0⟩:=Kd.ykb_ 0 ge41_0 (x9_2:Int) (of_eq_true p40) (of_eq_true q40)))));refine yH_ (t:=3) (p:=110) (v:=?vo_w42) (w1:=(wc.setCell ⟨go40,(x9_2:Int).toNat,none⟩ (.int .i64 (wrap64 ((rd (rd_L6 x7_2 (ji23)) (ji30))+1))))) ?hg ?ho ?hn ?hr ?_;(case ho=>rfl);(case hg=>rfl);(case hn=>rfl);(case hr=>(try obtain ⟨As_,cs_,rfl⟩:=Kd.yC_ HO207.out);first|(go_simp;done)|(go_simp;rfl));intro w42 hw;have hg:wc.grownBy w42 (some go40):=(by rw [hw];exact HP41.2);have hz_:Kd.R (Kd.int .i64) 3 w42 w.heap.size oki41 (.slice (some ⟨go40,0,none⟩) (rd_L6 x7_2 x8_1).length c211_0) y222:=(by rw [hw,Ny222.out];exact HP41.1);have hp_:Kd.S (Kd.slice 3 (Kd.int .i64)) 43 w42 w.heap.size (fun _=>True) (.slice (some ⟨go14,0,none⟩) x7_2.length co14) y224:=(by rw [Ny224.out];exact hbk41 hg (fun k_ e_=>by injection e_ with e_;subst e_;exact ge41_0.1 _ rfl) (Kd.M_row hz_));have hm_:=Kd.R_mono hz_ hok41;clear HP41 hbk41;have n0_:=Aside0.mk (hp_);have n1_:=Aside0.mk ((by rw [hw];exact yo_ (HB.out) GB40.out:Below w.heap.size w w42));have n2_:=Aside0.mk (hm_);have n3_:=Aside0.mk ((Kd.ys_ hm_).2.1);clear HO_7;clear HB;clear HL209_0;clear HL211_0;clear HL213_0;clear HL217_0;clear HL219_0;clear HL221_0;have HO_7:=n0_;have HB:=n1_;have HL277:=n2_;have HC223:=n3_;clear n0_ n1_ n2_ n3_;clear hg hw hp_ hz_ hm_ hok41));try go_wp2_with (first|((with_reducible refine yM_ (t:=3) (p:=110) rfl ?_);(try (rw [y8_ wc];generalize hq_:World.drewN wc _=wc;have n0_:=Aside0.mk (Kd.S_at hq_ HO_7.out);have nX_:=Aside0.mk (yBb_ hq_ HX221_0.out);have n2_:=Aside0.mk (ymb_ hq_ HB.out);clear hq_ HO_7 HB HX221_0;have HO_7:=n0_;have HX221_0:=nX_;have HB:=n2_;clear n0_ nX_ n2_;(try (have hq41:(x8_1:Int) < (x7_2.length:Int):=(by have h_:(x8_1:Int) < ((x7_2.length:Int):Int):=of_decide_eq_true (by assumption);first|exact h_|(have e_:=(Kd.yy_ HO_7.out).1;omega)|simpa only [List.length_set,List.length_set] using h_)));(try (obtain ⟨oki41,ce41,hcl41,hM41,hcc41,hok41,hbk41⟩:=Kd.yhb_ HO_7.out [] (x8_1:Int) (of_decide_eq_true (by assumption)) hq41));(try (obtain ⟨ve41_0,rfl,ge41_0⟩:=hM41));(try (have hv41:=hcc41 0 _ rfl));(try (rw [Nat.add_zero,show ((Kd.slice 3 (Kd.int .i64))).sz=1 from rfl,Nat.mul_one] at hv41));(try (replace hv41:=Option.some.inj (hv41.symm.trans HX221_0.out)));(try (subst hv41));(try (clear hcc41 hcl41));(try (replace ge41_0:=(show Kd.R (Kd.int .i64) 3 _ _ _ _ (rd_L6 x7_2 x8_1) from ge41_0)));(try (have HP41:=Kd.R_putg ge41_0 (x9_2:Int) (wrap64 ((rd (rd_L6 x7_2 (ji23)) (ji30))+1))));(try (obtain ⟨hx40_0,hf40_0⟩:=Kd.ykb_ 0 ge41_0 (x9_2:Int) (of_eq_true p40) (of_eq_true q40)))));refine yH_ (t:=3) (p:=110) (v:=?vo_w42) (w1:=(wc.setCell ⟨go40,(x9_2:Int).toNat,none⟩ (.int .i64 (wrap64 ((rd (rd_L6 x7_2 (ji23)) (ji30))+1))))) ?hg ?ho ?hn ?hr ?_;(case ho=>rfl);(case hg=>rfl);(case hn=>rfl);(case hr=>(try obtain ⟨As_,cs_,rfl⟩:=Kd.yC_ HO207.out);first|(go_simp;done)|(go_simp;rfl));intro w42 hw;have hg:wc.grownBy w42 (some go40):=(by rw [hw];exact HP41.2);have hz_:Kd.R (Kd.int .i64) 3 w42 w.heap.size oki41 (.slice (some ⟨go40,0,none⟩) (rd_L6 x7_2 x8_1).length c211_0) y222:=(by rw [hw,Ny222.out];exact HP41.1);have hp_:Kd.S (Kd.slice 3 (Kd.int .i64)) 43 w42 w.heap.size (fun _=>True) (.slice (some ⟨go14,0,none⟩) x7_2.length co14) y224:=(by rw [Ny224.out];exact hbk41 hg (fun k_ e_=>by injection e_ with e_;subst e_;exact ge41_0.1 _ rfl) (Kd.M_row hz_));have hm_:=Kd.R_mono hz_ hok41;clear HP41 hbk41;have n0_:=Aside0.mk (hp_);have n1_:=Aside0.mk ((by rw [hw];exact yo_ (HB.out) GB40.out:Below w.heap.size w w42));have n2_:=Aside0.mk (hm_);have n3_:=Aside0.mk ((Kd.ys_ hm_).2.1);clear HO_7;clear HB;clear HL209_0;clear HL211_0;clear HL213_0;clear HL217_0;clear HL219_0;clear HL221_0;have HO_7:=n0_;have HB:=n1_;have HL277:=n2_;have HC223:=n3_;clear n0_ n1_ n2_ n3_;clear hg hw hp_ hz_ hm_ hok41)))
       (try simp only [← hl7_2])
       go_roundg kj19
       case measure=>have:=HK1.out;have:=HK2.out;have:=HJ19.out;omega
       case rel=>exact ⟨(y224),(wrap64 (x9_2 - 1)),(by first|rfl|(simp;done)|(simp [*];done)),H',⟨by have:=HK1.out;have:=HK2.out;have:=HJ19.out;omega⟩,⟨by (try simp only [hl7_2]);(with_reducible repeat (first|apply Kd.yW_|apply Kd.yU_|apply Kd.S_drew));exact HO_7.out⟩,⟨by repeat (with_reducible first|exact HB.out|apply yc_|apply ya_|apply yb_)⟩⟩

end Go.Proofs.Ythimblhfjfngiaa.PText

-- mended25

