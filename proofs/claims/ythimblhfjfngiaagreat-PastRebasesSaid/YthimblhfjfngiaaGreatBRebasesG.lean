/- PastRebases holds: for all steps, every number and all results the statement answers true. Part 7 of 24. -/
import Derived.Test.YthimblhfjfngiaaGreatBRebasesF
namespace Go.Proofs.YthimblhfjfngiaaGreat.PText
open Go.RowKit Go.Proofs.YthimblhfjfngiaaGreatW.PrintWords Go.Proofs.YthimblhfjfngiaaGreatW.PrintLast Go.Proofs.YthimblhfjfngiaaGreatW.PrintMore
attribute [local go_sem] yT_ yU_ y5_ y6_ yI_ yJ_ yV_ yW_   -- for this text's walks alone
set_option linter.unusedVariables false
set_option linter.unusedSimpArgs false

theorem cellat_ {W W':World} {n:Nat} {a:Addr} {v:Value} (hq:W.drewN n=W') (h:W.cell? a=some v):W'.cell? a=some v:=by subst hq;exact h
mutual
def yd_.l0:Nat→List ByteArray→List ByteArray→Int→Int→List (List Int)→Int→Option ((List (S95)))
 | 0,_,_,_,_,_,_=>none
 | k+1,x0,x1,x5,x6,x7,x8=>if x8 ≥ 0 then (if 0≤(wrap64 (x6+1)) then (if (wrap64 (x6+1):Int).toNat≤35184372088832 then (if 0≤x8 then (if x8 < (x7.length:Int) then (yd_.l1 k x0 x1 x5 x6 (x7.set (x8:Int).toNat (List.replicate (wrap64 (x6+1):Int).toNat 0)) x8 x6) else (none)) else (none)) else (none)) else (none)) else (yd_.l2 k x0 x1 x5 x6 x7 ([]:List (S95)) 0 0)
def yd_.l1:Nat→List ByteArray→List ByteArray→Int→Int→List (List Int)→Int→Int→Option ((List (S95)))
 | 0,_,_,_,_,_,_,_=>none
 | k+1,x0,x1,x5,x6,x7,x8,x9=>if x9 ≥ 0 then (if x8=x5 then (yd_.j2 k x0 x1 x5 x6 x7 x8 x9 true) else (yd_.j2 k x0 x1 x5 x6 x7 x8 x9 (x9 == x6))) else (yd_.l0 k x0 x1 x5 x6 x7 (wrap64 (x8 - 1)))
def yd_.j2:Nat→List ByteArray→List ByteArray→Int→Int→List (List Int)→Int→Int→Bool→Option ((List (S95)))
 | 0,_,_,_,_,_,_,_,_=>none
 | k+1,x0,x1,x5,x6,x7,x8,x9,x44=>if x44=true then (yd_.l1 k x0 x1 x5 x6 x7 x8 (wrap64 (x9 - 1))) else (if 0≤(wrap64 (x8+1)) then (if (wrap64 (x8+1)) < (x7.length:Int) then (if 0≤x9 then (if x9 < ((rd_L8 x7 (wrap64 (x8+1))).length:Int) then (if 0≤x8 then (if x8 < (x7.length:Int) then (if 0≤(wrap64 (x9+1)) then (if (wrap64 (x9+1)) < ((rd_L8 x7 x8).length:Int) then (if (rd (rd_L8 x7 x8) (wrap64 (x9+1))) > (rd (rd_L8 x7 (wrap64 (x8+1))) x9) then (if x8 < (x0.length:Int) then (if x9 < (x1.length:Int) then (if (rdOf ByteArray.empty x0 x8).toList=(rdOf ByteArray.empty x1 x9).toList then (if (wrap64 (x9+1)) < ((rd_L8 x7 (wrap64 (x8+1))).length:Int) then (if (wrap64 ((rd (rd_L8 x7 (wrap64 (x8+1))) (wrap64 (x9+1)))+1)) > (rd (rd_L8 x7 x8) (wrap64 (x9+1))) then (if x9 < ((rd_L8 x7 x8).length:Int) then (yd_.l1 k x0 x1 x5 x6 (x7.set (x8:Int).toNat ((rd_L8 x7 x8).set (x9:Int).toNat (wrap64 ((rd (rd_L8 x7 (wrap64 (x8+1))) (wrap64 (x9+1)))+1)))) x8 (wrap64 (x9 - 1))) else (none)) else (if x9 < ((rd_L8 x7 x8).length:Int) then (yd_.l1 k x0 x1 x5 x6 (x7.set (x8:Int).toNat ((rd_L8 x7 x8).set (x9:Int).toNat (rd (rd_L8 x7 x8) (wrap64 (x9+1))))) x8 (wrap64 (x9 - 1))) else (none))) else (none)) else (if x9 < ((rd_L8 x7 x8).length:Int) then (yd_.l1 k x0 x1 x5 x6 (x7.set (x8:Int).toNat ((rd_L8 x7 x8).set (x9:Int).toNat (rd (rd_L8 x7 x8) (wrap64 (x9+1))))) x8 (wrap64 (x9 - 1))) else (none))) else (none)) else (none)) else (if x8 < (x0.length:Int) then (if x9 < (x1.length:Int) then (if (rdOf ByteArray.empty x0 x8).toList=(rdOf ByteArray.empty x1 x9).toList then (if (wrap64 (x9+1)) < ((rd_L8 x7 (wrap64 (x8+1))).length:Int) then (if (wrap64 ((rd (rd_L8 x7 (wrap64 (x8+1))) (wrap64 (x9+1)))+1)) > (rd (rd_L8 x7 (wrap64 (x8+1))) x9) then (if x9 < ((rd_L8 x7 x8).length:Int) then (yd_.l1 k x0 x1 x5 x6 (x7.set (x8:Int).toNat ((rd_L8 x7 x8).set (x9:Int).toNat (wrap64 ((rd (rd_L8 x7 (wrap64 (x8+1))) (wrap64 (x9+1)))+1)))) x8 (wrap64 (x9 - 1))) else (none)) else (if x9 < ((rd_L8 x7 x8).length:Int) then (yd_.l1 k x0 x1 x5 x6 (x7.set (x8:Int).toNat ((rd_L8 x7 x8).set (x9:Int).toNat (rd (rd_L8 x7 (wrap64 (x8+1))) x9))) x8 (wrap64 (x9 - 1))) else (none))) else (none)) else (if x9 < ((rd_L8 x7 x8).length:Int) then (yd_.l1 k x0 x1 x5 x6 (x7.set (x8:Int).toNat ((rd_L8 x7 x8).set (x9:Int).toNat (rd (rd_L8 x7 (wrap64 (x8+1))) x9))) x8 (wrap64 (x9 - 1))) else (none))) else (none)) else (none))) else (none)) else (none)) else (none)) else (none)) else (none)) else (none)) else (none)) else (none))
def yd_.l2:Nat→List ByteArray→List ByteArray→Int→Int→List (List Int)→List (S95)→Int→Int→Option ((List (S95)))
 | 0,_,_,_,_,_,_,_,_=>none
 | k+1,x0,x1,x5,x6,x7,x11,x12,x13=>if x12 < x5 then (yd_.j4 k x0 x1 x5 x6 x7 x11 x12 x13 true) else (yd_.j4 k x0 x1 x5 x6 x7 x11 x12 x13 (decide (x13 < x6)))
def yd_.j4:Nat→List ByteArray→List ByteArray→Int→Int→List (List Int)→List (S95)→Int→Int→Bool→Option ((List (S95)))
 | 0,_,_,_,_,_,_,_,_,_=>none
 | k+1,x0,x1,x5,x6,x7,x11,x12,x13,x118=>if x118=true then (if x12 < x5 then (if x13 < x6 then (if 0≤x12 then (if x12 < (x0.length:Int) then (if 0≤x13 then (if x13 < (x1.length:Int) then (yd_.j5 k x0 x1 x5 x6 x7 x11 x12 x13 ((rdOf ByteArray.empty x0 x12).toList == (rdOf ByteArray.empty x1 x13).toList)) else (none)) else (none)) else (none)) else (none)) else (yd_.j5 k x0 x1 x5 x6 x7 x11 x12 x13 false)) else (yd_.j5 k x0 x1 x5 x6 x7 x11 x12 x13 false)) else (some x11)
def yd_.j5:Nat→List ByteArray→List ByteArray→Int→Int→List (List Int)→List (S95)→Int→Int→Bool→Option ((List (S95)))
 | 0,_,_,_,_,_,_,_,_,_=>none
 | k+1,x0,x1,x5,x6,x7,x11,x12,x13,x129=>if x129=true then (if 0≤x12 then (if x12 < (x0.length:Int) then (if x11.length < 5864062014805 then (yd_.l2 k x0 x1 x5 x6 x7 (x11++[(⟨32,rdOf ByteArray.empty x0 x12⟩:S95)]) (wrap64 (x12+1)) (wrap64 (x13+1))) else (none)) else (none)) else (none)) else (if x12 < x5 then (if x13=x6 then (if 0≤x12 then (if x12 < (x0.length:Int) then (if x11.length < 5864062014805 then (yd_.l2 k x0 x1 x5 x6 x7 (x11++[(⟨45,rdOf ByteArray.empty x0 x12⟩:S95)]) (wrap64 (x12+1)) x13) else (none)) else (none)) else (none)) else (if 0≤(wrap64 (x12+1)) then (if (wrap64 (x12+1)) < (x7.length:Int) then (if 0≤x13 then (if x13 < ((rd_L8 x7 (wrap64 (x12+1))).length:Int) then (if 0≤x12 then (if x12 < (x7.length:Int) then (if 0≤(wrap64 (x13+1)) then (if (wrap64 (x13+1)) < ((rd_L8 x7 x12).length:Int) then (if (rd (rd_L8 x7 (wrap64 (x12+1))) x13) ≥ (rd (rd_L8 x7 x12) (wrap64 (x13+1))) then (if x12 < (x0.length:Int) then (if x11.length < 5864062014805 then (yd_.l2 k x0 x1 x5 x6 x7 (x11++[(⟨45,rdOf ByteArray.empty x0 x12⟩:S95)]) (wrap64 (x12+1)) x13) else (none)) else (none)) else (if x13 < (x1.length:Int) then (if x11.length < 5864062014805 then (yd_.l2 k x0 x1 x5 x6 x7 (x11++[(⟨43,rdOf ByteArray.empty x1 x13⟩:S95)]) x12 (wrap64 (x13+1))) else (none)) else (none))) else (none)) else (none)) else (none)) else (none)) else (none)) else (none)) else (none)) else (none))) else (if 0≤x13 then (if x13 < (x1.length:Int) then (if x11.length < 5864062014805 then (yd_.l2 k x0 x1 x5 x6 x7 (x11++[(⟨43,rdOf ByteArray.empty x1 x13⟩:S95)]) x12 (wrap64 (x13+1))) else (none)) else (none)) else (none)))
end
def yd_.f (k:Nat) (l0:List ByteArray) (l1:List ByteArray):Option ((List (S95))):=if 0≤(wrap64 ((l0.length:Int)+1)) then (if (wrap64 ((l0.length:Int)+1):Int).toNat≤11728124029610 then (yd_.l0 k l0 l1 (l0.length:Int) (l1.length:Int) (List.replicate (wrap64 ((l0.length:Int)+1):Int).toNat []) (l0.length:Int)) else (none)) else (none)
set_option maxHeartbeats 8000000 in
set_option maxRecDepth 100000 in
theorem yd_.calls (k:Nat) (A0:Option Addr) (c0:Nat) (l0:List ByteArray) (A1:Option Addr) (c1:Nat) (l1:List ByteArray) (r:List (S95)) (w:World) (hr0:Kd.C Kd.string w A0 l0.length l0) (hc0:l0.length≤c0) (hr1:Kd.C Kd.string w A1 l1.length l1) (hc1:l1.length≤c1) (h:yd_.f k l0 l1=some r) :
  Calls Tryz.prog 53 #[.slice A0 l0.length c0,.slice A1 l1.length c1] w fun e w'=>∃ v0_:Value,e=.returned (v0_)∧Kd.R k95 95 w' w.heap.size (fun _=>True) v0_ r∧Below w.heap.size w w':=by
 have hu95:=Tryz.underlying95
 have HR0:=Aside0.mk hr0
 have HC0:=Aside0.mk hc0
 clear hr0 hc0
 have HR1:=Aside0.mk hr1
 have HC1:=Aside0.mk hc1
 clear hr1 hc1
 have HB:=Aside0.mk (Below.refl w.heap.size w)
 have H:(if 0≤(wrap64 ((l0.length:Int)+1)) then (if (wrap64 ((l0.length:Int)+1):Int).toNat≤11728124029610 then (yd_.l0 k l0 l1 (l0.length:Int) (l1.length:Int) (List.replicate (wrap64 ((l0.length:Int)+1):Int).toNat []) (l0.length:Int)) else (none)) else (none))=some r:=h
 clear h
 obtain⟨ji3,hji3⟩:∃ j_:Int,(wrap64 ((l0.length:Int)+1))=j_:=⟨_,rfl⟩
 replace H:(if 0≤(ji3) then (if (ji3:Int).toNat≤11728124029610 then (yd_.l0 k l0 l1 (l0.length:Int) (l1.length:Int) (List.replicate (ji3:Int).toNat []) (l0.length:Int)) else (none)) else (none))=some r:=by first|(rw[hji3] at H;exact H)|(simp only[hji3] at H ⊢;exact H)
 have hji3w:(IntKind.i64.wrap ((l0.length:Int)+1))=ji3:=(i64_w _).trans hji3
 by_cases c4:0≤(ji3)
 rotate_left
 ·rw[if_neg c4] at H
  exact absurd H (by simp)
 rw[if_pos c4] at H
 have c4b0:=eq_true c4
 have c4b1:decide (0≤(ji3))=true:=decide_eq_true c4
 clear c4
 by_cases c5:(ji3:Int).toNat≤11728124029610
 rotate_left
 ·rw[if_neg c5] at H
  exact absurd H (by simp)
 rw[if_pos c5] at H
 have c5b0:=eq_true c5
 have c5b1:decide ((ji3:Int).toNat≤11728124029610)=true:=decide_eq_true c5
 clear c5
 obtain⟨y187,hy187⟩:∃ y_:List (List Int),y_=(List.replicate (ji3:Int).toNat []):=⟨_,rfl⟩
 replace H:(yd_.l0 k l0 l1 (l0.length:Int) (l1.length:Int) y187 (l0.length:Int))=some r:=by first|(rw[hy187];with_reducible exact H)|(have H2_:=(Option.bind_some _ _).symm.trans H;rw[hy187];with_reducible exact H2_)|(have H2_:=(Option.bind_some _ _).symm.trans H;with_reducible exact H2_)|with_reducible exact H|(rw[hy187];exact H)|exact H
 have Ny187:=Aside0.mk hy187
 clear hy187
 have H':=Aside0.mk H
 clear H
 go_enter Tryz.func53,Tryz.ntmps53
 go_wp2_with (first|((with_reducible refine yO_ (N:=20) rfl ?_);refine Kd.S_make (Kd.slice 3 (Kd.int .i64)) _ 28 rfl (N:=20) rfl 121 _ _ rfl ji3 rfl rfl Tryz.underlying121 (.slice none 0 0) 24 info28 rfl (by decide) (by omega) [] (ok:=fun _=>True) (okp:=fun _=>True) ⟨_,rfl,Kd.R_nil _ _ _ _ _⟩ (fun _ hk=>hk) trivial (of_decide_eq_true zd_) (Nat.le_trans (Nat.mul_le_mul_right _ (of_decide_eq_true zd_:ji3.toNat≤11728124029610)) (by omega)) (Below.refl _ _) (Nat.le_refl _) ?_;intro v188 w6 ho7 hb hg_ hnew_;clear hg_ hnew_;(first|rw[← Ny187.out] at ho7|(simp only[Int.reduceToNat] at ho7;rw[← Ny187.out] at ho7));have n0_:=Aside0.mk (Kd.S_lower ho7 (yp_ za_));have n1_:=Aside0.mk (yn_ za_ hb);clear HB;have HO189:=n0_;have HB:=n1_;clear n0_ n1_;clear hb ho7))
 repeat (go_quiet (fail);try go_wp2)
 try simp only[Act.put,List.setIfInBounds_toArray,List.set_cons_succ,List.set_cons_zero]
 go_loopg [8] k (fun kq v8 w'=>∃ (x7_1:List (List Int)) (x8_1:Int),v8=.int .i64 x8_1∧Aside0 (yd_.l0 kq l0 l1 (l0.length:Int) (l1.length:Int) x7_1 x8_1=some r)∧Aside0 (kq≤k)∧Aside0 (Kd.S (Kd.slice 3 (Kd.int .i64)) 28 w' w.heap.size (fun _=>True) v188 x7_1)∧Aside0 (Below w.heap.size w w'))
 case atStart=>exact⟨(y187),((l0.length:Int)),zc_,H',⟨Nat.le_refl _⟩,⟨by (with_reducible repeat (first|apply Kd.y9_|apply Kd.y8_|apply Kd.S_drew));exact HO189.out⟩,⟨by repeat (with_reducible first|exact HB.out|apply yc_|apply ya_|apply yb_)⟩⟩
 case round =>
  clear H'
  try clear c1
  try clear p2
  try clear c4
  try clear c4b0
  try clear c4b1
  try clear c5
  try clear c5b0
  try clear c5b1
  try clear p6
  obtain⟨x7_1,x8_1,rfl,HA,HK1,HO_7,HB⟩:=hrel
  cases gk with
  | zero=>exact absurd HA.out (by simp [yd_.l0])
  | succ k1 =>
   have H:=HA.out
   clear HA
   simp only[yd_.l0] at H
   by_cases c8:x8_1 ≥ 0
   rotate_left
   ·rw[if_neg c8] at H
    have c8b0:decide (0≤x8_1)=false:=decide_eq_false c8
    clear c8
    have H':=Aside0.mk H
    clear H
    go_wp2
    repeat (go_quiet (fail);try go_wp2)
    try simp only[Act.put,List.setIfInBounds_toArray,List.set_cons_succ,List.set_cons_zero]
    go_loopg [11,12,13] k1 (fun kq v11 v12 v13 w'=>∃ (x11_2:List (S95)) (x12_2:Int) (x13_2:Int),v12=.int .i64 x12_2∧v13=.int .i64 x13_2∧Aside0 (yd_.l2 kq l0 l1 (l0.length:Int) (l1.length:Int) x7_1 x11_2 x12_2 x13_2=some r)∧Aside0 (kq≤k1)∧Aside0 (Kd.S (Kd.slice 3 (Kd.int .i64)) 28 w' w.heap.size (fun _=>True) v188 x7_1)∧Aside0 (Kd.R k95 95 w' w.heap.size (fun _=>True) v11 x11_2)∧Aside0 (Below w.heap.size w w'))
    case atStart=>exact⟨(([]:List (S95))),(0),(0),zc_,zc_,H',⟨Nat.le_refl _⟩,⟨by (with_reducible repeat (first|apply Kd.y9_|apply Kd.y8_|apply Kd.S_drew));exact HO_7.out⟩,⟨by first|exact Kd.R_nil _ _ _ _ _|exact Kd.N_nil _ _ _ _ _|exact Kd.V_nil _ _ _ _ _|exact Kd.Q_nil _ _ _ _ _|exact Kd.S_nil _ _ _ _ _⟩,⟨by repeat (with_reducible first|exact HB.out|apply yc_|apply ya_|apply yb_)⟩⟩
    case round =>
     clear H'
     try clear c1
     try clear p1
     try clear q1
     try clear hx1
     try clear c2
     try clear p2
     try clear q2
     try clear hx2
     try clear c3
     try clear c4
     try clear q4
     try clear c5
     try clear p5
     try clear q5
     try clear hx5
     try clear hf5
     try clear c6
     try clear p6
     try clear q6
     try clear hx6
     try clear hf6
     try clear c8
     try clear c8b0
     try clear c10
     try clear c11
     try clear c12
     try clear c13
     try clear c19
     try clear c19b0
     try clear p19
     try clear q19
     try clear hx19
     try clear p21
     try clear q21
     try clear hx21
     try clear c22
     try clear p22
     try clear q22
     try clear hx22
     try clear c23
     try clear p23
     try clear q23
     try clear hx23
     try clear c24
     try clear c25
     try clear c26
     try clear c27
     try clear c28
     try clear c29
     try clear c31
     try clear c32
     try clear c33
     try clear c33b0
     try clear c34
     try clear c35
     try clear c47
     try clear c49
     try clear q49
     try clear c51
     try clear c51b0
     try clear c52
     try clear c52b0
     try clear c53
     try clear c53b0
     try clear c53b1
     try clear c54
     try clear c54b0
     try clear c55
     try clear c55b0
     try clear c56
     try clear c56b0
     try clear p57
     try clear q57
     try clear hx57
     try clear hf57
     try clear c58
     try clear q58
     try clear c60
     try clear c60b0
     try clear p61
     try clear q61
     try clear hx61
     try clear hf61
     try clear c62
     try clear q62
     try clear c64
     try clear c64b0
     try clear p64
     try clear p65
     try clear q65
     try clear hx65
     try clear hf65
     try clear c66
     try clear q66
     try clear hx194_0
     try clear hx195_0
     try clear hx196_0
     try clear hx197_0
     try clear hx218_0
     try clear hx219_0
     try clear hx220_0
     try clear hx221_0
     try clear hx222_0
     try clear hx223_0
     try clear hx224_0
     try clear hx228_0
     try clear hx232_0
     try clear hx57_0
     try clear hx61_0
     try clear hx65_0
     try clear p194
     try clear p195
     try clear p196
     try clear p197
     try clear p218
     try clear p219
     try clear p220
     try clear p221
     try clear p222
     try clear p223
     try clear p224
     try clear p228
     try clear p232
     try clear p57
     try clear p61
     try clear p65
     try clear q194
     try clear q195
     try clear q196
     try clear q197
     try clear q218
     try clear q219
     try clear q220
     try clear q221
     try clear q222
     try clear q223
     try clear q224
     try clear q228
     try clear q232
     try clear q57
     try clear q61
     try clear q65
     obtain⟨x11_2,x12_2,x13_2,rfl,rfl,HA,HK2,HO_7,HO_11,HB⟩:=hrel
     cases gk with
     | zero=>exact absurd HA.out (by simp [yd_.l2])
     | succ k2 =>
      have H:=HA.out
      clear HA
      simp only[yd_.l2] at H
      have HC68:=Aside0.mk H
      clear H
      go_upto_region 19 with (fail)
      repeat (go_quiet (fail);go_upto_region 19 with (fail))
      go_cut [118] (fun v118 wc=>∃ (kq:Nat) (x118_67:Bool),v118=.bool x118_67∧Aside0 (yd_.j4 kq l0 l1 (l0.length:Int) (l1.length:Int) x7_1 x11_2 x12_2 x13_2 x118_67=some r)∧Aside0 (kq≤k2)∧Aside0 (Kd.S (Kd.slice 3 (Kd.int .i64)) 28 wc w.heap.size (fun _=>True) v188 x7_1)∧Aside0 (Kd.R k95 95 wc w.heap.size (fun _=>True) u11 x11_2)∧Aside0 (Below w.heap.size w wc))
      case first =>
       have H:=HC68.out
       clear HC68
       by_cases c69:x12_2 < (l0.length:Int)
       ·rw[if_pos c69] at H
        have c69b0:decide (x12_2 < (l0.length:Int))=true:=decide_eq_true c69
        clear c69
        (first|rw[c69b0]|(simp only[i64_w,i32_w];rw[c69b0])|skip)
        have H':=Aside0.mk H
        clear H
        go_wp2
        repeat (go_quiet (fail);try go_wp2)
        go_meet
        case rel=>exact⟨_,(true),zc_,H',⟨by have:=HK1.out;have:=HK2.out;first|omega|exact Nat.le_refl _⟩,⟨by (with_reducible repeat (first|apply Kd.y9_|apply Kd.y8_|apply Kd.S_drew));exact HO_7.out⟩,⟨by (with_reducible repeat (first|apply Kd.yj_|apply Kd.yk_|apply Kd.R_drew));exact HO_11.out⟩,⟨by repeat (with_reducible first|exact HB.out|apply yc_|apply ya_|apply yb_)⟩⟩
       rw[if_neg c69] at H
       have c69b0:decide (x12_2 < (l0.length:Int))=false:=decide_eq_false c69
       clear c69
       (first|rw[c69b0]|(simp only[i64_w,i32_w];rw[c69b0])|skip)
       have H':=Aside0.mk H
       clear H
       go_wp2
       repeat (go_quiet (fail);try go_wp2)
       go_meet
       case rel=>exact⟨_,(decide (x13_2 < (l1.length:Int))),zc_,H',⟨by have:=HK1.out;have:=HK2.out;first|omega|exact Nat.le_refl _⟩,⟨by (with_reducible repeat (first|apply Kd.y9_|apply Kd.y8_|apply Kd.S_drew));exact HO_7.out⟩,⟨by (with_reducible repeat (first|apply Kd.yj_|apply Kd.yk_|apply Kd.R_drew));exact HO_11.out⟩,⟨by repeat (with_reducible first|exact HB.out|apply yc_|apply ya_|apply yb_)⟩⟩
      case rest =>
       clear HC68
       try clear c1
       try clear p1
       try clear q1
       try clear hx1
       try clear c2
       try clear p2
       try clear q2
       try clear hx2
       try clear c3
       try clear c4
       try clear q4
       try clear c5
       try clear p5
       try clear q5
       try clear hx5
       try clear hf5
       try clear c6
       try clear p6
       try clear q6
       try clear hx6
       try clear hf6
       try clear c8
       try clear c8b0
       try clear c10
       try clear c11
       try clear c12
       try clear c13
       try clear c19
       try clear c19b0
       try clear p19
       try clear q19
       try clear hx19
       try clear p21
       try clear q21
       try clear hx21
       try clear c22
       try clear p22
       try clear q22
       try clear hx22
       try clear c23
       try clear p23
       try clear q23
       try clear hx23
       try clear c24
       try clear c25
       try clear c26
       try clear c27
       try clear c28
       try clear c29
       try clear c31
       try clear c32
       try clear c33
       try clear c33b0
       try clear c34
       try clear c35
       try clear c47
       try clear c49
       try clear q49
       try clear c51
       try clear c51b0
       try clear c52
       try clear c52b0
       try clear c53
       try clear c53b0
       try clear c53b1
       try clear c54
       try clear c54b0
       try clear c55
       try clear c55b0
       try clear c56
       try clear c56b0
       try clear p57
       try clear q57
       try clear hx57
       try clear hf57
       try clear c58
       try clear q58
       try clear c60
       try clear c60b0
       try clear p61
       try clear q61
       try clear hx61
       try clear hf61
       try clear c62
       try clear q62
       try clear c64
       try clear c64b0
       try clear p64
       try clear p65
       try clear q65
       try clear hx65
       try clear hf65
       try clear c66
       try clear q66
       try clear c69
       try clear c69b0
       try clear hx194_0
       try clear hx195_0
       try clear hx196_0
       try clear hx197_0
       try clear hx218_0
       try clear hx219_0
       try clear hx220_0
       try clear hx221_0
       try clear hx222_0
       try clear hx223_0
       try clear hx224_0
       try clear hx228_0
       try clear hx232_0
       try clear hx57_0
       try clear hx61_0
       try clear hx65_0
       try clear p1
       try clear p19
       try clear p194
       try clear p195
       try clear p196
       try clear p197
       try clear p2
       try clear p21
       try clear p218
       try clear p219
       try clear p22
       try clear p220
       try clear p221
       try clear p222
       try clear p223
       try clear p224
       try clear p228
       try clear p23
       try clear p232
       try clear p5
       try clear p57
       try clear p6
       try clear p61
       try clear p64
       try clear p65
       try clear q1
       try clear q19
       try clear q194
       try clear q195
       try clear q196
       try clear q197
       try clear q2
       try clear q21
       try clear q218
       try clear q219
       try clear q22
       try clear q220
       try clear q221
       try clear q222
       try clear q223
       try clear q224
       try clear q228
       try clear q23
       try clear q232
       try clear q4
       try clear q49
       try clear q5
       try clear q57
       try clear q58
       try clear q6
       try clear q61
       try clear q62
       try clear q65
       try clear q66
       obtain⟨kq,x118_67,rfl,HA,HJ67,HO_7,HO_11,HB⟩:=hcut
       cases kq with
       | zero=>exact absurd HA.out (by simp [yd_.j4])
       | succ kj67 =>
        have H:=HA.out
        clear HA
        simp only[yd_.j4] at H
        by_cases c70:x118_67=true
        rotate_left
        ·replace c70:=Bool.eq_false_iff.mpr c70
         subst c70
         have H1:(some x11_2)=some r:=by rw[if_neg (show ¬ (false=true) by decide)] at H;exact H
         clear H
         have H:=H1
         clear H1
         obtain rfl:=Option.some.inj H
         go_wp2
         repeat (go_quiet (fail);try go_wp2)
         go_ret
         exact⟨_,by first|rfl|(simp [yr_,ys_] <;> rfl)|(simp only[← hji3];first|rfl|(simp [yr_,ys_] <;> rfl))|(simp [*,yr_,ys_] <;> rfl),by (with_reducible repeat (first|apply Kd.yj_|apply Kd.yk_|apply Kd.R_drew));exact HO_11.out,by repeat (with_reducible first|exact HB.out|apply yc_|apply ya_|apply yb_)⟩
        subst c70
        have H1:(if x12_2 < (l0.length:Int) then (if x13_2 < (l1.length:Int) then (if 0≤x12_2 then (if x12_2 < (l0.length:Int) then (if 0≤x13_2 then (if x13_2 < (l1.length:Int) then (yd_.j5 kj67 l0 l1 (l0.length:Int) (l1.length:Int) x7_1 x11_2 x12_2 x13_2 ((rdOf ByteArray.empty l0 x12_2).toList == (rdOf ByteArray.empty l1 x13_2).toList)) else (none)) else (none)) else (none)) else (none)) else (yd_.j5 kj67 l0 l1 (l0.length:Int) (l1.length:Int) x7_1 x11_2 x12_2 x13_2 false)) else (yd_.j5 kj67 l0 l1 (l0.length:Int) (l1.length:Int) x7_1 x11_2 x12_2 x13_2 false))=some r:=by rw[if_pos rfl] at H;exact H
        clear H
        have H:=H1
        clear H1
        have HC71:=Aside0.mk H
        clear H
        go_upto_region 22 with (fail)
        repeat (go_quiet (fail);go_upto_region 22 with (fail))
        go_cut [129] (fun v129 wc=>∃ (kq:Nat) (x129_70:Bool),v129=.bool x129_70∧Aside0 (yd_.j5 kq l0 l1 (l0.length:Int) (l1.length:Int) x7_1 x11_2 x12_2 x13_2 x129_70=some r)∧Aside0 (kq≤kj67)∧Aside0 (Kd.S (Kd.slice 3 (Kd.int .i64)) 28 wc w.heap.size (fun _=>True) v188 x7_1)∧Aside0 (Kd.R k95 95 wc w.heap.size (fun _=>True) u11 x11_2)∧Aside0 (Below w.heap.size w wc))
        case first =>
         have H:=HC71.out
         clear HC71
         by_cases c72:x12_2 < (l0.length:Int)
         rotate_left
         ·rw[if_neg c72] at H
          have c72b0:decide (x12_2 < (l0.length:Int))=false:=decide_eq_false c72
          clear c72
          (first|rw[c72b0]|(simp only[i64_w,i32_w];rw[c72b0])|skip)
          have H':=Aside0.mk H
          clear H
          go_wp2
          repeat (go_quiet (fail);try go_wp2)
          go_meet
          case rel=>exact⟨_,(false),zc_,H',⟨by have:=HK1.out;have:=HK2.out;have:=HJ67.out;first|omega|exact Nat.le_refl _⟩,⟨by (with_reducible repeat (first|apply Kd.y9_|apply Kd.y8_|apply Kd.S_drew));exact HO_7.out⟩,⟨by (with_reducible repeat (first|apply Kd.yj_|apply Kd.yk_|apply Kd.R_drew));exact HO_11.out⟩,⟨by repeat (with_reducible first|exact HB.out|apply yc_|apply ya_|apply yb_)⟩⟩
         rw[if_pos c72] at H
         have c72b0:decide (x12_2 < (l0.length:Int))=true:=decide_eq_true c72
         clear c72
         (first|rw[c72b0]|(simp only[i64_w,i32_w];rw[c72b0])|skip)
         by_cases c73:x13_2 < (l1.length:Int)
         rotate_left
         ·rw[if_neg c73] at H
          have c73b0:decide (x13_2 < (l1.length:Int))=false:=decide_eq_false c73
          clear c73
          have H':=Aside0.mk H
          clear H
          go_wp2
          repeat (go_quiet (fail);try go_wp2)
          go_meet
          case rel=>exact⟨_,(false),zc_,H',⟨by have:=HK1.out;have:=HK2.out;have:=HJ67.out;first|omega|exact Nat.le_refl _⟩,⟨by (with_reducible repeat (first|apply Kd.y9_|apply Kd.y8_|apply Kd.S_drew));exact HO_7.out⟩,⟨by (with_reducible repeat (first|apply Kd.yj_|apply Kd.yk_|apply Kd.R_drew));exact HO_11.out⟩,⟨by repeat (with_reducible first|exact HB.out|apply yc_|apply ya_|apply yb_)⟩⟩
         rw[if_pos c73] at H
         have c73b0:decide (x13_2 < (l1.length:Int))=true:=decide_eq_true c73
         clear c73
         by_cases c74:0≤x12_2
         rotate_left
         ·rw[if_neg c74] at H
          exact absurd H (by simp)
         rw[if_pos c74] at H
         have c74b0:decide (0≤x12_2)=true:=decide_eq_true c74
         clear c74
         by_cases c75:x12_2 < (l0.length:Int)
         rotate_left
         ·rw[if_neg c75] at H
          exact absurd H (by simp)
         rw[if_pos c75] at H
         have c75b0:decide (x12_2 < (l0.length:Int))=true:=decide_eq_true c75
         clear c75
         by_cases c76:0≤x13_2
         rotate_left
         ·rw[if_neg c76] at H
          exact absurd H (by simp)
         rw[if_pos c76] at H
         have c76b0:decide (0≤x13_2)=true:=decide_eq_true c76
         clear c76
         by_cases c77:x13_2 < (l1.length:Int)
         rotate_left
         ·rw[if_neg c77] at H
          exact absurd H (by simp)
         rw[if_pos c77] at H
         have c77b0:decide (x13_2 < (l1.length:Int))=true:=decide_eq_true c77
         clear c77
         have H':=Aside0.mk H
         clear H
         have p236:0≤(x12_2:Int):=of_decide_eq_true zd_
         have q236:x12_2 < (l0.length:Int):=of_decide_eq_true zd_
         obtain⟨ad236,e236,hx236_0⟩:=Kd.yP_ HR0.out x12_2 p236 q236
         cases e236
         replace hx236_0:=(HB.out.cell (World.block_lt_of_cell? w _ hx236_0)).trans hx236_0
         replace p236:=eq_true p236
         replace q236:=eq_true q236
         have p237:0≤(x13_2:Int):=of_decide_eq_true zd_
         have q237:x13_2 < (l1.length:Int):=of_decide_eq_true zd_
         obtain⟨ad237,e237,hx237_0⟩:=Kd.yP_ HR1.out x13_2 p237 q237
         cases e237
         replace hx237_0:=(HB.out.cell (World.block_lt_of_cell? w _ hx237_0)).trans hx237_0
         replace p237:=eq_true p237
         replace q237:=eq_true q237
         go_wp2
         repeat (go_quiet (fail);try go_wp2)
         go_meet
         case rel=>exact⟨_,(((rdOf ByteArray.empty l0 x12_2).toList == (rdOf ByteArray.empty l1 x13_2).toList)),zc_,H',⟨by have:=HK1.out;have:=HK2.out;have:=HJ67.out;first|omega|exact Nat.le_refl _⟩,⟨by (with_reducible repeat (first|apply Kd.y9_|apply Kd.y8_|apply Kd.S_drew));exact HO_7.out⟩,⟨by (with_reducible repeat (first|apply Kd.yj_|apply Kd.yk_|apply Kd.R_drew));exact HO_11.out⟩,⟨by repeat (with_reducible first|exact HB.out|apply yc_|apply ya_|apply yb_)⟩⟩
        case rest =>
         clear HC71
         try clear c1
         try clear p1
         try clear q1
         try clear hx1
         try clear c2
         try clear p2
         try clear q2
         try clear hx2
         try clear c3
         try clear c4
         try clear q4
         try clear c5
         try clear p5
         try clear q5
         try clear hx5
         try clear hf5
         try clear c6
         try clear p6
         try clear q6
         try clear hx6
         try clear hf6
         try clear c7
         try clear c8
         try clear c8b0
         try clear c10
         try clear c11
         try clear c12
         try clear c13
         try clear c19
         try clear c19b0
         try clear p19
         try clear q19
         try clear hx19
         try clear p21
         try clear q21
         try clear hx21
         try clear c22
         try clear p22
         try clear q22
         try clear hx22
         try clear c23
         try clear p23
         try clear q23
         try clear hx23
         try clear c24
         try clear c25
         try clear c26
         try clear c27
         try clear c28
         try clear c29
         try clear c31
         try clear c32
         try clear c33
         try clear c33b0
         try clear c34
         try clear c35
         try clear c47
         try clear c49
         try clear q49
         try clear c51
         try clear c51b0
         try clear c52
         try clear c52b0
         try clear c53
         try clear c53b0
         try clear c53b1
         try clear c54
         try clear c54b0
         try clear c55
         try clear c55b0
         try clear c56
         try clear c56b0
         try clear p57
         try clear q57
         try clear hx57
         try clear hf57
         try clear c58
         try clear q58
         try clear c60
         try clear c60b0
         try clear p61
         try clear q61
         try clear hx61
         try clear hf61
         try clear c62
         try clear q62
         try clear c64
         try clear c64b0
         try clear p64
         try clear p65
         try clear q65
         try clear hx65
         try clear hf65
         try clear c66
         try clear q66
         try clear c69
         try clear c69b0
         try clear c70
         try clear c72
         try clear c72b0
         try clear c73
         try clear c73b0
         try clear c74
         try clear c74b0
         try clear c75
         try clear c75b0
         try clear c76
         try clear c76b0
         try clear c77
         try clear c77b0
         try clear hx194_0
         try clear hx195_0
         try clear hx196_0
         try clear hx197_0
         try clear hx218_0
         try clear hx219_0
         try clear hx220_0
         try clear hx221_0
         try clear hx222_0
         try clear hx223_0
         try clear hx224_0
         try clear hx228_0
         try clear hx232_0
         try clear hx236_0
         try clear hx237_0
         try clear hx57_0
         try clear hx61_0
         try clear hx65_0
         try clear p1
         try clear p19
         try clear p194
         try clear p195
         try clear p196
         try clear p197
         try clear p2
         try clear p21
         try clear p218
         try clear p219
         try clear p22
         try clear p220
         try clear p221
         try clear p222
         try clear p223
         try clear p224
         try clear p228
         try clear p23
         try clear p232
         try clear p236
         try clear p237
         try clear p5
         try clear p57
         try clear p6
         try clear p61
         try clear p64
         try clear p65
         try clear q1
         try clear q19
         try clear q194
         try clear q195
         try clear q196
         try clear q197
         try clear q2
         try clear q21
         try clear q218
         try clear q219
         try clear q22
         try clear q220
         try clear q221
         try clear q222
         try clear q223
         try clear q224
         try clear q228
         try clear q23
         try clear q232
         try clear q236
         try clear q237
         try clear q4
         try clear q49
         try clear q5
         try clear q57
         try clear q58
         try clear q6
         try clear q61
         try clear q62
         try clear q65
         try clear q66
         obtain⟨kq,x129_70,rfl,HA,HJ70,HO_7,HO_11,HB⟩:=hcut
         cases kq with
         | zero=>exact absurd HA.out (by simp [yd_.j5])
         | succ kj70 =>
          have H:=HA.out
          clear HA
          simp only[yd_.j5] at H
          by_cases c78:x129_70=true
          ·subst c78
           have H1:(if 0≤x12_2 then (if x12_2 < (l0.length:Int) then (if x11_2.length < 5864062014805 then (yd_.l2 kj70 l0 l1 (l0.length:Int) (l1.length:Int) x7_1 (x11_2++[(⟨32,rdOf ByteArray.empty l0 x12_2⟩:S95)]) (wrap64 (x12_2+1)) (wrap64 (x13_2+1))) else (none)) else (none)) else (none))=some r:=by rw[if_pos rfl] at H;exact H
           clear H
           have H:=H1
           clear H1
           by_cases c79:0≤x12_2
           rotate_left
           ·rw[if_neg c79] at H
            exact absurd H (by simp)
           rw[if_pos c79] at H
           have c79b0:decide (0≤x12_2)=true:=decide_eq_true c79
           clear c79
           by_cases c80:x12_2 < (l0.length:Int)
           rotate_left
           ·rw[if_neg c80] at H
            exact absurd H (by simp)
           rw[if_pos c80] at H
           have c80b0:decide (x12_2 < (l0.length:Int))=true:=decide_eq_true c80
           clear c80
           by_cases c81:x11_2.length < 5864062014805
           rotate_left
           ·rw[if_neg c81] at H
            exact absurd H (by simp)
           rw[if_pos c81] at H
           have LMc81:=Aside0.mk c81
           clear c81
           obtain⟨y239,hy239⟩:∃ y_:List (S95),y_=(x11_2++[(⟨32,rdOf ByteArray.empty l0 x12_2⟩:S95)]):=⟨_,rfl⟩
           replace H:(yd_.l2 kj70 l0 l1 (l0.length:Int) (l1.length:Int) x7_1 y239 (wrap64 (x12_2+1)) (wrap64 (x13_2+1)))=some r:=by first|(rw[hy239];with_reducible exact H)|(have H2_:=(Option.bind_some _ _).symm.trans H;rw[hy239];with_reducible exact H2_)|(have H2_:=(Option.bind_some _ _).symm.trans H;with_reducible exact H2_)|with_reducible exact H|(rw[hy239];exact H)|exact H
           have Ny239:=Aside0.mk hy239
           clear hy239
           have H':=Aside0.mk H
           clear H
           have p238:0≤(x12_2:Int):=of_decide_eq_true zd_
           have q238:x12_2 < (l0.length:Int):=of_decide_eq_true zd_
           obtain⟨ad238,e238,hx238_0⟩:=Kd.yP_ HR0.out x12_2 p238 q238
           cases e238
           replace hx238_0:=(HB.out.cell (World.block_lt_of_cell? w _ hx238_0)).trans hx238_0
           replace p238:=eq_true p238
           replace q238:=eq_true q238
           go_wp2_with (first|((with_reducible refine yL_ (b:=.append) (xs:=#[.tmp 149,.tmp 155]) rfl ?_);at_builtin;refine Kd.ydb_ k95 (w0:=w) w.heap.size rfl (.tmp 149) (.tmp 155) 92 95 (.agg #[(.int .u8 0),(.string ⟨#[]⟩)]) 24 rfl Tryz.underlying92 info95 rfl (by decide) (by omega) u11 x11_2 (⟨32,rdOf ByteArray.empty l0 x12_2⟩:S95) [.int .u8 32,.string (rdOf ByteArray.empty l0 x12_2)] (fun _=>True) (fun _=>False) rfl rfl ?aP (fun _ hk=>hk.elim) ?aF ?aO ?aB ?aS ?aL ?_;(case aP=>exact k95_mkM _ _ _ (⟨32,rdOf ByteArray.empty l0 x12_2⟩:S95));(case aB=>exact za_);(case aF=>exact (fun _ _=>trivial));(case aO=>exact zh_);(case aS=>exact (yp_ za_));(case aL=>have:=LMc81.out;omega);intro v240 w82 ho hb hg hat;rw[← Ny239.out] at ho;have n0_:=Aside0.mk (Kd.S_over' (by (with_reducible repeat (first|apply Kd.y9_|apply Kd.y8_|apply Kd.S_drew));exact HO_7.out) (Kd.ybb_ zh_) (by decide) hg);have n1_:=Aside0.mk (hb);have n2_:=Aside0.mk (ho);clear HO_7;clear HB;clear HO_11;have HO_7:=n0_;have HB:=n1_;have HO241:=n2_;clear n0_ n1_ n2_;clear ho hb hg hat))
           repeat (go_quiet (fail);try go_wp2)
           go_roundg kj70
           case measure=>have:=HK1.out;have:=HK2.out;have:=HJ67.out;have:=HJ70.out;omega
           case rel=>exact⟨(y239),(wrap64 (x12_2+1)),(wrap64 (x13_2+1)),zc_,zc_,H',⟨by have:=HK1.out;have:=HK2.out;have:=HJ67.out;have:=HJ70.out;omega⟩,⟨by (with_reducible repeat (first|apply Kd.y9_|apply Kd.y8_|apply Kd.S_drew));exact HO_7.out⟩,⟨by (with_reducible repeat (first|apply Kd.yj_|apply Kd.yk_|apply Kd.R_drew));exact HO241.out⟩,⟨by repeat (with_reducible first|exact HB.out|apply yc_|apply ya_|apply yb_)⟩⟩
          replace c78:=Bool.eq_false_iff.mpr c78
          subst c78
          have H1:(if x12_2 < (l0.length:Int) then (if x13_2=(l1.length:Int) then (if 0≤x12_2 then (if x12_2 < (l0.length:Int) then (if x11_2.length < 5864062014805 then (yd_.l2 kj70 l0 l1 (l0.length:Int) (l1.length:Int) x7_1 (x11_2++[(⟨45,rdOf ByteArray.empty l0 x12_2⟩:S95)]) (wrap64 (x12_2+1)) x13_2) else (none)) else (none)) else (none)) else (if 0≤(wrap64 (x12_2+1)) then (if (wrap64 (x12_2+1)) < (x7_1.length:Int) then (if 0≤x13_2 then (if x13_2 < ((rd_L8 x7_1 (wrap64 (x12_2+1))).length:Int) then (if 0≤x12_2 then (if x12_2 < (x7_1.length:Int) then (if 0≤(wrap64 (x13_2+1)) then (if (wrap64 (x13_2+1)) < ((rd_L8 x7_1 x12_2).length:Int) then (if (rd (rd_L8 x7_1 (wrap64 (x12_2+1))) x13_2) ≥ (rd (rd_L8 x7_1 x12_2) (wrap64 (x13_2+1))) then (if x12_2 < (l0.length:Int) then (if x11_2.length < 5864062014805 then (yd_.l2 kj70 l0 l1 (l0.length:Int) (l1.length:Int) x7_1 (x11_2++[(⟨45,rdOf ByteArray.empty l0 x12_2⟩:S95)]) (wrap64 (x12_2+1)) x13_2) else (none)) else (none)) else (if x13_2 < (l1.length:Int) then (if x11_2.length < 5864062014805 then (yd_.l2 kj70 l0 l1 (l0.length:Int) (l1.length:Int) x7_1 (x11_2++[(⟨43,rdOf ByteArray.empty l1 x13_2⟩:S95)]) x12_2 (wrap64 (x13_2+1))) else (none)) else (none))) else (none)) else (none)) else (none)) else (none)) else (none)) else (none)) else (none)) else (none))) else (if 0≤x13_2 then (if x13_2 < (l1.length:Int) then (if x11_2.length < 5864062014805 then (yd_.l2 kj70 l0 l1 (l0.length:Int) (l1.length:Int) x7_1 (x11_2++[(⟨43,rdOf ByteArray.empty l1 x13_2⟩:S95)]) x12_2 (wrap64 (x13_2+1))) else (none)) else (none)) else (none)))=some r:=by rw[if_neg (show ¬ (false=true) by decide)] at H;exact H
          clear H
          have H:=H1
          clear H1
          by_cases c83:x12_2 < (l0.length:Int)
          rotate_left
          ·rw[if_neg c83] at H
           have c83b0:decide (x12_2 < (l0.length:Int))=false:=decide_eq_false c83
           clear c83
           by_cases c108:0≤x13_2
           rotate_left
           ·rw[if_neg c108] at H
            exact absurd H (by simp)
           rw[if_pos c108] at H
           have c108b0:decide (0≤x13_2)=true:=decide_eq_true c108
           clear c108
           by_cases c109:x13_2 < (l1.length:Int)
           rotate_left
           ·rw[if_neg c109] at H
            exact absurd H (by simp)
           rw[if_pos c109] at H
           have c109b0:decide (x13_2 < (l1.length:Int))=true:=decide_eq_true c109
           clear c109
           by_cases c110:x11_2.length < 5864062014805
           rotate_left
           ·rw[if_neg c110] at H
            exact absurd H (by simp)
           rw[if_pos c110] at H
           have LMc110:=Aside0.mk c110
           clear c110
           obtain⟨y259,hy259⟩:∃ y_:List (S95),y_=(x11_2++[(⟨43,rdOf ByteArray.empty l1 x13_2⟩:S95)]):=⟨_,rfl⟩
           replace H:(yd_.l2 kj70 l0 l1 (l0.length:Int) (l1.length:Int) x7_1 y259 x12_2 (wrap64 (x13_2+1)))=some r:=by first|(rw[hy259];with_reducible exact H)|(have H2_:=(Option.bind_some _ _).symm.trans H;rw[hy259];with_reducible exact H2_)|(have H2_:=(Option.bind_some _ _).symm.trans H;with_reducible exact H2_)|with_reducible exact H|(rw[hy259];exact H)|exact H
           have Ny259:=Aside0.mk hy259
           clear hy259
           have H':=Aside0.mk H
           clear H
           have p258:0≤(x13_2:Int):=of_decide_eq_true zd_
           have q258:x13_2 < (l1.length:Int):=of_decide_eq_true zd_
           obtain⟨ad258,e258,hx258_0⟩:=Kd.yP_ HR1.out x13_2 p258 q258
           cases e258
           replace hx258_0:=(HB.out.cell (World.block_lt_of_cell? w _ hx258_0)).trans hx258_0
           replace p258:=eq_true p258
           replace q258:=eq_true q258
           go_wp2_with fail
           repeat (go_quiet (fail);try go_wp2_with (first|((with_reducible refine yL_ (b:=.append) (xs:=#[.tmp 119,.tmp 125]) rfl ?_);at_builtin;refine Kd.ydb_ k95 (w0:=w) w.heap.size rfl (.tmp 119) (.tmp 125) 92 95 (.agg #[(.int .u8 0),(.string ⟨#[]⟩)]) 24 rfl Tryz.underlying92 info95 rfl (by decide) (by omega) u11 x11_2 (⟨43,rdOf ByteArray.empty l1 x13_2⟩:S95) [.int .u8 43,.string (rdOf ByteArray.empty l1 x13_2)] (fun _=>True) (fun _=>False) rfl rfl ?aP (fun _ hk=>hk.elim) ?aF ?aO ?aB ?aS ?aL ?_;(case aP=>exact k95_mkM _ _ _ (⟨43,rdOf ByteArray.empty l1 x13_2⟩:S95));(case aB=>exact za_);(case aF=>exact (fun _ _=>trivial));(case aO=>exact zh_);(case aS=>exact (yp_ za_));(case aL=>have:=LMc110.out;omega);intro v260 w111 ho hb hg hat;rw[← Ny259.out] at ho;have n0_:=Aside0.mk (Kd.S_over' (by (with_reducible repeat (first|apply Kd.y9_|apply Kd.y8_|apply Kd.S_drew));exact HO_7.out) (Kd.ybb_ zh_) (by decide) hg);have n1_:=Aside0.mk (hb);have n2_:=Aside0.mk (ho);clear HO_7;clear HB;clear HO_11;have HO_7:=n0_;have HB:=n1_;have HO261:=n2_;clear n0_ n1_ n2_;clear ho hb hg hat)))
           go_roundg kj70
           case measure=>have:=HK1.out;have:=HK2.out;have:=HJ67.out;have:=HJ70.out;omega
           case rel=>exact⟨(y259),(x12_2),(wrap64 (x13_2+1)),zc_,zc_,H',⟨by have:=HK1.out;have:=HK2.out;have:=HJ67.out;have:=HJ70.out;omega⟩,⟨by (with_reducible repeat (first|apply Kd.y9_|apply Kd.y8_|apply Kd.S_drew));exact HO_7.out⟩,⟨by (with_reducible repeat (first|apply Kd.yj_|apply Kd.yk_|apply Kd.R_drew));exact HO261.out⟩,⟨by repeat (with_reducible first|exact HB.out|apply yc_|apply ya_|apply yb_)⟩⟩
          rw[if_pos c83] at H
          have c83b0:decide (x12_2 < (l0.length:Int))=true:=decide_eq_true c83
          clear c83
          by_cases c84:x13_2=(l1.length:Int)
          ·rw[if_pos c84] at H
           have c84b0:(x13_2 == (l1.length:Int))=true:=beq_iff_eq.mpr c84
           have c84b1:(x13_2 != (l1.length:Int))=false:=bne_eq_false_iff_eq.mpr c84
           clear c84
           by_cases c85:0≤x12_2
           rotate_left
           ·rw[if_neg c85] at H
            exact absurd H (by simp)
           rw[if_pos c85] at H
           have c85b0:decide (0≤x12_2)=true:=decide_eq_true c85
           clear c85
           by_cases c86:x12_2 < (l0.length:Int)
           rotate_left
           ·rw[if_neg c86] at H
            exact absurd H (by simp)
           rw[if_pos c86] at H
           have c86b0:decide (x12_2 < (l0.length:Int))=true:=decide_eq_true c86
           clear c86
           by_cases c87:x11_2.length < 5864062014805
           rotate_left
           ·rw[if_neg c87] at H
            exact absurd H (by simp)
           rw[if_pos c87] at H
           have LMc87:=Aside0.mk c87
           clear c87
           obtain⟨y243,hy243⟩:∃ y_:List (S95),y_=(x11_2++[(⟨45,rdOf ByteArray.empty l0 x12_2⟩:S95)]):=⟨_,rfl⟩
           replace H:(yd_.l2 kj70 l0 l1 (l0.length:Int) (l1.length:Int) x7_1 y243 (wrap64 (x12_2+1)) x13_2)=some r:=by first|(rw[hy243];with_reducible exact H)|(have H2_:=(Option.bind_some _ _).symm.trans H;rw[hy243];with_reducible exact H2_)|(have H2_:=(Option.bind_some _ _).symm.trans H;with_reducible exact H2_)|with_reducible exact H|(rw[hy243];exact H)|exact H
           have Ny243:=Aside0.mk hy243
           clear hy243
           have H':=Aside0.mk H
           clear H
           have p242:0≤(x12_2:Int):=of_decide_eq_true zd_
           have q242:x12_2 < (l0.length:Int):=of_decide_eq_true zd_
           obtain⟨ad242,e242,hx242_0⟩:=Kd.yP_ HR0.out x12_2 p242 q242
           cases e242
           replace hx242_0:=(HB.out.cell (World.block_lt_of_cell? w _ hx242_0)).trans hx242_0
           replace p242:=eq_true p242
           replace q242:=eq_true q242
           go_wp2_with fail
           repeat (go_quiet (fail);try go_wp2_with (first|((with_reducible refine yL_ (b:=.append) (xs:=#[.tmp 189,.tmp 195]) rfl ?_);at_builtin;refine Kd.ydb_ k95 (w0:=w) w.heap.size rfl (.tmp 189) (.tmp 195) 92 95 (.agg #[(.int .u8 0),(.string ⟨#[]⟩)]) 24 rfl Tryz.underlying92 info95 rfl (by decide) (by omega) u11 x11_2 (⟨45,rdOf ByteArray.empty l0 x12_2⟩:S95) [.int .u8 45,.string (rdOf ByteArray.empty l0 x12_2)] (fun _=>True) (fun _=>False) rfl rfl ?aP (fun _ hk=>hk.elim) ?aF ?aO ?aB ?aS ?aL ?_;(case aP=>exact k95_mkM _ _ _ (⟨45,rdOf ByteArray.empty l0 x12_2⟩:S95));(case aB=>exact za_);(case aF=>exact (fun _ _=>trivial));(case aO=>exact zh_);(case aS=>exact (yp_ za_));(case aL=>have:=LMc87.out;omega);intro v244 w88 ho hb hg hat;rw[← Ny243.out] at ho;have n0_:=Aside0.mk (Kd.S_over' (by (with_reducible repeat (first|apply Kd.y9_|apply Kd.y8_|apply Kd.S_drew));exact HO_7.out) (Kd.ybb_ zh_) (by decide) hg);have n1_:=Aside0.mk (hb);have n2_:=Aside0.mk (ho);clear HO_7;clear HB;clear HO_11;have HO_7:=n0_;have HB:=n1_;have HO245:=n2_;clear n0_ n1_ n2_;clear ho hb hg hat)))
           go_roundg kj70
           case measure=>have:=HK1.out;have:=HK2.out;have:=HJ67.out;have:=HJ70.out;omega
           case rel=>exact⟨(y243),(wrap64 (x12_2+1)),(x13_2),zc_,zc_,H',⟨by have:=HK1.out;have:=HK2.out;have:=HJ67.out;have:=HJ70.out;omega⟩,⟨by (with_reducible repeat (first|apply Kd.y9_|apply Kd.y8_|apply Kd.S_drew));exact HO_7.out⟩,⟨by (with_reducible repeat (first|apply Kd.yj_|apply Kd.yk_|apply Kd.R_drew));exact HO245.out⟩,⟨by repeat (with_reducible first|exact HB.out|apply yc_|apply ya_|apply yb_)⟩⟩
          rw[if_neg c84] at H
          have c84b0:(x13_2 == (l1.length:Int))=false:=beq_eq_false_iff_ne.mpr c84
          have c84b1:(x13_2 != (l1.length:Int))=true:=bne_iff_ne.mpr c84
          obtain⟨ji89,hji89⟩:∃ j_:Int,(wrap64 (x12_2+1))=j_:=⟨_,rfl⟩
          replace H:(if 0≤(ji89) then (if (ji89) < (x7_1.length:Int) then (if 0≤x13_2 then (if x13_2 < ((rd_L8 x7_1 (ji89)).length:Int) then (if 0≤x12_2 then (if x12_2 < (x7_1.length:Int) then (if 0≤(wrap64 (x13_2+1)) then (if (wrap64 (x13_2+1)) < ((rd_L8 x7_1 x12_2).length:Int) then (if (rd (rd_L8 x7_1 (ji89)) x13_2) ≥ (rd (rd_L8 x7_1 x12_2) (wrap64 (x13_2+1))) then (if x12_2 < (l0.length:Int) then (if x11_2.length < 5864062014805 then (yd_.l2 kj70 l0 l1 (l0.length:Int) (l1.length:Int) x7_1 (x11_2++[(⟨45,rdOf ByteArray.empty l0 x12_2⟩:S95)]) ji89 x13_2) else (none)) else (none)) else (if x13_2 < (l1.length:Int) then (if x11_2.length < 5864062014805 then (yd_.l2 kj70 l0 l1 (l0.length:Int) (l1.length:Int) x7_1 (x11_2++[(⟨43,rdOf ByteArray.empty l1 x13_2⟩:S95)]) x12_2 (wrap64 (x13_2+1))) else (none)) else (none))) else (none)) else (none)) else (none)) else (none)) else (none)) else (none)) else (none)) else (none))=some r:=by first|(rw[hji89] at H;exact H)|(simp only[hji89] at H ⊢;exact H)
          have hji89w:(IntKind.i64.wrap (x12_2+1))=ji89:=(i64_w _).trans hji89
          by_cases c90:0≤(ji89)
          rotate_left
          ·rw[if_neg c90] at H
           exact absurd H (by simp)
          rw[if_pos c90] at H
          have c90b0:decide (0≤(ji89))=true:=decide_eq_true c90
          clear c90
          by_cases c91:(ji89) < (x7_1.length:Int)
          rotate_left
          ·rw[if_neg c91] at H
           exact absurd H (by simp)
          rw[if_pos c91] at H
          have c91b0:decide ((ji89) < (x7_1.length:Int))=true:=decide_eq_true c91
          clear c91
          by_cases c92:0≤x13_2
          rotate_left
          ·rw[if_neg c92] at H
           exact absurd H (by simp)
          rw[if_pos c92] at H
          have c92b0:decide (0≤x13_2)=true:=decide_eq_true c92
          clear c92
          by_cases c93:x13_2 < ((rd_L8 x7_1 (ji89)).length:Int)
          rotate_left
          ·rw[if_neg c93] at H
           exact absurd H (by simp)
          rw[if_pos c93] at H
          have c93b0:decide (x13_2 < ((rd_L8 x7_1 (ji89)).length:Int))=true:=decide_eq_true c93
          clear c93
          by_cases c94:0≤x12_2
          rotate_left
          ·rw[if_neg c94] at H
           exact absurd H (by simp)
          rw[if_pos c94] at H
          have c94b0:decide (0≤x12_2)=true:=decide_eq_true c94
          clear c94
          by_cases c95:x12_2 < (x7_1.length:Int)
          rotate_left
          ·rw[if_neg c95] at H
           exact absurd H (by simp)
          rw[if_pos c95] at H
          have c95b0:decide (x12_2 < (x7_1.length:Int))=true:=decide_eq_true c95
          clear c95
          obtain⟨ji96,hji96⟩:∃ j_:Int,(wrap64 (x13_2+1))=j_:=⟨_,rfl⟩
          replace H:(if 0≤(ji96) then (if (ji96) < ((rd_L8 x7_1 x12_2).length:Int) then (if (rd (rd_L8 x7_1 (ji89)) x13_2) ≥ (rd (rd_L8 x7_1 x12_2) (ji96)) then (if x12_2 < (l0.length:Int) then (if x11_2.length < 5864062014805 then (yd_.l2 kj70 l0 l1 (l0.length:Int) (l1.length:Int) x7_1 (x11_2++[(⟨45,rdOf ByteArray.empty l0 x12_2⟩:S95)]) ji89 x13_2) else (none)) else (none)) else (if x13_2 < (l1.length:Int) then (if x11_2.length < 5864062014805 then (yd_.l2 kj70 l0 l1 (l0.length:Int) (l1.length:Int) x7_1 (x11_2++[(⟨43,rdOf ByteArray.empty l1 x13_2⟩:S95)]) x12_2 ji96) else (none)) else (none))) else (none)) else (none))=some r:=by first|(rw[hji96] at H;exact H)|(simp only[hji96] at H ⊢;exact H)
          have hji96w:(IntKind.i64.wrap (x13_2+1))=ji96:=(i64_w _).trans hji96
          by_cases c97:0≤(ji96)
          rotate_left
          ·rw[if_neg c97] at H
           exact absurd H (by simp)
          rw[if_pos c97] at H
          have c97b0:decide (0≤(ji96))=true:=decide_eq_true c97
          clear c97
          by_cases c98:(ji96) < ((rd_L8 x7_1 x12_2).length:Int)
          rotate_left
          ·rw[if_neg c98] at H
           exact absurd H (by simp)
          rw[if_pos c98] at H
          have c98b0:decide ((ji96) < ((rd_L8 x7_1 x12_2).length:Int))=true:=decide_eq_true c98
          clear c98
          by_cases c99:(rd (rd_L8 x7_1 (ji89)) x13_2) ≥ (rd (rd_L8 x7_1 x12_2) (ji96))
          ·rw[if_pos c99] at H
           have c99b0:decide ((rd (rd_L8 x7_1 x12_2) (ji96))≤(rd (rd_L8 x7_1 (ji89)) x13_2))=true:=decide_eq_true c99
           clear c99
           by_cases c100:x12_2 < (l0.length:Int)
           rotate_left
           ·rw[if_neg c100] at H
            exact absurd H (by simp)
           rw[if_pos c100] at H
           have c100b0:decide (x12_2 < (l0.length:Int))=true:=decide_eq_true c100
           clear c100
           by_cases c101:x11_2.length < 5864062014805
           rotate_left
           ·rw[if_neg c101] at H
            exact absurd H (by simp)
           rw[if_pos c101] at H
           have LMc101:=Aside0.mk c101
           clear c101
           obtain⟨y251,hy251⟩:∃ y_:List (S95),y_=(x11_2++[(⟨45,rdOf ByteArray.empty l0 x12_2⟩:S95)]):=⟨_,rfl⟩
           replace H:(yd_.l2 kj70 l0 l1 (l0.length:Int) (l1.length:Int) x7_1 y251 ji89 x13_2)=some r:=by first|(rw[hy251];with_reducible exact H)|(have H2_:=(Option.bind_some _ _).symm.trans H;rw[hy251];with_reducible exact H2_)|(have H2_:=(Option.bind_some _ _).symm.trans H;with_reducible exact H2_)|with_reducible exact H|(rw[hy251];exact H)|exact H
           have Ny251:=Aside0.mk hy251
           clear hy251
           have H':=Aside0.mk H
           clear H
           obtain⟨Ao102,co102,eo102⟩:=Kd.S_slice HO_7.out
           subst eo102
           have p246:0≤((ji89):Int):=of_decide_eq_true zd_
           have q246:(ji89) < (x7_1.length:Int):=of_decide_eq_true zd_
           obtain⟨ad246,A246_0,c246_0,e246,hx246_0,hl246_0,hi246_0⟩:=at_L8 (Kd.yB_ HO_7.out).2.2 (ji89) p246 q246
           cases e246
           obtain⟨ce246,hce246,hMe246,hcc246⟩:=Kd.S_get HO_7.out [] (ji89) p246 (by first|exact q246|exact of_decide_eq_true zd_|(have e_:=(Kd.yB_ HO_7.out).1;omega))
           obtain⟨ve246_0,rfl,ge246_0⟩:=hMe246
           have hv246_0:=hcc246 0 _ rfl
           rw[Nat.add_zero,show ((Kd.slice 3 (Kd.int .i64))).sz=1 from rfl,Nat.mul_one] at hv246_0
           replace hv246_0:=Option.some.inj (hv246_0.symm.trans hx246_0)
           rw[hv246_0] at ge246_0
           have HL246_0:=Aside0.mk (show Kd.R (Kd.int .i64) 3 _ _ _ _ (rd_L8 x7_1 (ji89)) from ge246_0)
           clear hv246_0 ge246_0
           have HX246_0:=Aside0.mk hx246_0
           clear hcc246 hce246
           have HR246_0:=Aside0.mk hi246_0
           have HC246_0:=Aside0.mk hl246_0
           clear hi246_0 hl246_0
           replace p246:=eq_true p246
           replace q246:=eq_true q246
           have p247:0≤(x13_2:Int):=of_decide_eq_true zd_
           have q247:x13_2 < ((rd_L8 x7_1 (ji89)).length:Int):=of_decide_eq_true zd_
           obtain⟨ad247,e247,hx247_0⟩:=Kd.at_int (by repeat (first|(with_reducible exact HR246_0.out)|(with_reducible refine Kd.yM_ ?_ _)|(with_reducible refine Kd.yY_ ?_ _)|(with_reducible refine Kd.C_drew ?_)|exact HR246_0.out)) x13_2 p247 q247
           cases e247
           replace p247:=eq_true p247
           replace q247:=eq_true q247
           have p248:0≤(x12_2:Int):=of_decide_eq_true zd_
           have q248:x12_2 < (x7_1.length:Int):=of_decide_eq_true zd_
           obtain⟨ad248,A248_0,c248_0,e248,hx248_0,hl248_0,hi248_0⟩:=at_L8 (Kd.yB_ HO_7.out).2.2 x12_2 p248 q248
           obtain rfl:ad246=ad248:=(by injection e248)
           obtain⟨ce248,hce248,hMe248,hcc248⟩:=Kd.S_get HO_7.out [] x12_2 p248 (by first|exact q248|exact of_decide_eq_true zd_|(have e_:=(Kd.yB_ HO_7.out).1;omega))
           obtain⟨ve248_0,rfl,ge248_0⟩:=hMe248
           have hv248_0:=hcc248 0 _ rfl
           rw[Nat.add_zero,show ((Kd.slice 3 (Kd.int .i64))).sz=1 from rfl,Nat.mul_one] at hv248_0
           replace hv248_0:=Option.some.inj (hv248_0.symm.trans hx248_0)
           rw[hv248_0] at ge248_0
           have HL248_0:=Aside0.mk (show Kd.R (Kd.int .i64) 3 _ _ _ _ (rd_L8 x7_1 x12_2) from ge248_0)
           clear hv248_0 ge248_0
           have HX248_0:=Aside0.mk hx248_0
           clear hcc248 hce248
           have HR248_0:=Aside0.mk hi248_0
           have HC248_0:=Aside0.mk hl248_0
           clear hi248_0 hl248_0
           replace p248:=eq_true p248
           replace q248:=eq_true q248
           have p249:0≤((ji96):Int):=of_decide_eq_true zd_
           have q249:(ji96) < ((rd_L8 x7_1 x12_2).length:Int):=of_decide_eq_true zd_
           obtain⟨ad249,e249,hx249_0⟩:=Kd.at_int (by repeat (first|(with_reducible exact HR248_0.out)|(with_reducible refine Kd.yM_ ?_ _)|(with_reducible refine Kd.yY_ ?_ _)|(with_reducible refine Kd.C_drew ?_)|exact HR248_0.out)) (ji96) p249 q249
           cases e249
           replace p249:=eq_true p249
           replace q249:=eq_true q249
           have p250:0≤(x12_2:Int):=of_decide_eq_true zd_
           have q250:x12_2 < (l0.length:Int):=of_decide_eq_true zd_
           obtain⟨ad250,e250,hx250_0⟩:=Kd.yP_ HR0.out x12_2 p250 q250
           cases e250
           replace hx250_0:=(HB.out.cell (World.block_lt_of_cell? w _ hx250_0)).trans hx250_0
           replace p250:=eq_true p250
           replace q250:=eq_true q250
           go_wp2_with fail
           repeat (go_quiet (fail);try go_wp2_with (first|((with_reducible refine yL_ (b:=.append) (xs:=#[.tmp 189,.tmp 195]) rfl ?_);at_builtin;refine Kd.ydb_ k95 (w0:=w) w.heap.size rfl (.tmp 189) (.tmp 195) 92 95 (.agg #[(.int .u8 0),(.string ⟨#[]⟩)]) 24 rfl Tryz.underlying92 info95 rfl (by decide) (by omega) u11 x11_2 (⟨45,rdOf ByteArray.empty l0 x12_2⟩:S95) [.int .u8 45,.string (rdOf ByteArray.empty l0 x12_2)] (fun _=>True) (fun _=>False) rfl rfl ?aP (fun _ hk=>hk.elim) ?aF ?aO ?aB ?aS ?aL ?_;(case aP=>exact k95_mkM _ _ _ (⟨45,rdOf ByteArray.empty l0 x12_2⟩:S95));(case aB=>exact za_);(case aF=>exact (fun _ _=>trivial));(case aO=>exact zh_);(case aS=>exact (yp_ za_));(case aL=>have:=LMc101.out;omega);intro v252 w103 ho hb hg hat;rw[← Ny251.out] at ho;have n0_:=Aside0.mk (Kd.S_over' (by (with_reducible repeat (first|apply Kd.y9_|apply Kd.y8_|apply Kd.S_drew));exact HO_7.out) (Kd.ybb_ zh_) (by decide) hg);have n1_:=Aside0.mk (Kd.yhb_ (by (with_reducible repeat (first|apply Kd.yj_|apply Kd.yk_|apply Kd.R_drew));exact HL246_0.out) (Kd.ybb_ zh_) (by decide) hg);have n2_:=Aside0.mk (Kd.yhb_ (by (with_reducible repeat (first|apply Kd.yj_|apply Kd.yk_|apply Kd.R_drew));exact HL248_0.out) (Kd.ybb_ zh_) (by decide) hg);have n3_:=Aside0.mk (hb);have n4_:=Aside0.mk (ho);clear HO_7;clear HL246_0;clear HL248_0;clear HB;clear HO_11;have HO_7:=n0_;have HL246_0:=n1_;have HL248_0:=n2_;have HB:=n3_;have HO253:=n4_;clear n0_ n1_ n2_ n3_ n4_;clear ho hb hg hat)))
           go_roundg kj70
           case measure=>have:=HK1.out;have:=HK2.out;have:=HJ67.out;have:=HJ70.out;omega
           case rel=>exact⟨(y251),(ji89),(x13_2),(by first|rfl|(simp;done)|(simp only[← hji89] <;> (first|rfl|simp))|(simp [*];done)),zc_,H',⟨by have:=HK1.out;have:=HK2.out;have:=HJ67.out;have:=HJ70.out;omega⟩,⟨by (with_reducible repeat (first|apply Kd.y9_|apply Kd.y8_|apply Kd.S_drew));exact HO_7.out⟩,⟨by (with_reducible repeat (first|apply Kd.yj_|apply Kd.yk_|apply Kd.R_drew));exact HO253.out⟩,⟨by repeat (with_reducible first|exact HB.out|apply yc_|apply ya_|apply yb_)⟩⟩
          rw[if_neg c99] at H
          have c99b0:decide ((rd (rd_L8 x7_1 x12_2) (ji96))≤(rd (rd_L8 x7_1 (ji89)) x13_2))=false:=decide_eq_false c99
          clear c99
          by_cases c104:x13_2 < (l1.length:Int)
          rotate_left
          ·rw[if_neg c104] at H
           exact absurd H (by simp)
          rw[if_pos c104] at H
          have c104b0:decide (x13_2 < (l1.length:Int))=true:=decide_eq_true c104
          clear c104
          by_cases c105:x11_2.length < 5864062014805
          rotate_left
          ·rw[if_neg c105] at H
           exact absurd H (by simp)
          rw[if_pos c105] at H
          have LMc105:=Aside0.mk c105
          clear c105
          obtain⟨y255,hy255⟩:∃ y_:List (S95),y_=(x11_2++[(⟨43,rdOf ByteArray.empty l1 x13_2⟩:S95)]):=⟨_,rfl⟩
          replace H:(yd_.l2 kj70 l0 l1 (l0.length:Int) (l1.length:Int) x7_1 y255 x12_2 ji96)=some r:=by first|(rw[hy255];with_reducible exact H)|(have H2_:=(Option.bind_some _ _).symm.trans H;rw[hy255];with_reducible exact H2_)|(have H2_:=(Option.bind_some _ _).symm.trans H;with_reducible exact H2_)|with_reducible exact H|(rw[hy255];exact H)|exact H
          have Ny255:=Aside0.mk hy255
          clear hy255
          have H':=Aside0.mk H
          clear H
          obtain⟨Ao106,co106,eo106⟩:=Kd.S_slice HO_7.out
          subst eo106
          have p246:0≤((ji89):Int):=of_decide_eq_true zd_
          have q246:(ji89) < (x7_1.length:Int):=of_decide_eq_true zd_
          obtain⟨ad246,A246_0,c246_0,e246,hx246_0,hl246_0,hi246_0⟩:=at_L8 (Kd.yB_ HO_7.out).2.2 (ji89) p246 q246
          cases e246
          obtain⟨ce246,hce246,hMe246,hcc246⟩:=Kd.S_get HO_7.out [] (ji89) p246 (by first|exact q246|exact of_decide_eq_true zd_|(have e_:=(Kd.yB_ HO_7.out).1;omega))
          obtain⟨ve246_0,rfl,ge246_0⟩:=hMe246
          have hv246_0:=hcc246 0 _ rfl
          rw[Nat.add_zero,show ((Kd.slice 3 (Kd.int .i64))).sz=1 from rfl,Nat.mul_one] at hv246_0
          replace hv246_0:=Option.some.inj (hv246_0.symm.trans hx246_0)
          rw[hv246_0] at ge246_0
          have HL246_0:=Aside0.mk (show Kd.R (Kd.int .i64) 3 _ _ _ _ (rd_L8 x7_1 (ji89)) from ge246_0)
          clear hv246_0 ge246_0
          have HX246_0:=Aside0.mk hx246_0
          clear hcc246 hce246
          have HR246_0:=Aside0.mk hi246_0
          have HC246_0:=Aside0.mk hl246_0
          clear hi246_0 hl246_0
          replace p246:=eq_true p246
          replace q246:=eq_true q246
          have p247:0≤(x13_2:Int):=of_decide_eq_true zd_
          have q247:x13_2 < ((rd_L8 x7_1 (ji89)).length:Int):=of_decide_eq_true zd_
          obtain⟨ad247,e247,hx247_0⟩:=Kd.at_int (by repeat (first|(with_reducible exact HR246_0.out)|(with_reducible refine Kd.yM_ ?_ _)|(with_reducible refine Kd.yY_ ?_ _)|(with_reducible refine Kd.C_drew ?_)|exact HR246_0.out)) x13_2 p247 q247
          cases e247
          replace p247:=eq_true p247
          replace q247:=eq_true q247
          have p248:0≤(x12_2:Int):=of_decide_eq_true zd_
          have q248:x12_2 < (x7_1.length:Int):=of_decide_eq_true zd_
          obtain⟨ad248,A248_0,c248_0,e248,hx248_0,hl248_0,hi248_0⟩:=at_L8 (Kd.yB_ HO_7.out).2.2 x12_2 p248 q248
          obtain rfl:ad246=ad248:=(by injection e248)
          obtain⟨ce248,hce248,hMe248,hcc248⟩:=Kd.S_get HO_7.out [] x12_2 p248 (by first|exact q248|exact of_decide_eq_true zd_|(have e_:=(Kd.yB_ HO_7.out).1;omega))
          obtain⟨ve248_0,rfl,ge248_0⟩:=hMe248
          have hv248_0:=hcc248 0 _ rfl
          rw[Nat.add_zero,show ((Kd.slice 3 (Kd.int .i64))).sz=1 from rfl,Nat.mul_one] at hv248_0
          replace hv248_0:=Option.some.inj (hv248_0.symm.trans hx248_0)
          rw[hv248_0] at ge248_0
          have HL248_0:=Aside0.mk (show Kd.R (Kd.int .i64) 3 _ _ _ _ (rd_L8 x7_1 x12_2) from ge248_0)
          clear hv248_0 ge248_0
          have HX248_0:=Aside0.mk hx248_0
          clear hcc248 hce248
          have HR248_0:=Aside0.mk hi248_0
          have HC248_0:=Aside0.mk hl248_0
          clear hi248_0 hl248_0
          replace p248:=eq_true p248
          replace q248:=eq_true q248
          have p249:0≤((ji96):Int):=of_decide_eq_true zd_
          have q249:(ji96) < ((rd_L8 x7_1 x12_2).length:Int):=of_decide_eq_true zd_
          obtain⟨ad249,e249,hx249_0⟩:=Kd.at_int (by repeat (first|(with_reducible exact HR248_0.out)|(with_reducible refine Kd.yM_ ?_ _)|(with_reducible refine Kd.yY_ ?_ _)|(with_reducible refine Kd.C_drew ?_)|exact HR248_0.out)) (ji96) p249 q249
          cases e249
          replace p249:=eq_true p249
          replace q249:=eq_true q249
          have p254:0≤(x13_2:Int):=of_decide_eq_true zd_
          have q254:x13_2 < (l1.length:Int):=of_decide_eq_true zd_
          obtain⟨ad254,e254,hx254_0⟩:=Kd.yP_ HR1.out x13_2 p254 q254
          cases e254
          replace hx254_0:=(HB.out.cell (World.block_lt_of_cell? w _ hx254_0)).trans hx254_0
          replace p254:=eq_true p254
          replace q254:=eq_true q254
          go_wp2_with fail
          repeat (go_quiet (fail);try go_wp2_with (first|((with_reducible refine yL_ (b:=.append) (xs:=#[.tmp 119,.tmp 125]) rfl ?_);at_builtin;refine Kd.ydb_ k95 (w0:=w) w.heap.size rfl (.tmp 119) (.tmp 125) 92 95 (.agg #[(.int .u8 0),(.string ⟨#[]⟩)]) 24 rfl Tryz.underlying92 info95 rfl (by decide) (by omega) u11 x11_2 (⟨43,rdOf ByteArray.empty l1 x13_2⟩:S95) [.int .u8 43,.string (rdOf ByteArray.empty l1 x13_2)] (fun _=>True) (fun _=>False) rfl rfl ?aP (fun _ hk=>hk.elim) ?aF ?aO ?aB ?aS ?aL ?_;(case aP=>exact k95_mkM _ _ _ (⟨43,rdOf ByteArray.empty l1 x13_2⟩:S95));(case aB=>exact za_);(case aF=>exact (fun _ _=>trivial));(case aO=>exact zh_);(case aS=>exact (yp_ za_));(case aL=>have:=LMc105.out;omega);intro v256 w107 ho hb hg hat;rw[← Ny255.out] at ho;have n0_:=Aside0.mk (Kd.S_over' (by (with_reducible repeat (first|apply Kd.y9_|apply Kd.y8_|apply Kd.S_drew));exact HO_7.out) (Kd.ybb_ zh_) (by decide) hg);have n1_:=Aside0.mk (Kd.yhb_ (by (with_reducible repeat (first|apply Kd.yj_|apply Kd.yk_|apply Kd.R_drew));exact HL246_0.out) (Kd.ybb_ zh_) (by decide) hg);have n2_:=Aside0.mk (Kd.yhb_ (by (with_reducible repeat (first|apply Kd.yj_|apply Kd.yk_|apply Kd.R_drew));exact HL248_0.out) (Kd.ybb_ zh_) (by decide) hg);have n3_:=Aside0.mk (hb);have n4_:=Aside0.mk (ho);clear HO_7;clear HL246_0;clear HL248_0;clear HB;clear HO_11;have HO_7:=n0_;have HL246_0:=n1_;have HL248_0:=n2_;have HB:=n3_;have HO257:=n4_;clear n0_ n1_ n2_ n3_ n4_;clear ho hb hg hat)))
          go_roundg kj70
          case measure=>have:=HK1.out;have:=HK2.out;have:=HJ67.out;have:=HJ70.out;omega
          case rel=>exact⟨(y255),(x12_2),(ji96),zc_,(by first|rfl|(simp;done)|(simp only[← hji96] <;> (first|rfl|simp))|(simp [*];done)),H',⟨by have:=HK1.out;have:=HK2.out;have:=HJ67.out;have:=HJ70.out;omega⟩,⟨by (with_reducible repeat (first|apply Kd.y9_|apply Kd.y8_|apply Kd.S_drew));exact HO_7.out⟩,⟨by (with_reducible repeat (first|apply Kd.yj_|apply Kd.yk_|apply Kd.R_drew));exact HO257.out⟩,⟨by repeat (with_reducible first|exact HB.out|apply yc_|apply ya_|apply yb_)⟩⟩
   rw[if_pos c8] at H
   have c8b0:decide (0≤x8_1)=true:=decide_eq_true c8
   clear c8
   obtain⟨ji9,hji9⟩:∃ j_:Int,(wrap64 ((l1.length:Int)+1))=j_:=⟨_,rfl⟩
   replace H:(if 0≤(ji9) then (if (ji9:Int).toNat≤35184372088832 then (if 0≤x8_1 then (if x8_1 < (x7_1.length:Int) then (yd_.l1 k1 l0 l1 (l0.length:Int) (l1.length:Int) (x7_1.set (x8_1:Int).toNat (List.replicate (ji9:Int).toNat 0)) x8_1 (l1.length:Int)) else (none)) else (none)) else (none)) else (none))=some r:=by first|(rw[hji9] at H;exact H)|(simp only[hji9] at H ⊢;exact H)
   have hji9w:(IntKind.i64.wrap ((l1.length:Int)+1))=ji9:=(i64_w _).trans hji9
   by_cases c10:0≤(ji9)
   rotate_left
   ·rw[if_neg c10] at H
    exact absurd H (by simp)
   rw[if_pos c10] at H
   have c10b0:=eq_true c10
   have c10b1:decide (0≤(ji9))=true:=decide_eq_true c10
   clear c10
   by_cases c11:(ji9:Int).toNat≤35184372088832
   rotate_left
   ·rw[if_neg c11] at H
    exact absurd H (by simp)
   rw[if_pos c11] at H
   have c11b0:=eq_true c11
   have c11b1:decide ((ji9:Int).toNat≤35184372088832)=true:=decide_eq_true c11
   clear c11
   obtain⟨y190,hy190⟩:∃ y_:List Int,y_=(List.replicate (ji9:Int).toNat 0):=⟨_,rfl⟩
   replace H:(if 0≤x8_1 then (if x8_1 < (x7_1.length:Int) then (yd_.l1 k1 l0 l1 (l0.length:Int) (l1.length:Int) (x7_1.set (x8_1:Int).toNat y190) x8_1 (l1.length:Int)) else (none)) else (none))=some r:=by first|(rw[hy190];with_reducible exact H)|(have H2_:=(Option.bind_some _ _).symm.trans H;rw[hy190];with_reducible exact H2_)|(have H2_:=(Option.bind_some _ _).symm.trans H;with_reducible exact H2_)|with_reducible exact H|(rw[hy190];exact H)|exact H
   have Ny190:=Aside0.mk hy190
   clear hy190
   by_cases c12:0≤x8_1
   rotate_left
   ·rw[if_neg c12] at H
    exact absurd H (by simp)
   rw[if_pos c12] at H
   have c12b0:decide (0≤x8_1)=true:=decide_eq_true c12
   clear c12
   by_cases c13:x8_1 < (x7_1.length:Int)
   rotate_left
   ·rw[if_neg c13] at H
    exact absurd H (by simp)
   rw[if_pos c13] at H
   have c13b0:decide (x8_1 < (x7_1.length:Int))=true:=decide_eq_true c13
   clear c13
   obtain⟨y193,hy193⟩:∃ y_:List (List Int),y_=(x7_1.set (x8_1:Int).toNat y190):=⟨_,rfl⟩
   replace H:(yd_.l1 k1 l0 l1 (l0.length:Int) (l1.length:Int) y193 x8_1 (l1.length:Int))=some r:=by first|(rw[hy193];with_reducible exact H)|(have H2_:=(Option.bind_some _ _).symm.trans H;rw[hy193];with_reducible exact H2_)|(have H2_:=(Option.bind_some _ _).symm.trans H;with_reducible exact H2_)|with_reducible exact H|(rw[hy193];exact H)|exact H
   have Ny193:=Aside0.mk hy193
   clear hy193
   have H':=Aside0.mk H
   clear H
   go_wp2_with (first|((with_reducible refine yO_ (N:=30) rfl ?_);refine Kd.R_make (Kd.int .i64) _ 3 rfl (N:=30) rfl 28 _ _ rfl ji9 rfl rfl Tryz.underlying28 (.int .i64 0) 8 info3 rfl (by decide) (by omega) 0 (ok:=fun _=>True) (okp:=fun _=>True) rfl (fun _ hk=>hk) trivial (of_decide_eq_true zd_) (Nat.le_trans (Nat.mul_le_mul_right _ (of_decide_eq_true zd_:ji9.toNat≤35184372088832)) (by omega)) (Below.refl _ _) (Nat.le_refl _) ?_;intro v191 w15 ho16 hb hg_ hnew_;clear hg_ hnew_;(first|rw[← Ny190.out] at ho16|(simp only[Int.reduceToNat] at ho16;rw[← Ny190.out] at ho16));have n0_:=Aside0.mk (Kd.S_elder' (by (with_reducible repeat (first|apply Kd.y9_|apply Kd.y8_|apply Kd.S_drew));exact HO_7.out) (Kd.R_base ho16) hb);have n1_:=Aside0.mk (Kd.y0_ ho16 (yp_ za_));have n2_:=Aside0.mk (yn_ za_ hb);clear HO_7;clear HB;have HO_7:=n0_;have HO192:=n1_;have HB:=n2_;clear n0_ n1_ n2_;clear hb ho16;have p14:0≤(x8_1:Int):=of_decide_eq_true zd_;have q14:(x8_1:Int) < ((x7_1.length:Int):Int):=of_decide_eq_true zd_;obtain⟨go14,co14,eo14,gb14,gl14,cl14,HG14⟩:=Kd.S_form HO_7.out (by omega);(first|cases eo14|(injection eo14 with ea_ en_ ec_;(first|subst ea_|(injection ea_ with ea_;subst ea_));subst ec_;clear en_));have GB14:=Aside0.mk gb14;have GG14:=Aside0.mk HG14;clear gb14 gl14 HG14;obtain⟨_,ce14,hcl14,hM14,hcc14,hfr14,_,_⟩:=Kd.S_elem HO_7.out [] (x8_1:Int) p14 q14;obtain⟨ve14_0,rfl,ge14_0⟩:=hM14;have hx14_0:=hcc14 0 _ rfl;have hf14_0:=hfr14 0;(try simp only[show ((Kd.slice 3 (Kd.int .i64))).sz=1 from rfl,Nat.mul_one,Nat.add_zero] at hx14_0);(try simp only[show ((Kd.slice 3 (Kd.int .i64))).sz=1 from rfl,Nat.mul_one,Nat.add_zero] at hf14_0);clear hcl14 hcc14 hfr14;(try clear hM14);replace p14:=eq_true p14;replace q14:=eq_true q14;have n_:=Aside0.mk (Kd.S_mono (ok':=(fun k_=>some k_≠(v191:Value).ownBlock)) HO_7.out (fun k_ hk=>hk.2));clear HO_7;have HO_7:=n_;clear n_;have HX17:=Aside0.mk (show Kd.S (Kd.slice 3 (Kd.int .i64)) 28 w15 w.heap.size (fun k_=>((fun _=>True)) k_∧¬ ((fun k_=>some k_=(v191:Value).ownBlock)) k_) (.slice (some ⟨go14,0,none⟩) x7_1.length co14) x7_1 from (by (with_reducible repeat (first|apply Kd.y9_|apply Kd.y8_|apply Kd.S_drew));exact Kd.S_mono HO_7.out (fun k_ hk=>⟨trivial,fun e_=>hk e_⟩)));obtain⟨oki17,ce17,hcl17,hM17,hcc17,hfr17,hoki17,hH17⟩:=Kd.S_elem HX17.out [] (x8_1:Int) (of_decide_eq_true zd_) (by have h_:(x8_1:Int) < ((x7_1.length:Int):Int):=of_decide_eq_true zd_;first|exact h_|(have e_:=(Kd.yB_ HO_7.out).1;omega)|simpa using h_);obtain⟨ve17_0,rfl,ge17_0⟩:=hM17;have HP17:=Kd.S_seg hH17 (of_decide_eq_true zd_) (by have h_:(x8_1:Int) < ((x7_1.length:Int):Int):=of_decide_eq_true zd_;first|exact h_|(have e_:=(Kd.yB_ HO_7.out).1;omega)|simpa using h_) (seg:=[v191]) (j:=0) (show 1≤1 from by decide) (x':=y190) (Kd.M_row (Kd.R_mono (Kd.R_tight rfl (Kd.R_mono (ok':=fun k_=>((fun _=>True)) k_∧k_≠go14) (Kd.R_apart' (HO192.out) (Kd.S_typed HO_7.out) (by decide)) (fun k_ hk=>⟨trivial,fun e_=>(hk.2) (by rw[e_];rfl)⟩))) (fun _ h_=>Or.inr (h_)))) (fun _ hk=>hk) (fun k_ hk_=>((Kd.R_mono (ok':=fun k_=>((fun _=>True)) k_∧k_≠go14) (Kd.R_apart' (HO192.out) (Kd.S_typed HO_7.out) (by decide)) (fun k_ hk=>⟨trivial,fun e_=>(hk.2) (by rw[e_];rfl)⟩))).1 k_ hk_.symm);have hx17_0:=hcc17 0 _ rfl;(try simp only[show ((Kd.slice 3 (Kd.int .i64))).sz=1 from rfl,Nat.mul_one,Nat.add_zero] at hx17_0);have hf17_0:=hfr17 0;(try simp only[show ((Kd.slice 3 (Kd.int .i64))).sz=1 from rfl,Nat.mul_one,Nat.add_zero] at hf17_0);clear hcl17 hcc17 hfr17 hoki17 hH17;(try clear hM17);(try simp only[show ((Kd.slice 3 (Kd.int .i64))).sz=1 from rfl,Nat.mul_one,Nat.add_zero] at HP17))|((with_reducible refine y7_ (t:=28) (p:=31) rfl ?_);(try (rw[ytb_ w15];generalize hq_:World.drewN w15 _=w15;have n0_:=Aside0.mk (Kd.S_at hq_ HO_7.out);have n1_:=Aside0.mk (yMb_ hq_ HB.out);clear hq_ HO_7 HB;have HO_7:=n0_;have HB:=n1_;clear n0_ n1_;(try (have n_:=Aside0.mk (Kd.S_mono (ok':=(fun k_=>some k_≠(v191:Value).ownBlock)) HO_7.out (fun k_ hk=>hk.2));clear HO_7;have HO_7:=n_;clear n_));(try (have HX17:=Aside0.mk (show Kd.S (Kd.slice 3 (Kd.int .i64)) 28 w15 w.heap.size (fun k_=>((fun _=>True)) k_∧¬ ((fun k_=>some k_=(v191:Value).ownBlock)) k_) (.slice (some ⟨go14,0,none⟩) x7_1.length co14) x7_1 from (by (with_reducible repeat (first|apply Kd.y9_|apply Kd.y8_|apply Kd.S_drew));exact Kd.S_mono HO_7.out (fun k_ hk=>⟨trivial,fun e_=>hk e_⟩)))));(try (obtain⟨oki17,ce17,hcl17,hM17,hcc17,hfr17,hoki17,hH17⟩:=Kd.S_elem HX17.out [] (x8_1:Int) (of_decide_eq_true zd_) (by have h_:(x8_1:Int) < ((x7_1.length:Int):Int):=of_decide_eq_true zd_;first|exact h_|(have e_:=(Kd.yB_ HO_7.out).1;omega)|simpa using h_)));(try (obtain⟨ve17_0,rfl,ge17_0⟩:=hM17));(try (have HP17:=Kd.S_seg hH17 (of_decide_eq_true zd_) (by have h_:(x8_1:Int) < ((x7_1.length:Int):Int):=of_decide_eq_true zd_;first|exact h_|(have e_:=(Kd.yB_ HO_7.out).1;omega)|simpa using h_) (seg:=[v191]) (j:=0) (show 1≤1 from by decide) (x':=y190) (Kd.M_row (Kd.R_mono (Kd.R_tight rfl (Kd.R_mono (ok':=fun k_=>((fun _=>True)) k_∧k_≠go14) (Kd.R_apart' (HO192.out) (Kd.S_typed HO_7.out) (by decide)) (fun k_ hk=>⟨trivial,fun e_=>(hk.2) (by rw[e_];rfl)⟩))) (fun _ h_=>Or.inr (h_)))) (fun _ hk=>hk) (fun k_ hk_=>((Kd.R_mono (ok':=fun k_=>((fun _=>True)) k_∧k_≠go14) (Kd.R_apart' (HO192.out) (Kd.S_typed HO_7.out) (by decide)) (fun k_ hk=>⟨trivial,fun e_=>(hk.2) (by rw[e_];rfl)⟩))).1 k_ hk_.symm)));(try (have hx17_0:=hcc17 0 _ rfl));(try (try simp only[show ((Kd.slice 3 (Kd.int .i64))).sz=1 from rfl,Nat.mul_one,Nat.add_zero] at hx17_0));(try (have hf17_0:=hfr17 0));(try (try simp only[show ((Kd.slice 3 (Kd.int .i64))).sz=1 from rfl,Nat.mul_one,Nat.add_zero] at hf17_0));(try (clear hcl17 hcc17 hfr17 hoki17 hH17;(try clear hM17)));(try (try simp only[show ((Kd.slice 3 (Kd.int .i64))).sz=1 from rfl,Nat.mul_one,Nat.add_zero] at HP17))));refine y2_ (t:=28) (p:=31) (v:=?vo_w18) (w1:=(w15.setCell ⟨go14,(x8_1:Int).toNat,none⟩ (v191))) ?hg ?ho ?hn ?hr ?_;(case ho=>rfl);(case hg=>rfl);(case hn=>rfl);(case hr=>(try obtain⟨As_,cs_,rfl⟩:=Kd.yE_ HO192.out);first|(go_simp;done)|(go_simp;rfl));intro w18 hw;have hg:w15.grownBy w18 (some go14):=(by rw[hw];exact HP17.2);have hp_:Kd.S (Kd.slice 3 (Kd.int .i64)) 28 w18 w.heap.size (fun _=>True) (.slice (some ⟨go14,0,none⟩) x7_1.length co14) y193:=(by rw[hw,Ny193.out];exact HP17.1);clear HP17;have n0_:=Aside0.mk (hp_);have n1_:=Aside0.mk ((by rw[hw];exact yq_ (HB.out) GB14.out:Below w.heap.size w w18));clear HO_7;clear HB;clear HO192;have HO_7:=n0_;have HB:=n1_;clear n0_ n1_;clear hg hw hp_))
   repeat (go_quiet (fail);try go_wp2)
   try simp only[Act.put,List.setIfInBounds_toArray,List.set_cons_succ,List.set_cons_zero]
   go_loopg [9] k1 (fun kq v9 w'=>∃ (x7_2:List (List Int)) (x9_2:Int),v9=.int .i64 x9_2∧Aside0 (yd_.l1 kq l0 l1 (l0.length:Int) (l1.length:Int) x7_2 x8_1 x9_2=some r)∧Aside0 (kq≤k1)∧Aside0 (Kd.S (Kd.slice 3 (Kd.int .i64)) 28 w' w.heap.size (fun _=>True) (.slice (some ⟨go14,0,none⟩) x7_1.length co14) x7_2)∧Aside0 (Below w.heap.size w w'))
   case atStart=>exact⟨(y193),((l1.length:Int)),zc_,H',⟨Nat.le_refl _⟩,⟨by (with_reducible repeat (first|apply Kd.y9_|apply Kd.y8_|apply Kd.S_drew));exact HO_7.out⟩,⟨by repeat (with_reducible first|exact HB.out|apply yc_|apply ya_|apply yb_)⟩⟩
   case round =>
    clear H'
    try clear c1
    try clear p1
    try clear q1
    try clear hx1
    try clear p2
    try clear c4
    try clear c4b0
    try clear c4b1
    try clear c5
    try clear c5b0
    try clear c5b1
    try clear p6
    try clear c8
    try clear c8b0
    try clear c10
    try clear c10b0
    try clear c10b1
    try clear c11
    try clear c11b0
    try clear c11b1
    try clear c12
    try clear c12b0
    try clear c13
    try clear c13b0
    try clear c14
    try clear p14
    try clear q14
    try clear hx14
    try clear hf14
    try clear c17
    try clear hx17
    try clear hf17
    try clear hx14_0
    try clear hx17_0
    try clear p14
    try clear p2
    try clear p6
    try clear q14
    obtain⟨x7_2,x9_2,rfl,HA,HK2,HO_7,HB⟩:=hrel
    have hl7_2:=(Kd.yB_ HO_7.out).1
    rw[hl7_2] at HO_7
    (try simp only[hl7_2])
    cases gk with
    | zero=>exact absurd HA.out (by simp [yd_.l1])
    | succ k2 =>
     have H:=HA.out
     clear HA
     simp only[yd_.l1] at H
     by_cases c19:x9_2 ≥ 0
     rotate_left
     ·rw[if_neg c19] at H
      have c19b0:decide (0≤x9_2)=false:=decide_eq_false c19
      clear c19
      have H':=Aside0.mk H
      clear H
      go_wp2
      repeat (go_quiet (fail);try go_wp2)
      (try simp only[← hl7_2])
      go_roundg k2
      case measure=>have:=HK1.out;have:=HK2.out;omega
      case rel=>exact⟨(x7_2),(wrap64 (x8_1 - 1)),zc_,H',⟨by have:=HK1.out;have:=HK2.out;omega⟩,⟨by (try simp only[hl7_2]);(with_reducible repeat (first|apply Kd.y9_|apply Kd.y8_|apply Kd.S_drew));exact HO_7.out⟩,⟨by repeat (with_reducible first|exact HB.out|apply yc_|apply ya_|apply yb_)⟩⟩
     rw[if_pos c19] at H
     have c19b0:decide (0≤x9_2)=true:=decide_eq_true c19
     clear c19
     have HC20:=Aside0.mk H
     clear H
     go_upto_region 10 with (fail)
     repeat (go_quiet (fail);go_upto_region 10 with (fail))
     go_cut [44] (fun v44 wc=>∃ (kq:Nat) (x44_19:Bool),v44=.bool x44_19∧Aside0 (yd_.j2 kq l0 l1 (l0.length:Int) (l1.length:Int) x7_2 x8_1 x9_2 x44_19=some r)∧Aside0 (kq≤k2)∧Aside0 (Kd.S (Kd.slice 3 (Kd.int .i64)) 28 wc w.heap.size (fun _=>True) (.slice (some ⟨go14,0,none⟩) x7_2.length co14) x7_2)∧Aside0 (Below w.heap.size w wc))
     case first =>
      have H:=HC20.out
      clear HC20
      by_cases c21:x8_1=(l0.length:Int)
      ·rw[if_pos c21] at H
       have c21b0:(x8_1 == (l0.length:Int))=true:=beq_iff_eq.mpr c21
       have c21b1:(x8_1 != (l0.length:Int))=false:=bne_eq_false_iff_eq.mpr c21
       clear c21
       (first|rw[c21b0]|(simp only[i64_w,i32_w];rw[c21b0])|skip)
       have H':=Aside0.mk H
       clear H
       go_wp2
       repeat (go_quiet (fail);try go_wp2)
       go_meet
       case rel=>exact⟨_,(true),zc_,H',⟨by have:=HK1.out;have:=HK2.out;first|omega|exact Nat.le_refl _⟩,⟨by (try simp only[hl7_2]);(with_reducible repeat (first|apply Kd.y9_|apply Kd.y8_|apply Kd.S_drew));exact HO_7.out⟩,⟨by repeat (with_reducible first|exact HB.out|apply yc_|apply ya_|apply yb_)⟩⟩
      rw[if_neg c21] at H
      have c21b0:(x8_1 == (l0.length:Int))=false:=beq_eq_false_iff_ne.mpr c21
      have c21b1:(x8_1 != (l0.length:Int))=true:=bne_iff_ne.mpr c21
      (first|rw[c21b0]|(simp only[i64_w,i32_w];rw[c21b0])|skip)
      have H':=Aside0.mk H
      clear H
      go_wp2
      repeat (go_quiet (fail);try go_wp2)
      go_meet
      case rel=>exact⟨_,((x9_2 == (l1.length:Int))),zc_,H',⟨by have:=HK1.out;have:=HK2.out;first|omega|exact Nat.le_refl _⟩,⟨by (try simp only[hl7_2]);(with_reducible repeat (first|apply Kd.y9_|apply Kd.y8_|apply Kd.S_drew));exact HO_7.out⟩,⟨by repeat (with_reducible first|exact HB.out|apply yc_|apply ya_|apply yb_)⟩⟩
     case rest =>
      clear HC20
      try clear c1
      try clear p1
      try clear q1
      try clear hx1
      try clear c2
      try clear p2
      try clear c4
      try clear c4b0
      try clear c4b1
      try clear c5
      try clear c5b0
      try clear c5b1
      try clear p6
      try clear c8
      try clear c8b0
      try clear c10
      try clear c10b0
      try clear c10b1
      try clear c11
      try clear c11b0
      try clear c11b1
      try clear c12
      try clear c12b0
      try clear c13
      try clear c13b0
      try clear c14
      try clear p14
      try clear q14
      try clear hx14
      try clear hf14
      try clear c17
      try clear hx17
      try clear hf17
      try clear c19
      try clear c19b0
      try clear c21
      try clear c21b0
      try clear c21b1
      try clear hx14_0
      try clear hx17_0
      try clear p1
      try clear p14
      try clear p2
      try clear p6
      try clear q1
      try clear q14
      obtain⟨kq,x44_19,rfl,HA,HJ19,HO_7,HB⟩:=hcut
      cases kq with
      | zero=>exact absurd HA.out (by simp [yd_.j2])
      | succ kj19 =>
       have H:=HA.out
       clear HA
       simp only[yd_.j2] at H
       by_cases c22:x44_19=true
       ·subst c22
        have H1:(yd_.l1 kj19 l0 l1 (l0.length:Int) (l1.length:Int) x7_2 x8_1 (wrap64 (x9_2 - 1)))=some r:=by rw[if_pos rfl] at H;exact H
        clear H
        have H:=H1
        clear H1
        have H':=Aside0.mk H
        clear H
        go_wp2
        repeat (go_quiet (fail);try go_wp2)
        (try simp only[← hl7_2])
        go_roundg kj19
        case measure=>have:=HK1.out;have:=HK2.out;have:=HJ19.out;omega
        case rel=>exact⟨(x7_2),(wrap64 (x9_2 - 1)),zc_,H',⟨by have:=HK1.out;have:=HK2.out;have:=HJ19.out;omega⟩,⟨by (try simp only[hl7_2]);(with_reducible repeat (first|apply Kd.y9_|apply Kd.y8_|apply Kd.S_drew));exact HO_7.out⟩,⟨by repeat (with_reducible first|exact HB.out|apply yc_|apply ya_|apply yb_)⟩⟩
       replace c22:=Bool.eq_false_iff.mpr c22
       subst c22
       have H1:(if 0≤(wrap64 (x8_1+1)) then (if (wrap64 (x8_1+1)) < (x7_2.length:Int) then (if 0≤x9_2 then (if x9_2 < ((rd_L8 x7_2 (wrap64 (x8_1+1))).length:Int) then (if 0≤x8_1 then (if x8_1 < (x7_2.length:Int) then (if 0≤(wrap64 (x9_2+1)) then (if (wrap64 (x9_2+1)) < ((rd_L8 x7_2 x8_1).length:Int) then (if (rd (rd_L8 x7_2 x8_1) (wrap64 (x9_2+1))) > (rd (rd_L8 x7_2 (wrap64 (x8_1+1))) x9_2) then (if x8_1 < (l0.length:Int) then (if x9_2 < (l1.length:Int) then (if (rdOf ByteArray.empty l0 x8_1).toList=(rdOf ByteArray.empty l1 x9_2).toList then (if (wrap64 (x9_2+1)) < ((rd_L8 x7_2 (wrap64 (x8_1+1))).length:Int) then (if (wrap64 ((rd (rd_L8 x7_2 (wrap64 (x8_1+1))) (wrap64 (x9_2+1)))+1)) > (rd (rd_L8 x7_2 x8_1) (wrap64 (x9_2+1))) then (if x9_2 < ((rd_L8 x7_2 x8_1).length:Int) then (yd_.l1 kj19 l0 l1 (l0.length:Int) (l1.length:Int) (x7_2.set (x8_1:Int).toNat ((rd_L8 x7_2 x8_1).set (x9_2:Int).toNat (wrap64 ((rd (rd_L8 x7_2 (wrap64 (x8_1+1))) (wrap64 (x9_2+1)))+1)))) x8_1 (wrap64 (x9_2 - 1))) else (none)) else (if x9_2 < ((rd_L8 x7_2 x8_1).length:Int) then (yd_.l1 kj19 l0 l1 (l0.length:Int) (l1.length:Int) (x7_2.set (x8_1:Int).toNat ((rd_L8 x7_2 x8_1).set (x9_2:Int).toNat (rd (rd_L8 x7_2 x8_1) (wrap64 (x9_2+1))))) x8_1 (wrap64 (x9_2 - 1))) else (none))) else (none)) else (if x9_2 < ((rd_L8 x7_2 x8_1).length:Int) then (yd_.l1 kj19 l0 l1 (l0.length:Int) (l1.length:Int) (x7_2.set (x8_1:Int).toNat ((rd_L8 x7_2 x8_1).set (x9_2:Int).toNat (rd (rd_L8 x7_2 x8_1) (wrap64 (x9_2+1))))) x8_1 (wrap64 (x9_2 - 1))) else (none))) else (none)) else (none)) else (if x8_1 < (l0.length:Int) then (if x9_2 < (l1.length:Int) then (if (rdOf ByteArray.empty l0 x8_1).toList=(rdOf ByteArray.empty l1 x9_2).toList then (if (wrap64 (x9_2+1)) < ((rd_L8 x7_2 (wrap64 (x8_1+1))).length:Int) then (if (wrap64 ((rd (rd_L8 x7_2 (wrap64 (x8_1+1))) (wrap64 (x9_2+1)))+1)) > (rd (rd_L8 x7_2 (wrap64 (x8_1+1))) x9_2) then (if x9_2 < ((rd_L8 x7_2 x8_1).length:Int) then (yd_.l1 kj19 l0 l1 (l0.length:Int) (l1.length:Int) (x7_2.set (x8_1:Int).toNat ((rd_L8 x7_2 x8_1).set (x9_2:Int).toNat (wrap64 ((rd (rd_L8 x7_2 (wrap64 (x8_1+1))) (wrap64 (x9_2+1)))+1)))) x8_1 (wrap64 (x9_2 - 1))) else (none)) else (if x9_2 < ((rd_L8 x7_2 x8_1).length:Int) then (yd_.l1 kj19 l0 l1 (l0.length:Int) (l1.length:Int) (x7_2.set (x8_1:Int).toNat ((rd_L8 x7_2 x8_1).set (x9_2:Int).toNat (rd (rd_L8 x7_2 (wrap64 (x8_1+1))) x9_2))) x8_1 (wrap64 (x9_2 - 1))) else (none))) else (none)) else (if x9_2 < ((rd_L8 x7_2 x8_1).length:Int) then (yd_.l1 kj19 l0 l1 (l0.length:Int) (l1.length:Int) (x7_2.set (x8_1:Int).toNat ((rd_L8 x7_2 x8_1).set (x9_2:Int).toNat (rd (rd_L8 x7_2 (wrap64 (x8_1+1))) x9_2))) x8_1 (wrap64 (x9_2 - 1))) else (none))) else (none)) else (none))) else (none)) else (none)) else (none)) else (none)) else (none)) else (none)) else (none)) else (none))=some r:=by rw[if_neg (show ¬ (false=true) by decide)] at H;exact H
       clear H
       have H:=H1
       clear H1
       obtain⟨ji23,hji23⟩:∃ j_:Int,(wrap64 (x8_1+1))=j_:=⟨_,rfl⟩
       replace H:(if 0≤(ji23) then (if (ji23) < (x7_2.length:Int) then (if 0≤x9_2 then (if x9_2 < ((rd_L8 x7_2 (ji23)).length:Int) then (if 0≤x8_1 then (if x8_1 < (x7_2.length:Int) then (if 0≤(wrap64 (x9_2+1)) then (if (wrap64 (x9_2+1)) < ((rd_L8 x7_2 x8_1).length:Int) then (if (rd (rd_L8 x7_2 x8_1) (wrap64 (x9_2+1))) > (rd (rd_L8 x7_2 (ji23)) x9_2) then (if x8_1 < (l0.length:Int) then (if x9_2 < (l1.length:Int) then (if (rdOf ByteArray.empty l0 x8_1).toList=(rdOf ByteArray.empty l1 x9_2).toList then (if (wrap64 (x9_2+1)) < ((rd_L8 x7_2 (ji23)).length:Int) then (if (wrap64 ((rd (rd_L8 x7_2 (ji23)) (wrap64 (x9_2+1)))+1)) > (rd (rd_L8 x7_2 x8_1) (wrap64 (x9_2+1))) then (if x9_2 < ((rd_L8 x7_2 x8_1).length:Int) then (yd_.l1 kj19 l0 l1 (l0.length:Int) (l1.length:Int) (x7_2.set (x8_1:Int).toNat ((rd_L8 x7_2 x8_1).set (x9_2:Int).toNat (wrap64 ((rd (rd_L8 x7_2 (ji23)) (wrap64 (x9_2+1)))+1)))) x8_1 (wrap64 (x9_2 - 1))) else (none)) else (if x9_2 < ((rd_L8 x7_2 x8_1).length:Int) then (yd_.l1 kj19 l0 l1 (l0.length:Int) (l1.length:Int) (x7_2.set (x8_1:Int).toNat ((rd_L8 x7_2 x8_1).set (x9_2:Int).toNat (rd (rd_L8 x7_2 x8_1) (wrap64 (x9_2+1))))) x8_1 (wrap64 (x9_2 - 1))) else (none))) else (none)) else (if x9_2 < ((rd_L8 x7_2 x8_1).length:Int) then (yd_.l1 kj19 l0 l1 (l0.length:Int) (l1.length:Int) (x7_2.set (x8_1:Int).toNat ((rd_L8 x7_2 x8_1).set (x9_2:Int).toNat (rd (rd_L8 x7_2 x8_1) (wrap64 (x9_2+1))))) x8_1 (wrap64 (x9_2 - 1))) else (none))) else (none)) else (none)) else (if x8_1 < (l0.length:Int) then (if x9_2 < (l1.length:Int) then (if (rdOf ByteArray.empty l0 x8_1).toList=(rdOf ByteArray.empty l1 x9_2).toList then (if (wrap64 (x9_2+1)) < ((rd_L8 x7_2 (ji23)).length:Int) then (if (wrap64 ((rd (rd_L8 x7_2 (ji23)) (wrap64 (x9_2+1)))+1)) > (rd (rd_L8 x7_2 (ji23)) x9_2) then (if x9_2 < ((rd_L8 x7_2 x8_1).length:Int) then (yd_.l1 kj19 l0 l1 (l0.length:Int) (l1.length:Int) (x7_2.set (x8_1:Int).toNat ((rd_L8 x7_2 x8_1).set (x9_2:Int).toNat (wrap64 ((rd (rd_L8 x7_2 (ji23)) (wrap64 (x9_2+1)))+1)))) x8_1 (wrap64 (x9_2 - 1))) else (none)) else (if x9_2 < ((rd_L8 x7_2 x8_1).length:Int) then (yd_.l1 kj19 l0 l1 (l0.length:Int) (l1.length:Int) (x7_2.set (x8_1:Int).toNat ((rd_L8 x7_2 x8_1).set (x9_2:Int).toNat (rd (rd_L8 x7_2 (ji23)) x9_2))) x8_1 (wrap64 (x9_2 - 1))) else (none))) else (none)) else (if x9_2 < ((rd_L8 x7_2 x8_1).length:Int) then (yd_.l1 kj19 l0 l1 (l0.length:Int) (l1.length:Int) (x7_2.set (x8_1:Int).toNat ((rd_L8 x7_2 x8_1).set (x9_2:Int).toNat (rd (rd_L8 x7_2 (ji23)) x9_2))) x8_1 (wrap64 (x9_2 - 1))) else (none))) else (none)) else (none))) else (none)) else (none)) else (none)) else (none)) else (none)) else (none)) else (none)) else (none))=some r:=by first|(rw[hji23] at H;exact H)|(simp only[hji23] at H ⊢;exact H)
       have hji23w:(IntKind.i64.wrap (x8_1+1))=ji23:=(i64_w _).trans hji23
       by_cases c24:0≤(ji23)
       rotate_left
       ·rw[if_neg c24] at H
        exact absurd H (by simp)
       rw[if_pos c24] at H
       have c24b0:decide (0≤(ji23))=true:=decide_eq_true c24
       clear c24
       by_cases c25:(ji23) < (x7_2.length:Int)
       rotate_left
       ·rw[if_neg c25] at H
        exact absurd H (by simp)
       rw[if_pos c25] at H
       have c25b0:decide ((ji23) < (x7_2.length:Int))=true:=decide_eq_true c25
       clear c25
       by_cases c26:0≤x9_2
       rotate_left
       ·rw[if_neg c26] at H
        exact absurd H (by simp)
       rw[if_pos c26] at H
       have c26b0:decide (0≤x9_2)=true:=decide_eq_true c26
       clear c26
       by_cases c27:x9_2 < ((rd_L8 x7_2 (ji23)).length:Int)
       rotate_left
       ·rw[if_neg c27] at H
        exact absurd H (by simp)
       rw[if_pos c27] at H
       have c27b0:decide (x9_2 < ((rd_L8 x7_2 (ji23)).length:Int))=true:=decide_eq_true c27
       clear c27
       by_cases c28:0≤x8_1
       rotate_left
       ·rw[if_neg c28] at H
        exact absurd H (by simp)
       rw[if_pos c28] at H
       have c28b0:decide (0≤x8_1)=true:=decide_eq_true c28
       clear c28
       by_cases c29:x8_1 < (x7_2.length:Int)
       rotate_left
       ·rw[if_neg c29] at H
        exact absurd H (by simp)
       rw[if_pos c29] at H
       have c29b0:decide (x8_1 < (x7_2.length:Int))=true:=decide_eq_true c29
       clear c29
       obtain⟨ji30,hji30⟩:∃ j_:Int,(wrap64 (x9_2+1))=j_:=⟨_,rfl⟩
       replace H:(if 0≤(ji30) then (if (ji30) < ((rd_L8 x7_2 x8_1).length:Int) then (if (rd (rd_L8 x7_2 x8_1) (ji30)) > (rd (rd_L8 x7_2 (ji23)) x9_2) then (if x8_1 < (l0.length:Int) then (if x9_2 < (l1.length:Int) then (if (rdOf ByteArray.empty l0 x8_1).toList=(rdOf ByteArray.empty l1 x9_2).toList then (if (ji30) < ((rd_L8 x7_2 (ji23)).length:Int) then (if (wrap64 ((rd (rd_L8 x7_2 (ji23)) (ji30))+1)) > (rd (rd_L8 x7_2 x8_1) (ji30)) then (if x9_2 < ((rd_L8 x7_2 x8_1).length:Int) then (yd_.l1 kj19 l0 l1 (l0.length:Int) (l1.length:Int) (x7_2.set (x8_1:Int).toNat ((rd_L8 x7_2 x8_1).set (x9_2:Int).toNat (wrap64 ((rd (rd_L8 x7_2 (ji23)) (ji30))+1)))) x8_1 (wrap64 (x9_2 - 1))) else (none)) else (if x9_2 < ((rd_L8 x7_2 x8_1).length:Int) then (yd_.l1 kj19 l0 l1 (l0.length:Int) (l1.length:Int) (x7_2.set (x8_1:Int).toNat ((rd_L8 x7_2 x8_1).set (x9_2:Int).toNat (rd (rd_L8 x7_2 x8_1) (ji30)))) x8_1 (wrap64 (x9_2 - 1))) else (none))) else (none)) else (if x9_2 < ((rd_L8 x7_2 x8_1).length:Int) then (yd_.l1 kj19 l0 l1 (l0.length:Int) (l1.length:Int) (x7_2.set (x8_1:Int).toNat ((rd_L8 x7_2 x8_1).set (x9_2:Int).toNat (rd (rd_L8 x7_2 x8_1) (ji30)))) x8_1 (wrap64 (x9_2 - 1))) else (none))) else (none)) else (none)) else (if x8_1 < (l0.length:Int) then (if x9_2 < (l1.length:Int) then (if (rdOf ByteArray.empty l0 x8_1).toList=(rdOf ByteArray.empty l1 x9_2).toList then (if (ji30) < ((rd_L8 x7_2 (ji23)).length:Int) then (if (wrap64 ((rd (rd_L8 x7_2 (ji23)) (ji30))+1)) > (rd (rd_L8 x7_2 (ji23)) x9_2) then (if x9_2 < ((rd_L8 x7_2 x8_1).length:Int) then (yd_.l1 kj19 l0 l1 (l0.length:Int) (l1.length:Int) (x7_2.set (x8_1:Int).toNat ((rd_L8 x7_2 x8_1).set (x9_2:Int).toNat (wrap64 ((rd (rd_L8 x7_2 (ji23)) (ji30))+1)))) x8_1 (wrap64 (x9_2 - 1))) else (none)) else (if x9_2 < ((rd_L8 x7_2 x8_1).length:Int) then (yd_.l1 kj19 l0 l1 (l0.length:Int) (l1.length:Int) (x7_2.set (x8_1:Int).toNat ((rd_L8 x7_2 x8_1).set (x9_2:Int).toNat (rd (rd_L8 x7_2 (ji23)) x9_2))) x8_1 (wrap64 (x9_2 - 1))) else (none))) else (none)) else (if x9_2 < ((rd_L8 x7_2 x8_1).length:Int) then (yd_.l1 kj19 l0 l1 (l0.length:Int) (l1.length:Int) (x7_2.set (x8_1:Int).toNat ((rd_L8 x7_2 x8_1).set (x9_2:Int).toNat (rd (rd_L8 x7_2 (ji23)) x9_2))) x8_1 (wrap64 (x9_2 - 1))) else (none))) else (none)) else (none))) else (none)) else (none))=some r:=by first|(rw[hji30] at H;exact H)|(simp only[hji30] at H ⊢;exact H)
       have hji30w:(IntKind.i64.wrap (x9_2+1))=ji30:=(i64_w _).trans hji30
       by_cases c31:0≤(ji30)
       rotate_left
       ·rw[if_neg c31] at H
        exact absurd H (by simp)
       rw[if_pos c31] at H
       have c31b0:decide (0≤(ji30))=true:=decide_eq_true c31
       clear c31
       by_cases c32:(ji30) < ((rd_L8 x7_2 x8_1).length:Int)
       rotate_left
       ·rw[if_neg c32] at H
        exact absurd H (by simp)
       rw[if_pos c32] at H
       have c32b0:decide ((ji30) < ((rd_L8 x7_2 x8_1).length:Int))=true:=decide_eq_true c32
       clear c32
       by_cases c33:(rd (rd_L8 x7_2 x8_1) (ji30)) > (rd (rd_L8 x7_2 (ji23)) x9_2)
       rotate_left
       ·rw[if_neg c33] at H
        have c33b0:decide ((rd (rd_L8 x7_2 (ji23)) x9_2) < (rd (rd_L8 x7_2 x8_1) (ji30)))=false:=decide_eq_false c33
        clear c33
        by_cases c51:x8_1 < (l0.length:Int)
        rotate_left
        ·rw[if_neg c51] at H
         exact absurd H (by simp)
        rw[if_pos c51] at H
        have c51b0:decide (x8_1 < (l0.length:Int))=true:=decide_eq_true c51
        clear c51
        by_cases c52:x9_2 < (l1.length:Int)
        rotate_left
        ·rw[if_neg c52] at H
         exact absurd H (by simp)
        rw[if_pos c52] at H
        have c52b0:decide (x9_2 < (l1.length:Int))=true:=decide_eq_true c52
        clear c52
        by_cases c53:(rdOf ByteArray.empty l0 x8_1).toList=(rdOf ByteArray.empty l1 x9_2).toList
        rotate_left
        ·rw[if_neg c53] at H
         have c53b0:((rdOf ByteArray.empty l0 x8_1).toList == (rdOf ByteArray.empty l1 x9_2).toList)=false:=beq_eq_false_iff_ne.mpr c53
         have c53b1:((rdOf ByteArray.empty l0 x8_1).toList != (rdOf ByteArray.empty l1 x9_2).toList)=true:=bne_iff_ne.mpr c53
         by_cases c64:x9_2 < ((rd_L8 x7_2 x8_1).length:Int)
         rotate_left
         ·rw[if_neg c64] at H
          exact absurd H (by simp)
         rw[if_pos c64] at H
         have c64b0:decide (x9_2 < ((rd_L8 x7_2 x8_1).length:Int))=true:=decide_eq_true c64
         clear c64
         obtain⟨y233,hy233⟩:∃ y_:List Int,y_=((rd_L8 x7_2 x8_1).set (x9_2:Int).toNat (rd (rd_L8 x7_2 (ji23)) x9_2)):=⟨_,rfl⟩
         replace H:(yd_.l1 kj19 l0 l1 (l0.length:Int) (l1.length:Int) (x7_2.set (x8_1:Int).toNat y233) x8_1 (wrap64 (x9_2 - 1)))=some r:=by first|(rw[hy233];with_reducible exact H)|(have H2_:=(Option.bind_some _ _).symm.trans H;rw[hy233];with_reducible exact H2_)|(have H2_:=(Option.bind_some _ _).symm.trans H;with_reducible exact H2_)|with_reducible exact H|(rw[hy233];exact H)|exact H
         have Ny233:=Aside0.mk hy233
         clear hy233
         obtain⟨y235,hy235⟩:∃ y_:List (List Int),y_=(x7_2.set (x8_1:Int).toNat y233):=⟨_,rfl⟩
         replace H:(yd_.l1 kj19 l0 l1 (l0.length:Int) (l1.length:Int) y235 x8_1 (wrap64 (x9_2 - 1)))=some r:=by first|(rw[hy235];with_reducible exact H)|(have H2_:=(Option.bind_some _ _).symm.trans H;rw[hy235];with_reducible exact H2_)|(have H2_:=(Option.bind_some _ _).symm.trans H;with_reducible exact H2_)|with_reducible exact H|(rw[hy235];exact H)|exact H
         have Ny235:=Aside0.mk hy235
         clear hy235
         have H':=Aside0.mk H
         clear H
         have p194:0≤((ji23):Int):=of_decide_eq_true zd_
         have q194:(ji23) < (x7_2.length:Int):=of_decide_eq_true zd_
         obtain⟨ad194,A194_0,c194_0,e194,hx194_0,hl194_0,hi194_0⟩:=at_L8 (Kd.yB_ HO_7.out).2.2 (ji23) p194 q194
         obtain rfl:(⟨go14,0,none⟩:Addr)=ad194:=(by injection e194)
         obtain⟨ce194,hce194,hMe194,hcc194⟩:=Kd.S_get HO_7.out [] (ji23) p194 (by first|exact q194|exact of_decide_eq_true zd_|(have e_:=(Kd.yB_ HO_7.out).1;omega))
         obtain⟨ve194_0,rfl,ge194_0⟩:=hMe194
         have hv194_0:=hcc194 0 _ rfl
         rw[Nat.add_zero,show ((Kd.slice 3 (Kd.int .i64))).sz=1 from rfl,Nat.mul_one] at hv194_0
         replace hv194_0:=Option.some.inj (hv194_0.symm.trans hx194_0)
         rw[hv194_0] at ge194_0
         have HL194_0:=Aside0.mk (show Kd.R (Kd.int .i64) 3 _ _ _ _ (rd_L8 x7_2 (ji23)) from ge194_0)
         clear hv194_0 ge194_0
         have HX194_0:=Aside0.mk hx194_0
         clear hcc194 hce194
         (first|simp only[add_plain] at hx194_0|simp only[add_at] at hx194_0|simp only[Addr.add,Nat.zero_add] at hx194_0|skip)
         have HR194_0:=Aside0.mk hi194_0
         have HC194_0:=Aside0.mk hl194_0
         clear hi194_0 hl194_0
         replace p194:=eq_true p194
         replace q194:=eq_true q194
         have p195:0≤(x9_2:Int):=of_decide_eq_true zd_
         have q195:x9_2 < ((rd_L8 x7_2 (ji23)).length:Int):=of_decide_eq_true zd_
         obtain⟨ad195,e195,hx195_0⟩:=Kd.at_int (by repeat (first|(with_reducible exact HR194_0.out)|(with_reducible refine Kd.yM_ ?_ _)|(with_reducible refine Kd.yY_ ?_ _)|(with_reducible refine Kd.C_drew ?_)|exact HR194_0.out)) x9_2 p195 q195
         cases e195
         replace p195:=eq_true p195
         replace q195:=eq_true q195
         have p196:0≤(x8_1:Int):=of_decide_eq_true zd_
         have q196:x8_1 < (x7_2.length:Int):=of_decide_eq_true zd_
         obtain⟨ad196,A196_0,c196_0,e196,hx196_0,hl196_0,hi196_0⟩:=at_L8 (Kd.yB_ HO_7.out).2.2 x8_1 p196 q196
         obtain rfl:(⟨go14,0,none⟩:Addr)=ad196:=(by injection e196)
         obtain⟨ce196,hce196,hMe196,hcc196⟩:=Kd.S_get HO_7.out [] x8_1 p196 (by first|exact q196|exact of_decide_eq_true zd_|(have e_:=(Kd.yB_ HO_7.out).1;omega))
         obtain⟨ve196_0,rfl,ge196_0⟩:=hMe196
         have hv196_0:=hcc196 0 _ rfl
         rw[Nat.add_zero,show ((Kd.slice 3 (Kd.int .i64))).sz=1 from rfl,Nat.mul_one] at hv196_0
         replace hv196_0:=Option.some.inj (hv196_0.symm.trans hx196_0)
         rw[hv196_0] at ge196_0
         have HL196_0:=Aside0.mk (show Kd.R (Kd.int .i64) 3 _ _ _ _ (rd_L8 x7_2 x8_1) from ge196_0)
         clear hv196_0 ge196_0
         have HX196_0:=Aside0.mk hx196_0
         clear hcc196 hce196
         (first|simp only[add_plain] at hx196_0|simp only[add_at] at hx196_0|simp only[Addr.add,Nat.zero_add] at hx196_0|skip)
         have HR196_0:=Aside0.mk hi196_0
         have HC196_0:=Aside0.mk hl196_0
         clear hi196_0 hl196_0
         replace p196:=eq_true p196
         replace q196:=eq_true q196
         have p197:0≤((ji30):Int):=of_decide_eq_true zd_
         have q197:(ji30) < ((rd_L8 x7_2 x8_1).length:Int):=of_decide_eq_true zd_
         obtain⟨ad197,e197,hx197_0⟩:=Kd.at_int (by repeat (first|(with_reducible exact HR196_0.out)|(with_reducible refine Kd.yM_ ?_ _)|(with_reducible refine Kd.yY_ ?_ _)|(with_reducible refine Kd.C_drew ?_)|exact HR196_0.out)) (ji30) p197 q197
         cases e197
         replace p197:=eq_true p197
         replace q197:=eq_true q197
         have p218:0≤(x8_1:Int):=of_decide_eq_true zd_
         have q218:x8_1 < (l0.length:Int):=of_decide_eq_true zd_
         obtain⟨ad218,e218,hx218_0⟩:=Kd.yP_ HR0.out x8_1 p218 q218
         cases e218
         replace hx218_0:=(HB.out.cell (World.block_lt_of_cell? w _ hx218_0)).trans hx218_0
         replace p218:=eq_true p218
         replace q218:=eq_true q218
         have p219:0≤(x9_2:Int):=of_decide_eq_true zd_
         have q219:x9_2 < (l1.length:Int):=of_decide_eq_true zd_
         obtain⟨ad219,e219,hx219_0⟩:=Kd.yP_ HR1.out x9_2 p219 q219
         cases e219
         replace hx219_0:=(HB.out.cell (World.block_lt_of_cell? w _ hx219_0)).trans hx219_0
         replace p219:=eq_true p219
         replace q219:=eq_true q219
         have p232:0≤(x8_1:Int):=of_decide_eq_true zd_
         have q232:x8_1 < (x7_2.length:Int):=of_decide_eq_true zd_
         obtain⟨ad232,A232_0,c232_0,e232,hx232_0,hl232_0,hi232_0⟩:=at_L8 (Kd.yB_ HO_7.out).2.2 x8_1 p232 q232
         obtain rfl:(⟨go14,0,none⟩:Addr)=ad232:=(by injection e232)
         obtain⟨ce232,hce232,hMe232,hcc232⟩:=Kd.S_get HO_7.out [] x8_1 p232 (by first|exact q232|exact of_decide_eq_true zd_|(have e_:=(Kd.yB_ HO_7.out).1;omega))
         obtain⟨ve232_0,rfl,ge232_0⟩:=hMe232
         have hv232_0:=hcc232 0 _ rfl
         rw[Nat.add_zero,show ((Kd.slice 3 (Kd.int .i64))).sz=1 from rfl,Nat.mul_one] at hv232_0
         replace hv232_0:=Option.some.inj (hv232_0.symm.trans hx232_0)
         rw[hv232_0] at ge232_0
         have HL232_0:=Aside0.mk (show Kd.R (Kd.int .i64) 3 _ _ _ _ (rd_L8 x7_2 x8_1) from ge232_0)
         clear hv232_0 ge232_0
         have HX232_0:=Aside0.mk hx232_0
         clear hcc232 hce232
         (first|simp only[add_plain] at hx232_0|simp only[add_at] at hx232_0|simp only[Addr.add,Nat.zero_add] at hx232_0|skip)
         have HR232_0:=Aside0.mk hi232_0
         have HC232_0:=Aside0.mk hl232_0
         clear hi232_0 hl232_0
         replace p232:=eq_true p232
         replace q232:=eq_true q232
         have ea_:=Option.some.inj (hx196_0.symm.trans hx232_0)
         injection ea_ with ea_ en_ ec_
         subst ea_
         subst ec_
         clear en_
         have p65:0≤(x9_2:Int):=of_decide_eq_true zd_
         have q65:(x9_2:Int) < (((rd_L8 x7_2 x8_1).length:Int):Int):=of_decide_eq_true zd_
         obtain⟨go65,co65,eo65,gb65,gl65,cl65,HG65⟩:=Kd.R_form HL232_0.out (by omega)
         (first|cases eo65|(injection eo65 with ea_ en_ ec_;(first|subst ea_|(injection ea_ with ea_;subst ea_));subst ec_;clear en_))
         have GB65:=Aside0.mk gb65
         have GG65:=Aside0.mk HG65
         clear gb65 gl65 HG65
         (first|simp only[add_plain] at hx197_0|skip)
         obtain⟨hx65_0,hf65_0⟩:=Kd.yFb_ 0 HL232_0.out (x9_2:Int) p65 q65
         replace p65:=eq_true p65
         replace q65:=eq_true q65
         have hq66:(x8_1:Int) < (x7_2.length:Int):=(by have h_:(x8_1:Int) < ((x7_2.length:Int):Int):=of_decide_eq_true zd_;first|exact h_|(have e_:=(Kd.yB_ HO_7.out).1;omega)|simpa only[List.length_set,List.length_set] using h_)
         obtain⟨oki66,ce66,hcl66,hM66,hcc66,hok66,hbk66⟩:=Kd.yDb_ HO_7.out [] (x8_1:Int) (of_decide_eq_true zd_) hq66
         obtain⟨ve66_0,rfl,ge66_0⟩:=hM66
         have hv66:=hcc66 0 _ rfl
         rw[Nat.add_zero,show ((Kd.slice 3 (Kd.int .i64))).sz=1 from rfl,Nat.mul_one] at hv66
         replace hv66:=Option.some.inj (hv66.symm.trans HX232_0.out)
         subst hv66
         clear hcc66 hcl66
         replace ge66_0:=(show Kd.R (Kd.int .i64) 3 _ _ _ _ (rd_L8 x7_2 x8_1) from ge66_0)
         have HP66:=Kd.R_putg ge66_0 (x9_2:Int) (rd (rd_L8 x7_2 (ji23)) x9_2)
         go_wp2_with fail
         repeat (go_quiet (fail);try go_wp2_with (first|((with_reducible refine y7_ (t:=3) (p:=110) rfl ?_);(try (rw[ytb_ wc];generalize hq_:World.drewN wc _=wc;have n0_:=Aside0.mk (Kd.S_at hq_ HO_7.out);have nX_:=Aside0.mk (cellat_ hq_ HX232_0.out);have n2_:=Aside0.mk (yMb_ hq_ HB.out);clear hq_ HO_7 HB HX232_0;have HO_7:=n0_;have HX232_0:=nX_;have HB:=n2_;clear n0_ nX_ n2_;(try (have hq66:(x8_1:Int) < (x7_2.length:Int):=(by have h_:(x8_1:Int) < ((x7_2.length:Int):Int):=of_decide_eq_true zd_;first|exact h_|(have e_:=(Kd.yB_ HO_7.out).1;omega)|simpa only[List.length_set,List.length_set] using h_)));(try (obtain⟨oki66,ce66,hcl66,hM66,hcc66,hok66,hbk66⟩:=Kd.yDb_ HO_7.out [] (x8_1:Int) (of_decide_eq_true zd_) hq66));(try (obtain⟨ve66_0,rfl,ge66_0⟩:=hM66));(try (have hv66:=hcc66 0 _ rfl));(try (rw[Nat.add_zero,show ((Kd.slice 3 (Kd.int .i64))).sz=1 from rfl,Nat.mul_one] at hv66));(try (replace hv66:=Option.some.inj (hv66.symm.trans HX232_0.out)));(try (subst hv66));(try (clear hcc66 hcl66));(try (replace ge66_0:=(show Kd.R (Kd.int .i64) 3 _ _ _ _ (rd_L8 x7_2 x8_1) from ge66_0)));(try (have HP66:=Kd.R_putg ge66_0 (x9_2:Int) (rd (rd_L8 x7_2 (ji23)) x9_2)));(try (obtain⟨hx65_0,hf65_0⟩:=Kd.yFb_ 0 ge66_0 (x9_2:Int) (of_eq_true p65) (of_eq_true q65)))));refine y2_ (t:=3) (p:=110) (v:=?vo_w67) (w1:=(wc.setCell ⟨go65,(x9_2:Int).toNat,none⟩ (.int .i64 (rd (rd_L8 x7_2 (ji23)) x9_2)))) ?hg ?ho ?hn ?hr ?_;(case ho=>rfl);(case hg=>rfl);(case hn=>rfl);(case hr=>(try obtain⟨As_,cs_,rfl⟩:=Kd.yE_ HO192.out);first|(go_simp;done)|(go_simp;rfl));intro w67 hw;have hg:wc.grownBy w67 (some go65):=(by rw[hw];exact HP66.2);have hz_:Kd.R (Kd.int .i64) 3 w67 w.heap.size oki66 (.slice (some ⟨go65,0,none⟩) (rd_L8 x7_2 x8_1).length c196_0) y233:=(by rw[hw,Ny233.out];exact HP66.1);have hp_:Kd.S (Kd.slice 3 (Kd.int .i64)) 28 w67 w.heap.size (fun _=>True) (.slice (some ⟨go14,0,none⟩) x7_2.length co14) y235:=(by rw[Ny235.out];exact hbk66 hg (fun k_ e_=>by injection e_ with e_;subst e_;exact ge66_0.1 _ rfl) (Kd.M_row hz_));have hm_:=Kd.R_mono hz_ hok66;clear HP66 hbk66;have n0_:=Aside0.mk (hp_);have n1_:=Aside0.mk ((by rw[hw];exact yq_ (HB.out) GB65.out:Below w.heap.size w w67));have n2_:=Aside0.mk (hm_);have n3_:=Aside0.mk ((Kd.yt_ hm_).2.1);clear HO_7;clear HB;clear HL194_0;clear HL196_0;clear HL232_0;have HO_7:=n0_;have HB:=n1_;have HL267:=n2_;have HC234:=n3_;clear n0_ n1_ n2_ n3_;clear hg hw hp_ hz_ hm_ hok66)))
         (try simp only[← hl7_2])
         go_roundg kj19
         case measure=>have:=HK1.out;have:=HK2.out;have:=HJ19.out;omega
         case rel=>exact⟨(y235),(wrap64 (x9_2 - 1)),zc_,H',⟨by have:=HK1.out;have:=HK2.out;have:=HJ19.out;omega⟩,⟨by (try simp only[hl7_2]);(with_reducible repeat (first|apply Kd.y9_|apply Kd.y8_|apply Kd.S_drew));exact HO_7.out⟩,⟨by repeat (with_reducible first|exact HB.out|apply yc_|apply ya_|apply yb_)⟩⟩
        rw[if_pos c53] at H
        have c53b0:((rdOf ByteArray.empty l0 x8_1).toList == (rdOf ByteArray.empty l1 x9_2).toList)=true:=beq_iff_eq.mpr c53
        have c53b1:((rdOf ByteArray.empty l0 x8_1).toList != (rdOf ByteArray.empty l1 x9_2).toList)=false:=bne_eq_false_iff_eq.mpr c53
        clear c53
        by_cases c54:(ji30) < ((rd_L8 x7_2 (ji23)).length:Int)
        rotate_left
        ·rw[if_neg c54] at H
         exact absurd H (by simp)
        rw[if_pos c54] at H
        have c54b0:decide ((ji30) < ((rd_L8 x7_2 (ji23)).length:Int))=true:=decide_eq_true c54
        clear c54
        by_cases c55:(wrap64 ((rd (rd_L8 x7_2 (ji23)) (ji30))+1)) > (rd (rd_L8 x7_2 (ji23)) x9_2)
        rotate_left
        ·rw[if_neg c55] at H
         have c55b0:decide ((rd (rd_L8 x7_2 (ji23)) x9_2) < (wrap64 ((rd (rd_L8 x7_2 (ji23)) (ji30))+1)))=false:=decide_eq_false c55
         clear c55
         by_cases c60:x9_2 < ((rd_L8 x7_2 x8_1).length:Int)
         rotate_left
         ·rw[if_neg c60] at H
          exact absurd H (by simp)
         rw[if_pos c60] at H
         have c60b0:decide (x9_2 < ((rd_L8 x7_2 x8_1).length:Int))=true:=decide_eq_true c60
         clear c60
         obtain⟨y229,hy229⟩:∃ y_:List Int,y_=((rd_L8 x7_2 x8_1).set (x9_2:Int).toNat (rd (rd_L8 x7_2 (ji23)) x9_2)):=⟨_,rfl⟩
         replace H:(yd_.l1 kj19 l0 l1 (l0.length:Int) (l1.length:Int) (x7_2.set (x8_1:Int).toNat y229) x8_1 (wrap64 (x9_2 - 1)))=some r:=by first|(rw[hy229];with_reducible exact H)|(have H2_:=(Option.bind_some _ _).symm.trans H;rw[hy229];with_reducible exact H2_)|(have H2_:=(Option.bind_some _ _).symm.trans H;with_reducible exact H2_)|with_reducible exact H|(rw[hy229];exact H)|exact H
         have Ny229:=Aside0.mk hy229
         clear hy229
         obtain⟨y231,hy231⟩:∃ y_:List (List Int),y_=(x7_2.set (x8_1:Int).toNat y229):=⟨_,rfl⟩
         replace H:(yd_.l1 kj19 l0 l1 (l0.length:Int) (l1.length:Int) y231 x8_1 (wrap64 (x9_2 - 1)))=some r:=by first|(rw[hy231];with_reducible exact H)|(have H2_:=(Option.bind_some _ _).symm.trans H;rw[hy231];with_reducible exact H2_)|(have H2_:=(Option.bind_some _ _).symm.trans H;with_reducible exact H2_)|with_reducible exact H|(rw[hy231];exact H)|exact H
         have Ny231:=Aside0.mk hy231
         clear hy231
         have H':=Aside0.mk H
         clear H
         have p194:0≤((ji23):Int):=of_decide_eq_true zd_
         have q194:(ji23) < (x7_2.length:Int):=of_decide_eq_true zd_
         obtain⟨ad194,A194_0,c194_0,e194,hx194_0,hl194_0,hi194_0⟩:=at_L8 (Kd.yB_ HO_7.out).2.2 (ji23) p194 q194
         obtain rfl:(⟨go14,0,none⟩:Addr)=ad194:=(by injection e194)
         obtain⟨ce194,hce194,hMe194,hcc194⟩:=Kd.S_get HO_7.out [] (ji23) p194 (by first|exact q194|exact of_decide_eq_true zd_|(have e_:=(Kd.yB_ HO_7.out).1;omega))
         obtain⟨ve194_0,rfl,ge194_0⟩:=hMe194
         have hv194_0:=hcc194 0 _ rfl
         rw[Nat.add_zero,show ((Kd.slice 3 (Kd.int .i64))).sz=1 from rfl,Nat.mul_one] at hv194_0
         replace hv194_0:=Option.some.inj (hv194_0.symm.trans hx194_0)
         rw[hv194_0] at ge194_0
         have HL194_0:=Aside0.mk (show Kd.R (Kd.int .i64) 3 _ _ _ _ (rd_L8 x7_2 (ji23)) from ge194_0)
         clear hv194_0 ge194_0
         have HX194_0:=Aside0.mk hx194_0
         clear hcc194 hce194
         (first|simp only[add_plain] at hx194_0|simp only[add_at] at hx194_0|simp only[Addr.add,Nat.zero_add] at hx194_0|skip)
         have HR194_0:=Aside0.mk hi194_0
         have HC194_0:=Aside0.mk hl194_0
         clear hi194_0 hl194_0
         replace p194:=eq_true p194
         replace q194:=eq_true q194
         have p195:0≤(x9_2:Int):=of_decide_eq_true zd_
         have q195:x9_2 < ((rd_L8 x7_2 (ji23)).length:Int):=of_decide_eq_true zd_
         obtain⟨ad195,e195,hx195_0⟩:=Kd.at_int (by repeat (first|(with_reducible exact HR194_0.out)|(with_reducible refine Kd.yM_ ?_ _)|(with_reducible refine Kd.yY_ ?_ _)|(with_reducible refine Kd.C_drew ?_)|exact HR194_0.out)) x9_2 p195 q195
         cases e195
         replace p195:=eq_true p195
         replace q195:=eq_true q195
         have p196:0≤(x8_1:Int):=of_decide_eq_true zd_
         have q196:x8_1 < (x7_2.length:Int):=of_decide_eq_true zd_
         obtain⟨ad196,A196_0,c196_0,e196,hx196_0,hl196_0,hi196_0⟩:=at_L8 (Kd.yB_ HO_7.out).2.2 x8_1 p196 q196
         obtain rfl:(⟨go14,0,none⟩:Addr)=ad196:=(by injection e196)
         obtain⟨ce196,hce196,hMe196,hcc196⟩:=Kd.S_get HO_7.out [] x8_1 p196 (by first|exact q196|exact of_decide_eq_true zd_|(have e_:=(Kd.yB_ HO_7.out).1;omega))
         obtain⟨ve196_0,rfl,ge196_0⟩:=hMe196
         have hv196_0:=hcc196 0 _ rfl
         rw[Nat.add_zero,show ((Kd.slice 3 (Kd.int .i64))).sz=1 from rfl,Nat.mul_one] at hv196_0
         replace hv196_0:=Option.some.inj (hv196_0.symm.trans hx196_0)
         rw[hv196_0] at ge196_0
         have HL196_0:=Aside0.mk (show Kd.R (Kd.int .i64) 3 _ _ _ _ (rd_L8 x7_2 x8_1) from ge196_0)
         clear hv196_0 ge196_0
         have HX196_0:=Aside0.mk hx196_0
         clear hcc196 hce196
         (first|simp only[add_plain] at hx196_0|simp only[add_at] at hx196_0|simp only[Addr.add,Nat.zero_add] at hx196_0|skip)
         have HR196_0:=Aside0.mk hi196_0
         have HC196_0:=Aside0.mk hl196_0
         clear hi196_0 hl196_0
         replace p196:=eq_true p196
         replace q196:=eq_true q196
         have p197:0≤((ji30):Int):=of_decide_eq_true zd_
         have q197:(ji30) < ((rd_L8 x7_2 x8_1).length:Int):=of_decide_eq_true zd_
         obtain⟨ad197,e197,hx197_0⟩:=Kd.at_int (by repeat (first|(with_reducible exact HR196_0.out)|(with_reducible refine Kd.yM_ ?_ _)|(with_reducible refine Kd.yY_ ?_ _)|(with_reducible refine Kd.C_drew ?_)|exact HR196_0.out)) (ji30) p197 q197
         cases e197
         replace p197:=eq_true p197
         replace q197:=eq_true q197
         have p218:0≤(x8_1:Int):=of_decide_eq_true zd_
         have q218:x8_1 < (l0.length:Int):=of_decide_eq_true zd_
         obtain⟨ad218,e218,hx218_0⟩:=Kd.yP_ HR0.out x8_1 p218 q218
         cases e218
         replace hx218_0:=(HB.out.cell (World.block_lt_of_cell? w _ hx218_0)).trans hx218_0
         replace p218:=eq_true p218
         replace q218:=eq_true q218
         have p219:0≤(x9_2:Int):=of_decide_eq_true zd_
         have q219:x9_2 < (l1.length:Int):=of_decide_eq_true zd_
         obtain⟨ad219,e219,hx219_0⟩:=Kd.yP_ HR1.out x9_2 p219 q219
         cases e219
         replace hx219_0:=(HB.out.cell (World.block_lt_of_cell? w _ hx219_0)).trans hx219_0
         replace p219:=eq_true p219
         replace q219:=eq_true q219
         have p220:0≤((ji23):Int):=of_decide_eq_true zd_
         have q220:(ji23) < (x7_2.length:Int):=of_decide_eq_true zd_
         obtain⟨ad220,A220_0,c220_0,e220,hx220_0,hl220_0,hi220_0⟩:=at_L8 (Kd.yB_ HO_7.out).2.2 (ji23) p220 q220
         obtain rfl:(⟨go14,0,none⟩:Addr)=ad220:=(by injection e220)
         obtain⟨ce220,hce220,hMe220,hcc220⟩:=Kd.S_get HO_7.out [] (ji23) p220 (by first|exact q220|exact of_decide_eq_true zd_|(have e_:=(Kd.yB_ HO_7.out).1;omega))
         obtain⟨ve220_0,rfl,ge220_0⟩:=hMe220
         have hv220_0:=hcc220 0 _ rfl
         rw[Nat.add_zero,show ((Kd.slice 3 (Kd.int .i64))).sz=1 from rfl,Nat.mul_one] at hv220_0
         replace hv220_0:=Option.some.inj (hv220_0.symm.trans hx220_0)
         rw[hv220_0] at ge220_0
         have HL220_0:=Aside0.mk (show Kd.R (Kd.int .i64) 3 _ _ _ _ (rd_L8 x7_2 (ji23)) from ge220_0)
         clear hv220_0 ge220_0
         have HX220_0:=Aside0.mk hx220_0
         clear hcc220 hce220
         (first|simp only[add_plain] at hx220_0|simp only[add_at] at hx220_0|simp only[Addr.add,Nat.zero_add] at hx220_0|skip)
         have HR220_0:=Aside0.mk hi220_0
         have HC220_0:=Aside0.mk hl220_0
         clear hi220_0 hl220_0
         replace p220:=eq_true p220
         replace q220:=eq_true q220
         have ea_:=Option.some.inj (hx194_0.symm.trans hx220_0)
         injection ea_ with ea_ en_ ec_
         subst ea_
         subst ec_
         clear en_
         have p221:0≤((ji30):Int):=of_decide_eq_true zd_
         have q221:(ji30) < ((rd_L8 x7_2 (ji23)).length:Int):=of_decide_eq_true zd_
         obtain⟨ad221,e221,hx221_0⟩:=Kd.at_int (by repeat (first|(with_reducible exact HR220_0.out)|(with_reducible refine Kd.yM_ ?_ _)|(with_reducible refine Kd.yY_ ?_ _)|(with_reducible refine Kd.C_drew ?_)|exact HR220_0.out)) (ji30) p221 q221
         cases e221
         replace p221:=eq_true p221
         replace q221:=eq_true q221
         have p228:0≤(x8_1:Int):=of_decide_eq_true zd_
         have q228:x8_1 < (x7_2.length:Int):=of_decide_eq_true zd_
         obtain⟨ad228,A228_0,c228_0,e228,hx228_0,hl228_0,hi228_0⟩:=at_L8 (Kd.yB_ HO_7.out).2.2 x8_1 p228 q228
         obtain rfl:(⟨go14,0,none⟩:Addr)=ad228:=(by injection e228)
         obtain⟨ce228,hce228,hMe228,hcc228⟩:=Kd.S_get HO_7.out [] x8_1 p228 (by first|exact q228|exact of_decide_eq_true zd_|(have e_:=(Kd.yB_ HO_7.out).1;omega))
         obtain⟨ve228_0,rfl,ge228_0⟩:=hMe228
         have hv228_0:=hcc228 0 _ rfl
         rw[Nat.add_zero,show ((Kd.slice 3 (Kd.int .i64))).sz=1 from rfl,Nat.mul_one] at hv228_0
         replace hv228_0:=Option.some.inj (hv228_0.symm.trans hx228_0)
         rw[hv228_0] at ge228_0
         have HL228_0:=Aside0.mk (show Kd.R (Kd.int .i64) 3 _ _ _ _ (rd_L8 x7_2 x8_1) from ge228_0)
         clear hv228_0 ge228_0
         have HX228_0:=Aside0.mk hx228_0
         clear hcc228 hce228
         (first|simp only[add_plain] at hx228_0|simp only[add_at] at hx228_0|simp only[Addr.add,Nat.zero_add] at hx228_0|skip)
         have HR228_0:=Aside0.mk hi228_0
         have HC228_0:=Aside0.mk hl228_0
         clear hi228_0 hl228_0
         replace p228:=eq_true p228
         replace q228:=eq_true q228
         have ea_:=Option.some.inj (hx196_0.symm.trans hx228_0)
         injection ea_ with ea_ en_ ec_
         subst ea_
         subst ec_
         clear en_
         have p61:0≤(x9_2:Int):=of_decide_eq_true zd_
         have q61:(x9_2:Int) < (((rd_L8 x7_2 x8_1).length:Int):Int):=of_decide_eq_true zd_
         obtain⟨go61,co61,eo61,gb61,gl61,cl61,HG61⟩:=Kd.R_form HL228_0.out (by omega)
         (first|cases eo61|(injection eo61 with ea_ en_ ec_;(first|subst ea_|(injection ea_ with ea_;subst ea_));subst ec_;clear en_))
         have GB61:=Aside0.mk gb61
         have GG61:=Aside0.mk HG61
         clear gb61 gl61 HG61
         (first|simp only[add_plain] at hx197_0|skip)
         obtain⟨hx61_0,hf61_0⟩:=Kd.yFb_ 0 HL228_0.out (x9_2:Int) p61 q61
         replace p61:=eq_true p61
         replace q61:=eq_true q61
         have hq62:(x8_1:Int) < (x7_2.length:Int):=(by have h_:(x8_1:Int) < ((x7_2.length:Int):Int):=of_decide_eq_true zd_;first|exact h_|(have e_:=(Kd.yB_ HO_7.out).1;omega)|simpa only[List.length_set,List.length_set] using h_)
         obtain⟨oki62,ce62,hcl62,hM62,hcc62,hok62,hbk62⟩:=Kd.yDb_ HO_7.out [] (x8_1:Int) (of_decide_eq_true zd_) hq62
         obtain⟨ve62_0,rfl,ge62_0⟩:=hM62
         have hv62:=hcc62 0 _ rfl
         rw[Nat.add_zero,show ((Kd.slice 3 (Kd.int .i64))).sz=1 from rfl,Nat.mul_one] at hv62
         replace hv62:=Option.some.inj (hv62.symm.trans HX228_0.out)
         subst hv62
         clear hcc62 hcl62
         replace ge62_0:=(show Kd.R (Kd.int .i64) 3 _ _ _ _ (rd_L8 x7_2 x8_1) from ge62_0)
         have HP62:=Kd.R_putg ge62_0 (x9_2:Int) (rd (rd_L8 x7_2 (ji23)) x9_2)
         go_wp2_with fail
         repeat (go_quiet (fail);try go_wp2_with (first|((with_reducible refine y7_ (t:=3) (p:=110) rfl ?_);(try (rw[ytb_ wc];generalize hq_:World.drewN wc _=wc;have n0_:=Aside0.mk (Kd.S_at hq_ HO_7.out);have nX_:=Aside0.mk (cellat_ hq_ HX228_0.out);have n2_:=Aside0.mk (yMb_ hq_ HB.out);clear hq_ HO_7 HB HX228_0;have HO_7:=n0_;have HX228_0:=nX_;have HB:=n2_;clear n0_ nX_ n2_;(try (have hq62:(x8_1:Int) < (x7_2.length:Int):=(by have h_:(x8_1:Int) < ((x7_2.length:Int):Int):=of_decide_eq_true zd_;first|exact h_|(have e_:=(Kd.yB_ HO_7.out).1;omega)|simpa only[List.length_set,List.length_set] using h_)));(try (obtain⟨oki62,ce62,hcl62,hM62,hcc62,hok62,hbk62⟩:=Kd.yDb_ HO_7.out [] (x8_1:Int) (of_decide_eq_true zd_) hq62));(try (obtain⟨ve62_0,rfl,ge62_0⟩:=hM62));(try (have hv62:=hcc62 0 _ rfl));(try (rw[Nat.add_zero,show ((Kd.slice 3 (Kd.int .i64))).sz=1 from rfl,Nat.mul_one] at hv62));(try (replace hv62:=Option.some.inj (hv62.symm.trans HX228_0.out)));(try (subst hv62));(try (clear hcc62 hcl62));(try (replace ge62_0:=(show Kd.R (Kd.int .i64) 3 _ _ _ _ (rd_L8 x7_2 x8_1) from ge62_0)));(try (have HP62:=Kd.R_putg ge62_0 (x9_2:Int) (rd (rd_L8 x7_2 (ji23)) x9_2)));(try (obtain⟨hx61_0,hf61_0⟩:=Kd.yFb_ 0 ge62_0 (x9_2:Int) (of_eq_true p61) (of_eq_true q61)))));refine y2_ (t:=3) (p:=110) (v:=?vo_w63) (w1:=(wc.setCell ⟨go61,(x9_2:Int).toNat,none⟩ (.int .i64 (rd (rd_L8 x7_2 (ji23)) x9_2)))) ?hg ?ho ?hn ?hr ?_;(case ho=>rfl);(case hg=>rfl);(case hn=>rfl);(case hr=>(try obtain⟨As_,cs_,rfl⟩:=Kd.yE_ HO192.out);first|(go_simp;done)|(go_simp;rfl));intro w63 hw;have hg:wc.grownBy w63 (some go61):=(by rw[hw];exact HP62.2);have hz_:Kd.R (Kd.int .i64) 3 w63 w.heap.size oki62 (.slice (some ⟨go61,0,none⟩) (rd_L8 x7_2 x8_1).length c196_0) y229:=(by rw[hw,Ny229.out];exact HP62.1);have hp_:Kd.S (Kd.slice 3 (Kd.int .i64)) 28 w63 w.heap.size (fun _=>True) (.slice (some ⟨go14,0,none⟩) x7_2.length co14) y231:=(by rw[Ny231.out];exact hbk62 hg (fun k_ e_=>by injection e_ with e_;subst e_;exact ge62_0.1 _ rfl) (Kd.M_row hz_));have hm_:=Kd.R_mono hz_ hok62;clear HP62 hbk62;have n0_:=Aside0.mk (hp_);have n1_:=Aside0.mk ((by rw[hw];exact yq_ (HB.out) GB61.out:Below w.heap.size w w63));have n2_:=Aside0.mk (hm_);have n3_:=Aside0.mk ((Kd.yt_ hm_).2.1);clear HO_7;clear HB;clear HL194_0;clear HL196_0;clear HL220_0;clear HL228_0;have HO_7:=n0_;have HB:=n1_;have HL266:=n2_;have HC230:=n3_;clear n0_ n1_ n2_ n3_;clear hg hw hp_ hz_ hm_ hok62)))
         (try simp only[← hl7_2])
         go_roundg kj19
         case measure=>have:=HK1.out;have:=HK2.out;have:=HJ19.out;omega
         case rel=>exact⟨(y231),(wrap64 (x9_2 - 1)),zc_,H',⟨by have:=HK1.out;have:=HK2.out;have:=HJ19.out;omega⟩,⟨by (try simp only[hl7_2]);(with_reducible repeat (first|apply Kd.y9_|apply Kd.y8_|apply Kd.S_drew));exact HO_7.out⟩,⟨by repeat (with_reducible first|exact HB.out|apply yc_|apply ya_|apply yb_)⟩⟩
        rw[if_pos c55] at H
        have c55b0:decide ((rd (rd_L8 x7_2 (ji23)) x9_2) < (wrap64 ((rd (rd_L8 x7_2 (ji23)) (ji30))+1)))=true:=decide_eq_true c55
        clear c55
        by_cases c56:x9_2 < ((rd_L8 x7_2 x8_1).length:Int)
        rotate_left
        ·rw[if_neg c56] at H
         exact absurd H (by simp)
        rw[if_pos c56] at H
        have c56b0:decide (x9_2 < ((rd_L8 x7_2 x8_1).length:Int))=true:=decide_eq_true c56
        clear c56
        obtain⟨y225,hy225⟩:∃ y_:List Int,y_=((rd_L8 x7_2 x8_1).set (x9_2:Int).toNat (wrap64 ((rd (rd_L8 x7_2 (ji23)) (ji30))+1))):=⟨_,rfl⟩
        replace H:(yd_.l1 kj19 l0 l1 (l0.length:Int) (l1.length:Int) (x7_2.set (x8_1:Int).toNat y225) x8_1 (wrap64 (x9_2 - 1)))=some r:=by first|(rw[hy225];with_reducible exact H)|(have H2_:=(Option.bind_some _ _).symm.trans H;rw[hy225];with_reducible exact H2_)|(have H2_:=(Option.bind_some _ _).symm.trans H;with_reducible exact H2_)|with_reducible exact H|(rw[hy225];exact H)|exact H
        have Ny225:=Aside0.mk hy225
        clear hy225
        obtain⟨y227,hy227⟩:∃ y_:List (List Int),y_=(x7_2.set (x8_1:Int).toNat y225):=⟨_,rfl⟩
        replace H:(yd_.l1 kj19 l0 l1 (l0.length:Int) (l1.length:Int) y227 x8_1 (wrap64 (x9_2 - 1)))=some r:=by first|(rw[hy227];with_reducible exact H)|(have H2_:=(Option.bind_some _ _).symm.trans H;rw[hy227];with_reducible exact H2_)|(have H2_:=(Option.bind_some _ _).symm.trans H;with_reducible exact H2_)|with_reducible exact H|(rw[hy227];exact H)|exact H
        have Ny227:=Aside0.mk hy227
        clear hy227
        have H':=Aside0.mk H
        clear H
        have p194:0≤((ji23):Int):=of_decide_eq_true zd_
        have q194:(ji23) < (x7_2.length:Int):=of_decide_eq_true zd_
        obtain⟨ad194,A194_0,c194_0,e194,hx194_0,hl194_0,hi194_0⟩:=at_L8 (Kd.yB_ HO_7.out).2.2 (ji23) p194 q194
        obtain rfl:(⟨go14,0,none⟩:Addr)=ad194:=(by injection e194)
        obtain⟨ce194,hce194,hMe194,hcc194⟩:=Kd.S_get HO_7.out [] (ji23) p194 (by first|exact q194|exact of_decide_eq_true zd_|(have e_:=(Kd.yB_ HO_7.out).1;omega))
        obtain⟨ve194_0,rfl,ge194_0⟩:=hMe194
        have hv194_0:=hcc194 0 _ rfl
        rw[Nat.add_zero,show ((Kd.slice 3 (Kd.int .i64))).sz=1 from rfl,Nat.mul_one] at hv194_0
        replace hv194_0:=Option.some.inj (hv194_0.symm.trans hx194_0)
        rw[hv194_0] at ge194_0
        have HL194_0:=Aside0.mk (show Kd.R (Kd.int .i64) 3 _ _ _ _ (rd_L8 x7_2 (ji23)) from ge194_0)
        clear hv194_0 ge194_0
        have HX194_0:=Aside0.mk hx194_0
        clear hcc194 hce194
        (first|simp only[add_plain] at hx194_0|simp only[add_at] at hx194_0|simp only[Addr.add,Nat.zero_add] at hx194_0|skip)
        have HR194_0:=Aside0.mk hi194_0
        have HC194_0:=Aside0.mk hl194_0
        clear hi194_0 hl194_0
        replace p194:=eq_true p194
        replace q194:=eq_true q194
        have p195:0≤(x9_2:Int):=of_decide_eq_true zd_
        have q195:x9_2 < ((rd_L8 x7_2 (ji23)).length:Int):=of_decide_eq_true zd_
        obtain⟨ad195,e195,hx195_0⟩:=Kd.at_int (by repeat (first|(with_reducible exact HR194_0.out)|(with_reducible refine Kd.yM_ ?_ _)|(with_reducible refine Kd.yY_ ?_ _)|(with_reducible refine Kd.C_drew ?_)|exact HR194_0.out)) x9_2 p195 q195
        cases e195
        replace p195:=eq_true p195
        replace q195:=eq_true q195
        have p196:0≤(x8_1:Int):=of_decide_eq_true zd_
        have q196:x8_1 < (x7_2.length:Int):=of_decide_eq_true zd_
        obtain⟨ad196,A196_0,c196_0,e196,hx196_0,hl196_0,hi196_0⟩:=at_L8 (Kd.yB_ HO_7.out).2.2 x8_1 p196 q196
        obtain rfl:(⟨go14,0,none⟩:Addr)=ad196:=(by injection e196)
        obtain⟨ce196,hce196,hMe196,hcc196⟩:=Kd.S_get HO_7.out [] x8_1 p196 (by first|exact q196|exact of_decide_eq_true zd_|(have e_:=(Kd.yB_ HO_7.out).1;omega))
        obtain⟨ve196_0,rfl,ge196_0⟩:=hMe196
        have hv196_0:=hcc196 0 _ rfl
        rw[Nat.add_zero,show ((Kd.slice 3 (Kd.int .i64))).sz=1 from rfl,Nat.mul_one] at hv196_0
        replace hv196_0:=Option.some.inj (hv196_0.symm.trans hx196_0)
        rw[hv196_0] at ge196_0
        have HL196_0:=Aside0.mk (show Kd.R (Kd.int .i64) 3 _ _ _ _ (rd_L8 x7_2 x8_1) from ge196_0)
        clear hv196_0 ge196_0
        have HX196_0:=Aside0.mk hx196_0
        clear hcc196 hce196
        (first|simp only[add_plain] at hx196_0|simp only[add_at] at hx196_0|simp only[Addr.add,Nat.zero_add] at hx196_0|skip)
        have HR196_0:=Aside0.mk hi196_0
        have HC196_0:=Aside0.mk hl196_0
        clear hi196_0 hl196_0
        replace p196:=eq_true p196
        replace q196:=eq_true q196
        have p197:0≤((ji30):Int):=of_decide_eq_true zd_
        have q197:(ji30) < ((rd_L8 x7_2 x8_1).length:Int):=of_decide_eq_true zd_
        obtain⟨ad197,e197,hx197_0⟩:=Kd.at_int (by repeat (first|(with_reducible exact HR196_0.out)|(with_reducible refine Kd.yM_ ?_ _)|(with_reducible refine Kd.yY_ ?_ _)|(with_reducible refine Kd.C_drew ?_)|exact HR196_0.out)) (ji30) p197 q197
        cases e197
        replace p197:=eq_true p197
        replace q197:=eq_true q197
        have p218:0≤(x8_1:Int):=of_decide_eq_true zd_
        have q218:x8_1 < (l0.length:Int):=of_decide_eq_true zd_
        obtain⟨ad218,e218,hx218_0⟩:=Kd.yP_ HR0.out x8_1 p218 q218
        cases e218
        replace hx218_0:=(HB.out.cell (World.block_lt_of_cell? w _ hx218_0)).trans hx218_0
        replace p218:=eq_true p218
        replace q218:=eq_true q218
        have p219:0≤(x9_2:Int):=of_decide_eq_true zd_
        have q219:x9_2 < (l1.length:Int):=of_decide_eq_true zd_
        obtain⟨ad219,e219,hx219_0⟩:=Kd.yP_ HR1.out x9_2 p219 q219
        cases e219
        replace hx219_0:=(HB.out.cell (World.block_lt_of_cell? w _ hx219_0)).trans hx219_0
        replace p219:=eq_true p219
        replace q219:=eq_true q219
        have p220:0≤((ji23):Int):=of_decide_eq_true zd_
        have q220:(ji23) < (x7_2.length:Int):=of_decide_eq_true zd_
        obtain⟨ad220,A220_0,c220_0,e220,hx220_0,hl220_0,hi220_0⟩:=at_L8 (Kd.yB_ HO_7.out).2.2 (ji23) p220 q220
        obtain rfl:(⟨go14,0,none⟩:Addr)=ad220:=(by injection e220)
        obtain⟨ce220,hce220,hMe220,hcc220⟩:=Kd.S_get HO_7.out [] (ji23) p220 (by first|exact q220|exact of_decide_eq_true zd_|(have e_:=(Kd.yB_ HO_7.out).1;omega))
        obtain⟨ve220_0,rfl,ge220_0⟩:=hMe220
        have hv220_0:=hcc220 0 _ rfl
        rw[Nat.add_zero,show ((Kd.slice 3 (Kd.int .i64))).sz=1 from rfl,Nat.mul_one] at hv220_0
        replace hv220_0:=Option.some.inj (hv220_0.symm.trans hx220_0)
        rw[hv220_0] at ge220_0
        have HL220_0:=Aside0.mk (show Kd.R (Kd.int .i64) 3 _ _ _ _ (rd_L8 x7_2 (ji23)) from ge220_0)
        clear hv220_0 ge220_0
        have HX220_0:=Aside0.mk hx220_0
        clear hcc220 hce220
        (first|simp only[add_plain] at hx220_0|simp only[add_at] at hx220_0|simp only[Addr.add,Nat.zero_add] at hx220_0|skip)
        have HR220_0:=Aside0.mk hi220_0
        have HC220_0:=Aside0.mk hl220_0
        clear hi220_0 hl220_0
        replace p220:=eq_true p220
        replace q220:=eq_true q220
        have ea_:=Option.some.inj (hx194_0.symm.trans hx220_0)
        injection ea_ with ea_ en_ ec_
        subst ea_
        subst ec_
        clear en_
        have p221:0≤((ji30):Int):=of_decide_eq_true zd_
        have q221:(ji30) < ((rd_L8 x7_2 (ji23)).length:Int):=of_decide_eq_true zd_
        obtain⟨ad221,e221,hx221_0⟩:=Kd.at_int (by repeat (first|(with_reducible exact HR220_0.out)|(with_reducible refine Kd.yM_ ?_ _)|(with_reducible refine Kd.yY_ ?_ _)|(with_reducible refine Kd.C_drew ?_)|exact HR220_0.out)) (ji30) p221 q221
        cases e221
        replace p221:=eq_true p221
        replace q221:=eq_true q221
        have p222:0≤((ji23):Int):=of_decide_eq_true zd_
        have q222:(ji23) < (x7_2.length:Int):=of_decide_eq_true zd_
        obtain⟨ad222,A222_0,c222_0,e222,hx222_0,hl222_0,hi222_0⟩:=at_L8 (Kd.yB_ HO_7.out).2.2 (ji23) p222 q222
        obtain rfl:(⟨go14,0,none⟩:Addr)=ad222:=(by injection e222)
        obtain⟨ce222,hce222,hMe222,hcc222⟩:=Kd.S_get HO_7.out [] (ji23) p222 (by first|exact q222|exact of_decide_eq_true zd_|(have e_:=(Kd.yB_ HO_7.out).1;omega))
        obtain⟨ve222_0,rfl,ge222_0⟩:=hMe222
        have hv222_0:=hcc222 0 _ rfl
        rw[Nat.add_zero,show ((Kd.slice 3 (Kd.int .i64))).sz=1 from rfl,Nat.mul_one] at hv222_0
        replace hv222_0:=Option.some.inj (hv222_0.symm.trans hx222_0)
        rw[hv222_0] at ge222_0
        have HL222_0:=Aside0.mk (show Kd.R (Kd.int .i64) 3 _ _ _ _ (rd_L8 x7_2 (ji23)) from ge222_0)
        clear hv222_0 ge222_0
        have HX222_0:=Aside0.mk hx222_0
        clear hcc222 hce222
        (first|simp only[add_plain] at hx222_0|simp only[add_at] at hx222_0|simp only[Addr.add,Nat.zero_add] at hx222_0|skip)
        have HR222_0:=Aside0.mk hi222_0
        have HC222_0:=Aside0.mk hl222_0
        clear hi222_0 hl222_0
        replace p222:=eq_true p222
        replace q222:=eq_true q222
        have ea_:=Option.some.inj (hx194_0.symm.trans hx222_0)
        injection ea_ with ea_ en_ ec_
        subst ea_
        subst ec_
        clear en_
        have p223:0≤((ji30):Int):=of_decide_eq_true zd_
        have q223:(ji30) < ((rd_L8 x7_2 (ji23)).length:Int):=of_decide_eq_true zd_
        obtain⟨ad223,e223,hx223_0⟩:=Kd.at_int (by repeat (first|(with_reducible exact HR222_0.out)|(with_reducible refine Kd.yM_ ?_ _)|(with_reducible refine Kd.yY_ ?_ _)|(with_reducible refine Kd.C_drew ?_)|exact HR222_0.out)) (ji30) p223 q223
        cases e223
        replace p223:=eq_true p223
        replace q223:=eq_true q223
        have p224:0≤(x8_1:Int):=of_decide_eq_true zd_
        have q224:x8_1 < (x7_2.length:Int):=of_decide_eq_true zd_
        obtain⟨ad224,A224_0,c224_0,e224,hx224_0,hl224_0,hi224_0⟩:=at_L8 (Kd.yB_ HO_7.out).2.2 x8_1 p224 q224
        obtain rfl:(⟨go14,0,none⟩:Addr)=ad224:=(by injection e224)
        obtain⟨ce224,hce224,hMe224,hcc224⟩:=Kd.S_get HO_7.out [] x8_1 p224 (by first|exact q224|exact of_decide_eq_true zd_|(have e_:=(Kd.yB_ HO_7.out).1;omega))
        obtain⟨ve224_0,rfl,ge224_0⟩:=hMe224
        have hv224_0:=hcc224 0 _ rfl
        rw[Nat.add_zero,show ((Kd.slice 3 (Kd.int .i64))).sz=1 from rfl,Nat.mul_one] at hv224_0
        replace hv224_0:=Option.some.inj (hv224_0.symm.trans hx224_0)
        rw[hv224_0] at ge224_0
        have HL224_0:=Aside0.mk (show Kd.R (Kd.int .i64) 3 _ _ _ _ (rd_L8 x7_2 x8_1) from ge224_0)
        clear hv224_0 ge224_0
        have HX224_0:=Aside0.mk hx224_0
        clear hcc224 hce224
        (first|simp only[add_plain] at hx224_0|simp only[add_at] at hx224_0|simp only[Addr.add,Nat.zero_add] at hx224_0|skip)
        have HR224_0:=Aside0.mk hi224_0
        have HC224_0:=Aside0.mk hl224_0
        clear hi224_0 hl224_0
        replace p224:=eq_true p224
        replace q224:=eq_true q224
        have ea_:=Option.some.inj (hx196_0.symm.trans hx224_0)
        injection ea_ with ea_ en_ ec_
        subst ea_
        subst ec_
        clear en_
        have p57:0≤(x9_2:Int):=of_decide_eq_true zd_
        have q57:(x9_2:Int) < (((rd_L8 x7_2 x8_1).length:Int):Int):=of_decide_eq_true zd_
        obtain⟨go57,co57,eo57,gb57,gl57,cl57,HG57⟩:=Kd.R_form HL224_0.out (by omega)
        (first|cases eo57|(injection eo57 with ea_ en_ ec_;(first|subst ea_|(injection ea_ with ea_;subst ea_));subst ec_;clear en_))
        have GB57:=Aside0.mk gb57
        have GG57:=Aside0.mk HG57
        clear gb57 gl57 HG57
        (first|simp only[add_plain] at hx197_0|skip)
        obtain⟨hx57_0,hf57_0⟩:=Kd.yFb_ 0 HL224_0.out (x9_2:Int) p57 q57
        replace p57:=eq_true p57
        replace q57:=eq_true q57
        have hq58:(x8_1:Int) < (x7_2.length:Int):=(by have h_:(x8_1:Int) < ((x7_2.length:Int):Int):=of_decide_eq_true zd_;first|exact h_|(have e_:=(Kd.yB_ HO_7.out).1;omega)|simpa only[List.length_set,List.length_set] using h_)
        obtain⟨oki58,ce58,hcl58,hM58,hcc58,hok58,hbk58⟩:=Kd.yDb_ HO_7.out [] (x8_1:Int) (of_decide_eq_true zd_) hq58
        obtain⟨ve58_0,rfl,ge58_0⟩:=hM58
        have hv58:=hcc58 0 _ rfl
        rw[Nat.add_zero,show ((Kd.slice 3 (Kd.int .i64))).sz=1 from rfl,Nat.mul_one] at hv58
        replace hv58:=Option.some.inj (hv58.symm.trans HX224_0.out)
        subst hv58
        clear hcc58 hcl58
        replace ge58_0:=(show Kd.R (Kd.int .i64) 3 _ _ _ _ (rd_L8 x7_2 x8_1) from ge58_0)
        have HP58:=Kd.R_putg ge58_0 (x9_2:Int) (wrap64 ((rd (rd_L8 x7_2 (ji23)) (ji30))+1))
        go_wp2_with fail
        repeat (go_quiet (fail);try go_wp2_with (first|((with_reducible refine y7_ (t:=3) (p:=110) rfl ?_);(try (rw[ytb_ wc];generalize hq_:World.drewN wc _=wc;have n0_:=Aside0.mk (Kd.S_at hq_ HO_7.out);have nX_:=Aside0.mk (cellat_ hq_ HX224_0.out);have n2_:=Aside0.mk (yMb_ hq_ HB.out);clear hq_ HO_7 HB HX224_0;have HO_7:=n0_;have HX224_0:=nX_;have HB:=n2_;clear n0_ nX_ n2_;(try (have hq58:(x8_1:Int) < (x7_2.length:Int):=(by have h_:(x8_1:Int) < ((x7_2.length:Int):Int):=of_decide_eq_true zd_;first|exact h_|(have e_:=(Kd.yB_ HO_7.out).1;omega)|simpa only[List.length_set,List.length_set] using h_)));(try (obtain⟨oki58,ce58,hcl58,hM58,hcc58,hok58,hbk58⟩:=Kd.yDb_ HO_7.out [] (x8_1:Int) (of_decide_eq_true zd_) hq58));(try (obtain⟨ve58_0,rfl,ge58_0⟩:=hM58));(try (have hv58:=hcc58 0 _ rfl));(try (rw[Nat.add_zero,show ((Kd.slice 3 (Kd.int .i64))).sz=1 from rfl,Nat.mul_one] at hv58));(try (replace hv58:=Option.some.inj (hv58.symm.trans HX224_0.out)));(try (subst hv58));(try (clear hcc58 hcl58));(try (replace ge58_0:=(show Kd.R (Kd.int .i64) 3 _ _ _ _ (rd_L8 x7_2 x8_1) from ge58_0)));(try (have HP58:=Kd.R_putg ge58_0 (x9_2:Int) (wrap64 ((rd (rd_L8 x7_2 (ji23)) (ji30))+1))));(try (obtain⟨hx57_0,hf57_0⟩:=Kd.yFb_ 0 ge58_0 (x9_2:Int) (of_eq_true p57) (of_eq_true q57)))));refine y2_ (t:=3) (p:=110) (v:=?vo_w59) (w1:=(wc.setCell ⟨go57,(x9_2:Int).toNat,none⟩ (.int .i64 (wrap64 ((rd (rd_L8 x7_2 (ji23)) (ji30))+1))))) ?hg ?ho ?hn ?hr ?_;(case ho=>rfl);(case hg=>rfl);(case hn=>rfl);(case hr=>(try obtain⟨As_,cs_,rfl⟩:=Kd.yE_ HO192.out);first|(go_simp;done)|(go_simp;rfl));intro w59 hw;have hg:wc.grownBy w59 (some go57):=(by rw[hw];exact HP58.2);have hz_:Kd.R (Kd.int .i64) 3 w59 w.heap.size oki58 (.slice (some ⟨go57,0,none⟩) (rd_L8 x7_2 x8_1).length c196_0) y225:=(by rw[hw,Ny225.out];exact HP58.1);have hp_:Kd.S (Kd.slice 3 (Kd.int .i64)) 28 w59 w.heap.size (fun _=>True) (.slice (some ⟨go14,0,none⟩) x7_2.length co14) y227:=(by rw[Ny227.out];exact hbk58 hg (fun k_ e_=>by injection e_ with e_;subst e_;exact ge58_0.1 _ rfl) (Kd.M_row hz_));have hm_:=Kd.R_mono hz_ hok58;clear HP58 hbk58;have n0_:=Aside0.mk (hp_);have n1_:=Aside0.mk ((by rw[hw];exact yq_ (HB.out) GB57.out:Below w.heap.size w w59));have n2_:=Aside0.mk (hm_);have n3_:=Aside0.mk ((Kd.yt_ hm_).2.1);clear HO_7;clear HB;clear HL194_0;clear HL196_0;clear HL220_0;clear HL222_0;clear HL224_0;have HO_7:=n0_;have HB:=n1_;have HL265:=n2_;have HC226:=n3_;clear n0_ n1_ n2_ n3_;clear hg hw hp_ hz_ hm_ hok58)))
        (try simp only[← hl7_2])
        go_roundg kj19
        case measure=>have:=HK1.out;have:=HK2.out;have:=HJ19.out;omega
        case rel=>exact⟨(y227),(wrap64 (x9_2 - 1)),zc_,H',⟨by have:=HK1.out;have:=HK2.out;have:=HJ19.out;omega⟩,⟨by (try simp only[hl7_2]);(with_reducible repeat (first|apply Kd.y9_|apply Kd.y8_|apply Kd.S_drew));exact HO_7.out⟩,⟨by repeat (with_reducible first|exact HB.out|apply yc_|apply ya_|apply yb_)⟩⟩
       rw[if_pos c33] at H
       have c33b0:decide ((rd (rd_L8 x7_2 (ji23)) x9_2) < (rd (rd_L8 x7_2 x8_1) (ji30)))=true:=decide_eq_true c33
       clear c33
       by_cases c34:x8_1 < (l0.length:Int)
       rotate_left
       ·rw[if_neg c34] at H
        exact absurd H (by simp)
       rw[if_pos c34] at H
       have c34b0:decide (x8_1 < (l0.length:Int))=true:=decide_eq_true c34
       clear c34
       by_cases c35:x9_2 < (l1.length:Int)
       rotate_left
       ·rw[if_neg c35] at H
        exact absurd H (by simp)
       rw[if_pos c35] at H
       have c35b0:decide (x9_2 < (l1.length:Int))=true:=decide_eq_true c35
       clear c35
       by_cases c36:(rdOf ByteArray.empty l0 x8_1).toList=(rdOf ByteArray.empty l1 x9_2).toList
       rotate_left
       ·rw[if_neg c36] at H
        have c36b0:((rdOf ByteArray.empty l0 x8_1).toList == (rdOf ByteArray.empty l1 x9_2).toList)=false:=beq_eq_false_iff_ne.mpr c36
        have c36b1:((rdOf ByteArray.empty l0 x8_1).toList != (rdOf ByteArray.empty l1 x9_2).toList)=true:=bne_iff_ne.mpr c36
        by_cases c47:x9_2 < ((rd_L8 x7_2 x8_1).length:Int)
        rotate_left
        ·rw[if_neg c47] at H
         exact absurd H (by simp)
        rw[if_pos c47] at H
        have c47b0:decide (x9_2 < ((rd_L8 x7_2 x8_1).length:Int))=true:=decide_eq_true c47
        clear c47
        obtain⟨y215,hy215⟩:∃ y_:List Int,y_=((rd_L8 x7_2 x8_1).set (x9_2:Int).toNat (rd (rd_L8 x7_2 x8_1) (ji30))):=⟨_,rfl⟩
        replace H:(yd_.l1 kj19 l0 l1 (l0.length:Int) (l1.length:Int) (x7_2.set (x8_1:Int).toNat y215) x8_1 (wrap64 (x9_2 - 1)))=some r:=by first|(rw[hy215];with_reducible exact H)|(have H2_:=(Option.bind_some _ _).symm.trans H;rw[hy215];with_reducible exact H2_)|(have H2_:=(Option.bind_some _ _).symm.trans H;with_reducible exact H2_)|with_reducible exact H|(rw[hy215];exact H)|exact H
        have Ny215:=Aside0.mk hy215
        clear hy215
        obtain⟨y217,hy217⟩:∃ y_:List (List Int),y_=(x7_2.set (x8_1:Int).toNat y215):=⟨_,rfl⟩
        replace H:(yd_.l1 kj19 l0 l1 (l0.length:Int) (l1.length:Int) y217 x8_1 (wrap64 (x9_2 - 1)))=some r:=by first|(rw[hy217];with_reducible exact H)|(have H2_:=(Option.bind_some _ _).symm.trans H;rw[hy217];with_reducible exact H2_)|(have H2_:=(Option.bind_some _ _).symm.trans H;with_reducible exact H2_)|with_reducible exact H|(rw[hy217];exact H)|exact H
        have Ny217:=Aside0.mk hy217
        clear hy217
        have H':=Aside0.mk H
        clear H
        have p194:0≤((ji23):Int):=of_decide_eq_true zd_
        have q194:(ji23) < (x7_2.length:Int):=of_decide_eq_true zd_
        obtain⟨ad194,A194_0,c194_0,e194,hx194_0,hl194_0,hi194_0⟩:=at_L8 (Kd.yB_ HO_7.out).2.2 (ji23) p194 q194
        obtain rfl:(⟨go14,0,none⟩:Addr)=ad194:=(by injection e194)
        obtain⟨ce194,hce194,hMe194,hcc194⟩:=Kd.S_get HO_7.out [] (ji23) p194 (by first|exact q194|exact of_decide_eq_true zd_|(have e_:=(Kd.yB_ HO_7.out).1;omega))
        obtain⟨ve194_0,rfl,ge194_0⟩:=hMe194
        have hv194_0:=hcc194 0 _ rfl
        rw[Nat.add_zero,show ((Kd.slice 3 (Kd.int .i64))).sz=1 from rfl,Nat.mul_one] at hv194_0
        replace hv194_0:=Option.some.inj (hv194_0.symm.trans hx194_0)
        rw[hv194_0] at ge194_0
        have HL194_0:=Aside0.mk (show Kd.R (Kd.int .i64) 3 _ _ _ _ (rd_L8 x7_2 (ji23)) from ge194_0)
        clear hv194_0 ge194_0
        have HX194_0:=Aside0.mk hx194_0
        clear hcc194 hce194
        (first|simp only[add_plain] at hx194_0|simp only[add_at] at hx194_0|simp only[Addr.add,Nat.zero_add] at hx194_0|skip)
        have HR194_0:=Aside0.mk hi194_0
        have HC194_0:=Aside0.mk hl194_0
        clear hi194_0 hl194_0
        replace p194:=eq_true p194
        replace q194:=eq_true q194
        have p195:0≤(x9_2:Int):=of_decide_eq_true zd_
        have q195:x9_2 < ((rd_L8 x7_2 (ji23)).length:Int):=of_decide_eq_true zd_
        obtain⟨ad195,e195,hx195_0⟩:=Kd.at_int (by repeat (first|(with_reducible exact HR194_0.out)|(with_reducible refine Kd.yM_ ?_ _)|(with_reducible refine Kd.yY_ ?_ _)|(with_reducible refine Kd.C_drew ?_)|exact HR194_0.out)) x9_2 p195 q195
        cases e195
        replace p195:=eq_true p195
        replace q195:=eq_true q195
        have p196:0≤(x8_1:Int):=of_decide_eq_true zd_
        have q196:x8_1 < (x7_2.length:Int):=of_decide_eq_true zd_
        obtain⟨ad196,A196_0,c196_0,e196,hx196_0,hl196_0,hi196_0⟩:=at_L8 (Kd.yB_ HO_7.out).2.2 x8_1 p196 q196
        obtain rfl:(⟨go14,0,none⟩:Addr)=ad196:=(by injection e196)
        obtain⟨ce196,hce196,hMe196,hcc196⟩:=Kd.S_get HO_7.out [] x8_1 p196 (by first|exact q196|exact of_decide_eq_true zd_|(have e_:=(Kd.yB_ HO_7.out).1;omega))
        obtain⟨ve196_0,rfl,ge196_0⟩:=hMe196
        have hv196_0:=hcc196 0 _ rfl
        rw[Nat.add_zero,show ((Kd.slice 3 (Kd.int .i64))).sz=1 from rfl,Nat.mul_one] at hv196_0
        replace hv196_0:=Option.some.inj (hv196_0.symm.trans hx196_0)
        rw[hv196_0] at ge196_0
        have HL196_0:=Aside0.mk (show Kd.R (Kd.int .i64) 3 _ _ _ _ (rd_L8 x7_2 x8_1) from ge196_0)
        clear hv196_0 ge196_0
        have HX196_0:=Aside0.mk hx196_0
        clear hcc196 hce196
        (first|simp only[add_plain] at hx196_0|simp only[add_at] at hx196_0|simp only[Addr.add,Nat.zero_add] at hx196_0|skip)
        have HR196_0:=Aside0.mk hi196_0
        have HC196_0:=Aside0.mk hl196_0
        clear hi196_0 hl196_0
        replace p196:=eq_true p196
        replace q196:=eq_true q196
        have p197:0≤((ji30):Int):=of_decide_eq_true zd_
        have q197:(ji30) < ((rd_L8 x7_2 x8_1).length:Int):=of_decide_eq_true zd_
        obtain⟨ad197,e197,hx197_0⟩:=Kd.at_int (by repeat (first|(with_reducible exact HR196_0.out)|(with_reducible refine Kd.yM_ ?_ _)|(with_reducible refine Kd.yY_ ?_ _)|(with_reducible refine Kd.C_drew ?_)|exact HR196_0.out)) (ji30) p197 q197
        cases e197
        replace p197:=eq_true p197
        replace q197:=eq_true q197
        have p198:0≤(x8_1:Int):=of_decide_eq_true zd_
        have q198:x8_1 < (x7_2.length:Int):=of_decide_eq_true zd_
        obtain⟨ad198,A198_0,c198_0,e198,hx198_0,hl198_0,hi198_0⟩:=at_L8 (Kd.yB_ HO_7.out).2.2 x8_1 p198 q198
        obtain rfl:(⟨go14,0,none⟩:Addr)=ad198:=(by injection e198)
        obtain⟨ce198,hce198,hMe198,hcc198⟩:=Kd.S_get HO_7.out [] x8_1 p198 (by first|exact q198|exact of_decide_eq_true zd_|(have e_:=(Kd.yB_ HO_7.out).1;omega))
        obtain⟨ve198_0,rfl,ge198_0⟩:=hMe198
        have hv198_0:=hcc198 0 _ rfl
        rw[Nat.add_zero,show ((Kd.slice 3 (Kd.int .i64))).sz=1 from rfl,Nat.mul_one] at hv198_0
        replace hv198_0:=Option.some.inj (hv198_0.symm.trans hx198_0)
        rw[hv198_0] at ge198_0
        have HL198_0:=Aside0.mk (show Kd.R (Kd.int .i64) 3 _ _ _ _ (rd_L8 x7_2 x8_1) from ge198_0)
        clear hv198_0 ge198_0
        have HX198_0:=Aside0.mk hx198_0
        clear hcc198 hce198
        (first|simp only[add_plain] at hx198_0|simp only[add_at] at hx198_0|simp only[Addr.add,Nat.zero_add] at hx198_0|skip)
        have HR198_0:=Aside0.mk hi198_0
        have HC198_0:=Aside0.mk hl198_0
        clear hi198_0 hl198_0
        replace p198:=eq_true p198
        replace q198:=eq_true q198
        have ea_:=Option.some.inj (hx196_0.symm.trans hx198_0)
        injection ea_ with ea_ en_ ec_
        subst ea_
        subst ec_
        clear en_
        have p199:0≤((ji30):Int):=of_decide_eq_true zd_
        have q199:(ji30) < ((rd_L8 x7_2 x8_1).length:Int):=of_decide_eq_true zd_
        obtain⟨ad199,e199,hx199_0⟩:=Kd.at_int (by repeat (first|(with_reducible exact HR198_0.out)|(with_reducible refine Kd.yM_ ?_ _)|(with_reducible refine Kd.yY_ ?_ _)|(with_reducible refine Kd.C_drew ?_)|exact HR198_0.out)) (ji30) p199 q199
        cases e199
        replace p199:=eq_true p199
        replace q199:=eq_true q199
        have p200:0≤(x8_1:Int):=of_decide_eq_true zd_
        have q200:x8_1 < (l0.length:Int):=of_decide_eq_true zd_
        obtain⟨ad200,e200,hx200_0⟩:=Kd.yP_ HR0.out x8_1 p200 q200
        cases e200
        replace hx200_0:=(HB.out.cell (World.block_lt_of_cell? w _ hx200_0)).trans hx200_0
        replace p200:=eq_true p200
        replace q200:=eq_true q200
        have p201:0≤(x9_2:Int):=of_decide_eq_true zd_
        have q201:x9_2 < (l1.length:Int):=of_decide_eq_true zd_
        obtain⟨ad201,e201,hx201_0⟩:=Kd.yP_ HR1.out x9_2 p201 q201
        cases e201
        replace hx201_0:=(HB.out.cell (World.block_lt_of_cell? w _ hx201_0)).trans hx201_0
        replace p201:=eq_true p201
        replace q201:=eq_true q201
        have p214:0≤(x8_1:Int):=of_decide_eq_true zd_
        have q214:x8_1 < (x7_2.length:Int):=of_decide_eq_true zd_
        obtain⟨ad214,A214_0,c214_0,e214,hx214_0,hl214_0,hi214_0⟩:=at_L8 (Kd.yB_ HO_7.out).2.2 x8_1 p214 q214
        obtain rfl:(⟨go14,0,none⟩:Addr)=ad214:=(by injection e214)
        obtain⟨ce214,hce214,hMe214,hcc214⟩:=Kd.S_get HO_7.out [] x8_1 p214 (by first|exact q214|exact of_decide_eq_true zd_|(have e_:=(Kd.yB_ HO_7.out).1;omega))
        obtain⟨ve214_0,rfl,ge214_0⟩:=hMe214
        have hv214_0:=hcc214 0 _ rfl
        rw[Nat.add_zero,show ((Kd.slice 3 (Kd.int .i64))).sz=1 from rfl,Nat.mul_one] at hv214_0
        replace hv214_0:=Option.some.inj (hv214_0.symm.trans hx214_0)
        rw[hv214_0] at ge214_0
        have HL214_0:=Aside0.mk (show Kd.R (Kd.int .i64) 3 _ _ _ _ (rd_L8 x7_2 x8_1) from ge214_0)
        clear hv214_0 ge214_0
        have HX214_0:=Aside0.mk hx214_0
        clear hcc214 hce214
        (first|simp only[add_plain] at hx214_0|simp only[add_at] at hx214_0|simp only[Addr.add,Nat.zero_add] at hx214_0|skip)
        have HR214_0:=Aside0.mk hi214_0
        have HC214_0:=Aside0.mk hl214_0
        clear hi214_0 hl214_0
        replace p214:=eq_true p214
        replace q214:=eq_true q214
        have ea_:=Option.some.inj (hx196_0.symm.trans hx214_0)
        injection ea_ with ea_ en_ ec_
        subst ea_
        subst ec_
        clear en_
        have p48:0≤(x9_2:Int):=of_decide_eq_true zd_
        have q48:(x9_2:Int) < (((rd_L8 x7_2 x8_1).length:Int):Int):=of_decide_eq_true zd_
        obtain⟨go48,co48,eo48,gb48,gl48,cl48,HG48⟩:=Kd.R_form HL214_0.out (by omega)
        (first|cases eo48|(injection eo48 with ea_ en_ ec_;(first|subst ea_|(injection ea_ with ea_;subst ea_));subst ec_;clear en_))
        have GB48:=Aside0.mk gb48
        have GG48:=Aside0.mk HG48
        clear gb48 gl48 HG48
        (first|simp only[add_plain] at hx199_0|skip)
        obtain⟨hx48_0,hf48_0⟩:=Kd.yFb_ 0 HL214_0.out (x9_2:Int) p48 q48
        replace p48:=eq_true p48
        replace q48:=eq_true q48
        have hq49:(x8_1:Int) < (x7_2.length:Int):=(by have h_:(x8_1:Int) < ((x7_2.length:Int):Int):=of_decide_eq_true zd_;first|exact h_|(have e_:=(Kd.yB_ HO_7.out).1;omega)|simpa only[List.length_set,List.length_set] using h_)
        obtain⟨oki49,ce49,hcl49,hM49,hcc49,hok49,hbk49⟩:=Kd.yDb_ HO_7.out [] (x8_1:Int) (of_decide_eq_true zd_) hq49
        obtain⟨ve49_0,rfl,ge49_0⟩:=hM49
        have hv49:=hcc49 0 _ rfl
        rw[Nat.add_zero,show ((Kd.slice 3 (Kd.int .i64))).sz=1 from rfl,Nat.mul_one] at hv49
        replace hv49:=Option.some.inj (hv49.symm.trans HX214_0.out)
        subst hv49
        clear hcc49 hcl49
        replace ge49_0:=(show Kd.R (Kd.int .i64) 3 _ _ _ _ (rd_L8 x7_2 x8_1) from ge49_0)
        have HP49:=Kd.R_putg ge49_0 (x9_2:Int) (rd (rd_L8 x7_2 x8_1) (ji30))
        go_wp2_with fail
        repeat (go_quiet (fail);try go_wp2_with (first|((with_reducible refine y7_ (t:=3) (p:=110) rfl ?_);(try (rw[ytb_ wc];generalize hq_:World.drewN wc _=wc;have n0_:=Aside0.mk (Kd.S_at hq_ HO_7.out);have nX_:=Aside0.mk (cellat_ hq_ HX214_0.out);have n2_:=Aside0.mk (yMb_ hq_ HB.out);clear hq_ HO_7 HB HX214_0;have HO_7:=n0_;have HX214_0:=nX_;have HB:=n2_;clear n0_ nX_ n2_;(try (have hq49:(x8_1:Int) < (x7_2.length:Int):=(by have h_:(x8_1:Int) < ((x7_2.length:Int):Int):=of_decide_eq_true zd_;first|exact h_|(have e_:=(Kd.yB_ HO_7.out).1;omega)|simpa only[List.length_set,List.length_set] using h_)));(try (obtain⟨oki49,ce49,hcl49,hM49,hcc49,hok49,hbk49⟩:=Kd.yDb_ HO_7.out [] (x8_1:Int) (of_decide_eq_true zd_) hq49));(try (obtain⟨ve49_0,rfl,ge49_0⟩:=hM49));(try (have hv49:=hcc49 0 _ rfl));(try (rw[Nat.add_zero,show ((Kd.slice 3 (Kd.int .i64))).sz=1 from rfl,Nat.mul_one] at hv49));(try (replace hv49:=Option.some.inj (hv49.symm.trans HX214_0.out)));(try (subst hv49));(try (clear hcc49 hcl49));(try (replace ge49_0:=(show Kd.R (Kd.int .i64) 3 _ _ _ _ (rd_L8 x7_2 x8_1) from ge49_0)));(try (have HP49:=Kd.R_putg ge49_0 (x9_2:Int) (rd (rd_L8 x7_2 x8_1) (ji30))));(try (obtain⟨hx48_0,hf48_0⟩:=Kd.yFb_ 0 ge49_0 (x9_2:Int) (of_eq_true p48) (of_eq_true q48)))));refine y2_ (t:=3) (p:=110) (v:=?vo_w50) (w1:=(wc.setCell ⟨go48,(x9_2:Int).toNat,none⟩ (.int .i64 (rd (rd_L8 x7_2 x8_1) (ji30))))) ?hg ?ho ?hn ?hr ?_;(case ho=>rfl);(case hg=>rfl);(case hn=>rfl);(case hr=>(try obtain⟨As_,cs_,rfl⟩:=Kd.yE_ HO192.out);first|(go_simp;done)|(go_simp;rfl));intro w50 hw;have hg:wc.grownBy w50 (some go48):=(by rw[hw];exact HP49.2);have hz_:Kd.R (Kd.int .i64) 3 w50 w.heap.size oki49 (.slice (some ⟨go48,0,none⟩) (rd_L8 x7_2 x8_1).length c196_0) y215:=(by rw[hw,Ny215.out];exact HP49.1);have hp_:Kd.S (Kd.slice 3 (Kd.int .i64)) 28 w50 w.heap.size (fun _=>True) (.slice (some ⟨go14,0,none⟩) x7_2.length co14) y217:=(by rw[Ny217.out];exact hbk49 hg (fun k_ e_=>by injection e_ with e_;subst e_;exact ge49_0.1 _ rfl) (Kd.M_row hz_));have hm_:=Kd.R_mono hz_ hok49;clear HP49 hbk49;have n0_:=Aside0.mk (hp_);have n1_:=Aside0.mk ((by rw[hw];exact yq_ (HB.out) GB48.out:Below w.heap.size w w50));have n2_:=Aside0.mk (hm_);have n3_:=Aside0.mk ((Kd.yt_ hm_).2.1);clear HO_7;clear HB;clear HL194_0;clear HL196_0;clear HL198_0;clear HL214_0;have HO_7:=n0_;have HB:=n1_;have HL264:=n2_;have HC216:=n3_;clear n0_ n1_ n2_ n3_;clear hg hw hp_ hz_ hm_ hok49)))
        (try simp only[← hl7_2])
        go_roundg kj19
        case measure=>have:=HK1.out;have:=HK2.out;have:=HJ19.out;omega
        case rel=>exact⟨(y217),(wrap64 (x9_2 - 1)),zc_,H',⟨by have:=HK1.out;have:=HK2.out;have:=HJ19.out;omega⟩,⟨by (try simp only[hl7_2]);(with_reducible repeat (first|apply Kd.y9_|apply Kd.y8_|apply Kd.S_drew));exact HO_7.out⟩,⟨by repeat (with_reducible first|exact HB.out|apply yc_|apply ya_|apply yb_)⟩⟩
       rw[if_pos c36] at H
       have c36b0:((rdOf ByteArray.empty l0 x8_1).toList == (rdOf ByteArray.empty l1 x9_2).toList)=true:=beq_iff_eq.mpr c36
       have c36b1:((rdOf ByteArray.empty l0 x8_1).toList != (rdOf ByteArray.empty l1 x9_2).toList)=false:=bne_eq_false_iff_eq.mpr c36
       clear c36
       by_cases c37:(ji30) < ((rd_L8 x7_2 (ji23)).length:Int)
       rotate_left
       ·rw[if_neg c37] at H
        exact absurd H (by simp)
       rw[if_pos c37] at H
       have c37b0:decide ((ji30) < ((rd_L8 x7_2 (ji23)).length:Int))=true:=decide_eq_true c37
       clear c37
       by_cases c38:(wrap64 ((rd (rd_L8 x7_2 (ji23)) (ji30))+1)) > (rd (rd_L8 x7_2 x8_1) (ji30))
       rotate_left
       ·rw[if_neg c38] at H
        have c38b0:decide ((rd (rd_L8 x7_2 x8_1) (ji30)) < (wrap64 ((rd (rd_L8 x7_2 (ji23)) (ji30))+1)))=false:=decide_eq_false c38
        clear c38
        by_cases c43:x9_2 < ((rd_L8 x7_2 x8_1).length:Int)
        rotate_left
        ·rw[if_neg c43] at H
         exact absurd H (by simp)
        rw[if_pos c43] at H
        have c43b0:decide (x9_2 < ((rd_L8 x7_2 x8_1).length:Int))=true:=decide_eq_true c43
        clear c43
        obtain⟨y211,hy211⟩:∃ y_:List Int,y_=((rd_L8 x7_2 x8_1).set (x9_2:Int).toNat (rd (rd_L8 x7_2 x8_1) (ji30))):=⟨_,rfl⟩
        replace H:(yd_.l1 kj19 l0 l1 (l0.length:Int) (l1.length:Int) (x7_2.set (x8_1:Int).toNat y211) x8_1 (wrap64 (x9_2 - 1)))=some r:=by first|(rw[hy211];with_reducible exact H)|(have H2_:=(Option.bind_some _ _).symm.trans H;rw[hy211];with_reducible exact H2_)|(have H2_:=(Option.bind_some _ _).symm.trans H;with_reducible exact H2_)|with_reducible exact H|(rw[hy211];exact H)|exact H
        have Ny211:=Aside0.mk hy211
        clear hy211
        obtain⟨y213,hy213⟩:∃ y_:List (List Int),y_=(x7_2.set (x8_1:Int).toNat y211):=⟨_,rfl⟩
        replace H:(yd_.l1 kj19 l0 l1 (l0.length:Int) (l1.length:Int) y213 x8_1 (wrap64 (x9_2 - 1)))=some r:=by first|(rw[hy213];with_reducible exact H)|(have H2_:=(Option.bind_some _ _).symm.trans H;rw[hy213];with_reducible exact H2_)|(have H2_:=(Option.bind_some _ _).symm.trans H;with_reducible exact H2_)|with_reducible exact H|(rw[hy213];exact H)|exact H
        have Ny213:=Aside0.mk hy213
        clear hy213
        have H':=Aside0.mk H
        clear H
        have p194:0≤((ji23):Int):=of_decide_eq_true zd_
        have q194:(ji23) < (x7_2.length:Int):=of_decide_eq_true zd_
        obtain⟨ad194,A194_0,c194_0,e194,hx194_0,hl194_0,hi194_0⟩:=at_L8 (Kd.yB_ HO_7.out).2.2 (ji23) p194 q194
        obtain rfl:(⟨go14,0,none⟩:Addr)=ad194:=(by injection e194)
        obtain⟨ce194,hce194,hMe194,hcc194⟩:=Kd.S_get HO_7.out [] (ji23) p194 (by first|exact q194|exact of_decide_eq_true zd_|(have e_:=(Kd.yB_ HO_7.out).1;omega))
        obtain⟨ve194_0,rfl,ge194_0⟩:=hMe194
        have hv194_0:=hcc194 0 _ rfl
        rw[Nat.add_zero,show ((Kd.slice 3 (Kd.int .i64))).sz=1 from rfl,Nat.mul_one] at hv194_0
        replace hv194_0:=Option.some.inj (hv194_0.symm.trans hx194_0)
        rw[hv194_0] at ge194_0
        have HL194_0:=Aside0.mk (show Kd.R (Kd.int .i64) 3 _ _ _ _ (rd_L8 x7_2 (ji23)) from ge194_0)
        clear hv194_0 ge194_0
        have HX194_0:=Aside0.mk hx194_0
        clear hcc194 hce194
        (first|simp only[add_plain] at hx194_0|simp only[add_at] at hx194_0|simp only[Addr.add,Nat.zero_add] at hx194_0|skip)
        have HR194_0:=Aside0.mk hi194_0
        have HC194_0:=Aside0.mk hl194_0
        clear hi194_0 hl194_0
        replace p194:=eq_true p194
        replace q194:=eq_true q194
        have p195:0≤(x9_2:Int):=of_decide_eq_true zd_
        have q195:x9_2 < ((rd_L8 x7_2 (ji23)).length:Int):=of_decide_eq_true zd_
        obtain⟨ad195,e195,hx195_0⟩:=Kd.at_int (by repeat (first|(with_reducible exact HR194_0.out)|(with_reducible refine Kd.yM_ ?_ _)|(with_reducible refine Kd.yY_ ?_ _)|(with_reducible refine Kd.C_drew ?_)|exact HR194_0.out)) x9_2 p195 q195
        cases e195
        replace p195:=eq_true p195
        replace q195:=eq_true q195
        have p196:0≤(x8_1:Int):=of_decide_eq_true zd_
        have q196:x8_1 < (x7_2.length:Int):=of_decide_eq_true zd_
        obtain⟨ad196,A196_0,c196_0,e196,hx196_0,hl196_0,hi196_0⟩:=at_L8 (Kd.yB_ HO_7.out).2.2 x8_1 p196 q196
        obtain rfl:(⟨go14,0,none⟩:Addr)=ad196:=(by injection e196)
        obtain⟨ce196,hce196,hMe196,hcc196⟩:=Kd.S_get HO_7.out [] x8_1 p196 (by first|exact q196|exact of_decide_eq_true zd_|(have e_:=(Kd.yB_ HO_7.out).1;omega))
        obtain⟨ve196_0,rfl,ge196_0⟩:=hMe196
        have hv196_0:=hcc196 0 _ rfl
        rw[Nat.add_zero,show ((Kd.slice 3 (Kd.int .i64))).sz=1 from rfl,Nat.mul_one] at hv196_0
        replace hv196_0:=Option.some.inj (hv196_0.symm.trans hx196_0)
        rw[hv196_0] at ge196_0
        have HL196_0:=Aside0.mk (show Kd.R (Kd.int .i64) 3 _ _ _ _ (rd_L8 x7_2 x8_1) from ge196_0)
        clear hv196_0 ge196_0
        have HX196_0:=Aside0.mk hx196_0
        clear hcc196 hce196
        (first|simp only[add_plain] at hx196_0|simp only[add_at] at hx196_0|simp only[Addr.add,Nat.zero_add] at hx196_0|skip)
        have HR196_0:=Aside0.mk hi196_0
        have HC196_0:=Aside0.mk hl196_0
        clear hi196_0 hl196_0
        replace p196:=eq_true p196
        replace q196:=eq_true q196
        have p197:0≤((ji30):Int):=of_decide_eq_true zd_
        have q197:(ji30) < ((rd_L8 x7_2 x8_1).length:Int):=of_decide_eq_true zd_
        obtain⟨ad197,e197,hx197_0⟩:=Kd.at_int (by repeat (first|(with_reducible exact HR196_0.out)|(with_reducible refine Kd.yM_ ?_ _)|(with_reducible refine Kd.yY_ ?_ _)|(with_reducible refine Kd.C_drew ?_)|exact HR196_0.out)) (ji30) p197 q197
        cases e197
        replace p197:=eq_true p197
        replace q197:=eq_true q197
        have p198:0≤(x8_1:Int):=of_decide_eq_true zd_
        have q198:x8_1 < (x7_2.length:Int):=of_decide_eq_true zd_
        obtain⟨ad198,A198_0,c198_0,e198,hx198_0,hl198_0,hi198_0⟩:=at_L8 (Kd.yB_ HO_7.out).2.2 x8_1 p198 q198
        obtain rfl:(⟨go14,0,none⟩:Addr)=ad198:=(by injection e198)
        obtain⟨ce198,hce198,hMe198,hcc198⟩:=Kd.S_get HO_7.out [] x8_1 p198 (by first|exact q198|exact of_decide_eq_true zd_|(have e_:=(Kd.yB_ HO_7.out).1;omega))
        obtain⟨ve198_0,rfl,ge198_0⟩:=hMe198
        have hv198_0:=hcc198 0 _ rfl
        rw[Nat.add_zero,show ((Kd.slice 3 (Kd.int .i64))).sz=1 from rfl,Nat.mul_one] at hv198_0
        replace hv198_0:=Option.some.inj (hv198_0.symm.trans hx198_0)
        rw[hv198_0] at ge198_0
        have HL198_0:=Aside0.mk (show Kd.R (Kd.int .i64) 3 _ _ _ _ (rd_L8 x7_2 x8_1) from ge198_0)
        clear hv198_0 ge198_0
        have HX198_0:=Aside0.mk hx198_0
        clear hcc198 hce198
        (first|simp only[add_plain] at hx198_0|simp only[add_at] at hx198_0|simp only[Addr.add,Nat.zero_add] at hx198_0|skip)
        have HR198_0:=Aside0.mk hi198_0
        have HC198_0:=Aside0.mk hl198_0
        clear hi198_0 hl198_0
        replace p198:=eq_true p198
        replace q198:=eq_true q198
        have ea_:=Option.some.inj (hx196_0.symm.trans hx198_0)
        injection ea_ with ea_ en_ ec_
        subst ea_
        subst ec_
        clear en_
        have p199:0≤((ji30):Int):=of_decide_eq_true zd_
        have q199:(ji30) < ((rd_L8 x7_2 x8_1).length:Int):=of_decide_eq_true zd_
        obtain⟨ad199,e199,hx199_0⟩:=Kd.at_int (by repeat (first|(with_reducible exact HR198_0.out)|(with_reducible refine Kd.yM_ ?_ _)|(with_reducible refine Kd.yY_ ?_ _)|(with_reducible refine Kd.C_drew ?_)|exact HR198_0.out)) (ji30) p199 q199
        cases e199
        replace p199:=eq_true p199
        replace q199:=eq_true q199
        have p200:0≤(x8_1:Int):=of_decide_eq_true zd_
        have q200:x8_1 < (l0.length:Int):=of_decide_eq_true zd_
        obtain⟨ad200,e200,hx200_0⟩:=Kd.yP_ HR0.out x8_1 p200 q200
        cases e200
        replace hx200_0:=(HB.out.cell (World.block_lt_of_cell? w _ hx200_0)).trans hx200_0
        replace p200:=eq_true p200
        replace q200:=eq_true q200
        have p201:0≤(x9_2:Int):=of_decide_eq_true zd_
        have q201:x9_2 < (l1.length:Int):=of_decide_eq_true zd_
        obtain⟨ad201,e201,hx201_0⟩:=Kd.yP_ HR1.out x9_2 p201 q201
        cases e201
        replace hx201_0:=(HB.out.cell (World.block_lt_of_cell? w _ hx201_0)).trans hx201_0
        replace p201:=eq_true p201
        replace q201:=eq_true q201
        have p202:0≤((ji23):Int):=of_decide_eq_true zd_
        have q202:(ji23) < (x7_2.length:Int):=of_decide_eq_true zd_
        obtain⟨ad202,A202_0,c202_0,e202,hx202_0,hl202_0,hi202_0⟩:=at_L8 (Kd.yB_ HO_7.out).2.2 (ji23) p202 q202
        obtain rfl:(⟨go14,0,none⟩:Addr)=ad202:=(by injection e202)
        obtain⟨ce202,hce202,hMe202,hcc202⟩:=Kd.S_get HO_7.out [] (ji23) p202 (by first|exact q202|exact of_decide_eq_true zd_|(have e_:=(Kd.yB_ HO_7.out).1;omega))
        obtain⟨ve202_0,rfl,ge202_0⟩:=hMe202
        have hv202_0:=hcc202 0 _ rfl
        rw[Nat.add_zero,show ((Kd.slice 3 (Kd.int .i64))).sz=1 from rfl,Nat.mul_one] at hv202_0
        replace hv202_0:=Option.some.inj (hv202_0.symm.trans hx202_0)
        rw[hv202_0] at ge202_0
        have HL202_0:=Aside0.mk (show Kd.R (Kd.int .i64) 3 _ _ _ _ (rd_L8 x7_2 (ji23)) from ge202_0)
        clear hv202_0 ge202_0
        have HX202_0:=Aside0.mk hx202_0
        clear hcc202 hce202
        (first|simp only[add_plain] at hx202_0|simp only[add_at] at hx202_0|simp only[Addr.add,Nat.zero_add] at hx202_0|skip)
        have HR202_0:=Aside0.mk hi202_0
        have HC202_0:=Aside0.mk hl202_0
        clear hi202_0 hl202_0
        replace p202:=eq_true p202
        replace q202:=eq_true q202
        have ea_:=Option.some.inj (hx194_0.symm.trans hx202_0)
        injection ea_ with ea_ en_ ec_
        subst ea_
        subst ec_
        clear en_
        have p203:0≤((ji30):Int):=of_decide_eq_true zd_
        have q203:(ji30) < ((rd_L8 x7_2 (ji23)).length:Int):=of_decide_eq_true zd_
        obtain⟨ad203,e203,hx203_0⟩:=Kd.at_int (by repeat (first|(with_reducible exact HR202_0.out)|(with_reducible refine Kd.yM_ ?_ _)|(with_reducible refine Kd.yY_ ?_ _)|(with_reducible refine Kd.C_drew ?_)|exact HR202_0.out)) (ji30) p203 q203
        cases e203
        replace p203:=eq_true p203
        replace q203:=eq_true q203
        have p210:0≤(x8_1:Int):=of_decide_eq_true zd_
        have q210:x8_1 < (x7_2.length:Int):=of_decide_eq_true zd_
        obtain⟨ad210,A210_0,c210_0,e210,hx210_0,hl210_0,hi210_0⟩:=at_L8 (Kd.yB_ HO_7.out).2.2 x8_1 p210 q210
        obtain rfl:(⟨go14,0,none⟩:Addr)=ad210:=(by injection e210)
        obtain⟨ce210,hce210,hMe210,hcc210⟩:=Kd.S_get HO_7.out [] x8_1 p210 (by first|exact q210|exact of_decide_eq_true zd_|(have e_:=(Kd.yB_ HO_7.out).1;omega))
        obtain⟨ve210_0,rfl,ge210_0⟩:=hMe210
        have hv210_0:=hcc210 0 _ rfl
        rw[Nat.add_zero,show ((Kd.slice 3 (Kd.int .i64))).sz=1 from rfl,Nat.mul_one] at hv210_0
        replace hv210_0:=Option.some.inj (hv210_0.symm.trans hx210_0)
        rw[hv210_0] at ge210_0
        have HL210_0:=Aside0.mk (show Kd.R (Kd.int .i64) 3 _ _ _ _ (rd_L8 x7_2 x8_1) from ge210_0)
        clear hv210_0 ge210_0
        have HX210_0:=Aside0.mk hx210_0
        clear hcc210 hce210
        (first|simp only[add_plain] at hx210_0|simp only[add_at] at hx210_0|simp only[Addr.add,Nat.zero_add] at hx210_0|skip)
        have HR210_0:=Aside0.mk hi210_0
        have HC210_0:=Aside0.mk hl210_0
        clear hi210_0 hl210_0
        replace p210:=eq_true p210
        replace q210:=eq_true q210
        have ea_:=Option.some.inj (hx196_0.symm.trans hx210_0)
        injection ea_ with ea_ en_ ec_
        subst ea_
        subst ec_
        clear en_
        have p44:0≤(x9_2:Int):=of_decide_eq_true zd_
        have q44:(x9_2:Int) < (((rd_L8 x7_2 x8_1).length:Int):Int):=of_decide_eq_true zd_
        obtain⟨go44,co44,eo44,gb44,gl44,cl44,HG44⟩:=Kd.R_form HL210_0.out (by omega)
        (first|cases eo44|(injection eo44 with ea_ en_ ec_;(first|subst ea_|(injection ea_ with ea_;subst ea_));subst ec_;clear en_))
        have GB44:=Aside0.mk gb44
        have GG44:=Aside0.mk HG44
        clear gb44 gl44 HG44
        (first|simp only[add_plain] at hx199_0|skip)
        obtain⟨hx44_0,hf44_0⟩:=Kd.yFb_ 0 HL210_0.out (x9_2:Int) p44 q44
        replace p44:=eq_true p44
        replace q44:=eq_true q44
        have hq45:(x8_1:Int) < (x7_2.length:Int):=(by have h_:(x8_1:Int) < ((x7_2.length:Int):Int):=of_decide_eq_true zd_;first|exact h_|(have e_:=(Kd.yB_ HO_7.out).1;omega)|simpa only[List.length_set,List.length_set] using h_)
        obtain⟨oki45,ce45,hcl45,hM45,hcc45,hok45,hbk45⟩:=Kd.yDb_ HO_7.out [] (x8_1:Int) (of_decide_eq_true zd_) hq45
        obtain⟨ve45_0,rfl,ge45_0⟩:=hM45
        have hv45:=hcc45 0 _ rfl
        rw[Nat.add_zero,show ((Kd.slice 3 (Kd.int .i64))).sz=1 from rfl,Nat.mul_one] at hv45
        replace hv45:=Option.some.inj (hv45.symm.trans HX210_0.out)
        subst hv45
        clear hcc45 hcl45
        replace ge45_0:=(show Kd.R (Kd.int .i64) 3 _ _ _ _ (rd_L8 x7_2 x8_1) from ge45_0)
        have HP45:=Kd.R_putg ge45_0 (x9_2:Int) (rd (rd_L8 x7_2 x8_1) (ji30))
        go_wp2_with fail
        repeat (go_quiet (fail);try go_wp2_with (first|((with_reducible refine y7_ (t:=3) (p:=110) rfl ?_);(try (rw[ytb_ wc];generalize hq_:World.drewN wc _=wc;have n0_:=Aside0.mk (Kd.S_at hq_ HO_7.out);have nX_:=Aside0.mk (cellat_ hq_ HX210_0.out);have n2_:=Aside0.mk (yMb_ hq_ HB.out);clear hq_ HO_7 HB HX210_0;have HO_7:=n0_;have HX210_0:=nX_;have HB:=n2_;clear n0_ nX_ n2_;(try (have hq45:(x8_1:Int) < (x7_2.length:Int):=(by have h_:(x8_1:Int) < ((x7_2.length:Int):Int):=of_decide_eq_true zd_;first|exact h_|(have e_:=(Kd.yB_ HO_7.out).1;omega)|simpa only[List.length_set,List.length_set] using h_)));(try (obtain⟨oki45,ce45,hcl45,hM45,hcc45,hok45,hbk45⟩:=Kd.yDb_ HO_7.out [] (x8_1:Int) (of_decide_eq_true zd_) hq45));(try (obtain⟨ve45_0,rfl,ge45_0⟩:=hM45));(try (have hv45:=hcc45 0 _ rfl));(try (rw[Nat.add_zero,show ((Kd.slice 3 (Kd.int .i64))).sz=1 from rfl,Nat.mul_one] at hv45));(try (replace hv45:=Option.some.inj (hv45.symm.trans HX210_0.out)));(try (subst hv45));(try (clear hcc45 hcl45));(try (replace ge45_0:=(show Kd.R (Kd.int .i64) 3 _ _ _ _ (rd_L8 x7_2 x8_1) from ge45_0)));(try (have HP45:=Kd.R_putg ge45_0 (x9_2:Int) (rd (rd_L8 x7_2 x8_1) (ji30))));(try (obtain⟨hx44_0,hf44_0⟩:=Kd.yFb_ 0 ge45_0 (x9_2:Int) (of_eq_true p44) (of_eq_true q44)))));refine y2_ (t:=3) (p:=110) (v:=?vo_w46) (w1:=(wc.setCell ⟨go44,(x9_2:Int).toNat,none⟩ (.int .i64 (rd (rd_L8 x7_2 x8_1) (ji30))))) ?hg ?ho ?hn ?hr ?_;(case ho=>rfl);(case hg=>rfl);(case hn=>rfl);(case hr=>(try obtain⟨As_,cs_,rfl⟩:=Kd.yE_ HO192.out);first|(go_simp;done)|(go_simp;rfl));intro w46 hw;have hg:wc.grownBy w46 (some go44):=(by rw[hw];exact HP45.2);have hz_:Kd.R (Kd.int .i64) 3 w46 w.heap.size oki45 (.slice (some ⟨go44,0,none⟩) (rd_L8 x7_2 x8_1).length c196_0) y211:=(by rw[hw,Ny211.out];exact HP45.1);have hp_:Kd.S (Kd.slice 3 (Kd.int .i64)) 28 w46 w.heap.size (fun _=>True) (.slice (some ⟨go14,0,none⟩) x7_2.length co14) y213:=(by rw[Ny213.out];exact hbk45 hg (fun k_ e_=>by injection e_ with e_;subst e_;exact ge45_0.1 _ rfl) (Kd.M_row hz_));have hm_:=Kd.R_mono hz_ hok45;clear HP45 hbk45;have n0_:=Aside0.mk (hp_);have n1_:=Aside0.mk ((by rw[hw];exact yq_ (HB.out) GB44.out:Below w.heap.size w w46));have n2_:=Aside0.mk (hm_);have n3_:=Aside0.mk ((Kd.yt_ hm_).2.1);clear HO_7;clear HB;clear HL194_0;clear HL196_0;clear HL198_0;clear HL202_0;clear HL210_0;have HO_7:=n0_;have HB:=n1_;have HL263:=n2_;have HC212:=n3_;clear n0_ n1_ n2_ n3_;clear hg hw hp_ hz_ hm_ hok45)))
        (try simp only[← hl7_2])
        go_roundg kj19
        case measure=>have:=HK1.out;have:=HK2.out;have:=HJ19.out;omega
        case rel=>exact⟨(y213),(wrap64 (x9_2 - 1)),zc_,H',⟨by have:=HK1.out;have:=HK2.out;have:=HJ19.out;omega⟩,⟨by (try simp only[hl7_2]);(with_reducible repeat (first|apply Kd.y9_|apply Kd.y8_|apply Kd.S_drew));exact HO_7.out⟩,⟨by repeat (with_reducible first|exact HB.out|apply yc_|apply ya_|apply yb_)⟩⟩
       rw[if_pos c38] at H
       have c38b0:decide ((rd (rd_L8 x7_2 x8_1) (ji30)) < (wrap64 ((rd (rd_L8 x7_2 (ji23)) (ji30))+1)))=true:=decide_eq_true c38
       clear c38
       by_cases c39:x9_2 < ((rd_L8 x7_2 x8_1).length:Int)
       rotate_left
       ·rw[if_neg c39] at H
        exact absurd H (by simp)
       rw[if_pos c39] at H
       have c39b0:decide (x9_2 < ((rd_L8 x7_2 x8_1).length:Int))=true:=decide_eq_true c39
       clear c39
       obtain⟨y207,hy207⟩:∃ y_:List Int,y_=((rd_L8 x7_2 x8_1).set (x9_2:Int).toNat (wrap64 ((rd (rd_L8 x7_2 (ji23)) (ji30))+1))):=⟨_,rfl⟩
       replace H:(yd_.l1 kj19 l0 l1 (l0.length:Int) (l1.length:Int) (x7_2.set (x8_1:Int).toNat y207) x8_1 (wrap64 (x9_2 - 1)))=some r:=by first|(rw[hy207];with_reducible exact H)|(have H2_:=(Option.bind_some _ _).symm.trans H;rw[hy207];with_reducible exact H2_)|(have H2_:=(Option.bind_some _ _).symm.trans H;with_reducible exact H2_)|with_reducible exact H|(rw[hy207];exact H)|exact H
       have Ny207:=Aside0.mk hy207
       clear hy207
       obtain⟨y209,hy209⟩:∃ y_:List (List Int),y_=(x7_2.set (x8_1:Int).toNat y207):=⟨_,rfl⟩
       replace H:(yd_.l1 kj19 l0 l1 (l0.length:Int) (l1.length:Int) y209 x8_1 (wrap64 (x9_2 - 1)))=some r:=by first|(rw[hy209];with_reducible exact H)|(have H2_:=(Option.bind_some _ _).symm.trans H;rw[hy209];with_reducible exact H2_)|(have H2_:=(Option.bind_some _ _).symm.trans H;with_reducible exact H2_)|with_reducible exact H|(rw[hy209];exact H)|exact H
       have Ny209:=Aside0.mk hy209
       clear hy209
       have H':=Aside0.mk H
       clear H
       have p194:0≤((ji23):Int):=of_decide_eq_true zd_
       have q194:(ji23) < (x7_2.length:Int):=of_decide_eq_true zd_
       obtain⟨ad194,A194_0,c194_0,e194,hx194_0,hl194_0,hi194_0⟩:=at_L8 (Kd.yB_ HO_7.out).2.2 (ji23) p194 q194
       obtain rfl:(⟨go14,0,none⟩:Addr)=ad194:=(by injection e194)
       obtain⟨ce194,hce194,hMe194,hcc194⟩:=Kd.S_get HO_7.out [] (ji23) p194 (by first|exact q194|exact of_decide_eq_true zd_|(have e_:=(Kd.yB_ HO_7.out).1;omega))
       obtain⟨ve194_0,rfl,ge194_0⟩:=hMe194
       have hv194_0:=hcc194 0 _ rfl
       rw[Nat.add_zero,show ((Kd.slice 3 (Kd.int .i64))).sz=1 from rfl,Nat.mul_one] at hv194_0
       replace hv194_0:=Option.some.inj (hv194_0.symm.trans hx194_0)
       rw[hv194_0] at ge194_0
       have HL194_0:=Aside0.mk (show Kd.R (Kd.int .i64) 3 _ _ _ _ (rd_L8 x7_2 (ji23)) from ge194_0)
       clear hv194_0 ge194_0
       have HX194_0:=Aside0.mk hx194_0
       clear hcc194 hce194
       (first|simp only[add_plain] at hx194_0|simp only[add_at] at hx194_0|simp only[Addr.add,Nat.zero_add] at hx194_0|skip)
       have HR194_0:=Aside0.mk hi194_0
       have HC194_0:=Aside0.mk hl194_0
       clear hi194_0 hl194_0
       replace p194:=eq_true p194
       replace q194:=eq_true q194
       have p195:0≤(x9_2:Int):=of_decide_eq_true zd_
       have q195:x9_2 < ((rd_L8 x7_2 (ji23)).length:Int):=of_decide_eq_true zd_
       obtain⟨ad195,e195,hx195_0⟩:=Kd.at_int (by repeat (first|(with_reducible exact HR194_0.out)|(with_reducible refine Kd.yM_ ?_ _)|(with_reducible refine Kd.yY_ ?_ _)|(with_reducible refine Kd.C_drew ?_)|exact HR194_0.out)) x9_2 p195 q195
       cases e195
       replace p195:=eq_true p195
       replace q195:=eq_true q195
       have p196:0≤(x8_1:Int):=of_decide_eq_true zd_
       have q196:x8_1 < (x7_2.length:Int):=of_decide_eq_true zd_
       obtain⟨ad196,A196_0,c196_0,e196,hx196_0,hl196_0,hi196_0⟩:=at_L8 (Kd.yB_ HO_7.out).2.2 x8_1 p196 q196
       obtain rfl:(⟨go14,0,none⟩:Addr)=ad196:=(by injection e196)
       obtain⟨ce196,hce196,hMe196,hcc196⟩:=Kd.S_get HO_7.out [] x8_1 p196 (by first|exact q196|exact of_decide_eq_true zd_|(have e_:=(Kd.yB_ HO_7.out).1;omega))
       obtain⟨ve196_0,rfl,ge196_0⟩:=hMe196
       have hv196_0:=hcc196 0 _ rfl
       rw[Nat.add_zero,show ((Kd.slice 3 (Kd.int .i64))).sz=1 from rfl,Nat.mul_one] at hv196_0
       replace hv196_0:=Option.some.inj (hv196_0.symm.trans hx196_0)
       rw[hv196_0] at ge196_0
       have HL196_0:=Aside0.mk (show Kd.R (Kd.int .i64) 3 _ _ _ _ (rd_L8 x7_2 x8_1) from ge196_0)
       clear hv196_0 ge196_0
       have HX196_0:=Aside0.mk hx196_0
       clear hcc196 hce196
       (first|simp only[add_plain] at hx196_0|simp only[add_at] at hx196_0|simp only[Addr.add,Nat.zero_add] at hx196_0|skip)
       have HR196_0:=Aside0.mk hi196_0
       have HC196_0:=Aside0.mk hl196_0
       clear hi196_0 hl196_0
       replace p196:=eq_true p196
       replace q196:=eq_true q196
       have p197:0≤((ji30):Int):=of_decide_eq_true zd_
       have q197:(ji30) < ((rd_L8 x7_2 x8_1).length:Int):=of_decide_eq_true zd_
       obtain⟨ad197,e197,hx197_0⟩:=Kd.at_int (by repeat (first|(with_reducible exact HR196_0.out)|(with_reducible refine Kd.yM_ ?_ _)|(with_reducible refine Kd.yY_ ?_ _)|(with_reducible refine Kd.C_drew ?_)|exact HR196_0.out)) (ji30) p197 q197
       cases e197
       replace p197:=eq_true p197
       replace q197:=eq_true q197
       have p198:0≤(x8_1:Int):=of_decide_eq_true zd_
       have q198:x8_1 < (x7_2.length:Int):=of_decide_eq_true zd_
       obtain⟨ad198,A198_0,c198_0,e198,hx198_0,hl198_0,hi198_0⟩:=at_L8 (Kd.yB_ HO_7.out).2.2 x8_1 p198 q198
       obtain rfl:(⟨go14,0,none⟩:Addr)=ad198:=(by injection e198)
       obtain⟨ce198,hce198,hMe198,hcc198⟩:=Kd.S_get HO_7.out [] x8_1 p198 (by first|exact q198|exact of_decide_eq_true zd_|(have e_:=(Kd.yB_ HO_7.out).1;omega))
       obtain⟨ve198_0,rfl,ge198_0⟩:=hMe198
       have hv198_0:=hcc198 0 _ rfl
       rw[Nat.add_zero,show ((Kd.slice 3 (Kd.int .i64))).sz=1 from rfl,Nat.mul_one] at hv198_0
       replace hv198_0:=Option.some.inj (hv198_0.symm.trans hx198_0)
       rw[hv198_0] at ge198_0
       have HL198_0:=Aside0.mk (show Kd.R (Kd.int .i64) 3 _ _ _ _ (rd_L8 x7_2 x8_1) from ge198_0)
       clear hv198_0 ge198_0
       have HX198_0:=Aside0.mk hx198_0
       clear hcc198 hce198
       (first|simp only[add_plain] at hx198_0|simp only[add_at] at hx198_0|simp only[Addr.add,Nat.zero_add] at hx198_0|skip)
       have HR198_0:=Aside0.mk hi198_0
       have HC198_0:=Aside0.mk hl198_0
       clear hi198_0 hl198_0
       replace p198:=eq_true p198
       replace q198:=eq_true q198
       have ea_:=Option.some.inj (hx196_0.symm.trans hx198_0)
       injection ea_ with ea_ en_ ec_
       subst ea_
       subst ec_
       clear en_
       have p199:0≤((ji30):Int):=of_decide_eq_true zd_
       have q199:(ji30) < ((rd_L8 x7_2 x8_1).length:Int):=of_decide_eq_true zd_
       obtain⟨ad199,e199,hx199_0⟩:=Kd.at_int (by repeat (first|(with_reducible exact HR198_0.out)|(with_reducible refine Kd.yM_ ?_ _)|(with_reducible refine Kd.yY_ ?_ _)|(with_reducible refine Kd.C_drew ?_)|exact HR198_0.out)) (ji30) p199 q199
       cases e199
       replace p199:=eq_true p199
       replace q199:=eq_true q199
       have p200:0≤(x8_1:Int):=of_decide_eq_true zd_
       have q200:x8_1 < (l0.length:Int):=of_decide_eq_true zd_
       obtain⟨ad200,e200,hx200_0⟩:=Kd.yP_ HR0.out x8_1 p200 q200
       cases e200
       replace hx200_0:=(HB.out.cell (World.block_lt_of_cell? w _ hx200_0)).trans hx200_0
       replace p200:=eq_true p200
       replace q200:=eq_true q200
       have p201:0≤(x9_2:Int):=of_decide_eq_true zd_
       have q201:x9_2 < (l1.length:Int):=of_decide_eq_true zd_
       obtain⟨ad201,e201,hx201_0⟩:=Kd.yP_ HR1.out x9_2 p201 q201
       cases e201
       replace hx201_0:=(HB.out.cell (World.block_lt_of_cell? w _ hx201_0)).trans hx201_0
       replace p201:=eq_true p201
       replace q201:=eq_true q201
       have p202:0≤((ji23):Int):=of_decide_eq_true zd_
       have q202:(ji23) < (x7_2.length:Int):=of_decide_eq_true zd_
       obtain⟨ad202,A202_0,c202_0,e202,hx202_0,hl202_0,hi202_0⟩:=at_L8 (Kd.yB_ HO_7.out).2.2 (ji23) p202 q202
       obtain rfl:(⟨go14,0,none⟩:Addr)=ad202:=(by injection e202)
       obtain⟨ce202,hce202,hMe202,hcc202⟩:=Kd.S_get HO_7.out [] (ji23) p202 (by first|exact q202|exact of_decide_eq_true zd_|(have e_:=(Kd.yB_ HO_7.out).1;omega))
       obtain⟨ve202_0,rfl,ge202_0⟩:=hMe202
       have hv202_0:=hcc202 0 _ rfl
       rw[Nat.add_zero,show ((Kd.slice 3 (Kd.int .i64))).sz=1 from rfl,Nat.mul_one] at hv202_0
       replace hv202_0:=Option.some.inj (hv202_0.symm.trans hx202_0)
       rw[hv202_0] at ge202_0
       have HL202_0:=Aside0.mk (show Kd.R (Kd.int .i64) 3 _ _ _ _ (rd_L8 x7_2 (ji23)) from ge202_0)
       clear hv202_0 ge202_0
       have HX202_0:=Aside0.mk hx202_0
       clear hcc202 hce202
       (first|simp only[add_plain] at hx202_0|simp only[add_at] at hx202_0|simp only[Addr.add,Nat.zero_add] at hx202_0|skip)
       have HR202_0:=Aside0.mk hi202_0
       have HC202_0:=Aside0.mk hl202_0
       clear hi202_0 hl202_0
       replace p202:=eq_true p202
       replace q202:=eq_true q202
       have ea_:=Option.some.inj (hx194_0.symm.trans hx202_0)
       injection ea_ with ea_ en_ ec_
       subst ea_
       subst ec_
       clear en_
       have p203:0≤((ji30):Int):=of_decide_eq_true zd_
       have q203:(ji30) < ((rd_L8 x7_2 (ji23)).length:Int):=of_decide_eq_true zd_
       obtain⟨ad203,e203,hx203_0⟩:=Kd.at_int (by repeat (first|(with_reducible exact HR202_0.out)|(with_reducible refine Kd.yM_ ?_ _)|(with_reducible refine Kd.yY_ ?_ _)|(with_reducible refine Kd.C_drew ?_)|exact HR202_0.out)) (ji30) p203 q203
       cases e203
       replace p203:=eq_true p203
       replace q203:=eq_true q203
       have p204:0≤((ji23):Int):=of_decide_eq_true zd_
       have q204:(ji23) < (x7_2.length:Int):=of_decide_eq_true zd_
       obtain⟨ad204,A204_0,c204_0,e204,hx204_0,hl204_0,hi204_0⟩:=at_L8 (Kd.yB_ HO_7.out).2.2 (ji23) p204 q204
       obtain rfl:(⟨go14,0,none⟩:Addr)=ad204:=(by injection e204)
       obtain⟨ce204,hce204,hMe204,hcc204⟩:=Kd.S_get HO_7.out [] (ji23) p204 (by first|exact q204|exact of_decide_eq_true zd_|(have e_:=(Kd.yB_ HO_7.out).1;omega))
       obtain⟨ve204_0,rfl,ge204_0⟩:=hMe204
       have hv204_0:=hcc204 0 _ rfl
       rw[Nat.add_zero,show ((Kd.slice 3 (Kd.int .i64))).sz=1 from rfl,Nat.mul_one] at hv204_0
       replace hv204_0:=Option.some.inj (hv204_0.symm.trans hx204_0)
       rw[hv204_0] at ge204_0
       have HL204_0:=Aside0.mk (show Kd.R (Kd.int .i64) 3 _ _ _ _ (rd_L8 x7_2 (ji23)) from ge204_0)
       clear hv204_0 ge204_0
       have HX204_0:=Aside0.mk hx204_0
       clear hcc204 hce204
       (first|simp only[add_plain] at hx204_0|simp only[add_at] at hx204_0|simp only[Addr.add,Nat.zero_add] at hx204_0|skip)
       have HR204_0:=Aside0.mk hi204_0
       have HC204_0:=Aside0.mk hl204_0
       clear hi204_0 hl204_0
       replace p204:=eq_true p204
       replace q204:=eq_true q204
       have ea_:=Option.some.inj (hx194_0.symm.trans hx204_0)
       injection ea_ with ea_ en_ ec_
       subst ea_
       subst ec_
       clear en_
       have p205:0≤((ji30):Int):=of_decide_eq_true zd_
       have q205:(ji30) < ((rd_L8 x7_2 (ji23)).length:Int):=of_decide_eq_true zd_
       obtain⟨ad205,e205,hx205_0⟩:=Kd.at_int (by repeat (first|(with_reducible exact HR204_0.out)|(with_reducible refine Kd.yM_ ?_ _)|(with_reducible refine Kd.yY_ ?_ _)|(with_reducible refine Kd.C_drew ?_)|exact HR204_0.out)) (ji30) p205 q205
       cases e205
       replace p205:=eq_true p205
       replace q205:=eq_true q205
       have p206:0≤(x8_1:Int):=of_decide_eq_true zd_
       have q206:x8_1 < (x7_2.length:Int):=of_decide_eq_true zd_
       obtain⟨ad206,A206_0,c206_0,e206,hx206_0,hl206_0,hi206_0⟩:=at_L8 (Kd.yB_ HO_7.out).2.2 x8_1 p206 q206
       obtain rfl:(⟨go14,0,none⟩:Addr)=ad206:=(by injection e206)
       obtain⟨ce206,hce206,hMe206,hcc206⟩:=Kd.S_get HO_7.out [] x8_1 p206 (by first|exact q206|exact of_decide_eq_true zd_|(have e_:=(Kd.yB_ HO_7.out).1;omega))
       obtain⟨ve206_0,rfl,ge206_0⟩:=hMe206
       have hv206_0:=hcc206 0 _ rfl
       rw[Nat.add_zero,show ((Kd.slice 3 (Kd.int .i64))).sz=1 from rfl,Nat.mul_one] at hv206_0
       replace hv206_0:=Option.some.inj (hv206_0.symm.trans hx206_0)
       rw[hv206_0] at ge206_0
       have HL206_0:=Aside0.mk (show Kd.R (Kd.int .i64) 3 _ _ _ _ (rd_L8 x7_2 x8_1) from ge206_0)
       clear hv206_0 ge206_0
       have HX206_0:=Aside0.mk hx206_0
       clear hcc206 hce206
       (first|simp only[add_plain] at hx206_0|simp only[add_at] at hx206_0|simp only[Addr.add,Nat.zero_add] at hx206_0|skip)
       have HR206_0:=Aside0.mk hi206_0
       have HC206_0:=Aside0.mk hl206_0
       clear hi206_0 hl206_0
       replace p206:=eq_true p206
       replace q206:=eq_true q206
       have ea_:=Option.some.inj (hx196_0.symm.trans hx206_0)
       injection ea_ with ea_ en_ ec_
       subst ea_
       subst ec_
       clear en_
       have p40:0≤(x9_2:Int):=of_decide_eq_true zd_
       have q40:(x9_2:Int) < (((rd_L8 x7_2 x8_1).length:Int):Int):=of_decide_eq_true zd_
       obtain⟨go40,co40,eo40,gb40,gl40,cl40,HG40⟩:=Kd.R_form HL206_0.out (by omega)
       (first|cases eo40|(injection eo40 with ea_ en_ ec_;(first|subst ea_|(injection ea_ with ea_;subst ea_));subst ec_;clear en_))
       have GB40:=Aside0.mk gb40
       have GG40:=Aside0.mk HG40
       clear gb40 gl40 HG40
       (first|simp only[add_plain] at hx199_0|skip)
       obtain⟨hx40_0,hf40_0⟩:=Kd.yFb_ 0 HL206_0.out (x9_2:Int) p40 q40
       replace p40:=eq_true p40
       replace q40:=eq_true q40
       have hq41:(x8_1:Int) < (x7_2.length:Int):=(by have h_:(x8_1:Int) < ((x7_2.length:Int):Int):=of_decide_eq_true zd_;first|exact h_|(have e_:=(Kd.yB_ HO_7.out).1;omega)|simpa only[List.length_set,List.length_set] using h_)
       obtain⟨oki41,ce41,hcl41,hM41,hcc41,hok41,hbk41⟩:=Kd.yDb_ HO_7.out [] (x8_1:Int) (of_decide_eq_true zd_) hq41
       obtain⟨ve41_0,rfl,ge41_0⟩:=hM41
       have hv41:=hcc41 0 _ rfl
       rw[Nat.add_zero,show ((Kd.slice 3 (Kd.int .i64))).sz=1 from rfl,Nat.mul_one] at hv41
       replace hv41:=Option.some.inj (hv41.symm.trans HX206_0.out)
       subst hv41
       clear hcc41 hcl41
       replace ge41_0:=(show Kd.R (Kd.int .i64) 3 _ _ _ _ (rd_L8 x7_2 x8_1) from ge41_0)
       have HP41:=Kd.R_putg ge41_0 (x9_2:Int) (wrap64 ((rd (rd_L8 x7_2 (ji23)) (ji30))+1))
       go_wp2_with fail
       repeat (go_quiet (fail);try go_wp2_with (first|((with_reducible refine y7_ (t:=3) (p:=110) rfl ?_);(try (rw[ytb_ wc];generalize hq_:World.drewN wc _=wc;have n0_:=Aside0.mk (Kd.S_at hq_ HO_7.out);have nX_:=Aside0.mk (cellat_ hq_ HX206_0.out);have n2_:=Aside0.mk (yMb_ hq_ HB.out);clear hq_ HO_7 HB HX206_0;have HO_7:=n0_;have HX206_0:=nX_;have HB:=n2_;clear n0_ nX_ n2_;(try (have hq41:(x8_1:Int) < (x7_2.length:Int):=(by have h_:(x8_1:Int) < ((x7_2.length:Int):Int):=of_decide_eq_true zd_;first|exact h_|(have e_:=(Kd.yB_ HO_7.out).1;omega)|simpa only[List.length_set,List.length_set] using h_)));(try (obtain⟨oki41,ce41,hcl41,hM41,hcc41,hok41,hbk41⟩:=Kd.yDb_ HO_7.out [] (x8_1:Int) (of_decide_eq_true zd_) hq41));(try (obtain⟨ve41_0,rfl,ge41_0⟩:=hM41));(try (have hv41:=hcc41 0 _ rfl));(try (rw[Nat.add_zero,show ((Kd.slice 3 (Kd.int .i64))).sz=1 from rfl,Nat.mul_one] at hv41));(try (replace hv41:=Option.some.inj (hv41.symm.trans HX206_0.out)));(try (subst hv41));(try (clear hcc41 hcl41));(try (replace ge41_0:=(show Kd.R (Kd.int .i64) 3 _ _ _ _ (rd_L8 x7_2 x8_1) from ge41_0)));(try (have HP41:=Kd.R_putg ge41_0 (x9_2:Int) (wrap64 ((rd (rd_L8 x7_2 (ji23)) (ji30))+1))));(try (obtain⟨hx40_0,hf40_0⟩:=Kd.yFb_ 0 ge41_0 (x9_2:Int) (of_eq_true p40) (of_eq_true q40)))));refine y2_ (t:=3) (p:=110) (v:=?vo_w42) (w1:=(wc.setCell ⟨go40,(x9_2:Int).toNat,none⟩ (.int .i64 (wrap64 ((rd (rd_L8 x7_2 (ji23)) (ji30))+1))))) ?hg ?ho ?hn ?hr ?_;(case ho=>rfl);(case hg=>rfl);(case hn=>rfl);(case hr=>(try obtain⟨As_,cs_,rfl⟩:=Kd.yE_ HO192.out);first|(go_simp;done)|(go_simp;rfl));intro w42 hw;have hg:wc.grownBy w42 (some go40):=(by rw[hw];exact HP41.2);have hz_:Kd.R (Kd.int .i64) 3 w42 w.heap.size oki41 (.slice (some ⟨go40,0,none⟩) (rd_L8 x7_2 x8_1).length c196_0) y207:=(by rw[hw,Ny207.out];exact HP41.1);have hp_:Kd.S (Kd.slice 3 (Kd.int .i64)) 28 w42 w.heap.size (fun _=>True) (.slice (some ⟨go14,0,none⟩) x7_2.length co14) y209:=(by rw[Ny209.out];exact hbk41 hg (fun k_ e_=>by injection e_ with e_;subst e_;exact ge41_0.1 _ rfl) (Kd.M_row hz_));have hm_:=Kd.R_mono hz_ hok41;clear HP41 hbk41;have n0_:=Aside0.mk (hp_);have n1_:=Aside0.mk ((by rw[hw];exact yq_ (HB.out) GB40.out:Below w.heap.size w w42));have n2_:=Aside0.mk (hm_);have n3_:=Aside0.mk ((Kd.yt_ hm_).2.1);clear HO_7;clear HB;clear HL194_0;clear HL196_0;clear HL198_0;clear HL202_0;clear HL204_0;clear HL206_0;have HO_7:=n0_;have HB:=n1_;have HL262:=n2_;have HC208:=n3_;clear n0_ n1_ n2_ n3_;clear hg hw hp_ hz_ hm_ hok41)))
       (try simp only[← hl7_2])
       go_roundg kj19
       case measure=>have:=HK1.out;have:=HK2.out;have:=HJ19.out;omega
       case rel=>exact⟨(y209),(wrap64 (x9_2 - 1)),zc_,H',⟨by have:=HK1.out;have:=HK2.out;have:=HJ19.out;omega⟩,⟨by (try simp only[hl7_2]);(with_reducible repeat (first|apply Kd.y9_|apply Kd.y8_|apply Kd.S_drew));exact HO_7.out⟩,⟨by repeat (with_reducible first|exact HB.out|apply yc_|apply ya_|apply yb_)⟩⟩

end Go.Proofs.YthimblhfjfngiaaGreat.PText

-- mended25

