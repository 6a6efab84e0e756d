/- PastBlames holds: for all steps, every file and every line the statement answers true. Part 18 of 21. -/
import Derived.Test.YthimblhfjfngiaaGreatBBlamesQ
namespace Go.Proofs.YthimblhfjfngiaaGreat.PText
open Go.RowKit Go.Proofs.YthimblhfjfngiaaGreatW.PrintWords Go.Proofs.YthimblhfjfngiaaGreatW.PrintLast Go.Proofs.YthimblhfjfngiaaGreatW.PrintMore
attribute [local go_sem] yW_ yX_ yab_ ybb_ yO_ yP_ yY_ yZ_   -- for this text's walks alone
set_option linter.unusedVariables false
set_option linter.unusedSimpArgs false

def yWb_.f (k:Nat) (a0:ByteArray) (a1:ByteArray) (a2:ByteArray):Option ((List (S91)) × (List (S91)) × Int):=(yo_.f k a0 a1).bind fun bt333=>(if bt333.2=0 then ((yo_.f k a0 a2).bind fun bt337=>(if bt337.2=0 then (some (bt333.1,bt337.1,0)) else (some (([]:List (S91)),([]:List (S91)),bt337.2)))) else (some (([]:List (S91)),([]:List (S91)),bt333.2)))
set_option maxHeartbeats 8000000 in
set_option maxRecDepth 100000 in
theorem yWb_.calls (k:Nat) (a0:ByteArray) (a1:ByteArray) (a2:ByteArray) (r1:List (S91)) (r2:List (S91)) (r3:Int) (w:World) (h:yWb_.f k a0 a1 a2=some (r1,r2,r3)) :
  Calls Tryz.prog 57 #[.string a0,.string a1,.string a2] w fun e w'=>∃ v0_ v1_:Value,e=.returned (.tuple #[v0_,v1_,.int .i64 r3])∧Kd.R k91 91 w' w.heap.size (fun k_=>some k_≠(v1_:Value).ownBlock) v0_ r1∧Kd.R k91 91 w' w.heap.size (fun k_=>some k_≠(v0_:Value).ownBlock) v1_ r2∧Below w.heap.size w w':=by
 have HB:=Aside0.mk (Below.refl w.heap.size w)
 have H:((yo_.f k a0 a1).bind fun bt333=>(if bt333.2=0 then ((yo_.f k a0 a2).bind fun bt337=>(if bt337.2=0 then (some (bt333.1,bt337.1,0)) else (some (([]:List (S91)),([]:List (S91)),bt337.2)))) else (some (([]:List (S91)),([]:List (S91)),bt333.2))))=some (r1,r2,r3):=h
 clear h
 replace H:=Option.bind_eq_some_iff.mp H
 obtain⟨⟨t333,t334⟩,A40,H⟩:=H
 replace H:(if t334=0 then ((yo_.f k a0 a2).bind fun bt337=>(if bt337.2=0 then (some (t333,bt337.1,0)) else (some (([]:List (S91)),([]:List (S91)),bt337.2)))) else (some (([]:List (S91)),([]:List (S91)),t334)))=some (r1,r2,r3):=H
 have A4:=Aside0.mk A40
 clear A40
 by_cases c5:t334=0
 rotate_left
 ·rw[if_neg c5] at H
  have c5b0:(t334 == 0)=false:=beq_eq_false_iff_ne.mpr c5
  have c5b1:(t334 != 0)=true:=bne_iff_ne.mpr c5
  simp only[Option.some.injEq,Prod.mk.injEq] at H
  obtain⟨rfl,rfl,rfl⟩:=H
  go_enter Tryz.func57,Tryz.ntmps57
  go_wp2_with (first|((with_reducible refine yy_ (f:=50) rfl ?_);refine goesL_ (some 12) rfl rfl Tryz.func50 (by kernel_rfl) rfl #[.string a0,.string a1] rfl (by (try simp only[List.map_toArray,List.map_cons,List.map_nil]);first|done|rfl|(simp only[List.length_drop,List.length_take];rfl)) ?_;(with_reducible refine (yo_.calls k a0 a1 t333 t334 _ A4.out).mono ?_);rintro e w12 ⟨v335,rfl,ho0,hb⟩;refine⟨_,rfl,?_⟩;have n0_:=Aside0.mk (Kd.y1_ ho0 (yk_ (by repeat (with_reducible first|exact HB.out|apply yc_|apply ya_|apply yb_))));have n1_:=Aside0.mk (yn_ (by repeat (with_reducible first|exact HB.out|apply yc_|apply ya_|apply yb_)) hb);clear HB;have HO336:=n0_;have HB:=n1_;clear n0_ n1_;(try clear hb);(try clear hb2);(try clear hk);(try clear hi);(try clear ho0)))
  go_ret3
  exact⟨_,_,by first|rfl|(simp [yA_,yB_] <;> rfl)|(simp [*,yA_,yB_] <;> rfl),by first|exact Kd.R_nil _ _ _ _ _|exact Kd.N_nil _ _ _ _ _|exact Kd.V_nil _ _ _ _ _|exact Kd.Q_nil _ _ _ _ _|exact Kd.S_nil _ _ _ _ _,by first|exact Kd.R_nil _ _ _ _ _|exact Kd.N_nil _ _ _ _ _|exact Kd.V_nil _ _ _ _ _|exact Kd.Q_nil _ _ _ _ _|exact Kd.S_nil _ _ _ _ _,by repeat (with_reducible first|exact HB.out|apply yc_|apply ya_|apply yb_)⟩
 rw[if_pos c5] at H
 have c5b0:(t334 == 0)=true:=beq_iff_eq.mpr c5
 have c5b1:(t334 != 0)=false:=bne_eq_false_iff_eq.mpr c5
 clear c5
 replace H:=Option.bind_eq_some_iff.mp H
 obtain⟨⟨t337,t338⟩,A60,H⟩:=H
 replace H:(if t338=0 then (some (t333,t337,0)) else (some (([]:List (S91)),([]:List (S91)),t338)))=some (r1,r2,r3):=H
 have A6:=Aside0.mk A60
 clear A60
 by_cases c7:t338=0
 ·rw[if_pos c7] at H
  have c7b0:(t338 == 0)=true:=beq_iff_eq.mpr c7
  have c7b1:(t338 != 0)=false:=bne_eq_false_iff_eq.mpr c7
  clear c7
  simp only[Option.some.injEq,Prod.mk.injEq] at H
  obtain⟨rfl,rfl,rfl⟩:=H
  go_enter Tryz.func57,Tryz.ntmps57
  go_wp2_with (first|((with_reducible refine yy_ (f:=50) rfl ?_);refine goesL_ (some 12) rfl rfl Tryz.func50 (by kernel_rfl) rfl #[.string a0,.string a1] rfl (by (try simp only[List.map_toArray,List.map_cons,List.map_nil]);first|done|rfl|(simp only[List.length_drop,List.length_take];rfl)) ?_;(with_reducible refine (yo_.calls k a0 a1 t333 t334 _ A4.out).mono ?_);rintro e w8 ⟨v335,rfl,ho0,hb⟩;refine⟨_,rfl,?_⟩;have n0_:=Aside0.mk (Kd.y1_ ho0 (yk_ (by repeat (with_reducible first|exact HB.out|apply yc_|apply ya_|apply yb_))));have n1_:=Aside0.mk (yn_ (by repeat (with_reducible first|exact HB.out|apply yc_|apply ya_|apply yb_)) hb);clear HB;have HO336:=n0_;have HB:=n1_;clear n0_ n1_;(try clear hb);(try clear hb2);(try clear hk);(try clear hi);(try clear ho0))|((with_reducible refine yy_ (f:=50) rfl ?_);refine goesL_ (some 21) rfl rfl Tryz.func50 (by kernel_rfl) rfl #[.string a0,.string a2] rfl (by (try simp only[List.map_toArray,List.map_cons,List.map_nil]);first|done|rfl|(simp only[List.length_drop,List.length_take];rfl)) ?_;(with_reducible refine (yo_.calls k a0 a2 t337 t338 _ A6.out).mono ?_);rintro e w9 ⟨v339,rfl,ho0,hb⟩;refine⟨_,rfl,?_⟩;have n0_:=Aside0.mk (Kd.R_elder' (by (with_reducible repeat (first|apply Kd.yg_|apply Kd.yh_|apply Kd.R_drew));exact HO336.out) (Kd.R_base ho0) hb);have n1_:=Aside0.mk (Kd.y1_ (Kd.R_new' ho0 (Kd.R_lt (by (with_reducible repeat (first|apply Kd.yg_|apply Kd.yh_|apply Kd.R_drew));exact HO336.out))) (yk_ (by repeat (with_reducible first|exact HB.out|apply yc_|apply ya_|apply yb_))));have n2_:=Aside0.mk (yn_ (by repeat (with_reducible first|exact HB.out|apply yc_|apply ya_|apply yb_)) hb);clear HO336;clear HB;have HO336:=n0_;have HO340:=n1_;have HB:=n2_;clear n0_ n1_ n2_;(try clear hb);(try clear hb2);(try clear hk);(try clear hi);(try clear ho0)))
  go_ret3
  exact⟨_,_,by first|rfl|(simp [yA_,yB_] <;> rfl)|(simp [*,yA_,yB_] <;> rfl),by (with_reducible repeat (first|apply Kd.yg_|apply Kd.yh_|apply Kd.R_drew));exact Kd.R_mono HO336.out (fun _ hk=>hk.2),by (with_reducible repeat (first|apply Kd.yg_|apply Kd.yh_|apply Kd.R_drew));exact Kd.R_mono HO340.out (fun _ hk=>hk.2),by repeat (with_reducible first|exact HB.out|apply yc_|apply ya_|apply yb_)⟩
 rw[if_neg c7] at H
 have c7b0:(t338 == 0)=false:=beq_eq_false_iff_ne.mpr c7
 have c7b1:(t338 != 0)=true:=bne_iff_ne.mpr c7
 simp only[Option.some.injEq,Prod.mk.injEq] at H
 obtain⟨rfl,rfl,rfl⟩:=H
 go_enter Tryz.func57,Tryz.ntmps57
 go_wp2_with (first|((with_reducible refine yy_ (f:=50) rfl ?_);refine goesL_ (some 12) rfl rfl Tryz.func50 (by kernel_rfl) rfl #[.string a0,.string a1] rfl (by (try simp only[List.map_toArray,List.map_cons,List.map_nil]);first|done|rfl|(simp only[List.length_drop,List.length_take];rfl)) ?_;(with_reducible refine (yo_.calls k a0 a1 t333 t334 _ A4.out).mono ?_);rintro e w10 ⟨v335,rfl,ho0,hb⟩;refine⟨_,rfl,?_⟩;have n0_:=Aside0.mk (Kd.y1_ ho0 (yk_ (by repeat (with_reducible first|exact HB.out|apply yc_|apply ya_|apply yb_))));have n1_:=Aside0.mk (yn_ (by repeat (with_reducible first|exact HB.out|apply yc_|apply ya_|apply yb_)) hb);clear HB;have HO336:=n0_;have HB:=n1_;clear n0_ n1_;(try clear hb);(try clear hb2);(try clear hk);(try clear hi);(try clear ho0))|((with_reducible refine yy_ (f:=50) rfl ?_);refine goesL_ (some 21) rfl rfl Tryz.func50 (by kernel_rfl) rfl #[.string a0,.string a2] rfl (by (try simp only[List.map_toArray,List.map_cons,List.map_nil]);first|done|rfl|(simp only[List.length_drop,List.length_take];rfl)) ?_;(with_reducible refine (yo_.calls k a0 a2 t337 t338 _ A6.out).mono ?_);rintro e w11 ⟨v339,rfl,ho0,hb⟩;refine⟨_,rfl,?_⟩;have n0_:=Aside0.mk (Kd.R_elder' (by (with_reducible repeat (first|apply Kd.yg_|apply Kd.yh_|apply Kd.R_drew));exact HO336.out) (Kd.R_base ho0) hb);have n1_:=Aside0.mk (Kd.y1_ (Kd.R_new' ho0 (Kd.R_lt (by (with_reducible repeat (first|apply Kd.yg_|apply Kd.yh_|apply Kd.R_drew));exact HO336.out))) (yk_ (by repeat (with_reducible first|exact HB.out|apply yc_|apply ya_|apply yb_))));have n2_:=Aside0.mk (yn_ (by repeat (with_reducible first|exact HB.out|apply yc_|apply ya_|apply yb_)) hb);clear HO336;clear HB;have HO336:=n0_;have HO340:=n1_;have HB:=n2_;clear n0_ n1_ n2_;(try clear hb);(try clear hb2);(try clear hk);(try clear hi);(try clear ho0)))
 go_ret3
 exact⟨_,_,by first|rfl|(simp [yA_,yB_] <;> rfl)|(simp [*,yA_,yB_] <;> rfl),by first|exact Kd.R_nil _ _ _ _ _|exact Kd.N_nil _ _ _ _ _|exact Kd.V_nil _ _ _ _ _|exact Kd.Q_nil _ _ _ _ _|exact Kd.S_nil _ _ _ _ _,by first|exact Kd.R_nil _ _ _ _ _|exact Kd.N_nil _ _ _ _ _|exact Kd.V_nil _ _ _ _ _|exact Kd.Q_nil _ _ _ _ _|exact Kd.S_nil _ _ _ _ _,by repeat (with_reducible first|exact HB.out|apply yc_|apply ya_|apply yb_)⟩

end Go.Proofs.YthimblhfjfngiaaGreat.PText

namespace Go.Proofs.YthimblhfjfngiaaGreat.PText
open Go.RowKit Go.Lib Go.Proofs.YthimblhfjfngiaaGreatW.PrintWords Go.Proofs.YthimblhfjfngiaaGreatW.PrintLast Go.Proofs.YthimblhfjfngiaaGreatW.PrintMore
theorem stp_len {α:Type} [DecidableEq α]:∀ (k:Nat) (l m:List α),l.length+m.length≤k→(Tx.stp l m).length≤l.length+m.length:=by
  intro k
  induction k with
  | zero =>
    intro l m h
    have hl:l=[]:=List.eq_nil_of_length_eq_zero (by omega)
    have hm:m=[]:=List.eq_nil_of_length_eq_zero (by omega)
    subst hl hm
    rw[Tx.stp];exact Nat.le_refl _
  | succ k ih =>
    intro l m h
    match l,m,h with
    | [],[],_=>rw[Tx.stp];exact Nat.le_refl _
    | a :: l,[],h =>
      simp only[List.length_cons,List.length_nil] at h
      have:=ih l [] (by simp;omega)
      rw[Tx.stp]
      simp only[List.length_cons,List.length_nil] at *
      omega
    | [],b :: m,h =>
      simp only[List.length_cons,List.length_nil] at h
      have:=ih [] m (by simp;omega)
      rw[Tx.stp]
      simp only[List.length_cons,List.length_nil] at *
      omega
    | a :: l,b :: m,h =>
      simp only[List.length_cons] at h
      rw[Tx.stp]
      by_cases e:a=b
      · rw[if_pos e]
        have:=ih l m (by omega)
        simp only[List.length_cons];omega
      rw[if_neg e]
      split
      · have:=ih l (b :: m) (by simp only[List.length_cons];omega)
        simp only[List.length_cons] at *;omega
      · have:=ih (a :: l) m (by simp only[List.length_cons];omega)
        simp only[List.length_cons] at *;omega
/-- the steps from one text to another one, or the error -/
def sizedR (a b:ByteArray) (ctx:Int):List S119 × Int :=
  if 200000 < a.size∨200000 < b.size∨2000 < (linesB a).length∨2000 < (linesB b).length then ([],2) else if ctx < 0∨20 < ctx then ([],1) else (stS (linesB a) (linesB b),0)
theorem sized_zero {a b:ByteArray} {ctx:Int} (h:(sizedR a b ctx).2=0):sizedR a b ctx=(stS (linesB a) (linesB b),0)∧0≤ctx∧ctx≤20∧(linesB a).length≤2000∧(linesB b).length≤2000∧a.size≤200000∧b.size≤200000:=by
  unfold sizedR at h ⊢
  by_cases c1:200000 < a.size∨200000 < b.size∨2000 < (linesB a).length∨2000 < (linesB b).length
  · rw[if_pos c1] at h;cases h
  rw[if_neg c1] at h ⊢
  by_cases c2:ctx < 0∨20 < ctx
  · rw[if_pos c2] at h;cases h
  rw[if_neg c2]
  exact⟨rfl,by omega,by omega,by omega,by omega,by omega,by omega⟩
theorem sized_f (a b:ByteArray) (ctx:Int) (ha:a.size≤1000000000) (hb:b.size≤1000000000) (k:Nat) (hk:5000000≤k):yz_.f k a b ctx=some (sizedR a b ctx):=by
  obtain⟨k,rfl⟩:∃ q,k=q+1:=⟨k - 1,by omega⟩
  have ea:yK_.f a=some (linesB a):=by unfold yK_.f;rw[if_pos ha]
  have eb:yK_.f b=some (linesB b):=by unfold yK_.f;rw[if_pos hb]
  unfold yz_.f sizedR
  rw[ea,eb,Option.bind_some,Option.bind_some]
  have hT:yz_.j0 (k+1) ctx (linesB a) (linesB b) true=some ([],2):=by rw[yz_.j0,if_pos rfl]
  by_cases c1:200000 < a.size
  · rw[if_pos (show (a.size:Int) > 200000 by omega),if_pos (Or.inl c1),hT]
  rw[if_neg (show ¬ (a.size:Int) > 200000 by omega)]
  by_cases c2:200000 < b.size
  · rw[if_pos (show (b.size:Int) > 200000 by omega),if_pos (Or.inr (Or.inl c2)),hT]
  rw[if_neg (show ¬ (b.size:Int) > 200000 by omega)]
  by_cases c3:2000 < (linesB a).length
  · rw[if_pos (show ((linesB a).length:Int) > 2000 by omega),if_pos (Or.inr (Or.inr (Or.inl c3))),hT]
  rw[if_neg (show ¬ ((linesB a).length:Int) > 2000 by omega)]
  by_cases c4:2000 < (linesB b).length
  · rw[decide_eq_true (show ((linesB b).length:Int) > 2000 by omega),if_pos (Or.inr (Or.inr (Or.inr c4))),hT]
  rw[decide_eq_false (show ¬ ((linesB b).length:Int) > 2000 by omega),if_neg (by omega),yz_.j0,if_neg (by decide)]
  by_cases c5:ctx < 0
  · rw[if_pos c5,if_pos (Or.inl c5)]
  rw[if_neg c5]
  by_cases c6:20 < ctx
  · rw[if_pos c6,if_pos (Or.inr c6)]
  have hm:(linesB a).length * ((linesB b).length+2)≤2000 * 2002:=Nat.mul_le_mul (by omega) (by omega)
  rw[if_neg c6,if_neg (by omega),steps_f _ _ (by omega) (by omega) k (by omega),Option.bind_some]
end Go.Proofs.YthimblhfjfngiaaGreat.PText

namespace Go.Proofs.YthimblhfjfngiaaGreat.PText
open Go.RowKit Go.Lib Go.Proofs.YthimblhfjfngiaaGreatW.PrintWords Go.Proofs.YthimblhfjfngiaaGreatW.PrintLast Go.Proofs.YthimblhfjfngiaaGreatW.PrintMore
def ofE (e:Tx.Ed):S91:=⟨e.f,e.t,⟨e.x.toArray⟩⟩
theorem rdSt (st:List (UInt8 × List UInt8)) (i:Nat) (h:i < st.length):rd_T119 (st.map toSt) (i:Int)=toSt st[i]:=by
  rw[rd78_at _ i (by rw[List.length_map];exact h),List.getElem_map]
theorem rdSr (st:List (UInt8 × List UInt8)) (i:Nat) (h:i < st.length):rd_T95 (st.map toSr) (i:Int)=toSr st[i]:=by
  unfold rd_T95
  rw[Int.toNat_natCast,List.getD_eq_getElem?_getD,List.getElem?_eq_getElem (by rw[List.length_map];exact h)]
  show (st.map toSr)[i]'(by rw[List.length_map];exact h)=_
  rw[List.getElem_map]
theorem u8_is (x:UInt8) (n:Nat) (hn:n < 256):((x.toNat:Nat):Int)=(n:Int)↔x=UInt8.ofNat n:=by
  constructor
  · intro h
    apply UInt8.toNat_inj.1
    rw[UInt8.toNat_ofNat',Nat.mod_eq_of_lt (by omega)]
    omega
  · intro h
    rw[h,UInt8.toNat_ofNat',Nat.mod_eq_of_lt (by omega)]
theorem u8_32 (x:UInt8):((x.toNat:Nat):Int)=32↔x=32:=u8_is x 32 (by omega)
theorem u8_45 (x:UInt8):((x.toNat:Nat):Int)=45↔x=45:=u8_is x 45 (by omega)
theorem toSt0 (x:UInt8 × List UInt8):(toSt x).f0=((x.1.toNat:Nat):Int):=rfl
theorem mk_size (l:List UInt8):(⟨l.toArray⟩:ByteArray).size=l.length:=by show l.toArray.size=_;simp
theorem toSt1 (x:UInt8 × List UInt8):((toSt x).f1).size=x.2.length:=mk_size _
theorem mk_append (a b:List UInt8):(⟨a.toArray⟩:ByteArray)++⟨b.toArray⟩=⟨(a++b).toArray⟩:=by
  apply bL_ext;rw[bL_append];rfl
/-- a list that ends with an element -/
theorem last34 (D:List S91) (e:S91) (h:D.length≤1000000):wrap64 (((D++[e]).length:Int) - 1)=(D.length:Int):=by
  rw[List.length_append,List.length_singleton,w64 (by omega) (by omega)];omega
theorem get34 (D:List S91) (e:S91):rd_T91 (D++[e]) (D.length:Int)=e:=by
  unfold rd_T91
  rw[Int.toNat_natCast,List.getD_eq_getElem?_getD,List.getElem?_append_right (Nat.le_refl _),Nat.sub_self];rfl
theorem set34 (D:List S91) (e v:S91):(D++[e]).set (D.length:Int).toNat v=D++[v]:=by
  rw[Int.toNat_natCast,List.set_append_right _ _ (Nat.le_refl _),Nat.sub_self];rfl
/-- an edit that is open takes a step -/
theorem tEdit_step (k:Nat) (D:List S91) (e:Tx.Ed) (at_:Int) (st:List (UInt8 × List UInt8)) (i:Nat) (o:UInt8) (x:List UInt8) (hD:D.length≤1000000) (hb:e.x.length+x.length≤1000000000000) (W:Int) (hW:wrap64 (at_+(x.length:Int))=W) :
    (if 0≤wrap64 (((D++[ofE e]).length:Int) - 1) then if wrap64 (((D++[ofE e]).length:Int) - 1) < ((D++[ofE e]).length:Int) then
      if ((o.toNat:Nat):Int)=45 then yo_.l0 k ((D++[ofE e]).set (wrap64 (((D++[ofE e]).length:Int) - 1)).toNat ⟨(rd_T91 (D++[ofE e]) (wrap64 (((D++[ofE e]).length:Int) - 1))).f0,wrap64 (at_+(x.length:Int)),(rd_T91 (D++[ofE e]) (wrap64 (((D++[ofE e]).length:Int) - 1))).f2⟩) (wrap64 (at_+(x.length:Int))) true (st.map toSt) (st.length:Int) (wrap64 ((i:Int)+1))
      else if (rd_T91 (D++[ofE e]) (wrap64 (((D++[ofE e]).length:Int) - 1))).f2.size+x.length≤9223372036854775807 then yo_.l0 k ((D++[ofE e]).set (wrap64 (((D++[ofE e]).length:Int) - 1)).toNat ⟨(rd_T91 (D++[ofE e]) (wrap64 (((D++[ofE e]).length:Int) - 1))).f0,(rd_T91 (D++[ofE e]) (wrap64 (((D++[ofE e]).length:Int) - 1))).f1,(rd_T91 (D++[ofE e]) (wrap64 (((D++[ofE e]).length:Int) - 1))).f2++⟨x.toArray⟩⟩) at_ true (st.map toSt) (st.length:Int) (wrap64 ((i:Int)+1)) else none
    else none else none)=if o=45 then yo_.l0 k (D++[ofE ⟨e.f,W,e.x⟩]) W true (st.map toSt) (st.length:Int) (wrap64 ((i:Int)+1)) else yo_.l0 k (D++[ofE ⟨e.f,e.t,e.x++x⟩]) at_ true (st.map toSt) (st.length:Int) (wrap64 ((i:Int)+1)):=by
  have hs:(ofE e).f2.size=e.x.length:=mk_size _
  rw[last34 D _ hD,get34,set34,set34,hW,if_pos (by omega),if_pos (by rw[List.length_append,List.length_singleton];omega)]
  by_cases c:o=45
  · rw[if_pos ((u8_45 o).2 c),if_pos c];rfl
  rw[if_neg (fun q=>c ((u8_45 o).1 q)),if_neg c,if_pos (by rw[hs];omega)]
  have e3:(ofE e).f2++⟨x.toArray⟩=⟨(e.x++x).toArray⟩:=mk_append _ _
  rw[e3];rfl
theorem tEdits_l0 (st:List (UInt8 × List UInt8)) (hst:st.length≤100000) (hx:∀ x∈st,x.2.length≤1000000):∀ (n i k:Nat) (D:List S91) (c:Option Tx.Ed) (at_:Int),st.length - i=n→i≤st.length→n+1≤k→D.length+c.toList.length≤i→0≤at_→at_≤(i:Int) * 1000000→(∀ e∈c.toList,e.x.length≤i * 1000000) →
    yo_.l0 k (D++c.toList.map ofE) at_ c.isSome (st.map toSt) (st.length:Int) (i:Int)=some (D++(Tx.eg at_ c (st.drop i)).map ofE,0):=by
  intro n
  induction n with
  | zero =>
    intro i k D c at_ hn hi hk hD h0 h1 h2
    obtain⟨k,rfl⟩:∃ q,k=q+1:=⟨k - 1,by omega⟩
    rw[yo_.l0,if_neg (by omega),List.drop_of_length_le (by omega)]
    rfl
  | succ n ih =>
    intro i k D c at_ hn hi hk hD h0 h1 h2
    obtain⟨k,rfl⟩:∃ q,k=q+1:=⟨k - 1,by omega⟩
    have hlt:i < st.length:=by omega
    have hd:st.drop i=st[i] :: st.drop (i+1):=List.drop_eq_getElem_cons hlt
    have hxs:=hx st[i] (List.getElem_mem hlt)
    rw[hd,yo_.l0,if_pos (by omega),if_pos (by omega),if_pos (by rw[List.length_map];omega),rdSt st i hlt,toSt0,toSt1]
    rw[show (toSt st[i]).f1=⟨st[i].2.toArray⟩ from rfl]
    generalize st[i]=y at *
    obtain⟨o,x⟩:=y
    dsimp only
    have W:Aside0 (wrap64 (at_+(x.length:Int))=at_+(x.length:Int)):=⟨w64 (by omega) (by have:x.length≤1000000:=hxs;omega)⟩
    have hxl:x.length≤1000000:=hxs
    have N:Aside0 (wrap64 ((i:Int)+1)=((i+1:Nat):Int)):=⟨nx i (by omega)⟩
    by_cases c1:o=32
    · subst c1
      rw[if_pos (show (((32:UInt8).toNat:Nat):Int)=32 from rfl),Tx.y8b_]
      rw[W.out,N.out]
      have:=ih (i+1) k (D++c.toList.map ofE) none (at_+(x.length:Int)) (by omega) (by omega) (by omega) (by rw[List.length_append,List.length_map];simp;omega) (by omega) (by omega) (fun e h=>by cases h)
      simp only[Option.toList_none,List.map_nil,List.append_nil,Option.isSome_none] at this
      rw[this,List.map_append,← List.append_assoc]
    rw[if_neg (fun q=>c1 ((u8_32 o).1 q))]
    -- the edit that is open, or a new one
    have main:∀ (e:Tx.Ed) (D':List S91),D'.length+1≤i+1→e.x.length≤i * 1000000 →
        (if o=45 then yo_.l0 k (D'++[ofE ⟨e.f,at_+(x.length:Int),e.x⟩]) (at_+(x.length:Int)) true (st.map toSt) (st.length:Int) (wrap64 ((i:Int)+1)) else yo_.l0 k (D'++[ofE ⟨e.f,e.t,e.x++x⟩]) at_ true (st.map toSt) (st.length:Int) (wrap64 ((i:Int)+1))) =
        some (D'++(if o=45 then Tx.eg (at_+(x.length:Int)) (some ⟨e.f,at_+(x.length:Int),e.x⟩) (st.drop (i+1)) else Tx.eg at_ (some ⟨e.f,e.t,e.x++x⟩) (st.drop (i+1))).map ofE,0):=by
      intro e D' hD' he
      rw[N.out]
      by_cases c2:o=45
      · rw[if_pos c2,if_pos c2]
        exact ih (i+1) k D' (some ⟨e.f,at_+(x.length:Int),e.x⟩) (at_+(x.length:Int)) (by omega) (by omega) (by omega) (by simp;omega) (by omega) (by omega) (fun e' h=>by have h3:=List.mem_singleton.1 h;subst h3;exact Nat.le_trans he (Nat.mul_le_mul_right _ (by omega)))
      rw[if_neg c2,if_neg c2]
      exact ih (i+1) k D' (some ⟨e.f,e.t,e.x++x⟩) at_ (by omega) (by omega) (by omega) (by simp;omega) (by omega) (by omega) (fun e' h=>by have h3:=List.mem_singleton.1 h;subst h3;have h4:(e.x++x).length=e.x.length+x.length:=List.length_append;exact Nat.le_trans (Nat.le_of_eq h4) (by rw[Nat.add_mul];omega))
    have hE:∀ e:Tx.Ed,Tx.eg at_ c ((o,x) :: st.drop (i+1))=(if o=45 then Tx.eg (at_+(x.length:Int)) (some ⟨(c.getD ⟨at_,at_,[]⟩).f,at_+(x.length:Int),(c.getD ⟨at_,at_,[]⟩).x⟩) (st.drop (i+1)) else Tx.eg at_ (some ⟨(c.getD ⟨at_,at_,[]⟩).f,(c.getD ⟨at_,at_,[]⟩).t,(c.getD ⟨at_,at_,[]⟩).x++x⟩) (st.drop (i+1))):=fun _=>by
      by_cases c2:o=45
      · subst c2;rw[if_pos rfl,Tx.y9b_]
      rw[if_neg c2,Tx.yac_ at_ c o x _ c1 c2]
    rw[hE ⟨0,0,[]⟩]
    cases c with
    | some e =>
      have he:e.x.length≤i * 1000000:=h2 e (by simp)
      have hD':D.length+1≤i:=hD
      rw[if_pos (show (Option.isSome (some e))=true from rfl)]
      exact (tEdit_step k D e at_ st i o x (by omega) (by omega) _ W.out).trans (main e D (by omega) he)
    | none =>
      have hD':D.length≤i:=by simpa using hD
      rw[if_neg (show ¬ (Option.isSome (none:Option Tx.Ed))=true by decide),if_pos (by simp;omega),Option.bind_some]
      have e0:D++(none:Option Tx.Ed).toList.map ofE++[(⟨at_,at_,(⟨#[]⟩:ByteArray)⟩:S91)]=D++[ofE ⟨at_,at_,[]⟩]:=by simp [ofE]
      rw[e0]
      exact (tEdit_step k D ⟨at_,at_,[]⟩ at_ st i o x (by omega) (by simp;omega) _ W.out).trans (main ⟨at_,at_,[]⟩ D (by omega) (by simp))
end Go.Proofs.YthimblhfjfngiaaGreat.PText

