/- PastRebases holds: for all steps, every number and all results the statement answers true. Part 12 of 24. -/
import Derived.Test.YthimblhfjfngiaaGreatBRebasesK
namespace Go.Proofs.YthimblhfjfngiaaGreat.PText
open Go.RowKit Go.Lib Go.Proofs.YthimblhfjfngiaaGreatW.PrintWords Go.Proofs.YthimblhfjfngiaaGreatW.PrintLast Go.Proofs.YthimblhfjfngiaaGreatW.PrintMore
def toE (x:S91):Tx.Ed:=⟨x.f0,x.f1,x.f2.toList⟩
theorem toE_inj {x y:S91} (h:toE x=toE y):x=y:=by
  have h0:=congrArg Tx.Ed.f h
  have h1:=congrArg Tx.Ed.t h
  have h2:=congrArg Tx.Ed.x h
  refine S91.ext' h0 h1 ?_
  simp only[toE] at h2
  rw[Lib.toList_data,Lib.toList_data] at h2
  exact ByteArray.ext (Array.toList_inj.1 h2)
def eltS (x y:S91):Bool:=Tx.elt (toE x) (toE y)
theorem y3_:Tx.Lin eltS where
  irr _:=Tx.elt_lin.irr _
  tr:=fun h1 h2=>Tx.elt_lin.tr h1 h2
  tri:=fun h1 h2=>toE_inj (Tx.elt_lin.tri h1 h2)
def cI (a b:Int):Int:=if a < b then -1 else if b < a then 1 else 0
def cS (a b:List UInt8):Int:=if a < b then -1 else if b < a then 1 else 0
def cfE (x y:S91):Int:=if cI x.f0 y.f0≠0 then cI x.f0 y.f0 else if cI x.f1 y.f1≠0 then cI x.f1 y.f1 else cS x.f2.toList y.f2.toList
theorem cmpI_f (a b:Int):cmp_Compare_int.f a b=some (cI a b):=by
  unfold cmp_Compare_int.f cmp_isNaN_int.f cI
  simp only[bne_self_eq_false,Option.bind_some,Bool.false_eq_true,if_false]
  by_cases h:a < b
  · rw[if_pos h,if_pos h]
  rw[if_neg h,if_neg h]
  by_cases h':b < a
  rotate_left
  · rw[if_neg h',if_neg h']
  rw[if_pos h',if_pos h']
theorem cmpS_f (a b:ByteArray):yX_.f a b=some (cS a.toList b.toList):=by
  unfold yX_.f cmp_isNaN_string.f cS
  simp only[bne_self_eq_false,Option.bind_some,Bool.false_eq_true,if_false,bl_lt,decide_eq_true_eq]
  by_cases h:a.toList < b.toList
  · rw[if_pos h,if_pos h]
  rw[if_neg h,if_neg h]
  by_cases h':b.toList < a.toList
  rotate_left
  · rw[if_neg h',if_neg h']
  rw[if_pos h',if_pos h']
theorem or_f (a b c:Int):yZ_.f 8 [a,b,c]=some (if a≠0 then a else if b≠0 then b else c):=by
  have w1:wrap64 1=1:=by unfold wrap64;omega
  have w2:wrap64 2=2:=by unfold wrap64;omega
  have w3:wrap64 3=3:=by unfold wrap64;omega
  unfold yZ_.f
  by_cases ha:a=0
  rotate_left
  · simp [yZ_.l0,rd,ha]
  by_cases hb:b=0
  rotate_left
  · simp [yZ_.l0,rd,ha,hb,w1]
  by_cases hc:c=0
  rotate_left
  · simp [yZ_.l0,rd,ha,hb,hc,w1,w2]
  simp [yZ_.l0,rd,ha,hb,hc,w1,w2,w3]
theorem order_f (x y:S91):ygb_.f 8 x.f0 x.f1 x.f2 y.f0 y.f1 y.f2=some (cfE x y):=by
  unfold ygb_.f
  rw[cmpI_f,Option.bind_some,cmpI_f,Option.bind_some,cmpS_f,Option.bind_some,or_f]
  rfl
theorem ltOf_cfE (x y:S91):decide (cfE x y < 0)=eltS x y:=by
  rw[Bool.eq_iff_iff,decide_eq_true_eq]
  unfold eltS
  rw[Tx.elt_iff]
  unfold cfE cI cS toE
  by_cases h0:x.f0 < y.f0
  · rw[if_pos h0];simp [h0]
  rw[if_neg h0]
  by_cases h1:y.f0 < x.f0
  · rw[if_pos h1];simp;omega
  have e0:x.f0=y.f0:=by omega
  rw[if_neg h1]
  by_cases h2:x.f1 < y.f1
  · rw[if_pos h2];simp [e0,h2]
  rw[if_neg h2]
  by_cases h3:y.f1 < x.f1
  · rw[if_pos h3];simp [e0];omega
  have e1:x.f1=y.f1:=by omega
  rw[if_neg h3]
  by_cases h4:x.f2.toList < y.f2.toList
  · rw[if_pos h4];simp [e0,e1,h4]
  rw[if_neg h4]
  by_cases h5:y.f2.toList < x.f2.toList
  rotate_left
  · rw[if_neg h5];simp [e0,e1,h4]
  rw[if_pos h5];simp [e0,e1,h4]
end Go.Proofs.YthimblhfjfngiaaGreat.PText

