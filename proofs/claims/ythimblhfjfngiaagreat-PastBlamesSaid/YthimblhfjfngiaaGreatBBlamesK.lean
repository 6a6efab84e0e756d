/- PastBlames holds: for all steps, every file and every line the statement answers true. Part 11 of 21. -/
import Derived.Test.YthimblhfjfngiaaGreatBBlamesJ
import Derived.Lib.Strings
namespace Go.Proofs.YthimblhfjfngiaaGreat.PText
open Go.RowKit Go.Lib Go.Proofs.YthimblhfjfngiaaGreatW.PrintWords Go.Proofs.YthimblhfjfngiaaGreatW.PrintLast Go.Proofs.YthimblhfjfngiaaGreatW.PrintMore
theorem w64 {x:Int} (h0:-9223372036854775808≤x) (h1:x≤9223372036854775807):wrap64 x=x:=by unfold wrap64;omega
theorem nx (i:Nat) (h:i≤1000000):wrap64 ((i:Int)+1)=((i+1:Nat):Int):=by rw[w64 (by omega) (by omega)];omega
theorem mx_max (a b:Int):mx a b=max a b:=by
  unfold mx;split <;> omega
theorem rdB (l:List ByteArray) (i:Nat) (h:i < l.length):rdOf ByteArray.empty l (i:Int)=l[i]:=by
  unfold rdOf
  rw[Int.toNat_natCast,List.getD_eq_getElem?_getD,List.getElem?_eq_getElem h];rfl
theorem rdI (x:List Int) (i:Nat) (h:i < x.length):rd x (i:Int)=x[i]:=by
  unfold rd
  rw[Int.toNat_natCast,List.getD_eq_getElem?_getD,List.getElem?_eq_getElem h];rfl
def bL (x:ByteArray):List UInt8:=x.data.toList
theorem bL_eta (x:ByteArray):(⟨(bL x).toArray⟩:ByteArray)=x:=by cases x;simp [bL]
theorem bL_mk (l:List UInt8):bL ⟨l.toArray⟩=l:=rfl
theorem bL_inj {x y:ByteArray}:x.toList=y.toList↔bL x=bL y:=by rw[Lib.toList_data,Lib.toList_data];exact Iff.rfl
theorem yXb_ (x:ByteArray):x.size=(bL x).length:=by unfold bL;rw[Array.length_toList];rfl
theorem bL_ext {x y:ByteArray} (h:bL x=bL y):x=y:=by rw[← bL_eta x,← bL_eta y,h]
theorem bL_append (x y:ByteArray):bL (x++y)=bL x++bL y:=by unfold bL;rw[ByteArray.data_append,Array.toList_append]
end Go.Proofs.YthimblhfjfngiaaGreat.PText

