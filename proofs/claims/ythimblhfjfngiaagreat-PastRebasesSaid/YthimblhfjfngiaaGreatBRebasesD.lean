/- PastRebases holds: for all steps, every number and all results the statement answers true. Part 4 of 24. -/
import Derived.Test.YthimblhfjfngiaaGreatBRebasesC
import Derived.Test.YthimblhfjfngiaaGreatProg
namespace Go.Proofs.YthimblhfjfngiaaGreat
def bA (n m:Nat):Array Bool:=((List.range n).map fun i=>m.testBit i).toArray
theorem q1_ {α:Type} {i:Nat} {l:List α} {x:α}:l.toArray.setIfInBounds i x=(l.set i x).toArray:=List.setIfInBounds_toArray ..
theorem q2_ {α:Type} {l:List α} {x y:α}:(x :: l).set 0 y=y :: l:=List.set_cons_zero
theorem q3_ {α:Type} {l:List α} {n:Nat} {x y:α}:(x :: l).set (n+1) y=x :: l.set n y:=List.set_cons_succ
end Go.Proofs.YthimblhfjfngiaaGreat
namespace Go.Proofs.YthimblhfjfngiaaGreatW.PrintLast
open Go.Proofs.YthimblhfjfngiaaGreat (bA q1_ q2_ q3_)
open Go.Proofs.YthimblhfjfngiaaGreatW.PrintWords (Aside0)
open Go.RowKit
section
variable {P : Program} {ops : Array Oper} {Q : Exit → Act → World → Prop} {md : Region.Mode} {S : World → Prop} {ds : List Nat} {T : Bool × List (List Nat × List Nat)} {B : List Nat} {oi : Oper} {v : Value} {fuel : Nat} {l : Array Bool} {a a' : Act} {w : World}
theorem pu_ (i nt:Nat) (l':Array Bool) (hT:Aside0 (rtab md ops=T)) (h:wpAnyLast P md ops Q S ds fuel l' a' w)
  (hi:ops[i]?=some oi:=by exact rfl) (hN:oi.dst=some nt:=by exact rfl) (hc:anyT T l.toList l'.toList i=true:=by kernel_rfl) (hQ:∀ c a w,Q (.panic c) (a.put oi.dst v) w→Q (.panic c) a w:=by exact fun _ _ _ h=>h)
  (hw:Region.wanted oi (yielded ops a.tmps)=true:=by rfl) (hv:∀ w,(execOp a.eval oi).run P w=.ok (.value v) w:=by (intro w';go_simp;with_reducible rfl))
  (ha:a.put (some nt) v=a':=by (simp only[Act.put,q1_,q2_,q3_,i64_w,i32_w];rfl)):wpAnyLast P md ops Q S ds (fuel+1) l a w :=
 pure_ l' hi hN (any_of hT.out hc) hQ (Or.inl ⟨hw,hv⟩) ha h
theorem pz_ (i nt:Nat) (l':Array Bool) (hT:Aside0 (rtab md ops=T)) (h:wpAnyLast P md ops Q S ds fuel l' a' w)
  (hi:ops[i]?=some oi:=by exact rfl) (hN:oi.dst=some nt:=by exact rfl) (hc:anyT T l.toList l'.toList i=true:=by kernel_rfl) (hQ:∀ c a w,Q (.panic c) (a.put oi.dst undef) w→Q (.panic c) a w:=by exact fun _ _ _ h=>h)
  (hw:Region.wanted oi (yielded ops a.tmps)=false:=by rfl)
  (ha:a.put (some nt) undef=a':=by (simp only[Act.put,q1_,q2_,q3_,i64_w,i32_w];rfl)):wpAnyLast P md ops Q S ds (fuel+1) l a w :=
 pure_ l' hi hN (any_of hT.out hc) hQ (Or.inr ⟨hw,rfl⟩) ha h
theorem tk_ (i nt:Nat) (l':Array Bool) (hi:ops[i]?=some oi) (hT:Aside0 (rtab md ops=T)) (hB:Aside0 (waitsOk T.2 B=true)) (hH:S w) (hv:∀ w',S w'→(execOp a.eval oi).run P w'=.ok (.value v) w') (h:wpAnyLast P md ops Q S ds fuel l' a' w)
  (hN:oi.dst=some nt:=by exact rfl) (hc:takeW T B ds l.toList l'.toList i=true:=by kernel_rfl) (hQ:∀ c a w,Q (.panic c) (a.put oi.dst v) w→Q (.panic c) a w:=by exact fun _ _ _ h=>h)
  (hw:Region.wanted oi (yielded ops a.tmps)=true:=by rfl)
  (ha:a.put (some nt) v=a':=by (simp only[Act.put,q1_,q2_,q3_,i64_w,i32_w];rfl)):wpAnyLast P md ops Q S ds (fuel+1) l a w :=
 take_ l' hi hN (y4b_ hT.out hB.out hc) hQ (Or.inl ⟨hw,hv⟩) hH ha h
end
end Go.Proofs.YthimblhfjfngiaaGreatW.PrintLast

namespace Go.Proofs.YthimblhfjfngiaaGreat.PText
open Go.RowKit Go.Proofs.YthimblhfjfngiaaGreatW.PrintWords Go.Proofs.YthimblhfjfngiaaGreatW.PrintLast Go.Proofs.YthimblhfjfngiaaGreatW.PrintMore
attribute [local go_sem] yT_ yU_ y5_ y6_ yI_ yJ_ yV_ yW_   -- for this text's walks alone
set_option linter.unusedVariables false
set_option linter.unusedSimpArgs false



def errW:Option Int→Value
 | none=>.nilIface
 | some c=>.iface 0 (.int .i64 c)
theorem yr_:errW none=.nilIface:=rfl
theorem ys_ (c:Int):errW (some c)=.iface 0 (.int .i64 c):=rfl

theorem info3:(Tryz.prog.info? 3).map (fun i=>(i.zero,i.size,i.bytes))=some (some (.int .i64 0),1,8):=by kernel_rfl
theorem info5:(Tryz.prog.info? 5).map (fun i=>(i.zero,i.size,i.bytes))=some (some (.int .u8 0),1,1):=by kernel_rfl
theorem info9:(Tryz.prog.info? 9).map (fun i=>(i.zero,i.size,i.bytes))=some (some (.string ⟨#[]⟩),1,16):=by kernel_rfl
theorem info28:(Tryz.prog.info? 28).map (fun i=>(i.zero,i.size,i.bytes))=some (some (.slice none 0 0),1,24):=by kernel_rfl
theorem info41:(Tryz.prog.info? 41).map (fun i=>(i.zero,i.size,i.bytes))=some (some (.agg #[(.string ⟨#[]⟩),(.string ⟨#[]⟩)]),2,32):=by kernel_rfl
theorem info91:(Tryz.prog.info? 91).map (fun i=>(i.zero,i.size,i.bytes))=some (some (.agg #[(.int .i64 0),(.int .i64 0),(.string ⟨#[]⟩)]),3,32):=by kernel_rfl
theorem info95:(Tryz.prog.info? 95).map (fun i=>(i.zero,i.size,i.bytes))=some (some (.agg #[(.int .u8 0),(.string ⟨#[]⟩)]),2,24):=by kernel_rfl
theorem info119:(Tryz.prog.info? 119).map (fun i=>(i.zero,i.size,i.bytes))=some (some (.agg #[(.int .u8 0),(.string ⟨#[]⟩)]),2,24):=by kernel_rfl
theorem info138:(Tryz.prog.info? 138).map (fun i=>(i.zero,i.size,i.bytes))=some (some (.agg #[(.int .i64 0),(.int .i64 0)]),2,16):=by kernel_rfl
-- the values' own types
structure S41 where
 f0:ByteArray
 f1:ByteArray
def z41:S41:=⟨(⟨#[]⟩:ByteArray),(⟨#[]⟩:ByteArray)⟩
def k41:Kd S41:=Kd.iso (Kd.pair Kd.string Kd.string) (fun x:S41=>(x.f0,x.f1))
theorem k41_open {w:World} {x:S41} {cs:List Value} (h:k41.K w x cs):cs=[.string x.f0,.string x.f1]:=by
 obtain⟨_,_,rfl,rfl,rfl⟩:=h
 exact rfl
theorem yYb_ {w:World} {base:Nat} {ok:Nat→Prop} {x:S41} {cs:List Value} (h:k41.M w base ok x cs):cs=[.string x.f0,.string x.f1]:=by
 obtain⟨_,_,rfl,rfl,rfl⟩:=h
 exact rfl
theorem k41_mk (w:World) (x:S41)  : k41.K w x [.string x.f0,.string x.f1]:=⟨[.string x.f0],[.string x.f1],rfl,rfl,rfl⟩
theorem k41_mkM (w:World) (base:Nat) (ok:Nat→Prop) (x:S41)  : k41.M w base ok x [.string x.f0,.string x.f1]:=⟨[.string x.f0],[.string x.f1],rfl,rfl,rfl⟩
def rd_T41 (xs:List S41) (i:Int):S41:=xs.getD i.toNat z41
theorem at_T41 {w:World} {A:Option Addr} {n:Nat} {xs:List S41} (h:Kd.C k41 w A n xs) (i:Int) (h0:0≤i) (h1:i < n):∃ ad , A=some ad∧w.cell? (ad.add (i.toNat * 2))=some (.string (rd_T41 xs i).f0)∧w.cell? ⟨(ad.add (i.toNat * 2)).block,(ad.add (i.toNat * 2)).off+1,none⟩=some (.string (rd_T41 xs i).f1):=by
 obtain⟨ad,c,e,_,hK,hc0⟩:=Kd.C_get h z41 i h0 h1
 have hc:∀ j u,c[j]?=some u→w.cell? (ad.add (i.toNat * 2+j))=some u:=hc0
 obtain rfl:=k41_open hK
 exact⟨ad,e,hc 0 _ rfl,by rw[← yXb_ _ _ 1 (by omega)];exact hc 1 _ rfl⟩

def rd_L2 (xs:List (List S41)) (i:Int):(List S41):=xs.getD i.toNat ([]:List S41)
theorem at_L2 {w:World} {A:Option Addr} {n:Nat} {xs:List (List S41)} (h:Kd.C (Kd.slice 41 k41) w A n xs) (i:Int) (h0:0≤i) (h1:i < n):∃ ad A0 c0,A=some ad∧w.cell? (ad.add i.toNat)=some (.slice A0 (rd_L2 xs i).length c0)∧(rd_L2 xs i).length≤c0∧k41.C w A0 (rd_L2 xs i).length (rd_L2 xs i):=by
 obtain⟨ad,c,e,_,hK,hc0⟩:=Kd.C_get h ([]:List S41) i h0 h1
 have hc:∀ j u,c[j]?=some u→w.cell? (ad.add (i.toNat * 1+j))=some u:=hc0
 obtain⟨A0,c0,rfl,l0,g0⟩:=hK
 exact⟨ad,A0,c0,e,by have hq:=hc 0 _ rfl;rwa [Nat.mul_one,Nat.add_zero] at hq,l0,g0⟩

structure S39 where
 f0:ByteArray
 f1:(List S41)
def z39:S39:=⟨(⟨#[]⟩:ByteArray),([]:List S41)⟩
def k39:Kd S39:=Kd.iso (Kd.pair Kd.string (Kd.slice 41 k41)) (fun x:S39=>(x.f0,x.f1))
theorem k39_open {w:World} {x:S39} {cs:List Value} (h:k39.K w x cs):∃ A1 c1,cs=[.string x.f0,.slice A1 x.f1.length c1]∧x.f1.length≤c1∧k41.C w A1 x.f1.length x.f1:=by
 obtain⟨_,_,rfl,rfl,⟨A1,c1,rfl,l1,g1⟩⟩:=h
 exact⟨A1,c1,rfl,l1,g1⟩
theorem k39_mk (w:World) (x:S39) {A1:Option Addr} {c1:Nat} (l1:x.f1.length≤c1) (g1:k41.C w A1 x.f1.length x.f1):k39.K w x [.string x.f0,.slice A1 x.f1.length c1]:=⟨[.string x.f0],[.slice A1 x.f1.length c1],rfl,rfl,⟨A1,c1,rfl,l1,g1⟩⟩
def rd_T39 (xs:List S39) (i:Int):S39:=xs.getD i.toNat z39
theorem at_T39 {w:World} {A:Option Addr} {n:Nat} {xs:List S39} (h:Kd.C k39 w A n xs) (i:Int) (h0:0≤i) (h1:i < n):∃ ad A1 c1,A=some ad∧w.cell? (ad.add (i.toNat * 2))=some (.string (rd_T39 xs i).f0)∧w.cell? ⟨(ad.add (i.toNat * 2)).block,(ad.add (i.toNat * 2)).off+1,none⟩=some (.slice A1 (rd_T39 xs i).f1.length c1)∧(rd_T39 xs i).f1.length≤c1∧k41.C w A1 (rd_T39 xs i).f1.length (rd_T39 xs i).f1:=by
 obtain⟨ad,c,e,_,hK,hc0⟩:=Kd.C_get h z39 i h0 h1
 have hc:∀ j u,c[j]?=some u→w.cell? (ad.add (i.toNat * 2+j))=some u:=hc0
 obtain⟨A1,c1,rfl,l1,g1⟩:=k39_open hK
 exact⟨ad,A1,c1,e,hc 0 _ rfl,by rw[← yXb_ _ _ 1 (by omega)];exact hc 1 _ rfl,l1,g1⟩

structure S119 where
 f0:Int
 f1:ByteArray
def z119:S119:=⟨(0:Int),(⟨#[]⟩:ByteArray)⟩
def k119:Kd S119:=Kd.iso (Kd.pair (Kd.int .u8) Kd.string) (fun x:S119=>(x.f0,x.f1))
theorem k119_open {w:World} {x:S119} {cs:List Value} (h:k119.K w x cs):cs=[.int .u8 x.f0,.string x.f1]:=by
 obtain⟨_,_,rfl,rfl,rfl⟩:=h
 exact rfl
theorem k119_mkM (w:World) (base:Nat) (ok:Nat→Prop) (x:S119)  : k119.M w base ok x [.int .u8 x.f0,.string x.f1]:=⟨[.int .u8 x.f0],[.string x.f1],rfl,rfl,rfl⟩
def rd_T119 (xs:List S119) (i:Int):S119:=xs.getD i.toNat z119
theorem at_T119 {w:World} {A:Option Addr} {n:Nat} {xs:List S119} (h:Kd.C k119 w A n xs) (i:Int) (h0:0≤i) (h1:i < n):∃ ad , A=some ad∧w.cell? (ad.add (i.toNat * 2))=some (.int .u8 (rd_T119 xs i).f0)∧w.cell? ⟨(ad.add (i.toNat * 2)).block,(ad.add (i.toNat * 2)).off+1,none⟩=some (.string (rd_T119 xs i).f1):=by
 obtain⟨ad,c,e,_,hK,hc0⟩:=Kd.C_get h z119 i h0 h1
 have hc:∀ j u,c[j]?=some u→w.cell? (ad.add (i.toNat * 2+j))=some u:=hc0
 obtain rfl:=k119_open hK
 exact⟨ad,e,hc 0 _ rfl,by rw[← yXb_ _ _ 1 (by omega)];exact hc 1 _ rfl⟩

structure S91 where
 f0:Int
 f1:Int
 f2:ByteArray
def z91:S91:=⟨(0:Int),(0:Int),(⟨#[]⟩:ByteArray)⟩
def k91:Kd S91:=Kd.iso (Kd.pair (Kd.int .i64) (Kd.pair (Kd.int .i64) Kd.string)) (fun x:S91=>(x.f0,x.f1,x.f2))
theorem k91_open {w:World} {x:S91} {cs:List Value} (h:k91.K w x cs):cs=[.int .i64 x.f0,.int .i64 x.f1,.string x.f2]:=by
 obtain⟨_,_,rfl,rfl,⟨_,_,rfl,rfl,rfl⟩⟩:=h
 exact rfl
theorem yrb_ {w:World} {base:Nat} {ok:Nat→Prop} {x:S91} {cs:List Value} (h:k91.M w base ok x cs):cs=[.int .i64 x.f0,.int .i64 x.f1,.string x.f2]:=by
 obtain⟨_,_,rfl,rfl,⟨_,_,rfl,rfl,rfl⟩⟩:=h
 exact rfl
theorem yQb_ (w:World) (base:Nat) (ok:Nat→Prop) (x:S91)  : k91.M w base ok x [.int .i64 x.f0,.int .i64 x.f1,.string x.f2]:=⟨[.int .i64 x.f0],[.int .i64 x.f1,.string x.f2],rfl,rfl,⟨[.int .i64 x.f1],[.string x.f2],rfl,rfl,rfl⟩⟩
def rd_T91 (xs:List S91) (i:Int):S91:=xs.getD i.toNat z91
theorem at_T91 {w:World} {A:Option Addr} {n:Nat} {xs:List S91} (h:Kd.C k91 w A n xs) (i:Int) (h0:0≤i) (h1:i < n):∃ ad , A=some ad∧w.cell? (ad.add (i.toNat * 3))=some (.int .i64 (rd_T91 xs i).f0)∧w.cell? ⟨(ad.add (i.toNat * 3)).block,(ad.add (i.toNat * 3)).off+1,none⟩=some (.int .i64 (rd_T91 xs i).f1)∧w.cell? ⟨(ad.add (i.toNat * 3)).block,(ad.add (i.toNat * 3)).off+2,none⟩=some (.string (rd_T91 xs i).f2):=by
 obtain⟨ad,c,e,_,hK,hc0⟩:=Kd.C_get h z91 i h0 h1
 have hc:∀ j u,c[j]?=some u→w.cell? (ad.add (i.toNat * 3+j))=some u:=hc0
 obtain rfl:=k91_open hK
 exact⟨ad,e,hc 0 _ rfl,by rw[← yXb_ _ _ 1 (by omega)];exact hc 1 _ rfl,by rw[← yXb_ _ _ 2 (by omega)];exact hc 2 _ rfl⟩

def rd_L8 (xs:List (List Int)) (i:Int):(List Int):=xs.getD i.toNat ([]:List Int)
theorem at_L8 {w:World} {A:Option Addr} {n:Nat} {xs:List (List Int)} (h:Kd.C (Kd.slice 3 (Kd.int .i64)) w A n xs) (i:Int) (h0:0≤i) (h1:i < n):∃ ad A0 c0,A=some ad∧w.cell? (ad.add i.toNat)=some (.slice A0 (rd_L8 xs i).length c0)∧(rd_L8 xs i).length≤c0∧(Kd.int .i64).C w A0 (rd_L8 xs i).length (rd_L8 xs i):=by
 obtain⟨ad,c,e,_,hK,hc0⟩:=Kd.C_get h ([]:List Int) i h0 h1
 have hc:∀ j u,c[j]?=some u→w.cell? (ad.add (i.toNat * 1+j))=some u:=hc0
 obtain⟨A0,c0,rfl,l0,g0⟩:=hK
 exact⟨ad,A0,c0,e,by have hq:=hc 0 _ rfl;rwa [Nat.mul_one,Nat.add_zero] at hq,l0,g0⟩

structure S95 where
 f0:Int
 f1:ByteArray
def z95:S95:=⟨(0:Int),(⟨#[]⟩:ByteArray)⟩
def k95:Kd S95:=Kd.iso (Kd.pair (Kd.int .u8) Kd.string) (fun x:S95=>(x.f0,x.f1))
theorem k95_open {w:World} {x:S95} {cs:List Value} (h:k95.K w x cs):cs=[.int .u8 x.f0,.string x.f1]:=by
 obtain⟨_,_,rfl,rfl,rfl⟩:=h
 exact rfl
theorem k95_mkM (w:World) (base:Nat) (ok:Nat→Prop) (x:S95)  : k95.M w base ok x [.int .u8 x.f0,.string x.f1]:=⟨[.int .u8 x.f0],[.string x.f1],rfl,rfl,rfl⟩
def rd_T95 (xs:List S95) (i:Int):S95:=xs.getD i.toNat z95
theorem at_T95 {w:World} {A:Option Addr} {n:Nat} {xs:List S95} (h:Kd.C k95 w A n xs) (i:Int) (h0:0≤i) (h1:i < n):∃ ad , A=some ad∧w.cell? (ad.add (i.toNat * 2))=some (.int .u8 (rd_T95 xs i).f0)∧w.cell? ⟨(ad.add (i.toNat * 2)).block,(ad.add (i.toNat * 2)).off+1,none⟩=some (.string (rd_T95 xs i).f1):=by
 obtain⟨ad,c,e,_,hK,hc0⟩:=Kd.C_get h z95 i h0 h1
 have hc:∀ j u,c[j]?=some u→w.cell? (ad.add (i.toNat * 2+j))=some u:=hc0
 obtain rfl:=k95_open hK
 exact⟨ad,e,hc 0 _ rfl,by rw[← yXb_ _ _ 1 (by omega)];exact hc 1 _ rfl⟩

structure S138 where
 f0:Int
 f1:Int
def k138:Kd S138:=Kd.iso (Kd.pair (Kd.int .i64) (Kd.int .i64)) (fun x:S138=>(x.f0,x.f1))
theorem k138_mkM (w:World) (base:Nat) (ok:Nat→Prop) (x:S138)  : k138.M w base ok x [.int .i64 x.f0,.int .i64 x.f1]:=⟨[.int .i64 x.f0],[.int .i64 x.f1],rfl,rfl,rfl⟩
def IsS58 (w0 W:World) (g:Nat) (f0:List ByteArray) (f1:List (List (S41))):Prop:=∃ A0 c0,∃ A1 c1,W.heap[g]?=some (.cells #[.slice A0 f0.length c0,.slice A1 f1.length c1] 58 (0,0))∧True∧Kd.C Kd.string w0 A0 f0.length f0∧Kd.C (Kd.slice 41 k41) w0 A1 f1.length f1
theorem IsS58.grown {w0 W:World} {g:Nat} {f0:List ByteArray} {f1:List (List (S41))} {W1:World} {row:Option Nat} (h:IsS58 w0 W g f0 f1) (hw:W.grownBy W1 row) (hne:some g≠row):IsS58 w0 W1 g f0 f1:=by
 obtain⟨A0,c0,A1,c1,hb,hg,hr0,hr1⟩:=h
 exact⟨A0,c0,A1,c1,yCb_ hb hw hne,hg,hr0,hr1⟩
theorem IsS58.kept {w0 W:World} {g:Nat} {f0:List ByteArray} {f1:List (List (S41))} {W1:World} {S:Nat→Prop} (h:IsS58 w0 W g f0 f1) (hk:Kept W W1 S) (hne:¬ S g):IsS58 w0 W1 g f0 f1:=by
 obtain⟨A0,c0,A1,c1,hb,hg,hr0,hr1⟩:=h
 exact⟨A0,c0,A1,c1,blk_kept hb hk hne,hg,hr0,hr1⟩
theorem IsS58.below {w0 W:World} {g:Nat} {f0:List ByteArray} {f1:List (List (S41))} {W1:World} (h:IsS58 w0 W g f0 f1) (hw:Below W.heap.size W W1):IsS58 w0 W1 g f0 f1:=h.grown (grown_of_below hw none) (by simp)
theorem IsS58.alloc {w0 W:World} {g:Nat} {f0:List ByteArray} {f1:List (List (S41))} (h:IsS58 w0 W g f0 f1) (o:Obj):IsS58 w0 (W.alloc o) g f0 f1:=h.below (yc_ (Below.refl _ _) o)
theorem IsS58.drewN {w0 W:World} {g:Nat} {f0:List ByteArray} {f1:List (List (S41))} (h:IsS58 w0 W g f0 f1) (m:Nat):IsS58 w0 (W.drewN m) g f0 f1:=h
theorem IsS58.drew {w0 W:World} {g:Nat} {f0:List ByteArray} {f1:List (List (S41))} (h:IsS58 w0 W g f0 f1):IsS58 w0 W.drew g f0 f1:=h
theorem IsS58.at_ {w0 W:World} {g:Nat} {f0:List ByteArray} {f1:List (List (S41))} {w':World} {m:Nat} (hq:W.drewN m=w') (h:IsS58 w0 W g f0 f1):IsS58 w0 w' g f0 f1:=by subst hq;exact IsS58.drewN h m
theorem IsS58.apart {w0 W:World} {g:Nat} {f0:List ByteArray} {f1:List (List (S41))} {α:Type} {d:Kd α} {e:Nat} {base:Nat} {ok:Nat→Prop} {v:Value} {xs:List α} (h:IsS58 w0 W g f0 f1) (ho:d.R e W base ok v xs) (ht:∀ q,q∈e :: d.E→q≠58):d.R e W base (fun k=>ok k∧k≠g) v xs:=by
 obtain⟨A0,c0,A1,c1,hb,hg,hr0,hr1⟩:=h
 exact Kd.yJb_ ho hb ht
theorem IsS58.own_ne {w0 W:World} {g:Nat} {f0:List ByteArray} {f1:List (List (S41))} {α:Type} {d:Kd α} {e:Nat} {base:Nat} {ok:Nat→Prop} {v:Value} {xs:List α} (h:IsS58 w0 W g f0 f1) (ho:d.R e W base ok v xs) (ht:e≠58):some g≠v.ownBlock:=by
 obtain⟨A0,c0,A1,c1,hb,hg,hr0,hr1⟩:=h
 exact Kd.R_ne ho hb ht
theorem IsS58.lt {w0 W:World} {g:Nat} {f0:List ByteArray} {f1:List (List (S41))} (h:IsS58 w0 W g f0 f1):g < W.heap.size:=by
 obtain⟨A0,c0,A1,c1,hb,hg,hr0,hr1⟩:=h
 exact blk_lt hb
theorem IsS58.far {w0 W:World} {g:Nat} {f0:List ByteArray} {f1:List (List (S41))} {p:Addr} (h:IsS58 w0 W g f0 f1) (hne:g≠p.block) (u:Value):IsS58 w0 (W.setCell p u) g f0 f1:=by
 obtain⟨A0,c0,A1,c1,hb,hg,hr0,hr1⟩:=h
 exact⟨A0,c0,A1,c1,blk_far hb hne u,hg,hr0,hr1⟩
theorem cellS58_1 {W:World} {g:Nat} {A0:Option Addr} {c0:Nat} {A1:Option Addr} {c1:Nat} {f0:List ByteArray} {f1:List (List (S41))} (h:W.heap[g]?=some (.cells #[.slice A0 f0.length c0,.slice A1 f1.length c1] 58 (0,0))):W.cell? ⟨g,1,none⟩=some (.slice A1 f1.length c1):=(yl_ h 1).trans rfl
theorem IsS58.new (w0 W:World) (A0:Option Addr) (c0:Nat) (A1:Option Addr) (c1:Nat) (f0:List ByteArray) (f1:List (List (S41))) (hB:Below w0.heap.size w0 W) (hr0:Kd.C Kd.string w0 A0 f0.length f0) (hr1:Kd.C (Kd.slice 41 k41) w0 A1 f1.length f1):IsS58 w0 (W.alloc (.cells #[.slice A0 f0.length c0,.slice A1 f1.length c1] 58)) W.heap.size f0 f1:=⟨A0,c0,A1,c1,by simpa using heap_alloc_new W _,trivial,hr0,hr1⟩

end Go.Proofs.YthimblhfjfngiaaGreat.PText

