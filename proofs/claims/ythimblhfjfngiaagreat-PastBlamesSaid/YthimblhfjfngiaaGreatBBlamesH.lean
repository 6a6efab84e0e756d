/- PastBlames holds: for all steps, every file and every line the statement answers true. Part 8 of 21. -/
import Derived.Test.YthimblhfjfngiaaGreatBBlamesG
namespace Go.Proofs.YthimblhfjfngiaaGreat.PText
open Go.RowKit Go.Lib Go.Proofs.YthimblhfjfngiaaGreatW.PrintWords Go.Proofs.YthimblhfjfngiaaGreatW.PrintLast Go.Proofs.YthimblhfjfngiaaGreatW.PrintMore
set_option linter.unusedVariables false
set_option linter.unusedSimpArgs false
theorem below_ahead (B:Nat) (w:World) (n:Nat):Below B w (Sort.ahead w n):=⟨rfl,rfl,rfl,Nat.le_refl _,fun _ _=>rfl⟩
theorem below_grow {B:Nat} {w:World} (h:B≤w.heap.size) (os:Array Obj):Below B w (Sort.grow w os) :=
  ⟨rfl,rfl,rfl,by show w.heap.size≤(w.heap++os).size;rw[Array.size_append];omega,fun k hk=>by
    show (w.heap++os)[k]?=_
    rw[Array.getElem?_append_left (by omega)]⟩
theorem below_putRow {B blk:Nat} {α:Type} [Inhabited α] (enc:α→Value) (w:World) (off:Nat) (F:Array α) (h:B≤blk):Below B w (Sort.putRow enc w blk off F) :=
  ⟨rfl,rfl,rfl,by show w.heap.size≤(w.heap.modify blk _).size;rw[Array.size_modify];exact Nat.le_refl _,fun k hk=>by
    show (w.heap.modify blk _)[k]?=_
    rw[Array.getElem?_modify,if_neg (by omega)]⟩
theorem putRow_heap {α:Type} [Inhabited α] (enc:α→Value) {w:World} {blk off:Nat} {F:Array α} {cur:Array Value} {e:TypeId} {fr:Nat × Nat} (h:w.heap[blk]?=some (.cells cur e fr)) :
    ∃ cur',(Sort.putRow enc w blk off F).heap[blk]?=some (.cells cur' e fr)∧cur'.size=cur.size:=by
  refine⟨Sort.putCells enc off F cur,?_,by simp [Sort.putCells]⟩
  show (w.heap.modify blk _)[blk]?=_
  rw[Array.getElem?_modify,if_pos rfl,h]
  rfl
theorem grow_heap {w:World} {blk:Nat} {o:Obj} (os:Array Obj) (h:w.heap[blk]?=some o):(Sort.grow w os).heap[blk]?=some o:=by
  show (w.heap++os)[blk]?=_
  rw[Array.getElem?_append_left (Array.getElem?_eq_some_iff.1 h).1,h]
/-- a row of one's own, out of its cells -/
theorem row34 {W:World} {base g cap:Nat} {cur:Array Value} {r:List S91} (hh:W.heap[g]?=some (.cells cur 91 (0,0))) (hb:base≤g) (hl:r.length≤cap) (hm:cap≤maxLen) (hs:cur.size=cap * 3)
    (hc:∀ t,t < r.length * 3→cur[t]! = (Sort.flatK enc34 3 r.toArray)[t]!):Kd.R k91 91 W base (fun _=>True) (.slice (some ⟨g,0,none⟩) r.length cap) r:=by
  have hle:r.length * 3≤cur.size:=by omega
  refine⟨fun _ _=>trivial,cur.toList.take (r.length * 3),⟨by rw[List.length_take,Nat.min_eq_left (by rw[Array.length_toList];exact hle)];rfl,Or.inr ⟨g,cap,cur,rfl,hb,hh,hl,hm,hs,rfl⟩⟩,by rw[List.length_take,Nat.min_eq_left (by rw[Array.length_toList];exact hle)];rfl,fun j p hp=>?_⟩
  obtain⟨hj,rfl⟩:=List.getElem?_eq_some_iff.1 hp
  have key:((cur.toList.take (r.length * 3)).drop (j * 3)).take 3=[.int .i64 r[j].f0,.int .i64 r[j].f1,.string r[j].f2]:=by
    have one:∀ c,c < 3→cur[j * 3+c]?=some (enc34 r[j])[c]! := by
      intro c hcc
      have h1:=hc (j * 3+c) (by omega)
      rw[Sort.get_flatK _ _ _ _ (by rw[List.size_toArray];omega),show (j * 3+c) / 3=j by omega,show (j * 3+c) % 3=c by omega] at h1
      rw[Array.getElem?_eq_getElem (by omega),← getElem!_pos cur (j * 3+c) (by omega),h1,getElem!_pos r.toArray j (by rw[List.size_toArray];exact hj),List.getElem_toArray]
    have z0:=one 0 (by omega)
    have z1:=one 1 (by omega)
    have z2:=one 2 (by omega)
    apply List.ext_getElem?
    intro c
    rw[List.getElem?_take]
    by_cases h3:c < 3
    rotate_left
    · rw[if_neg h3,List.getElem?_eq_none (by simp;omega)]
    rw[if_pos h3,List.getElem?_drop,List.getElem?_take,if_pos (by omega),Array.getElem?_toList]
    have:c=0∨c=1∨c=2:=by omega
    rcases this with rfl|rfl|rfl
    · rw[z0];rfl
    · rw[z1];rfl
    · rw[z2];rfl
  show k91.M W base _ r[j] (((cur.toList.take (r.length * 3)).drop (j * 3)).take 3)
  rw[key]
  exact k91_mkM _ _ _ _
/-- the cells of a row of one's own -/
theorem holds_of_row {W:World} {base g cap:Nat} {ok:Nat→Prop} {l:List S91} (h:Kd.R k91 91 W base ok (.slice (some ⟨g,0,none⟩) l.length cap) l) (hg:∃ cur,W.heap[g]?=some (.cells cur 91 (0,0))):Sort.HoldsK enc34 3 W g 0 l.toArray:=by
  intro t ht
  rw[Sort.size_flatK,List.size_toArray] at ht
  have hC:=(Kd.yj_ h).2.2
  obtain⟨ad,e,h0,h1,h2⟩:=at_T91 hC ((t / 3:Nat):Int) (by omega) (by omega)
  cases e
  obtain⟨cur,hcur⟩:=hg
  refine⟨?_,by simp [World.frozen?,hcur]⟩
  rw[Sort.get_flatK _ _ _ _ (by rw[List.size_toArray];exact ht)]
  have hx:(l.toArray)[t / 3]! = rd_T91 l ((t / 3:Nat):Int):=by
    unfold rd_T91
    rw[Int.toNat_natCast,getElem!_pos l.toArray (t / 3) (by rw[List.size_toArray];omega),List.getElem_toArray,List.getD_eq_getElem?_getD,List.getElem?_eq_getElem (by omega)]
    rfl
  rw[hx]
  simp only[Int.toNat_natCast,add_plain] at h0 h1 h2
  have:t % 3=0∨t % 3=1∨t % 3=2:=by omega
  rcases this with c|c|c
  · rw[c,show 0+t=t / 3 * 3 by omega];exact h0
  · rw[c,show 0+t=t / 3 * 3+1 by omega];exact h1
  · rw[c,show 0+t=t / 3 * 3+2 by omega];exact h2
end Go.Proofs.YthimblhfjfngiaaGreat.PText

namespace Go.Proofs.YthimblhfjfngiaaGreat.PText
open Go.RowKit Go.Lib Go.Proofs.YthimblhfjfngiaaGreatW.PrintWords Go.Proofs.YthimblhfjfngiaaGreatW.PrintLast Go.Proofs.YthimblhfjfngiaaGreatW.PrintMore
def toE (x:S91):Tx.Ed:=⟨x.f0,x.f1,x.f2.toList⟩
theorem toE_inj {x y:S91} (h:toE x=toE y):x=y:=by
  have h0:=congrArg Tx.Ed.f h
  have h1:=congrArg Tx.Ed.t h
  have h2:=congrArg Tx.Ed.x h
  refine S91.ext' h0 h1 ?_
  simp only[toE] at h2
  rw[Lib.toList_data,Lib.toList_data] at h2
  exact ByteArray.ext (Array.toList_inj.1 h2)
def eltS (x y:S91):Bool:=Tx.elt (toE x) (toE y)
theorem eltS_lin:Tx.Lin eltS where
  irr _:=Tx.elt_lin.irr _
  tr:=fun h1 h2=>Tx.elt_lin.tr h1 h2
  tri:=fun h1 h2=>toE_inj (Tx.elt_lin.tri h1 h2)
def cI (a b:Int):Int:=if a < b then -1 else if b < a then 1 else 0
def cS (a b:List UInt8):Int:=if a < b then -1 else if b < a then 1 else 0
def cfE (x y:S91):Int:=if cI x.f0 y.f0≠0 then cI x.f0 y.f0 else if cI x.f1 y.f1≠0 then cI x.f1 y.f1 else cS x.f2.toList y.f2.toList
theorem cmpI_f (a b:Int):cmp_Compare_int.f a b=some (cI a b):=by
  unfold cmp_Compare_int.f cmp_isNaN_int.f cI
  simp only[bne_self_eq_false,Option.bind_some,Bool.false_eq_true,if_false]
  by_cases h:a < b
  · rw[if_pos h,if_pos h]
  rw[if_neg h,if_neg h]
  by_cases h':b < a
  rotate_left
  · rw[if_neg h',if_neg h']
  rw[if_pos h',if_pos h']
theorem cmpS_f (a b:ByteArray):yQ_.f a b=some (cS a.toList b.toList):=by
  unfold yQ_.f cmp_isNaN_string.f cS
  simp only[bne_self_eq_false,Option.bind_some,Bool.false_eq_true,if_false,bl_lt,decide_eq_true_eq]
  by_cases h:a.toList < b.toList
  · rw[if_pos h,if_pos h]
  rw[if_neg h,if_neg h]
  by_cases h':b.toList < a.toList
  rotate_left
  · rw[if_neg h',if_neg h']
  rw[if_pos h',if_pos h']
theorem or_f (a b c:Int):yS_.f 8 [a,b,c]=some (if a≠0 then a else if b≠0 then b else c):=by
  have w1:wrap64 1=1:=by unfold wrap64;omega
  have w2:wrap64 2=2:=by unfold wrap64;omega
  have w3:wrap64 3=3:=by unfold wrap64;omega
  unfold yS_.f
  by_cases ha:a=0
  rotate_left
  · simp [yS_.l0,rd,ha]
  by_cases hb:b=0
  rotate_left
  · simp [yS_.l0,rd,ha,hb,w1]
  by_cases hc:c=0
  rotate_left
  · simp [yS_.l0,rd,ha,hb,hc,w1,w2]
  simp [yS_.l0,rd,ha,hb,hc,w1,w2,w3]
theorem order_f (x y:S91):ydb_.f 8 x.f0 x.f1 x.f2 y.f0 y.f1 y.f2=some (cfE x y):=by
  unfold ydb_.f
  rw[cmpI_f,Option.bind_some,cmpI_f,Option.bind_some,cmpS_f,Option.bind_some,or_f]
  rfl
theorem ltOf_cfE (x y:S91):decide (cfE x y < 0)=eltS x y:=by
  rw[Bool.eq_iff_iff,decide_eq_true_eq]
  unfold eltS
  rw[Tx.elt_iff]
  unfold cfE cI cS toE
  by_cases h0:x.f0 < y.f0
  · rw[if_pos h0];simp [h0]
  rw[if_neg h0]
  by_cases h1:y.f0 < x.f0
  · rw[if_pos h1];simp;omega
  have e0:x.f0=y.f0:=by omega
  rw[if_neg h1]
  by_cases h2:x.f1 < y.f1
  · rw[if_pos h2];simp [e0,h2]
  rw[if_neg h2]
  by_cases h3:y.f1 < x.f1
  · rw[if_pos h3];simp [e0];omega
  have e1:x.f1=y.f1:=by omega
  rw[if_neg h3]
  by_cases h4:x.f2.toList < y.f2.toList
  · rw[if_pos h4];simp [e0,e1,h4]
  rw[if_neg h4]
  by_cases h5:y.f2.toList < x.f2.toList
  rotate_left
  · rw[if_neg h5];simp [e0,e1,h4]
  rw[if_pos h5];simp [e0,e1,h4]
end Go.Proofs.YthimblhfjfngiaaGreat.PText

namespace Go.Proofs.YthimblhfjfngiaaGreat.PText
open Go.RowKit Go.Lib Go.Proofs.YthimblhfjfngiaaGreatW.PrintWords Go.Proofs.YthimblhfjfngiaaGreatW.PrintLast Go.Proofs.YthimblhfjfngiaaGreatW.PrintMore
def badE (n:Nat) (x:S91):Bool:=decide (x.f0 < 0) || decide ((n:Int) < x.f1) || decide (x.f1 < x.f0)
def fineE (n:Nat) (l:List S91):Int:=if 200000 < n∨10000 < l.length then 2 else if l.any (badE n)=true then 1 else if Tx.clash 0 (-1) ((Tx.ord eltS l).map toE)=true then 10 else 0
end Go.Proofs.YthimblhfjfngiaaGreat.PText

