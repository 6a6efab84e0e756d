/- PastBlames holds: for all steps, every file and every line the statement answers true. Part 20 of 21. -/
import Derived.Test.YthimblhfjfngiaaGreatBBlamesS
import Derived.Deep.RegionLaw
namespace Go.Proofs.YthimblhfjfngiaaGreat.PText
open Go.RowKit Go.Lib Go.Sort Go.Proofs.YthimblhfjfngiaaGreatW.PrintWords Go.Proofs.YthimblhfjfngiaaGreatW.PrintLast Go.Proofs.YthimblhfjfngiaaGreatW.PrintMore
set_option linter.unusedVariables false
set_option linter.unusedSimpArgs false
theorem heap_same {w:World} {b t:Nat} {v:Value} {fz:Nat × Nat} (h:w.heap[b]?=some (.cells #[v] t fz)) (k:Nat):(w.setCell ⟨b,0,none⟩ v).heap[k]?=w.heap[k]?:=by
  by_cases hk:k=b
  rotate_left
  · exact Below.heap_setCell _ _ _ _ (fun e=>hk e)
  subst hk
  unfold World.setCell
  simp only
  rw[Array.getElem?_modify,if_pos rfl,h]
  rfl
theorem below_same {B:Nat} {a w:World} {b t:Nat} {v:Value} {fz:Nat × Nat} (h:Below B a w) (hb:w.heap[b]?=some (.cells #[v] t fz)):Below B a (w.setCell ⟨b,0,none⟩ v) :=
  ⟨h.os,h.tape,h.output,by
    have:(w.setCell ⟨b,0,none⟩ v).heap.size=w.heap.size:=by unfold World.setCell;simp
    rw[this];exact h.size,fun k hk=>(heap_same hb k).trans (h.block k hk)⟩
/-- to append no values to a row -/
theorem append_idle {P:Program} {ops:Array Oper} {o:Oper} {a:Act} {Q:Exit→Act→World→Prop} {Kc:Act→World→Prop} {W:World} {α:Type} (d:Kd α) (hw:Region.wanted o (yielded ops a.tmps)=true) (s x:Operand) (t e:TypeId) (z:Value) (bytes base:Nat)
    (ho:o.op=.call { callee:=.builtin .append,args:=#[s,x],argTypes:=#[t,t] })
    (ht:P.underlying t=some (.slice e)) (hinfo:(P.info? e).map (fun i=>(i.zero,i.size,i.bytes))=some (some z,d.sz,bytes)) (v:Value) (xs:List α) (ok:Nat→Prop) (hs:a.eval s=v) (hx:a.eval x=.slice none 0 0)
    {W0:World} (HO:d.R e W0 base ok v xs) (h:Kc (a.put o.dst v) W) :
    if Region.wanted o (yielded ops a.tmps)=true then Oper.wp P o a W Kc Q else Kc (a.put o.dst undef) W:=by
  obtain⟨i0,hi,hzz⟩:=Option.map_eq_some_iff.1 hinfo
  obtain⟨hok,inner,hown,hr⟩:=HO
  have hrun:(Builtin.append_ #[t,t] o.type #[v,.slice none 0 0]).run P W=.ok v W:=by
    rcases hown.2 with ⟨rfl,hn⟩|⟨g,cap,cur,rfl,_,_,hnc,_⟩
    · simp [Builtin.append_,run_underlying ht,sizeOf,typeInfo,hi,Builtin.lenOf,Builtin.firstCells]
    · simp [Builtin.append_,run_underlying ht,sizeOf,typeInfo,hi,Builtin.lenOf,Builtin.firstCells,hnc,storeCells]
  rw[if_pos hw]
  unfold Oper.wp execOp
  simp only[ho,resolve,invoke,builtin,Sem.run_bind,Sem.run_pure,Result.andThen_ok,List.map_toArray,List.map_cons,List.map_nil,hs,hx,hrun]
  exact h
/-- the same heap -/
structure Same (w w':World):Prop where
  below:Below w.heap.size w w'
  heap:∀ k:Nat,w'.heap[k]?=w.heap[k]?
theorem Same.refl (w:World):Same w w:=⟨Below.refl _ _,fun _=>rfl⟩
theorem Same.drew {w w':World} (h:Same w w'):Same w w'.drew:=⟨h.below.drew,h.heap⟩
theorem Same.set {w w':World} {b t:Nat} {v:Value} {fz:Nat × Nat} (h:Same w w') (hb:w.heap[b]?=some (.cells #[v] t fz)):Same w (w'.setCell ⟨b,0,none⟩ v) :=
  ⟨below_same h.below ((h.heap b).trans hb),fun k=>(heap_same ((h.heap b).trans hb) k).trans (h.heap k)⟩
theorem Same.cell {w w':World} (h:Same w w') (p:Addr):w'.cell? p=w.cell? p:=by
  unfold World.cell?
  simp only[h.heap]
theorem Same.frozen {w w':World} (h:Same w w') (p:Addr):w'.frozen? p=w.frozen? p:=by
  simp only[World.frozen?,h.heap]
theorem Same.all {w w':World} {bn bo bl:Nat} {v:Value} (h:Same w w') (hn:w.cell? ⟨bn,0,none⟩=some (.int .i64 0)) (ho:w.cell? ⟨bo,0,none⟩=some v) (hl:w.cell? ⟨bl,0,none⟩=some (.slice none 0 0)) (hf:w.frozen? ⟨bo,0,none⟩=false) :
    w'.cell? ⟨bn,0,none⟩=some (.int .i64 0)∧w'.cell? ⟨bo,0,none⟩=some v∧w'.cell? ⟨bl,0,none⟩=some (.slice none 0 0)∧w'.frozen? ⟨bo,0,none⟩=false∧Same w w' :=
  ⟨(h.cell _).trans hn,(h.cell _).trans ho,(h.cell _).trans hl,(h.frozen _).trans hf,h⟩
set_option maxRecDepth 100000 in
set_option maxHeartbeats 2000000 in
/-- nothing to pass -/
theorem pass_idle (keep:Bool) (bn ba bs bo bl base:Nat) (v:Value) (D:List Int) (w:World) (hn:w.cell? ⟨bn,0,none⟩=some (.int .i64 0)) (ha:w.cell? ⟨ba,0,none⟩=some (.int .i64 0))
    (ho:w.heap[bo]?=some (.cells #[v] 28 (0,0))) (hl:w.cell? ⟨bl,0,none⟩=some (.slice none 0 0)) (hR:Kd.R (Kd.int .i64) 3 w base (fun _=>True) v D) :
    Calls Tryz.prog 51 #[.int .i64 0,.bool keep,.pointer (some ⟨bn,0,none⟩),.pointer (some ⟨ba,0,none⟩),.pointer (some ⟨bs,0,none⟩),.pointer (some ⟨bo,0,none⟩),.pointer (some ⟨bl,0,none⟩)] w fun e w'=>e=.returned (.tuple #[])∧Below w.heap.size w w':=by
  obtain⟨A,c,rfl⟩:=Kd.yw_ hR
  have hoc:w.cell? ⟨bo,0,none⟩=some (.slice A D.length c):=by unfold World.cell?;rw[ho];rfl
  have hof:w.frozen? ⟨bo,0,none⟩=false:=by simp [World.frozen?,ho]
  have HO:=Aside0.mk ho
  have HR:=Aside0.mk hR
  clear ho hR
  go_enter Tryz.func51,Tryz.ntmps51
  go_wp2_with fail
  go_loopg [11] 0 (fun _ v11 wr=>wr=w)
  case atStart=>exact rfl
  case round =>
    obtain rfl:=hrel
    cases keep
    · go_wp2_with fail
      first
        | (go_end0;exact⟨rfl,Below.refl _ _⟩)
        | exact⟨rfl,Below.refl _ _⟩
    · go_wp2_with fail
      go_region_held3 (fun w'=>w'.cell? ⟨bn,0,none⟩=some (.int .i64 0)∧w'.cell? ⟨bo,0,none⟩=some (.slice A D.length c)∧w'.cell? ⟨bl,0,none⟩=some (.slice none 0 0)∧w'.frozen? ⟨bo,0,none⟩=false∧Same wr w')
        (first|exact Same.all (Same.refl _) hn hoc hl hof|exact Same.all (Same.refl _).drew hn hoc hl hof|exact Same.all ((Same.refl _).set HO.out).drew hn hoc hl hof|exact Same.all ((Same.refl _).drew.set HO.out).drew hn hoc hl hof)
        (first
          | (refine append_idle (Kd.int .i64) ?hw1 (.tmp 24) (.tmp 29) 28 3 (.int .i64 0) 8 base ?hg1 Tryz.underlying28 info3 _ D (fun _=>True) ?hs1 ?hx1 HR.out ?_;(case hw1=>rfl);(case hg1=>rfl);(case hs1=>rfl);(case hx1=>rfl)))
      go_split_ands
      first
        | (go_end0;exact⟨rfl,Same.below (by assumption)⟩)
        | exact⟨rfl,Same.below (by assumption)⟩
        | exact bodyPost_end0 ⟨rfl,Same.below (by assumption)⟩
/-- as many times one number as there are lines -/
def putL (es:List S91) (k:Int):List Int:=(es.map (fun x=>List.replicate (linesB x.f2).length k)).flatten
theorem putL_snoc (es:List S91) (k:Int) (i:Nat) (h:i < es.length):putL (es.take (i+1)) k=putL (es.take i) k++List.replicate (linesB es[i].f2).length k:=by
  unfold putL
  rw[List.take_add_one,List.getElem?_eq_getElem h,Option.toList_some,List.map_append,List.flatten_append]
  simp
theorem putL_take (es:List S91) (k:Int) (i:Nat):(putL (es.take i) k).length≤(putL es k).length:=by
  have h:putL es k=putL (es.take i) k++putL (es.drop i) k:=by
    unfold putL
    rw[← List.flatten_append,← List.map_append,List.take_append_drop]
  rw[h,List.length_append];omega
theorem lines_nil:yK_.f ⟨#[]⟩=some []:=by kernel_rfl
theorem heap3 (w:World) (a b c:Obj):(((w.alloc a).alloc b).alloc c).heap[w.heap.size]?=some a∧(((w.alloc a).alloc b).alloc c).heap[w.heap.size+1]?=some b∧(((w.alloc a).alloc b).alloc c).heap[w.heap.size+1+1]?=some c∧(((w.alloc a).alloc b).alloc c).heap.size=w.heap.size+3∧Below w.heap.size w (((w.alloc a).alloc b).alloc c):=by
  refine⟨?_,?_,?_,?_,?_⟩
  · show (((w.heap.push a).push b).push c)[w.heap.size]?=_
    rw[Array.getElem?_push,if_neg (by simp;omega),Array.getElem?_push,if_neg (by simp),Array.getElem?_push_size]
  · show (((w.heap.push a).push b).push c)[w.heap.size+1]?=_
    rw[Array.getElem?_push,if_neg (by simp),Array.getElem?_push,if_pos (by simp)]
  · show (((w.heap.push a).push b).push c)[w.heap.size+1+1]?=_
    rw[Array.getElem?_push,if_pos (by simp)]
  · show (((w.heap.push a).push b).push c).size=_
    simp
  · exact (((Below.refl _ w).alloc (Nat.le_refl _) a).alloc (by simp) b).alloc (by simp;omega) c
/-- the variables of past.blamed, laid -/
theorem boxes {w w1 w2:World} {v2:Value} {A1:Option Addr} {c1:Nat} {es:List S91} (h1:Below (w.alloc (.cells #[.slice none 0 0] 28)).heap.size (w.alloc (.cells #[.slice none 0 0] 28)) w1)
    (h2:Below (((w1.alloc (.cells #[.slice none 0 0] 28)).alloc (.cells #[.int .i64 0] 3)).alloc (.cells #[.int .i64 0] 3)).heap.size (((w1.alloc (.cells #[.slice none 0 0] 28)).alloc (.cells #[.int .i64 0] 3)).alloc (.cells #[.int .i64 0] 3)) w2)
    (ho:Kd.R k91 91 w1 (w.alloc (.cells #[.slice none 0 0] 28)).heap.size (fun _=>True) (.slice A1 es.length c1) es) :
    (w2.alloc (.cells #[v2] 47)).heap[w1.heap.size]?=some (.cells #[.slice none 0 0] 28 (0,0))∧(w2.alloc (.cells #[v2] 47)).cell? ⟨w1.heap.size+1,0,none⟩=some (.int .i64 0)∧(w2.alloc (.cells #[v2] 47)).cell? ⟨w1.heap.size+1+1,0,none⟩=some (.int .i64 0) ∧
    (w2.alloc (.cells #[v2] 47)).cell? ⟨w.heap.size,0,none⟩=some (.slice none 0 0)∧Below w.heap.size w (w2.alloc (.cells #[v2] 47))∧(w2.alloc (.cells #[v2] 47)).heap.size=w2.heap.size+1∧w.heap.size < w1.heap.size∧w1.heap.size+3≤w2.heap.size ∧
    Kd.R k91 91 (w2.alloc (.cells #[v2] 47)) (w.alloc (.cells #[.slice none 0 0] 28)).heap.size (fun _=>True) (.slice A1 es.length c1) es:=by
  obtain⟨q1,q2,q3,q4,q5⟩:=heap3 w1 (.cells #[.slice none 0 0] 28) (.cells #[.int .i64 0] 3) (.cells #[.int .i64 0] 3)
  have s0:(w.alloc (.cells #[.slice none 0 0] 28)).heap.size=w.heap.size+1:=by simp
  have s1:=h1.size
  have s2:=h2.size
  have b2:Below w2.heap.size w2 (w2.alloc (.cells #[v2] 47)):=(Below.refl _ w2).alloc (Nat.le_refl _) _
  have B12:Below w1.heap.size w1 (w2.alloc (.cells #[v2] 47)):=(q5.trans (h2.mono (by omega))).trans (b2.mono (by omega))
  have hh:∀ k,k < w1.heap.size+3→(w2.alloc (.cells #[v2] 47)).heap[k]?=(((w1.alloc (.cells #[.slice none 0 0] 28)).alloc (.cells #[.int .i64 0] 3)).alloc (.cells #[.int .i64 0] 3)).heap[k]?:=fun k hk=>(b2.block k (by omega)).trans (h2.block k (by omega))
  refine⟨(hh _ (by omega)).trans q1,?_,?_,?_,?_,by simp,by omega,by omega,Kd.yT_ ho B12⟩
  · have e:=(hh (w1.heap.size+1) (by omega)).trans q2
    unfold World.cell?;simp only[e];rfl
  · have e:=(hh (w1.heap.size+1+1) (by omega)).trans q3
    unfold World.cell?;simp only[e];rfl
  · have:(w2.alloc (.cells #[v2] 47)).heap[w.heap.size]?=some (.cells #[.slice none 0 0] 28 (0,0)):=(B12.block _ (by omega)).trans ((h1.block _ (by omega)).trans (yJb_ w _))
    unfold World.cell?;rw[this];rfl
  · exact (((Below.refl _ w).alloc (Nat.le_refl _) _).trans (h1.mono (by omega))).trans (B12.mono (by omega))
theorem box_self {W0 wr:World} {bo base:Nat} {v0 v:Value} (h:Below base (W0.setCell ⟨bo,0,none⟩ v) wr) (h0:W0.heap[bo]?=some (.cells #[v0] 28 (0,0))) (hb:bo < base):wr.heap[bo]?=some (.cells #[v] 28 (0,0)):=by
  rw[h.block bo hb]
  unfold World.setCell
  simp only
  rw[Array.getElem?_modify,if_pos rfl,h0]
  rfl
theorem box_other {W0 wr:World} {bo base:Nat} {v u:Value} {b i:Nat} (h:Below base (W0.setCell ⟨bo,0,none⟩ v) wr) (hb:b < base) (hne:b≠bo) (hc:W0.cell? ⟨b,i,none⟩=some u):wr.cell? ⟨b,i,none⟩=some u:=by
  rw[← hc]
  unfold World.cell?
  simp only
  rw[h.block b hb,Below.heap_setCell _ _ _ _ hne]
theorem box_step2 {W0 wr w5:World} {bo base:Nat} {v0 v v5:Value} (h:Below base (W0.setCell ⟨bo,0,none⟩ v) wr) (h5:Below base wr w5) (h0:W0.heap[bo]?=some (.cells #[v0] 28 (0,0))) (hb:bo < base) :
    Below base (W0.setCell ⟨bo,0,none⟩ v5) (w5.setCell ⟨bo,0,none⟩ v5):=by
  have ss:∀ (W:World) (u:Value),(W.setCell ⟨bo,0,none⟩ u).heap.size=W.heap.size:=fun W u=>by unfold World.setCell;simp
  refine⟨h5.os.trans h.os,h5.tape.trans h.tape,h5.output.trans h.output,?_,fun k hk=>?_⟩
  · have:=h.size;have:=h5.size
    rw[ss] at *;rw[ss];omega
  · by_cases e:k=bo
    · subst e
      have h3:=(h5.block k hk).trans (box_self h h0 hk)
      unfold World.setCell
      simp only
      rw[Array.getElem?_modify,if_pos rfl,Array.getElem?_modify,if_pos rfl,h0,h3]
      rfl
    · rw[Below.heap_setCell _ _ _ _ e,Below.heap_setCell _ _ _ _ e,h5.block k hk,h.block k hk,Below.heap_setCell _ _ _ _ e]
set_option maxRecDepth 100000 in
set_option maxHeartbeats 4000000 in
theorem blamed_new (es:List S91) (k:Int) (now:ByteArray) (w:World) (he:yo_.f 5000000 ⟨#[]⟩ now=some (es,0)) (h0:∀ x∈es,x.f0=0∧x.f1=0∧x.f2.size≤1000000000) (hlen:es.length≤4000) (hD:(putL es k).length≤1000000) :
    Calls Tryz.prog 29 #[.string ⟨#[]⟩,.string now,.slice none 0 0,.int .i64 k] w fun e w'=>∃ v,e=.returned (.tuple #[v,.int .i64 0])∧Kd.R (Kd.int .i64) 3 w' w.heap.size (fun _=>True) v (putL es k)∧Below w.heap.size w w':=by
  have HE:=Aside0.mk he
  have H0:=Aside0.mk h0
  have HLN:=Aside0.mk hlen
  have HD:=Aside0.mk hD
  clear he h0 hlen hD
  go_enter Tryz.func29,Tryz.ntmps29
  go_wp2_with (first
    | (go_at_call 50;refine (yo_.calls 5000000 _ now es 0 _ HE.out).mono ?_;rintro e w1 ⟨v1,rfl,ho,hb⟩;obtain⟨A1,c1,rfl⟩:=Kd.yw_ ho;have HO1:=Aside0.mk ho;have HB1:=Aside0.mk hb;clear ho hb HE)
    | (go_at_call 36;refine (yK_.calls _ [] _ lines_nil).mono ?_;rintro e w2 ⟨v2,rfl,ho,hb⟩;obtain⟨A2,c2,rfl⟩:=Kd.yw_ ho;have HX:=Aside0.mk (boxes (v2:=.slice A2 0 c2) HB1.out hb HO1.out);clear ho hb HB1 HO1))
  obtain⟨hbo,hba,hbn,hbl,hB,hz,hlt1,hlt2,hER⟩:=HX.out
  clear HX
  generalize w2.alloc (.cells #[.slice A2 0 c2] 47)=W0 at *
  have l1:w1.heap.size+1+1 < W0.heap.size:=by omega
  have l2:w1.heap.size+1 < W0.heap.size:=by omega
  have l3:w1.heap.size < W0.heap.size:=by omega
  have l4:w.heap.size < W0.heap.size:=by omega
  have l5:w.heap.size≤w1.heap.size:=by omega
  have n1:w1.heap.size+1+1≠w1.heap.size:=by omega
  have n2:w1.heap.size+1≠w1.heap.size:=by omega
  have n4:w.heap.size≠w1.heap.size:=by omega
  clear hlt1 hlt2 hz
  generalize w2.heap.size=bs at *
  generalize w1.heap.size+1+1=bn at *
  generalize w1.heap.size+1=ba at *
  generalize w1.heap.size=bo at *
  have ss:∀ (W:World) (u:Value),(W.setCell ⟨bo,0,none⟩ u).heap.size=W.heap.size:=fun W u=>by unfold World.setCell;simp
  have HCE:Aside0 (∀ v wr,Below W0.heap.size (W0.setCell ⟨bo,0,none⟩ v) wr→Kd.C k91 wr A1 es.length es):=⟨fun v wr h =>
    (Kd.yj_ (Kd.yT_ (Kd.R_set hER hbo (fun q hq=>by rcases List.mem_cons.1 hq with h|h;subst h;decide;cases h) 0 v) (by rw[ss];exact h))).2.2⟩
  have HPA:Aside0 (∀ (keep:Bool) (v:Value) (D:List Int) (wr:World),Below W0.heap.size (W0.setCell ⟨bo,0,none⟩ v) wr→Kd.R (Kd.int .i64) 3 wr W0.heap.size (fun _=>True) v D →
      Calls Tryz.prog 51 #[.int .i64 0,.bool keep,.pointer (some ⟨bn,0,none⟩),.pointer (some ⟨ba,0,none⟩),.pointer (some ⟨bs,0,none⟩),.pointer (some ⟨bo,0,none⟩),.pointer (some ⟨w.heap.size,0,none⟩)] wr fun e w'=>e=.returned (.tuple #[])∧Below wr.heap.size wr w') :=
    ⟨fun keep v D wr h1 h2=>pass_idle keep bn ba bs bo w.heap.size W0.heap.size v D wr (box_other h1 l1 n1 hbn) (box_other h1 l2 n2 hba) (box_self h1 hbo l3) (box_other h1 l4 n4 hbl) h2⟩
  have HBF:Aside0 (∀ v wr,Below W0.heap.size (W0.setCell ⟨bo,0,none⟩ v) wr→Below w.heap.size w wr):=⟨fun v wr h=>(hB.setCell (p:=⟨bo,0,none⟩) l5 v).trans (h.mono (by omega))⟩
  have HBO:=Aside0.mk hbo
  have HL3:=Aside0.mk l3
  have HS0:Aside0 (Below W0.heap.size (W0.setCell ⟨bo,0,none⟩ (.slice none 0 0)) W0):=⟨by
    have q:=Same.set (Same.refl W0) hbo
    exact⟨rfl,rfl,rfl,by rw[ss];exact Nat.le_refl _,fun k _=>(q.heap k).symm⟩⟩
  clear hbo hba hbn hbl hB hER l1 l2 l3 l4 l5 n1 n2 n4 ss
  go_loopg [33] (es.length+1) (fun kq v33 w'=>∃ (i:Nat) (v:Value),v33=.int .i64 (i:Int)∧Aside0 (es.length - i < kq∧i≤es.length)∧Aside0 (Below W0.heap.size (W0.setCell ⟨bo,0,none⟩ v) w')∧Aside0 (Kd.R (Kd.int .i64) 3 w' W0.heap.size (fun _=>True) v (putL (es.take i) k)))
  case atStart=>exact⟨0,.slice none 0 0,rfl,⟨by omega,by omega⟩,HS0,⟨Kd.R_nil _ _ _ _ _⟩⟩
  case round =>
    obtain⟨i,v,rfl,HI,HBe,HR⟩:=hrel
    obtain⟨k1,rfl⟩:∃ k1,gk=k1+1:=⟨gk - 1,by have:=HI.out.1;omega⟩
    have hwr:W0.heap.size≤wr.heap.size:=by have:=HBe.out.size;unfold World.setCell at this;simpa using this
    by_cases hlt:i < es.length
    rotate_left
    · have hb:decide ((i:Int) < (es.length:Int))=false:=by simp;omega
      have hin:es.take i=es:=List.take_of_length_le (by omega)
      rw[hin] at HR
      clear hin
      obtain⟨A7,c7,rfl⟩:=Kd.yw_ HR.out
      have hoh:=box_self HBe.out HBO.out HL3.out
      have hoc:wr.cell? ⟨bo,0,none⟩=some (.slice A7 (putL es k).length c7):=by unfold World.cell?;rw[hoh];rfl
      have hbw:bo < wr.heap.size:=Nat.lt_of_lt_of_le HL3.out hwr
      have HPZ:=Aside0.mk (HPA.out true _ _ wr HBe.out HR.out)
      go_wp2_with (go_at_call 51;refine HPZ.out.mono ?_;rintro e w3 ⟨rfl,hb3⟩;have HB3:=Aside0.mk hb3;have hz1:=(hb3.cell (p:=⟨bo,0,none⟩) hbw).trans hoc;clear hb3 HPZ)
      go_ret2
      have hbs:w.heap.size≤W0.heap.size:=by have:=(HBF.out _ _ HS0.out).size;exact this
      exact⟨_,rfl,Kd.yT_ (Kd.y1_ HR.out hbs) HB3.out,(HBF.out _ _ HBe.out).trans (HB3.out.mono (Nat.le_trans hbs hwr))⟩
    have hb:decide ((i:Int) < (es.length:Int))=true:=by simp;omega
    have hb2:decide ((0:Int)≤(i:Int))=true:=by simp
    obtain⟨ad,e0,hx0,hx1,hx2⟩:=at_T91 (HCE.out v wr HBe.out) (i:Int) (by omega) (by omega)
    cases e0
    rw[Int.toNat_natCast] at hx0 hx1 hx2
    rw[rd34_at es i hlt] at hx0 hx1 hx2
    have HSN:=Aside0.mk (putL_snoc es k i hlt)
    have HTK:=Aside0.mk (putL_take es k (i+1))
    have hx:=H0.out es[i] (List.getElem_mem hlt)
    generalize es[i]=x at *
    obtain⟨g0,g1,t⟩:=x
    obtain⟨y0,y1,y2⟩:=hx
    cases y0
    cases y1
    have HT:=Aside0.mk (show yK_.f t=some (linesB t) by unfold yK_.f;rw[if_pos y2])
    have HBA:Aside0 (Below W0.heap.size (W0.setCell ⟨bo,0,none⟩ v) (wr.alloc (.cells #[.int .i64 0,.int .i64 0,.string t] 91))):=⟨HBe.out.alloc hwr _⟩
    have HP1:=Aside0.mk (HPA.out true v _ _ HBA.out (Kd.yg_ HR.out _))
    have hy0:(wr.alloc (.cells #[.int .i64 0,.int .i64 0,.string t] 91)).cell? ⟨wr.heap.size,0,none⟩=some (.int .i64 0):=by unfold World.cell?;simp only[yJb_];rfl
    have hy1:(wr.alloc (.cells #[.int .i64 0,.int .i64 0,.string t] 91)).cell? ⟨wr.heap.size,1,none⟩=some (.int .i64 0):=by unfold World.cell?;simp only[yJb_];rfl
    have hy2:(wr.alloc (.cells #[.int .i64 0,.int .i64 0,.string t] 91)).cell? ⟨wr.heap.size,2,none⟩=some (.string t):=by unfold World.cell?;simp only[yJb_];rfl
    have hsa:wr.heap.size < (wr.alloc (.cells #[.int .i64 0,.int .i64 0,.string t] 91)).heap.size:=by simp
    have HY1:=Aside0.mk hy1
    have HY2:=Aside0.mk hy2
    have HSA:=Aside0.mk hsa
    clear hy1 hy2 hsa y2
    go_wp2_with (first
      | (go_at_call 51;refine HP1.out.mono ?_;rintro e w3 ⟨rfl,hb3⟩;have HB3:=Aside0.mk hb3;have hz1:=(hb3.cell (p:=⟨wr.heap.size,1,none⟩) HSA.out).trans HY1.out;clear hb3 HP1)
      | (go_at_call 51;refine (HPA.out false v (putL (es.take i) k) w3 (HBA.out.trans (HB3.out.mono (Nat.le_trans hwr (Nat.le_of_lt HSA.out)))) (Kd.yT_ (Kd.yg_ HR.out _) HB3.out)).mono ?_;rintro e w4 ⟨rfl,hb4⟩;have HB4:=Aside0.mk (HB3.out.trans (hb4.mono HB3.out.size));have hz2:=(HB4.out.cell (p:=⟨wr.heap.size,2,none⟩) HSA.out).trans HY2.out;clear hb4)
      | (go_at_call 36;refine (yK_.calls _ _ _ HT.out).mono ?_;rintro e w5 ⟨v5,rfl,ho,hb⟩;obtain⟨A5,c5,rfl⟩:=Kd.yw_ ho;have HB5:=Aside0.mk (HB4.out.trans (hb.mono HB4.out.size));clear ho hb))
    have hW:wr.heap.size≤w5.heap.size:=Nat.le_trans (Nat.le_of_lt HSA.out) HB5.out.size
    have HB6:Aside0 (Below W0.heap.size (W0.setCell ⟨bo,0,none⟩ v) w5):=⟨HBA.out.trans (HB5.out.mono (Nat.le_trans hwr (Nat.le_of_lt HSA.out)))⟩
    have HR6:Aside0 (Kd.R (Kd.int .i64) 3 w5 W0.heap.size (fun _=>True) v (putL (es.take i) k++List.replicate 0 k)):=⟨by rw[List.replicate_zero,List.append_nil];exact Kd.yT_ (Kd.yg_ HR.out _) HB5.out⟩
    have HL5:=Aside0.mk (Nat.le_trans hwr hW)
    have HI2:Aside0 (es.length - i < k1+1∧i < es.length):=⟨HI.out.1,hlt⟩
    clear hW hwr hx0 hx1 hx2 HB5 HB4 HB3 HBA HSA HY1 HY2 hz1 hz2 HBe HR hy0 hlt
    generalize hn:(linesB t).length=n at *
    clear hn
    go_loopg [49] (n+1) (fun kq v49 w'=>∃ (j:Nat) (v:Value),v49=.int .i64 (j:Int)∧Aside0 (n - j < kq∧j≤n)∧Aside0 (Below W0.heap.size (W0.setCell ⟨bo,0,none⟩ v) w')∧Aside0 (Kd.R (Kd.int .i64) 3 w' W0.heap.size (fun _=>True) v (putL (es.take i) k++List.replicate j k)))
    case atStart=>exact⟨0,v,rfl,⟨by omega,by omega⟩,HB6,HR6⟩
    case round =>
      obtain⟨j,v,rfl,HJ,HBj,HRj⟩:=hrel
      obtain⟨k2,rfl⟩:∃ k2,gk=k2+1:=⟨gk - 1,by have:=HJ.out.1;omega⟩
      have hwr:W0.heap.size≤wr.heap.size:=by have:=HBj.out.size;unfold World.setCell at this;simpa using this
      have hLen:(putL (es.take i) k++List.replicate j k).length≤1000000:=by
        have h1:=HTK.out
        rw[HSN.out,List.length_append,List.length_replicate] at h1
        have h2:=HD.out
        have h3:=HJ.out.2
        rw[List.length_append,List.length_replicate]
        omega
      have HLE:=Aside0.mk hLen
      have HWR:=Aside0.mk hwr
      clear hLen
      by_cases hlt:j < n
      rotate_left
      · have hb:decide ((j:Int) < (n:Int))=false:=by simp;omega
        have hjn:j=n:=by have:=HJ.out.2;omega
        subst hjn
        rw[← HSN.out] at HRj
        go_wp2_with fail
        go_roundg k1
        case measure=>have:=HI2.out;omega
        case rel=>exact⟨i+1,_,congrArg (Value.int .i64) (by first|exact nx i (by have:=HLN.out;have:=HI2.out;omega)|(have:=HLN.out;have:=HI2.out;omega)),⟨by have:=HI2.out;omega,by have:=HI2.out;omega⟩,HBj,HRj⟩
      have hb:decide ((j:Int) < (n:Int))=true:=by simp;omega
      obtain⟨A7,c7,rfl⟩:=Kd.yw_ HRj.out
      have hoh:=box_self HBj.out HBO.out HL3.out
      have hoc:wr.cell? ⟨bo,0,none⟩=some (.slice A7 (putL (es.take i) k++List.replicate j k).length c7):=by unfold World.cell?;rw[hoh];rfl
      have HOH:=Aside0.mk hoh
      have HLT:=Aside0.mk hlt
      clear hoh
      have HEQ:Aside0 (putL (es.take i) k++List.replicate j k++[k]=putL (es.take i) k++List.replicate (j+1) k):=⟨by rw[List.append_assoc,List.replicate_succ']⟩
      have HNB:Aside0 (n≤1000000):=⟨by
        have h1:=HTK.out
        rw[HSN.out,List.length_append,List.length_replicate] at h1
        have h2:=HD.out
        omega⟩
      generalize putL (es.take i) k++List.replicate j k=L at *
      go_wp2_with (at_builtin;go_loud (refine Kd.yM_ (Kd.int .i64) (w0:=wr) W0.heap.size rfl (.tmp 51) (.tmp 53) 28 3 (.int .i64 0) 8 rfl Tryz.underlying28 info3 rfl (by decide) (by omega) _ L k [.int .i64 k] (fun _=>True) (fun _=>False) rfl (by first|rfl|(simp;done)|(go_simp;done)) rfl (fun _ hk=>hk.elim) (fun _ _=>trivial) HRj.out (Below.refl W0.heap.size wr) HWR.out (by have:=HLE.out;omega) ?_);intro v1 w7 ho hb hg hat;go_loud (obtain⟨A8,c8,rfl⟩:=Kd.yw_ ho;have hp7:w7.heap[bo]?=some (.cells #[.slice A7 L.length c7] 28 (0,0)):=(hb.block bo HL3.out).trans HOH.out;have hc7:w7.cell? ⟨bo,0,none⟩=some (.slice A7 L.length c7):=(by unfold World.cell?;rw[hp7];rfl);have hf7:w7.frozen? ⟨bo,0,none⟩=false:=(by simp [World.frozen?,hp7]));rw[show (L++[k]).length=L.length+1 by rw[List.length_append];rfl] at ho;have HO7:=Aside0.mk ho;have HB7:=Aside0.mk hb;have HP7:=Aside0.mk hp7;clear ho hb hg hat hp7)
      go_roundg k2
      case measure=>have:=HJ.out.1;have:=HLT.out;omega
      case rel=>exact⟨j+1,_,congrArg (Value.int .i64) (by first|exact nx j (by have:=HNB.out;have:=HJ.out;omega)|(have:=HNB.out;have:=HJ.out;omega)),⟨by have:=HJ.out.1;omega,by have:=HLT.out;omega⟩,⟨box_step2 HBj.out HB7.out HBO.out HL3.out⟩,⟨by rw[← HEQ.out];exact Kd.R_set HO7.out HP7.out (fun q hq=>by rcases List.mem_cons.1 hq with h|h;subst h;decide;cases h) 0 _⟩⟩
end Go.Proofs.YthimblhfjfngiaaGreat.PText

namespace Go.Proofs.YthimblhfjfngiaaGreat.PText
open Go.RowKit Go.Lib Go.Proofs.YthimblhfjfngiaaGreatW.PrintWords Go.Proofs.YthimblhfjfngiaaGreatW.PrintLast Go.Proofs.YthimblhfjfngiaaGreatW.PrintMore
set_option linter.unusedVariables false
set_option linter.unusedSimpArgs false
/-- two edits that do not go together -/
def meetE (x y:S91):Bool:=decide (x≠y) && (decide (x.f0≤y.f1) && decide (y.f0≤x.f1))
theorem meet_f (x y:S91):ydc_.f x.f0 x.f1 x.f2 y.f0 y.f1 y.f2=some (meetE x y):=by
  unfold ydc_.f meetE
  rw[neS34]
  by_cases c:x=y
  · rw[decide_eq_false (show ¬ x≠y from fun q=>q c),if_neg (by decide)];rfl
  rw[decide_eq_true (show x≠y from c),if_pos rfl]
  by_cases c2:x.f0≤y.f1
  · rw[if_pos c2,decide_eq_true c2];rfl
  rw[if_neg c2,decide_eq_false c2];rfl
theorem meet_pred (x:S91) (B:Nat) (w:World) (hB:B < w.heap.size) (h0:w.cell? ⟨B,0,none⟩=some (.int .i64 x.f0)) (h1:w.cell? ⟨B,1,none⟩=some (.int .i64 x.f1)) (h2:w.cell? ⟨B,2,none⟩=some (.string x.f2)) :
    PredBelow Tryz.prog 59 #[.pointer (some ⟨B,0,none⟩)] (fun y=>.agg (enc34 y).toArray) (meetE x) w:=fun W y hb=>by
  have c0:W.cell? ⟨B,0,none⟩=some (.int .i64 x.f0):=(hb.cell (p:=⟨B,0,none⟩) hB).trans h0
  have c1:W.cell? ⟨B,1,none⟩=some (.int .i64 x.f1):=(hb.cell (p:=⟨B,1,none⟩) hB).trans h1
  have c2:W.cell? ⟨B,2,none⟩=some (.string x.f2):=(hb.cell (p:=⟨B,2,none⟩) hB).trans h2
  have hm:=Aside0.mk (fun W'=>ydc_.calls x.f0 x.f1 x.f2 y.f0 y.f1 y.f2 (meetE x y) W' (meet_f x y))
  have hu34:=Tryz.underlying91
  have HB:=Aside0.mk hb
  have hBW:B < W.heap.size:=Nat.lt_of_lt_of_le hB hb.size
  clear hb h0 h1 h2
  show Calls Tryz.prog 59 #[.agg #[.int .i64 y.f0,.int .i64 y.f1,.string y.f2],.pointer (some ⟨B,0,none⟩)] W _
  go_enter Tryz.func59,Tryz.ntmps59
  go_wp2_with (go_at_call 60;refine (hm.out _).mono ?_;rintro e w2 ⟨rfl,hb2⟩)
  go_ret
  exact⟨rfl,(HB.out.alloc HB.out.size _).trans (hb2.mono (by have:=HB.out.size;simp;omega))⟩
theorem contains_meet (x:S91) (A1:Option Addr) (c1 B:Nat) (l1:List S91) (w:World) (hC:Kd.C k91 w A1 l1.length l1) (hB:B < w.heap.size) (h0:w.cell? ⟨B,0,none⟩=some (.int .i64 x.f0)) (h1:w.cell? ⟨B,1,none⟩=some (.int .i64 x.f1)) (h2:w.cell? ⟨B,2,none⟩=some (.string x.f2)) (hl:l1.length≤10000) :
    Calls Tryz.prog 58 #[.slice A1 l1.length c1,.func (.func 59) #[] #[.pointer (some ⟨B,0,none⟩)]] w fun e w'=>e=.returned (.bool (l1.any (meetE x)))∧Below w.heap.size w w':=by
  by_cases hp:l1.length=0
  · obtain rfl:=List.eq_nil_of_length_eq_zero hp
    exact contains_empty A1 c1 59 _ w
  obtain⟨b,o,rfl,hb,hc⟩:=C_addr34 hC (by omega)
  have eg:∀ args w,(callFunc 59 args).run Tryz.prog w=.ok (.enter 59 args) w:=enters_of Tryz.func59 (by kernel_rfl) rfl
  have h:=AnyQ.slices_ContainsFunc Tryz.containsEd 3 isAgg34 sizeOf34 enc34 enc34_len (meetE x) 59 #[.pointer (some ⟨B,0,none⟩)] eg b o l1.length c1 l1 w (meet_pred x B w hB h0 h1 h2) (Nat.le_refl _) (by omega) hb hc
  rw[List.take_length] at h
  exact h
/-- three texts merged: what it answers, but for the making of the edits -/
def yTb_.f (b a c:ByteArray):Option (ByteArray × Int) :=
  if b.size≤1000000000∧a.size≤1000000000∧c.size≤1000000000 then
    (if (editsR b a).2≠0 then some (⟨#[]⟩,(editsR b a).2) else if (editsR b c).2≠0 then some (⟨#[]⟩,(editsR b c).2)
     else if (editsR b a).1.any (fun i=>(editsR b c).1.any (meetE i))=true then some (⟨#[]⟩,250)
     else if (mergeR b.size (editsR b a).1 (editsR b c).1).2≠0 then some (⟨#[]⟩,250)
     else (ySb_.f b (mergeR b.size (editsR b a).1 (editsR b c).1).1).bind fun q=>some (if q.2=0 then (q.1,0) else (⟨#[]⟩,q.2)))
  else none
theorem both_f (b a c:ByteArray) (hb:b.size≤1000000000) (ha:a.size≤1000000000) (hc:c.size≤1000000000) (k:Nat) (hk:5000000≤k) :
    yWb_.f k b a c=some (if (editsR b a).2≠0 then ([],[],(editsR b a).2) else if (editsR b c).2≠0 then ([],[],(editsR b c).2) else ((editsR b a).1,(editsR b c).1,0)):=by
  unfold yWb_.f
  rw[edits_f b a hb ha k hk,Option.bind_some]
  by_cases h1:(editsR b a).2=0
  rotate_left
  · rw[if_neg h1,if_pos h1]
  rw[if_pos h1,if_neg (fun q=>q h1),edits_f b c hb hc k hk,Option.bind_some]
  by_cases h2:(editsR b c).2=0
  rotate_left
  · rw[if_neg h2,if_pos h2]
  rw[if_pos h2,if_neg (fun q=>q h2)]
set_option maxHeartbeats 8000000 in
set_option maxRecDepth 100000 in
theorem yTb_.calls (b a c:ByteArray) (r1:ByteArray) (r2:Int) (w:World) (h:yTb_.f b a c=some (r1,r2)) :
    Calls Tryz.prog 38 #[.string b,.string a,.string c] w fun e w'=>e=.returned (.tuple #[.string r1,.int .i64 r2])∧Below w.heap.size w w':=by
  unfold yTb_.f at h
  by_cases hs:b.size≤1000000000∧a.size≤1000000000∧c.size≤1000000000
  rotate_left
  · rw[if_neg hs] at h;cases h
  rw[if_pos hs] at h
  have hb:=both_f b a c hs.1 hs.2.1 hs.2.2 5000000 (Nat.le_refl _)
  have L1:=Aside0.mk (editsR_len b a)
  have L2:=Aside0.mk (editsR_len b c)
  by_cases h1:(editsR b a).2≠0
  · rw[if_pos h1] at h hb
    have HB:=Aside0.mk (yWb_.calls 5000000 b a c _ _ _ w hb)
    have h':=Option.some.inj h
    have hr:r1=⟨#[]⟩∧r2=(editsR b a).2:=⟨(congrArg Prod.fst h').symm,(congrArg Prod.snd h').symm⟩
    obtain⟨rfl,rfl⟩:=hr
    clear h h' hb hs
    have b1:((editsR b a).2 != 0)=true:=by simpa using h1
    have b2:((editsR b a).2 == 0)=false:=by simpa using h1
    generalize (editsR b a).2=fe at *
    clear h1
    go_enter Tryz.func38,Tryz.ntmps38
    go_wp2_with (go_at_call 57;refine HB.out.mono ?_;rintro e w2 ⟨v1,v2,rfl,-,-,hb⟩;have HB2:=Aside0.mk hb;clear hb HB)
    go_ret2
    exact⟨rfl,HB2.out⟩
  rw[if_neg h1] at h hb
  by_cases h2:(editsR b c).2≠0
  · rw[if_pos h2] at h hb
    have HB:=Aside0.mk (yWb_.calls 5000000 b a c _ _ _ w hb)
    have h':=Option.some.inj h
    have hr:r1=⟨#[]⟩∧r2=(editsR b c).2:=⟨(congrArg Prod.fst h').symm,(congrArg Prod.snd h').symm⟩
    obtain⟨rfl,rfl⟩:=hr
    clear h h' hb hs h1
    have b1:((editsR b c).2 != 0)=true:=by simpa using h2
    have b2:((editsR b c).2 == 0)=false:=by simpa using h2
    generalize (editsR b c).2=fe at *
    clear h2
    go_enter Tryz.func38,Tryz.ntmps38
    go_wp2_with (go_at_call 57;refine HB.out.mono ?_;rintro e w2 ⟨v1,v2,rfl,-,-,hb⟩;have HB2:=Aside0.mk hb;clear hb HB)
    go_ret2
    exact⟨rfl,HB2.out⟩
  rw[if_neg h2] at h hb
  have HB:=Aside0.mk (yWb_.calls 5000000 b a c _ _ _ w hb)
  have HBS:=Aside0.mk hs
  clear hb h1 h2 hs
  generalize (editsR b a).1=x at *
  generalize (editsR b c).1=y at *
  have HH:=Aside0.mk h
  clear h
  go_enter Tryz.func38,Tryz.ntmps38
  go_wp2_with (go_at_call 57;refine HB.out.mono ?_;rintro e w1 ⟨v1,v2,rfl,ho1,ho2,hb⟩;obtain⟨A1,c1,rfl⟩:=Kd.yw_ ho1;obtain⟨A2,c2,rfl⟩:=Kd.yw_ ho2;have HC1:=Aside0.mk (Kd.yj_ ho1).2.2;have HL1:=Aside0.mk (Kd.yj_ ho1).2.1;have HC2:=Aside0.mk (Kd.yj_ ho2).2.2;have HL2:=Aside0.mk (Kd.yj_ ho2).2.1;have HB2:=Aside0.mk hb;clear hb ho1 ho2 HB)
  go_loopg [28] (x.length+1) (fun kq v28 w'=>∃ i:Nat,v28=.int .i64 (i:Int)∧Aside0 (x.length - i < kq∧i≤x.length)∧Aside0 (Below w1.heap.size w1 w')∧Aside0 (∀ j,∀ hj:j < x.length,j < i→y.any (meetE x[j])=false))
  case atStart=>exact⟨0,rfl,⟨by omega,by omega⟩,⟨Below.refl _ _⟩,⟨fun j hj h0=>by omega⟩⟩
  case round =>
    obtain⟨i,rfl,HI,HBe,HN⟩:=hrel
    obtain⟨k1,rfl⟩:∃ k1,gk=k1+1:=⟨gk - 1,by have:=HI.out.1;omega⟩
    by_cases hlt:i < x.length
    · have hb:decide ((i:Int) < (x.length:Int))=true:=by simp;omega
      have hb2:decide ((0:Int)≤(i:Int))=true:=by simp
      have p0:(0:Int)≤(i:Int):=by omega
      have q0:(i:Int) < (x.length:Int):=by omega
      obtain⟨ad,e0,hx0,hx1,hx2⟩:=at_T91 (Kd.y2_ HC1.out HBe.out) (i:Int) p0 q0
      cases e0
      rw[Int.toNat_natCast] at hx0 hx1 hx2
      rw[rd34_at x i hlt] at hx0 hx1 hx2
      have HM:Aside0 (x.any (fun i=>y.any (meetE i))=true∨y.any (meetE x[i])=false):=⟨by
        cases hq:y.any (meetE x[i]) with
        | true=>exact Or.inl (List.any_eq_true.2 ⟨x[i],List.getElem_mem hlt,hq⟩)
        | false=>exact Or.inr rfl⟩
      have HN2:Aside0 (y.any (meetE x[i])=false→∀ j,∀ hj:j < x.length,j < i+1→y.any (meetE x[j])=false):=⟨fun hq j hj h0=>by
        by_cases e:j=i
        · subst e;exact hq
        · exact HN.out j hj (by omega)⟩
      have H24:=Aside0.mk (fun (w':World) (h1:Below w1.heap.size w1 w') (B:Nat) (h2:B < w'.heap.size) (h3:w'.cell? ⟨B,0,none⟩=some (.int .i64 x[i].f0)) (h4:w'.cell? ⟨B,1,none⟩=some (.int .i64 x[i].f1)) (h5:w'.cell? ⟨B,2,none⟩=some (.string x[i].f2)) =>
        contains_meet x[i] A2 c2 B y w' (Kd.y2_ HC2.out h1) h2 h3 h4 h5 (by have:=L2.out;omega))
      generalize x[i]=xi at *
      cases hq:y.any (meetE xi) with
      | true =>
        rw[hq] at H24
        have HR:=HH.out
        rw[if_pos (by rcases HM.out with q|q;exact q;rw[hq] at q;cases q)] at HR
        have h':=Option.some.inj HR
        have hr:r1=⟨#[]⟩∧r2=250:=⟨(congrArg Prod.fst h').symm,(congrArg Prod.snd h').symm⟩
        obtain⟨rfl,rfl⟩:=hr
        clear HR h' HH HM HN2 hq
        go_wp2_with (go_at_call 58;refine (H24.out _ ?za _ ?zb ?zc ?zd ?ze).mono ?_;(case za=>exact HBe.out.alloc HBe.out.size _);(case zb=>simp);(case zc=>simp);(case zd=>simp);(case ze=>simp);rintro e w5 ⟨rfl,hb⟩;have HB5:=Aside0.mk ((HBe.out.alloc HBe.out.size (.cells #[.int .i64 xi.f0,.int .i64 xi.f1,.string xi.f2] 91)).trans (hb.mono (by have:=HBe.out.size;simp;omega)));clear hb)
        go_ret2
        exact⟨rfl,HB2.out.trans (HB5.out.mono HB2.out.size)⟩
      | false =>
        rw[hq] at H24
        have HN3:=Aside0.mk (HN2.out hq)
        clear HM HN2 hq
        go_wp2_with (go_at_call 58;refine (H24.out _ ?za _ ?zb ?zc ?zd ?ze).mono ?_;(case za=>exact HBe.out.alloc HBe.out.size _);(case zb=>simp);(case zc=>simp);(case zd=>simp);(case ze=>simp);rintro e w5 ⟨rfl,hb⟩;have HB5:=Aside0.mk ((HBe.out.alloc HBe.out.size (.cells #[.int .i64 xi.f0,.int .i64 xi.f1,.string xi.f2] 91)).trans (hb.mono (by have:=HBe.out.size;simp;omega)));clear hb)
        go_roundg k1
        case measure=>have:=HI.out.1;omega
        case rel=>exact⟨i+1,congrArg (Value.int .i64) (nx i (by have:=L1.out;omega)),⟨by have:=HI.out.1;omega,by omega⟩,HB5,HN3⟩
    have hb:decide ((i:Int) < (x.length:Int))=false:=by simp;omega
    have hany:x.any (fun i=>y.any (meetE i))=false:=by
      rw[List.any_eq_false]
      intro z hz
      obtain⟨j,hj,rfl⟩:=List.mem_iff_getElem.1 hz
      rw[HN.out j hj (by omega)];decide
    have HR:=HH.out
    rw[if_neg (by rw[hany];decide)] at HR
    have HWB:=Aside0.mk (HB2.out.trans (HBe.out.mono HB2.out.size))
    have H27:=Aside0.mk (y4b_.calls b A1 c1 x A2 c2 y (mergeR b.size x y).1 (mergeR b.size x y).2 wr (Kd.y2_ HC1.out HBe.out) HL1.out (Kd.y2_ HC2.out HBe.out) HL2.out (by unfold y4b_.f;rw[if_pos (by have:=L1.out;have:=L2.out;omega)]))
    clear HH HN hany
    by_cases hm:(mergeR b.size x y).2≠0
    · rw[if_pos hm] at HR
      have h':=Option.some.inj HR
      have hr:r1=⟨#[]⟩∧r2=250:=⟨(congrArg Prod.fst h').symm,(congrArg Prod.snd h').symm⟩
      obtain⟨rfl,rfl⟩:=hr
      clear HR h'
      have b1:((mergeR b.size x y).2 != 0)=true:=by simpa using hm
      have b2:((mergeR b.size x y).2 == 0)=false:=by simpa using hm
      generalize (mergeR b.size x y).2=fe at *
      generalize (mergeR b.size x y).1=ml at *
      clear hm
      go_wp2_with (go_at_call 61;refine H27.out.mono ?_;rintro e w5 ⟨v5,rfl,-,hb⟩;have HB5:=Aside0.mk (HWB.out.trans (hb.mono HWB.out.size));clear hb H27)
      go_ret2
      exact⟨rfl,HB5.out⟩
    rw[if_neg hm] at HR
    have hm0:(mergeR b.size x y).2=0:=Classical.not_not.1 hm
    rw[hm0] at H27
    generalize (mergeR b.size x y).1=ml at *
    clear hm hm0
    obtain⟨q,hq1,hq2⟩:=Option.bind_eq_some_iff.1 HR
    obtain⟨s,e⟩:=q
    have H28:=Aside0.mk (fun A c w5 (h3:Kd.C k91 w5 A ml.length ml) (h4:ml.length≤c)=>ySb_.calls b A c ml s e w5 h3 h4 hq1)
    have h':=Option.some.inj hq2
    clear HR hq1 hq2
    by_cases he:e=0
    · subst he
      rw[if_pos rfl] at h'
      have hr:r1=s∧r2=0:=⟨(congrArg Prod.fst h').symm,(congrArg Prod.snd h').symm⟩
      obtain⟨rfl,rfl⟩:=hr
      clear h'
      go_wp2_with (first
        | (go_at_call 61;refine H27.out.mono ?_;rintro e w5 ⟨v5,rfl,ho,hb⟩;obtain⟨A5,c5,rfl⟩:=Kd.yw_ ho;have HC5:=Aside0.mk (Kd.yj_ ho).2.2;have HL5:=Aside0.mk (Kd.yj_ ho).2.1;have HB5:=Aside0.mk (HWB.out.trans (hb.mono HWB.out.size));clear hb H27 ho)
        | (go_at_call 62;refine (H28.out _ _ _ HC5.out HL5.out).mono ?_;rintro e w6 ⟨rfl,hb⟩;have HB6:=Aside0.mk (HB5.out.trans (hb.mono HB5.out.size));clear hb H28))
      go_ret2
      exact⟨rfl,HB6.out⟩
    have he':¬ ((s,e):ByteArray × Int).2=0:=he
    rw[if_neg he'] at h'
    have hr:r1=⟨#[]⟩∧r2=e:=⟨(congrArg Prod.fst h').symm,(congrArg Prod.snd h').symm⟩
    obtain⟨rfl,rfl⟩:=hr
    clear h'
    have b1:(r2 != 0)=true:=by simpa using he
    have b2:(r2 == 0)=false:=by simpa using he
    clear he he'
    go_wp2_with (first
      | (go_at_call 61;refine H27.out.mono ?_;rintro e w5 ⟨v5,rfl,ho,hb⟩;obtain⟨A5,c5,rfl⟩:=Kd.yw_ ho;have HC5:=Aside0.mk (Kd.yj_ ho).2.2;have HL5:=Aside0.mk (Kd.yj_ ho).2.1;have HB5:=Aside0.mk (HWB.out.trans (hb.mono HWB.out.size));clear hb H27 ho)
      | (go_at_call 62;refine (H28.out _ _ _ HC5.out HL5.out).mono ?_;rintro e w6 ⟨rfl,hb⟩;have HB6:=Aside0.mk (HB5.out.trans (hb.mono HB5.out.size));clear hb H28))
    go_ret2
    exact⟨rfl,HB6.out⟩
end Go.Proofs.YthimblhfjfngiaaGreat.PText

namespace Go.Proofs.YthimblhfjfngiaaGreat.PText
open Go.RowKit Go.Lib Go.Proofs.YthimblhfjfngiaaGreatW.PrintWords Go.Proofs.YthimblhfjfngiaaGreatW.PrintLast Go.Proofs.YthimblhfjfngiaaGreatW.PrintMore
set_option linter.unusedVariables false
set_option linter.unusedSimpArgs false
end Go.Proofs.YthimblhfjfngiaaGreat.PText

namespace Go.Proofs.YthimblhfjfngiaaGreat.PText
open Go.RowKit Go.Lib Go.Proofs.YthimblhfjfngiaaGreatW.PrintWords Go.Proofs.YthimblhfjfngiaaGreatW.PrintLast Go.Proofs.YthimblhfjfngiaaGreatW.PrintMore
theorem bt_ten (s:ByteArray) (i:Nat):bt s (i:Int)=10↔s.data.toList[i]?=some 10:=by
  have hs:=y5b_ s
  unfold bt
  rw[Int.toNat_natCast]
  by_cases h:i < s.size
  rotate_left
  · rw[dif_neg h,List.getElem?_eq_none (by omega)]
    constructor
    · intro q;cases q
    · intro q;cases q
  rw[dif_pos h]
  have h2:i < s.data.toList.length:=by omega
  rw[List.getElem?_eq_getElem h2]
  have e:s.data.toList[i]=s[i]'h:=rfl
  rw[e]
  constructor
  · intro q
    have:(s[i]'h).toNat=10:=by omega
    rw[Option.some.injEq]
    exact UInt8.toNat_inj.1 this
  · intro q
    rw[Option.some.inj q]
    rfl
theorem rlines_l0 (s:ByteArray) (hs:s.size≤100000):∀ (m i k:Nat) (out:List ByteArray) (p:Nat),s.size - i=m→p≤i→i≤s.size→m+1≤k→out.length≤p →
    yt_.l0 k s out (p:Int) (i:Int)=some (out++(Tx.lgo (Tx.sl s.data.toList p i) (s.data.toList.drop i)).map fun l=>⟨l.toArray⟩):=by
  have hsl:=y5b_ s
  intro m
  induction m with
  | zero =>
    intro i k out p hm hp hi hk ho
    obtain⟨k,rfl⟩:∃ q,k=q+1:=⟨k - 1,by omega⟩
    have hd:s.data.toList.drop i=[]:=List.drop_of_length_le (by omega)
    have hslen:=Tx.sl_len (s:=s.data.toList) (a:=(p:Int)) (b:=(i:Int)) (by omega) (by omega) (by omega)
    have e0:Tx.lgo (Tx.sl s.data.toList p i) []=if Tx.sl s.data.toList p i=[] then [] else [Tx.sl s.data.toList p i]:=rfl
    rw[yt_.l0,if_neg (by omega),hd,e0]
    by_cases c:p < s.size
    rotate_left
    · rw[if_neg (by omega),if_pos (by apply List.eq_nil_of_length_eq_zero;omega)]
      simp
    rw[if_pos (by omega),if_pos (by omega),if_pos (by omega),if_pos (by omega),if_neg (by intro q;rw[q] at hslen;simp at hslen;omega)]
    have e:s.extract (p:Int).toNat s.size=⟨(Tx.sl s.data.toList p i).toArray⟩:=by
      apply ba_ext
      obtain rfl:i=s.size:=by omega
      have:=ext_sl s (p:Int) (s.size:Int)
      rw[Int.toNat_natCast s.size] at this
      rw[this]
    rw[e]
    rfl
  | succ m ih =>
    intro i k out p hm hp hi hk ho
    obtain⟨k,rfl⟩:∃ q,k=q+1:=⟨k - 1,by omega⟩
    have hlt:i < s.data.toList.length:=by omega
    have hd:s.data.toList.drop i=s.data.toList[i] :: s.data.toList.drop (i+1):=List.drop_eq_getElem_cons hlt
    have hsn:Tx.sl s.data.toList p ((i+1:Nat):Int)=Tx.sl s.data.toList p i++[s.data.toList[i]]:=by
      have h1:=Tx.sl_sl (s:=s.data.toList) (a:=(p:Int)) (b:=(i:Int)) (c:=((i+1:Nat):Int)) (by omega) (by omega)
      rw[← h1]
      congr 1
      unfold Tx.sl
      rw[Int.toNat_natCast,Int.toNat_natCast,hd,show i+1 - i=1 by omega]
      rfl
    have e0:∀ cur,Tx.lgo cur (s.data.toList[i] :: s.data.toList.drop (i+1))=if s.data.toList[i]=10 then (cur++[s.data.toList[i]]) :: Tx.lgo [] (s.data.toList.drop (i+1)) else Tx.lgo (cur++[s.data.toList[i]]) (s.data.toList.drop (i+1)):=fun _=>rfl
    have hb:=bt_ten s i
    rw[List.getElem?_eq_getElem hlt,Option.some.injEq] at hb
    rw[yt_.l0,if_pos (by omega),if_pos (by omega),nx i (by omega),hd,e0]
    by_cases q:s.data.toList[i]=10
    rotate_left
    · rw[if_neg (fun c=>q (hb.1 c)),if_neg q,ih (i+1) k out p (by omega) (by omega) (by omega) (by omega) ho,← hsn]
    rw[if_pos (hb.2 q),if_pos (by omega),if_pos (by omega),if_pos (by omega),if_pos (by omega),if_pos q,ih (i+1) k _ (i+1) (by omega) (by omega) (by omega) (by omega) (by rw[List.length_append,List.length_singleton];omega),Tx.sl_same,← hsn]
    have e:s.extract (p:Int).toNat ((i+1:Nat):Int).toNat=⟨(Tx.sl s.data.toList p ((i+1:Nat):Int)).toArray⟩:=ba_ext (by rw[ext_sl])
    rw[e,List.append_assoc out,List.singleton_append]
    rfl
theorem rlines_f (s:ByteArray) (hs:s.size≤100000) (k:Nat) (hk:s.size+1≤k):yt_.f k s=some (linesB s):=by
  have h:=rlines_l0 s hs s.size 0 k [] 0 (by omega) (by omega) (by omega) hk (Nat.le_refl _)
  rw[show ((0:Nat):Int)=0 from rfl,Tx.sl_same,List.drop_zero,List.nil_append] at h
  exact h
end Go.Proofs.YthimblhfjfngiaaGreat.PText

namespace Go.Proofs.YthimblhfjfngiaaGreat.PText
open Go.RowKit Go.Lib Go.Sort Go.Proofs.YthimblhfjfngiaaGreatW.PrintWords Go.Proofs.YthimblhfjfngiaaGreatW.PrintLast Go.Proofs.YthimblhfjfngiaaGreatW.PrintMore
set_option linter.unusedVariables false
set_option linter.unusedSimpArgs false
theorem keep2 {w w':World} {p g:Nat} {u v:Value} (hb:Below w.heap.size w w') (h1:w.cell? ⟨p,0,none⟩=some u) (h2:w.cell? ⟨g,0,none⟩=some v) (l1:p < w.heap.size) (l2:g < w.heap.size) :
    w'.cell? ⟨p,0,none⟩=some u∧w'.cell? ⟨g,0,none⟩=some v∧Below w.heap.size w w':=⟨(hb.cell (p:=⟨p,0,none⟩) l1).trans h1,(hb.cell (p:=⟨g,0,none⟩) l2).trans h2,hb⟩
/-- the row of a past of one commit -/
theorem past_one {w:World} {base p:Nat} {x:Com} (h:PastIs w base p [x]):∃ g cap c,p < w.heap.size∧g < w.heap.size∧w.cell? ⟨p,0,none⟩=some (.slice (some ⟨g,0,none⟩) 1 cap)∧w.cell? ⟨g,0,none⟩=some (.pointer (some ⟨c,0,none⟩))∧ComAt w c x:=by
  obtain⟨A,cap,ps,h1,h2,h3,h4,h5⟩:=h
  obtain⟨c,rfl⟩:∃ c,ps=[c]:=List.length_eq_one_iff.1 h1
  obtain⟨g,cap',hv,hb,-,cs,hc⟩:=Kd.R_form h4 (by simp)
  cases hv
  obtain⟨q1,-⟩:=Kd.R_cell (enc:=fun c:Nat=>Value.pointer (some ⟨c,0,none⟩)) (h1:=fun _=>rfl) 0 h4 0 (Int.le_refl _) (by simp)
  exact⟨g,cap,c,(Array.getElem?_eq_some_iff.1 h3).1,(Array.getElem?_eq_some_iff.1 hc).1,by unfold World.cell?;rw[h3];rfl,q1,h5 0 (by simp) (by simp)⟩
set_option maxRecDepth 100000 in
set_option maxHeartbeats 4000000 in
theorem blame_one (base p:Nat) (x:Com) (file t:ByteArray) (es:List S91) (w:World) (hP:PastIs w base p [x]) (hx:x.files.length≤10000) (hf:findR x.files file=(t,true))
    (he:yo_.f 5000000 ⟨#[]⟩ t=some (es,0)) (h0:∀ x∈es,x.f0=0∧x.f1=0∧x.f2.size≤1000000000) (hlen:es.length≤4000) (hD:(putL es 0).length≤1000000) :
    Calls Tryz.prog 9 #[.pointer (some ⟨p,0,none⟩),.string file] w fun e w'=>∃ v,e=.returned (.tuple #[v,.int .i64 0])∧Kd.R (Kd.int .i64) 3 w' w.heap.size (fun _=>True) v (putL es 0)∧Below w.heap.size w w':=by
  obtain⟨g,cap,c,l1,l2,hc1,hc2,hcom⟩:=past_one hP
  have HF:Aside0 (∀ wr,Below w.heap.size w wr→Calls Tryz.prog 28 #[.pointer (some ⟨c,0,none⟩),.string file] wr fun e w'=>e=.returned (.tuple #[.string t,.bool true])∧Below wr.heap.size wr w') :=
    ⟨fun wr hb=>by
      have q:=y6b_ c x file wr (hcom.keep (PKept.of_below hb)) hx
      rw[hf] at q
      exact q⟩
  have HBL:=Aside0.mk (fun wr=>blamed_new es 0 t wr he h0 hlen hD)
  clear hP hx hf he h0 hlen hD hcom
  have hw0:wrap64 ((1:Int) - 1)=0:=by rw[w64 (by omega) (by omega)];rfl
  have hw1:wrap64 0=0:=by rw[w64 (by omega) (by omega)]
  have hw2:IntKind.i64.wrap ((1:Int) - 1)=0:=(i64_w _).trans hw0
  have hw3:IntKind.i64.wrap 0=0:=(i64_w _).trans hw1
  have HB0:=Aside0.mk (Below.refl w.heap.size w)
  go_enter Tryz.func9,Tryz.ntmps9
  go_wp2_with fail
  go_region_held3 (fun w'=>w'.cell? ⟨p,0,none⟩=some (.slice (some ⟨g,0,none⟩) 1 cap)∧w'.cell? ⟨g,0,none⟩=some (.pointer (some ⟨c,0,none⟩))∧Below w.heap.size w w')
    (first
      | exact keep2 (Below.refl _ _) hc1 hc2 l1 l2
      | exact keep2 (Below.refl _ _).drew hc1 hc2 l1 l2
      | (go_split_ands;exact keep2 (Below.drew (by assumption)) hc1 hc2 l1 l2)
      | (go_split_ands;exact keep2 (yn_ (by assumption) hb) hc1 hc2 l1 l2)
      | (go_split_ands;exact keep2 (yn_ (by assumption) hb).drew hc1 hc2 l1 l2))
    (first
      | (go_at_call 28;with_reducible refine (HF.out _ ?zb).mono ?_;(case zb=>(go_split_ands;assumption));rintro e w5 ⟨rfl,hb⟩))
  go_split_ands
  have HB5:Aside0 (Below w.heap.size w w5):=⟨by assumption⟩
  clear hb
  go_wp2_with fail
  go_loopg [48,8,9] 2 (fun kq v48 v8 v9 w'=>Aside0 (Below w.heap.size w w')∧((1 < kq∧v48=.int .i64 0∧v8=.slice none 0 0∧v9=.string ⟨#[]⟩)∨(∃ A cc,0 < kq∧v48=.int .i64 1∧v8=.slice A (putL es 0).length cc∧v9=.string t∧Aside0 (Kd.R (Kd.int .i64) 3 w' w.heap.size (fun _=>True) (.slice A (putL es 0).length cc) (putL es 0)))))
  case atStart=>exact⟨HB5,.inl ⟨by omega,rfl,rfl,rfl⟩⟩
  case round =>
    obtain⟨HBe,hrel⟩:=hrel
    have hcr:=(HBe.out.cell (p:=⟨g,0,none⟩) l2).trans hc2
    rcases hrel with ⟨hk,rfl,rfl,rfl⟩|⟨A,cc,hk,rfl,rfl,rfl,HR⟩
    · obtain⟨k1,rfl⟩:∃ k1,gk=k1+1:=⟨gk - 1,by omega⟩
      go_wp2_with (first
        | (go_at_call 28;refine (HF.out _ HBe.out).mono ?_;rintro e w6 ⟨rfl,hb⟩;have HB6:=Aside0.mk (yn_ HBe.out hb);clear hb)
        | (go_at_call 29;refine (HBL.out _).mono ?_;rintro e w7 ⟨v7,rfl,ho,hb⟩;obtain⟨A7,c7,rfl⟩:=Kd.yw_ ho;have HO7:=Aside0.mk (Kd.y1_ ho HB6.out.size);have HB7:=Aside0.mk (yn_ HB6.out hb);clear ho hb))
      go_roundg k1
      case measure=>omega
      case rel=>exact⟨HB7,.inr ⟨A7,c7,by omega,by first|rfl|exact congrArg (Value.int .i64) (nx 0 (by omega)),rfl,rfl,HO7⟩⟩
    · go_wp2_with fail
      go_ret2
      exact⟨_,rfl,HR.out,HBe.out⟩
end Go.Proofs.YthimblhfjfngiaaGreat.PText

namespace Go.Proofs.YthimblhfjfngiaaGreat.PText
open Go.RowKit Go.Lib Go.Sort Go.Proofs.YthimblhfjfngiaaGreatW.PrintWords Go.Proofs.YthimblhfjfngiaaGreatW.PrintLast Go.Proofs.YthimblhfjfngiaaGreatW.PrintMore
set_option linter.unusedVariables false
set_option linter.unusedSimpArgs false
theorem edits_k (a b:ByteArray) (r:List S91 × Int) (k:Nat) (hk:k≤5000000) (h:yo_.f k a b=some r):yo_.f 5000000 a b=some r:=at_rounds (yo_.mono a b) hk h
theorem editsR_k (a b:ByteArray) (r:List S91 × Int) (k:Nat) (hk:k≤5000000) (ha:a.size≤1000000000) (hb:b.size≤1000000000) (h:yo_.f k a b=some r):editsR a b=r :=
  Option.some.inj ((edits_f a b ha hb 5000000 (Nat.le_refl _)).symm.trans (edits_k a b r k hk h))
def awA:ByteArray:=⟨#[97,10,98,10,99,10]⟩
def awB:ByteArray:=⟨#[120,10,98,10,99,10]⟩
def awC:ByteArray:=⟨#[97,10,98,10,121,10]⟩
def awR:ByteArray:=⟨#[120,10,98,10,121,10]⟩
theorem aw_e1:yo_.f 60 awA awB=some ([⟨0,2,⟨#[120,10]⟩⟩],0):=by kernel_rfl
theorem aw_e2:yo_.f 60 awA awC=some ([⟨4,6,⟨#[121,10]⟩⟩],0):=by kernel_rfl
theorem aw_e0:yo_.f 60 ⟨#[]⟩ ⟨#[97,10]⟩=some ([⟨0,0,⟨#[97,10]⟩⟩],0):=by kernel_rfl
theorem aw_mg:mergeR 6 [⟨0,2,⟨#[120,10]⟩⟩] [⟨4,6,⟨#[121,10]⟩⟩]=([⟨0,2,⟨#[120,10]⟩⟩,⟨4,6,⟨#[121,10]⟩⟩],0):=by kernel_rfl
theorem aw_ap:ySb_.f awA [⟨0,2,⟨#[120,10]⟩⟩,⟨4,6,⟨#[121,10]⟩⟩]=some (awR,0):=by kernel_rfl
theorem aw_three:yTb_.f awA awB awC=some (awR,0):=by
  have s1:awA.size=6:=rfl
  have s2:awB.size=6:=rfl
  have s3:awC.size=6:=rfl
  have h1:=editsR_k awA awB _ 60 (by omega) (by omega) (by omega) aw_e1
  have h2:=editsR_k awA awC _ 60 (by omega) (by omega) (by omega) aw_e2
  unfold yTb_.f
  rw[if_pos ⟨by omega,by omega,by omega⟩,h1,h2,s1,aw_mg]
  rw[if_neg (by decide),if_neg (by decide),if_neg (by decide),if_neg (by decide),aw_ap,Option.bind_some]
  rfl
theorem aw_put:putL [⟨0,0,⟨#[97,10]⟩⟩] 0=[0]:=by kernel_rfl
def awF:S41:=⟨⟨#[102]⟩,⟨#[97,10]⟩⟩
theorem aw_commit:commitR [] ⟨#[111,110,101]⟩ [awF]=(0,0,[⟨⟨#[111,110,101]⟩,[awF]⟩]):=by
  have h:srtF [awF]=[awF]:=by kernel_rfl
  unfold commitR
  rw[if_neg (by decide),if_neg (fun q=>q (show ([_]:List _).Nodup by simp)),if_neg (by rintro ⟨x,hx,e⟩;rcases List.mem_cons.1 hx with rfl|h;exact absurd e (by rw[show awF.f0.toList=[102] by kernel_rfl];decide);cases h),h]
  rfl
theorem aw_find:findR [awF] ⟨#[102]⟩=(⟨#[97,10]⟩,true):=by kernel_rfl
def smockinglaw25_awake.f:Option Bool:=some true
theorem file_row (w:World):Kd.C k41 (w.alloc (.cells #[.string ⟨#[102]⟩,.string ⟨#[97,10]⟩] 41)) (some ⟨w.heap.size,0,none⟩) 1 [awF]:=by
  refine⟨rfl,by simp,fun _=>⟨⟨w.heap.size,0,none⟩,rfl,fun j t hj=>?_⟩⟩
  have hj0:j=0:=by
    rcases Nat.eq_zero_or_pos j with h|h
    · exact h
    · rw[List.getElem?_eq_none (by simp;omega)] at hj;cases hj
  subst hj0
  cases Option.some.inj hj
  refine⟨[.string ⟨#[102]⟩,.string ⟨#[97,10]⟩],rfl,k41_mk _ _,fun i u hu=>?_⟩
  have hi:(w.alloc (.cells #[.string ⟨#[102]⟩,.string ⟨#[97,10]⟩] 41)).cell? ⟨w.heap.size,i,none⟩=some u:=by
    unfold World.cell?
    simp only[yJb_]
    match i,hu with
    | 0,hu=>exact hu
    | 1,hu=>exact hu
    | i+2,hu=>simp at hu
  have e:(Addr.add ⟨w.heap.size,0,none⟩ (0 * k41.sz+i))=(⟨w.heap.size,i,none⟩:Addr):=by unfold Addr.add;simp;exact fun q=>q.symm
  rw[e]
  exact hi
theorem int_row (w:World) (k:Int):Kd.C (Kd.int .i64) (w.alloc (.cells #[.int .i64 k] 3)) (some ⟨w.heap.size,0,none⟩) 1 [k]:=by
  refine⟨rfl,by simp,fun _=>⟨⟨w.heap.size,0,none⟩,rfl,fun j t hj=>?_⟩⟩
  have hj0:j=0:=by
    rcases Nat.eq_zero_or_pos j with h|h
    · exact h
    · rw[List.getElem?_eq_none (by simp;omega)] at hj;cases hj
  subst hj0
  cases Option.some.inj hj
  refine⟨[.int .i64 k],rfl,rfl,fun i u hu=>?_⟩
  have hi:(w.alloc (.cells #[.int .i64 k] 3)).cell? ⟨w.heap.size,i,none⟩=some u:=by
    unfold World.cell?
    simp only[yJb_]
    match i,hu with
    | 0,hu=>exact hu
    | i+1,hu=>simp at hu
  have e:(Addr.add ⟨w.heap.size,0,none⟩ (0 * (Kd.int .i64).sz+i))=(⟨w.heap.size,i,none⟩:Addr):=by unfold Addr.add;simp;exact fun q=>q.symm
  rw[e]
  exact hi
theorem aw_ints:y4_.f 10 [0] [0]=some true:=by kernel_rfl
set_option maxRecDepth 100000 in
set_option maxHeartbeats 4000000 in
theorem smockinglaw25_awake.calls (r:Bool) (w:World) (h:smockinglaw25_awake.f=some r):Calls Tryz.prog 14 #[] w fun e w'=>e=.returned (.bool r)∧Below w.heap.size w w':=by
  cases Option.some.inj h
  have H3:=Aside0.mk (fun w=>yTb_.calls awA awB awC _ _ w aw_three)
  have HBL:=Aside0.mk (fun base p w hP=>blame_one base p ⟨⟨#[111,110,101]⟩,[awF]⟩ ⟨#[102]⟩ _ _ w hP (by simp) aw_find (edits_k _ _ _ 60 (by omega) aw_e0) (by
    intro x hx
    rcases List.mem_cons.1 hx with rfl|h
    · exact⟨rfl,rfl,by show 2≤1000000000;omega⟩
    · cases h) (by simp) (by rw[aw_put];simp))
  unfold awA awB awC awR at H3
  go_enter Tryz.func14,Tryz.ntmps14
  go_wp2_with (first
    | (go_at_call 38;refine (H3.out _).mono ?_;rintro e w1 ⟨rfl,hb⟩;have HB1:=Aside0.mk hb;clear hb H3)
    | (go_at_call 26;refine (new_calls _).mono ?_;rintro e w2 ⟨rfl,hp,hb,hk⟩;have HP2:=Aside0.mk hp;have HB2:=Aside0.mk (yn_ HB1.out hb);have HBB:=Aside0.mk hb.size;clear hp hb hk)
    | (go_at_call 25;refine (commit_calls w1.heap.size w1.heap.size [] ⟨#[111,110,101]⟩ (some ⟨w2.heap.size,0,none⟩) 1 [awF] _ (HP2.out.below (Below.alloc (Below.refl _ w2) (Nat.le_refl _) _)) (file_row w2) (by simp) (by simp) (by have:=HBB.out;simp;omega)).mono ?_;rintro e w3 ⟨rfl,hp,hb,hk⟩;rw[aw_commit] at hp;have HP3:=Aside0.mk hp;have HB3:=Aside0.mk ((HB2.out.alloc HB2.out.size _).trans (hb.mono HB1.out.size));clear hp hb hk;rw[aw_commit])
    | (go_at_call 9;refine (HBL.out w1.heap.size w1.heap.size w3 HP3.out).mono ?_;rintro e w4 ⟨v4,rfl,ho,hb⟩;rw[aw_put] at ho;obtain⟨A4,c4,rfl⟩:=Kd.yw_ ho;have HO4:=Aside0.mk (Kd.yj_ ho);have HB4:=Aside0.mk (yn_ HB3.out hb);clear ho hb)
    | (go_at_call 13;refine (y4_.calls 10 A4 c4 [0] (some ⟨w4.heap.size,0,none⟩) 1 [0] true _ (Kd.yN_ HO4.out.2.2 _) HO4.out.2.1 (int_row w4 0) (by simp) aw_ints).mono ?_;rintro e w5 ⟨rfl,hd⟩;have HD5:=Aside0.mk hd;clear hd))
  go_ret
  exact⟨rfl,(HB4.out.alloc HB4.out.size _).trans (HD5.out.below.mono (by have:=HB4.out.size;simp;omega))⟩
end Go.Proofs.YthimblhfjfngiaaGreat.PText

namespace Go.Proofs.YthimblhfjfngiaaGreat.PText
open Go.RowKit Go.Lib Go.Proofs.YthimblhfjfngiaaGreatW.PrintWords Go.Proofs.YthimblhfjfngiaaGreatW.PrintLast Go.Proofs.YthimblhfjfngiaaGreatW.PrintMore
theorem redits_f (a b:ByteArray) (ha:a.size≤100000) (hb:b.size≤100000) (k:Nat) (hk:20000000≤k):ye_.f k a b=some (editsR a b):=by
  obtain⟨k,rfl⟩:∃ q,k=q+2:=⟨k - 2,by omega⟩
  unfold ye_.f editsR
  rw[rlines_f a (by omega) _ (by omega),Option.bind_some,rlines_f b (by omega) _ (by omega),Option.bind_some,if_neg (by omega),if_neg (by omega)]
  have hT:ye_.j0 (k+2) (linesB a) (linesB b) true=some ([],2):=by rw[ye_.j0,if_pos rfl]
  by_cases c3:2000 < (linesB a).length
  · have e:sizedR a b 0=([],2):=by unfold sizedR;rw[if_pos (Or.inr (Or.inr (Or.inl c3)))]
    rw[if_pos (by omega),hT,e,if_neg (by decide)]
  rw[if_neg (by omega)]
  by_cases c4:2000 < (linesB b).length
  · have e:sizedR a b 0=([],2):=by unfold sizedR;rw[if_pos (Or.inr (Or.inr (Or.inr c4)))]
    rw[decide_eq_true (by omega),hT,e,if_neg (by decide)]
  have big:¬ (200000 < a.size∨200000 < b.size∨2000 < (linesB a).length∨2000 < (linesB b).length):=by omega
  have e:sizedR a b 0=(stS (linesB a) (linesB b),0):=by unfold sizedR;rw[if_neg big,if_neg (by omega)]
  have hm:((linesB a).length+1) * (2 * (linesB b).length+4)≤2001 * 4004:=Nat.mul_le_mul (by omega) (by omega)
  have hl:=stT_len a b
  rw[decide_eq_false (by omega),ye_.j0,if_neg (by decide),rsteps_f _ _ (by omega) (by omega) (k+1) (by omega),Option.bind_some,e,if_pos rfl,stT_R]
  have:=(rEdits_l (stT a b) (by omega) (fun x hx=>by have:=(stT_ok a b x hx).2.2;omega) (stT a b).length 0 (by omega) (by omega)).1 (k+1) [] 0 (by omega) (by simp) (by omega) (by omega)
  rw[List.drop_zero,List.nil_append] at this
  exact this
end Go.Proofs.YthimblhfjfngiaaGreat.PText

namespace Go.Proofs.YthimblhfjfngiaaGreat.PText
open Go.RowKit Go.Lib Go.Proofs.YthimblhfjfngiaaGreatW.PrintWords Go.Proofs.YthimblhfjfngiaaGreatW.PrintLast Go.Proofs.YthimblhfjfngiaaGreatW.PrintMore
set_option linter.unusedVariables false
set_option linter.unusedSimpArgs false
/-- the edits of a side, sound and apart -/
structure Side (n:Nat) (x:List S91):Prop where
  okay:∀ e∈x,0≤e.f0∧e.f0≤e.f1∧e.f1≤(n:Int)
  far:∀ a∈x,∀ b∈x,a≠b→Tx.touch (toE a) (toE b)=false
  len:x.length≤4000
theorem toE_ofE (e:Tx.Ed):toE (ofE e)=e:=by
  cases e
  unfold toE ofE
  simp only
  rw[Lib.toList_data]
theorem eg_sum:∀ (l:List Tx.St) (a:Int) (c:Option Tx.Ed),((Tx.eg a c l).map (fun e=>e.x.length)).sum≤(c.toList.map (fun e=>e.x.length)).sum+(l.map (fun x=>x.2.length)).sum
  | [],a,c=>Nat.le_add_right _ _
  | (o,x) :: l,a,c=>by
    have hd:(c.getD ⟨a,a,[]⟩).x.length=(c.toList.map (fun e=>e.x.length)).sum:=by cases c <;> simp
    rw[List.map_cons,List.sum_cons]
    show _≤(c.toList.map (fun e=>e.x.length)).sum+(x.length+(l.map (fun x=>x.2.length)).sum)
    by_cases c1:o=32
    · subst c1
      have h:=eg_sum l (a+x.length) none
      rw[Tx.y8b_,List.map_append,List.sum_append]
      simp only[Option.toList_none,List.map_nil,List.sum_nil] at h
      omega
    by_cases c2:o=45
    · subst c2
      have h:=eg_sum l (a+x.length) (some ⟨(c.getD ⟨a,a,[]⟩).f,a+x.length,(c.getD ⟨a,a,[]⟩).x⟩)
      rw[Tx.y9b_]
      simp only[Option.toList_some,List.map_cons,List.map_nil,List.sum_cons,List.sum_nil] at h
      omega
    have h:=eg_sum l a (some ⟨(c.getD ⟨a,a,[]⟩).f,(c.getD ⟨a,a,[]⟩).t,(c.getD ⟨a,a,[]⟩).x++x⟩)
    rw[Tx.yac_ a c o x l c1 c2]
    simp only[Option.toList_some,List.map_cons,List.map_nil,List.sum_cons,List.sum_nil,List.length_append] at h
    omega
theorem steps_sum:∀ l:List Tx.St,(∀ x∈l,x.1=32∨x.1=45∨x.1=43)→(l.map (fun x=>x.2.length)).sum≤(Tx.olds l).flatten.length+(Tx.news l).flatten.length
  | [],_=>Nat.zero_le _
  | (o,x) :: l,h=>by
    have ih:=steps_sum l (fun y m=>h y (List.mem_cons_of_mem _ m))
    have hoh:=h (o,x) List.mem_cons_self
    rw[List.map_cons,List.sum_cons]
    show x.length+_≤_
    rcases hoh with e|e|e <;> (replace e:o=_:=e;subst e)
    · rw[Tx.olds_keep _ _ _ (by decide),Tx.yVb_ _ _ _ (by decide),List.flatten_cons,List.flatten_cons,List.length_append,List.length_append];omega
    · rw[Tx.olds_keep _ _ _ (by decide),Tx.news_gone,List.flatten_cons,List.length_append];omega
    · rw[Tx.olds_come,Tx.yVb_ _ _ _ (by decide),List.flatten_cons,List.length_append];omega
theorem sumS_edits2 (b a:ByteArray):sumS (editsR b a).1≤b.size+a.size:=by
  unfold editsR
  by_cases c:(sizedR b a 0).2=0
  rotate_left
  · rw[if_neg c]
    exact Nat.zero_le _
  rw[if_pos c]
  have ho:=Tx.stp_olds _ (Tx.lines (bL b)) (Tx.lines (bL a)) (Nat.le_refl _)
  have h1:=steps_sum (stT b a) (fun x hx=>(stT_ok b a x hx).1)
  have e1:Tx.olds (stT b a)=Tx.lines (bL b):=ho.1
  have e2:Tx.news (stT b a)=Tx.lines (bL a):=ho.2
  rw[e1,e2,Tx.y6_,Tx.y6_,← yXb_,← yXb_] at h1
  have q:=eg_sum (stT b a) 0 none
  rw[show ((none:Option Tx.Ed).toList.map (fun e=>e.x.length)).sum=0 from rfl,Nat.zero_add] at q
  have h3:sumS (editsS b a)=((Tx.eg 0 none (stT b a)).map (fun e=>e.x.length)).sum:=by
    unfold sumS editsS
    rw[List.map_map]
    rfl
  show sumS (editsS b a)≤_
  omega
theorem editsS_toE (b a:ByteArray):(editsS b a).map toE=Tx.edits (bL b) (bL a):=by
  unfold editsS
  rw[List.map_map]
  have:(toE ∘ ofE)=id:=funext fun e=>toE_ofE e
  rw[this,List.map_id]
  rfl
end Go.Proofs.YthimblhfjfngiaaGreat.PText

namespace Go.Proofs.YthimblhfjfngiaaGreat.PText
open Go.RowKit Go.Lib Go.Proofs.YthimblhfjfngiaaGreatW.PrintWords Go.Proofs.YthimblhfjfngiaaGreatW.PrintLast Go.Proofs.YthimblhfjfngiaaGreatW.PrintMore
set_option linter.unusedVariables false
set_option linter.unusedSimpArgs false
/-- the three boxes that pass writes, and all that stands -/
structure Bx (W0 w':World) (base bo ba bn:Nat) (v:Value) (a n:Int):Prop where
  os:w'.os=W0.os
  tape:w'.tape=W0.tape
  output:w'.output=W0.output
  size:W0.heap.size≤w'.heap.size
  far:∀ k,k < base→k≠bo→k≠ba→k≠bn→w'.heap[k]?=W0.heap[k]?
  ho:w'.heap[bo]?=some (.cells #[v] 28 (0,0))
  ha:w'.heap[ba]?=some (.cells #[.int .i64 a] 3 (0,0))
  hn:w'.heap[bn]?=some (.cells #[.int .i64 n] 3 (0,0))
section
variable {W0 w' w'' : World} {base bo ba bn : Nat} {v : Value} {a n : Int}
theorem box_put {w:World} {b t:Nat} {u x:Value} {fz:Nat × Nat} (h:w.heap[b]?=some (.cells #[u] t fz)):(w.setCell ⟨b,0,none⟩ x).heap[b]?=some (.cells #[x] t fz):=by
  unfold World.setCell
  simp only
  rw[Array.getElem?_modify,if_pos rfl,h]
  rfl
theorem box_size (w:World) (p:Addr) (x:Value):(w.setCell p x).heap.size=w.heap.size:=by unfold World.setCell;simp
theorem Bx.drew (h:Bx W0 w' base bo ba bn v a n):Bx W0 w'.drew base bo ba bn v a n:=⟨h.os,h.tape,h.output,h.size,h.far,h.ho,h.ha,h.hn⟩
theorem Bx.below (h:Bx W0 w' base bo ba bn v a n) (h1:bo < base) (h2:ba < base) (h3:bn < base) (hb:Below base w' w''):Bx W0 w'' base bo ba bn v a n :=
  ⟨hb.os.trans h.os,hb.tape.trans h.tape,hb.output.trans h.output,Nat.le_trans h.size hb.size,fun k hk k1 k2 k3=>(hb.block k hk).trans (h.far k hk k1 k2 k3),(hb.block _ h1).trans h.ho,(hb.block _ h2).trans h.ha,(hb.block _ h3).trans h.hn⟩
theorem Bx.setA (h:Bx W0 w' base bo ba bn v a n) (n1:bo≠ba) (n2:bn≠ba) (x:Int):Bx W0 (w'.setCell ⟨ba,0,none⟩ (.int .i64 x)) base bo ba bn v x n :=
  ⟨h.os,h.tape,h.output,by rw[box_size];exact h.size,fun k hk k1 k2 k3=>(Below.heap_setCell _ _ _ _ (fun e=>k2 e)).trans (h.far k hk k1 k2 k3),(Below.heap_setCell _ _ _ _ (fun e=>n1 e)).trans h.ho,box_put h.ha,(Below.heap_setCell _ _ _ _ (fun e=>n2 e)).trans h.hn⟩
theorem Bx.setN (h:Bx W0 w' base bo ba bn v a n) (n1:bo≠bn) (n2:ba≠bn) (x:Int):Bx W0 (w'.setCell ⟨bn,0,none⟩ (.int .i64 x)) base bo ba bn v a x :=
  ⟨h.os,h.tape,h.output,by rw[box_size];exact h.size,fun k hk k1 k2 k3=>(Below.heap_setCell _ _ _ _ (fun e=>k3 e)).trans (h.far k hk k1 k2 k3),(Below.heap_setCell _ _ _ _ (fun e=>n1 e)).trans h.ho,(Below.heap_setCell _ _ _ _ (fun e=>n2 e)).trans h.ha,box_put h.hn⟩
theorem Bx.setO (h:Bx W0 w' base bo ba bn v a n) (n1:ba≠bo) (n2:bn≠bo) (x:Value):Bx W0 (w'.setCell ⟨bo,0,none⟩ x) base bo ba bn x a n :=
  ⟨h.os,h.tape,h.output,by rw[box_size];exact h.size,fun k hk k1 k2 k3=>(Below.heap_setCell _ _ _ _ (fun e=>k1 e)).trans (h.far k hk k1 k2 k3),box_put h.ho,(Below.heap_setCell _ _ _ _ (fun e=>n1 e)).trans h.ha,(Below.heap_setCell _ _ _ _ (fun e=>n2 e)).trans h.hn⟩
theorem Bx.cellA (h:Bx W0 w' base bo ba bn v a n):w'.cell? ⟨ba,0,none⟩=some (.int .i64 a)∧w'.frozen? ⟨ba,0,none⟩=false:=⟨by unfold World.cell?;rw[h.ha];rfl,by simp [World.frozen?,h.ha]⟩
theorem Bx.cellN (h:Bx W0 w' base bo ba bn v a n):w'.cell? ⟨bn,0,none⟩=some (.int .i64 n)∧w'.frozen? ⟨bn,0,none⟩=false:=⟨by unfold World.cell?;rw[h.hn];rfl,by simp [World.frozen?,h.hn]⟩
theorem Bx.cellO (h:Bx W0 w' base bo ba bn v a n):w'.cell? ⟨bo,0,none⟩=some v∧w'.frozen? ⟨bo,0,none⟩=false:=⟨by unfold World.cell?;rw[h.ho];rfl,by simp [World.frozen?,h.ho]⟩
theorem Bx.cell (h:Bx W0 w' base bo ba bn v a n) {b i:Nat} {u:Value} (hk:b < base) (h1:b≠bo) (h2:b≠ba) (h3:b≠bn) (hc:W0.cell? ⟨b,i,none⟩=some u):w'.cell? ⟨b,i,none⟩=some u:=by
  rw[← hc];unfold World.cell?;simp only[h.far b hk h1 h2 h3]
theorem R_setBox {w:World} {b:Nat} {x:Value} {v:Value} {D:List Int} (h:Kd.R (Kd.int .i64) 3 w base (fun _=>True) v D) (hb:b < base):Kd.R (Kd.int .i64) 3 (w.setCell ⟨b,0,none⟩ x) base (fun _=>True) v D :=
  Kd.R_mono (Kd.R_step (Kd.yNb_ h) (fun k hk _=>Below.heap_setCell _ _ _ _ (fun e=>by have:=hk.2.1;subst e;omega))) (fun _ _=>trivial)
end
/-- the row that is kept for a part of another one: 'x[i:j:j]' -/
theorem C_part {w:World} {A:Option Addr} {who:List Int} (h:Kd.C (Kd.int .i64) w A who.length who) {i j:Nat} (hij:i≤j) (hj:j≤who.length) :
    Kd.C (Kd.int .i64) w (if j=i then A else A.map (·.add i)) (j - i) ((who.drop i).take (j - i)):=by
  have h2:=Kd.C_drop (m:=i) (c:=j) (Kd.C_take h hj) (by rw[List.length_take];omega) (by rw[List.length_take];omega)
  have e:(who.take j).drop i=(who.drop i).take (j - i):=by rw[List.drop_take]
  have el:((who.drop i).take (j - i)).length=j - i:=by rw[List.length_take,List.length_drop];omega
  rw[e,el,show i * (Kd.int .i64).sz=i from Nat.mul_one i] at h2
  exact h2
theorem cut3 {P:Program} (t e:TypeId) {i:TypeInfo} (ht:P.underlying t=some (.slice e)) (hi:P.info? e=some i) (size:Nat) (hsz:i.size=size) (A:Option Addr) (n c:Nat) (lo hi':Int) (h0:0≤lo) (h1:lo≤hi') (h2:hi'≤n) (hc:n≤c) :
    ∀ W:World,(Instr.slice t (.slice A n c) (some (.int .i64 lo)) (some (.int .i64 hi')) (some (.int .i64 hi'))).run P W=.ok (.slice (if hi'.toNat=lo.toNat then A else A.map (·.add (lo.toNat * size))) (hi'.toNat - lo.toNat) (hi'.toNat - lo.toNat)) W:=by
  intro W
  have hel:P.elem t=e:=by simp [Program.elem,ht]
  have hu:P.underlying t=some (.slice (P.elem t)):=by rw[hel];exact ht
  rw[run_slice_lhm W t A n c hu .i64 .i64 .i64 lo hi' hi' h0 h1 (Int.le_refl _) (by omega),hel]
  simp [sizeOf,typeInfo,hi,hsz,sliced,Result.andThen]
theorem cut43 (A:Option Addr) (n c i j:Nat) (hij:i≤j) (hj:j≤n) (hc:n≤c) (W:World):(Instr.slice 28 (.slice A n c) (some (.int .i64 (i:Int))) (some (.int .i64 (j:Int))) (some (.int .i64 (j:Int)))).run Tryz.prog W=.ok (.slice (if j=i then A else A.map (·.add i)) (j - i) (j - i)) W:=by
  obtain⟨i0,hi,hz0,hz1,hz2⟩:=info_parts info3
  have:=cut3 28 3 Tryz.underlying28 hi 1 hz1 A n c (i:Int) (j:Int) (by omega) (by omega) (by omega) hc W
  simpa using this
/-- what a pass leaves as it is: all but the boxes and the row that grows -/
def Stays (w w':World) (bo ba bn:Nat) (row:Option Nat):Prop:=w.heap.size≤w'.heap.size∧∀ k,k < w.heap.size→k≠bo→k≠ba→k≠bn→some k≠row→w'.heap[k]?=w.heap[k]?
theorem Stays.refl (w:World) (bo ba bn:Nat) (row:Option Nat):Stays w w bo ba bn row:=⟨Nat.le_refl _,fun _ _ _ _ _ _=>rfl⟩
theorem Stays.drew {w w':World} {bo ba bn:Nat} {row:Option Nat} (h:Stays w w' bo ba bn row):Stays w w'.drew bo ba bn row:=h
theorem Stays.set {w w':World} {bo ba bn b:Nat} {row:Option Nat} {x:Value} (h:Stays w w' bo ba bn row) (hb:b=bo∨b=ba∨b=bn):Stays w (w'.setCell ⟨b,0,none⟩ x) bo ba bn row :=
  ⟨by rw[box_size];exact h.1,fun k hk k1 k2 k3 k4=>(Below.heap_setCell _ _ _ _ (fun e=>by rcases hb with q|q|q <;> (subst q;exact absurd e (by assumption)))).trans (h.2 k hk k1 k2 k3 k4)⟩
theorem Stays.grow {w w' w'':World} {bo ba bn:Nat} {row:Option Nat} (h:Stays w w' bo ba bn row) (hg:w'.grownBy w'' row) (hs:w'.heap.size≤w''.heap.size):Stays w w'' bo ba bn row :=
  ⟨Nat.le_trans h.1 hs,fun k hk k1 k2 k3 k4=>(hg.block k (Nat.lt_of_lt_of_le hk h.1) k4).trans (h.2 k hk k1 k2 k3 k4)⟩
/-- to append a part of a row of numbers to a row of one's own, in a region that draws its order -/
theorem append_part {ops:Array Oper} {o:Oper} {a:Act} {Q:Exit→Act→World→Prop} {Kc:Act→World→Prop} {W W0:World} (base bo ba bn:Nat) {v:Value} {pa pn:Int} {D ys:List Int} {A:Option Addr} {m c:Nat} (hw:Region.wanted o (yielded ops a.tmps)=true)
    (ho:o.op=.call { callee:=.builtin .append,args:=#[.tmp 24,.tmp 29],argTypes:=#[28,28] }) (hs:a.eval (.tmp 24)=v) (hx:a.eval (.tmp 29)=.slice A m c)
    (hB:Bx W0 W base bo ba bn v pa pn) (hR:Kd.R (Kd.int .i64) 3 W base (fun _=>True) v D) (hC:Kd.C (Kd.int .i64) W A m ys) (l1:bo < base) (l2:ba < base) (l3:bn < base) (l4:base≤W0.heap.size) (hl:D.length+m≤10000000)
    (h:∀ A1 c1 w1,Bx W0 w1 base bo ba bn v pa pn→W.grownBy w1 v.ownBlock∧W.heap.size≤w1.heap.size→Kd.R (Kd.int .i64) 3 w1 base (fun _=>True) (.slice A1 (D.length+m) c1) (D++ys)→Kc (a.put o.dst (.slice A1 (D.length+m) c1)) w1) :
    if Region.wanted o (yielded ops a.tmps)=true then Oper.wp Tryz.prog o a W Kc Q else Kc (a.put o.dst undef) W:=by
  refine Kd.R_append_rows_step (Kd.int .i64) (w0:=W) base hw (.tmp 24) (.tmp 29) 28 3 (.int .i64 0) 8 ho Tryz.underlying28 info3 rfl (by decide) (by omega) v D ys A m c (fun _=>True) (fun _=>False) hs hx hR hC (fun _ _ h=>h) (fun _ h=>h.elim) (fun _ _=>trivial) (Below.refl _ _) (Nat.le_trans l4 hB.size) (by omega) ?_
  intro v1 w1 h1 h2 h3 h4
  obtain⟨A1,c1,rfl⟩:=Kd.yw_ h1
  have e:(D++ys).length=D.length+m:=by rw[List.length_append,hC.1]
  rw[e] at h1 ⊢
  exact h A1 c1 w1 (hB.below l1 l2 l3 h2) ⟨h3,h3.size⟩ h1
theorem Bx.S {W0 w':World} {base bo ba bn bl c1 n:Nat} {v:Value} {a:Int} {A1:Option Addr} {k:Int} (hs:∀ w' v a k,Bx W0 w' base bo ba bn v a k→w'.cell? ⟨bl,0,none⟩=some (.slice A1 n c1)) (h:Bx W0 w' base bo ba bn v a k) :
    w'.cell? ⟨bn,0,none⟩=some (.int .i64 k)∧w'.cell? ⟨bl,0,none⟩=some (.slice A1 n c1)∧∃ v' a',Bx W0 w' base bo ba bn v' a' k:=⟨h.cellN.1,hs _ _ _ _ h,v,a,h⟩
set_option maxRecDepth 100000 in
set_option maxHeartbeats 4000000 in
theorem pass_calls (keep:Bool) (W0:World) (base bo ba bn bs bl:Nat) (A2:Option Addr) (c2:Nat) (L:List ByteArray) (A1:Option Addr) (c1:Nat) (who:List Int) (off:Nat→Int) (i j:Nat)
    (hs:∀ w' v a n,Bx W0 w' base bo ba bn v a n→w'.cell? ⟨bs,0,none⟩=some (.slice A2 L.length c2)∧Kd.C Kd.string w' A2 L.length L∧w'.cell? ⟨bl,0,none⟩=some (.slice A1 who.length c1)∧Kd.C (Kd.int .i64) w' A1 who.length who)
    (l1:bo < base) (l2:ba < base) (l3:bn < base) (n1:bo≠ba) (n2:bo≠bn) (n3:ba≠bn) (hbw:base≤W0.heap.size)
    (hij:i≤j) (hj:j≤L.length) (hjw:j≤who.length) (hc1:who.length≤c1) (hL:L.length≤1000000)
    (ho1:∀ m,∀ h:m < L.length,off (m+1)=off m+(L[m].size:Int)) (ho2:∀ m,m < j→off m < off j) (ho3:∀ m,m≤L.length→0≤off m∧off m≤1000000000)
    (v:Value) (D:List Int) (w:World) (hB:Bx W0 w base bo ba bn v (off i) i) (hR:Kd.R (Kd.int .i64) 3 w base (fun _=>True) v D) (hD:D.length≤1000000) :
    Calls Tryz.prog 51 #[.int .i64 (off j),.bool keep,.pointer (some ⟨bn,0,none⟩),.pointer (some ⟨ba,0,none⟩),.pointer (some ⟨bs,0,none⟩),.pointer (some ⟨bo,0,none⟩),.pointer (some ⟨bl,0,none⟩)] w fun e w'=>e=.returned (.tuple #[]) ∧
      Stays w w' bo ba bn v.ownBlock∧∃ v',Bx W0 w' base bo ba bn v' (off j) j∧Kd.R (Kd.int .i64) 3 w' base (fun _=>True) v' (D++if keep=true then (who.drop i).take (j - i) else []):=by
  have HS:=Aside0.mk hs
  have HB:=Aside0.mk hB
  have HR:=Aside0.mk hR
  have HL:=Aside0.mk hL
  have HD:=Aside0.mk hD
  have HO1:=Aside0.mk ho1
  have HO2:=Aside0.mk ho2
  have HO3:=Aside0.mk ho3
  have HN:Aside0 (i≤j∧j≤L.length∧j≤who.length∧who.length≤c1):=⟨hij,hj,hjw,hc1⟩
  have HLT:Aside0 (bo < base∧ba < base∧bn < base∧base≤W0.heap.size):=⟨l1,l2,l3,hbw⟩
  have HNE:Aside0 (bo≠ba∧bo≠bn∧ba≠bn):=⟨n1,n2,n3⟩
  obtain⟨hcn,-⟩:=hB.cellN
  clear hs hB hR hL hD ho1 ho2 ho3 hij hj hjw hc1 l1 l2 l3 hbw n1 n2 n3
  go_enter Tryz.func51,Tryz.ntmps51
  go_wp2_with fail
  go_loopg [11] (j - i) (fun kq v11 wr=>∃ m:Nat,Aside0 (j - m≤kq∧i≤m∧m≤j)∧Aside0 (Bx W0 wr base bo ba bn v (off m) m)∧Aside0 (Kd.R (Kd.int .i64) 3 wr base (fun _=>True) v D)∧Aside0 (Stays w wr bo ba bn v.ownBlock))
  case atStart=>exact⟨i,⟨by omega,by omega,HN.out.1⟩,HB,HR,⟨Stays.refl _ _ _ _ _⟩⟩
  case round =>
    obtain⟨m,HM,HBm,HRm,HSm⟩:=hrel
    obtain⟨hca,hfa⟩:=HBm.out.cellA
    obtain⟨hcn',hfn⟩:=HBm.out.cellN
    by_cases hlt:m < j
    · have hb:decide (off m < off j)=true:=decide_eq_true (HO2.out m hlt)
      obtain⟨hbs,hcs,-,-⟩:=HS.out _ _ _ _ HBm.out
      have hmL:m < L.length:=by have:=HN.out;omega
      obtain⟨k1,rfl⟩:∃ k1,gk=k1+1:=⟨gk - 1,by have:=HM.out;omega⟩
      obtain⟨ad,e0,hx⟩:=Kd.yH_ hcs (m:Int) (by omega) (by omega)
      cases e0
      rw[Int.toNat_natCast,rdB L m hmL] at hx
      have hw1:wrap64 (off m+(L[m].size:Int))=off (m+1):=by
        have h1:=HO3.out (m+1) (by omega)
        have h2:=HO1.out m hmL
        rw[w64 (by omega) (by omega)];omega
      have hw2:IntKind.i64.wrap (off m+(L[m].size:Int))=off (m+1):=(i64_w _).trans hw1
      have hw3:wrap64 ((m:Int)+1)=((m+1:Nat):Int):=nx m (by have:=HL.out;omega)
      have hw4:IntKind.i64.wrap ((m:Int)+1)=((m+1:Nat):Int):=(i64_w _).trans hw3
      have hm0:(0:Int)≤(m:Int):=by omega
      have hm1:(m:Int) < (L.length:Int):=by omega
      have hmd0:decide ((0:Int)≤(m:Int))=true:=by simp
      have hmd1:decide ((m:Int) < (L.length:Int))=true:=decide_eq_true hm1
      generalize L[m]=x at *
      go_wp2_with fail
      go_region
      have HB2:Aside0 (Bx W0 (wr.setCell ⟨ba,0,none⟩ (.int .i64 (off (m+1)))).drew base bo ba bn v (off (m+1)) m):=⟨(HBm.out.setA HNE.out.1 (fun e=>HNE.out.2.2 e.symm) _).drew⟩
      have HR2:Aside0 (Kd.R (Kd.int .i64) 3 (wr.setCell ⟨ba,0,none⟩ (.int .i64 (off (m+1)))).drew base (fun _=>True) v D):=⟨Kd.R_drew (R_setBox HRm.out HLT.out.2.1)⟩
      have HS2:Aside0 (Stays w (wr.setCell ⟨ba,0,none⟩ (.int .i64 (off (m+1)))).drew bo ba bn v.ownBlock):=⟨(HSm.out.set (.inr (.inl rfl))).drew⟩
      obtain⟨hcn2,hfn2⟩:=HB2.out.cellN
      clear hca hfa hcn' hfn hbs hcs hx hw1 hw2
      generalize (wr.setCell ⟨ba,0,none⟩ (.int .i64 (off (m+1)))).drew=W2 at *
      have HB3:Aside0 (Bx W0 (W2.setCell ⟨bn,0,none⟩ (.int .i64 ((m+1:Nat):Int))) base bo ba bn v (off (m+1)) ((m+1:Nat):Int)):=⟨HB2.out.setN HNE.out.2.1 HNE.out.2.2 _⟩
      have HR3:Aside0 (Kd.R (Kd.int .i64) 3 (W2.setCell ⟨bn,0,none⟩ (.int .i64 ((m+1:Nat):Int))) base (fun _=>True) v D):=⟨R_setBox HR2.out HLT.out.2.2.1⟩
      have HS3:Aside0 (Stays w (W2.setCell ⟨bn,0,none⟩ (.int .i64 ((m+1:Nat):Int))) bo ba bn v.ownBlock):=⟨HS2.out.set (.inr (.inr rfl))⟩
      go_wp2_with fail
      go_roundg k1
      case measure=>have:=HM.out;omega
      case rel=>exact⟨m+1,⟨by have:=HM.out;omega,by have:=HM.out;omega,by omega⟩,HB3,HR3,HS3⟩
    have hmj:m=j:=by have:=HM.out;omega
    subst hmj
    have hb:decide (off m < off m)=false:=by simp
    cases keep
    · go_wp2_with fail
      have HF:Aside0 (Stays w wr bo ba bn v.ownBlock∧∃ v',Bx W0 wr base bo ba bn v' (off m) m∧Kd.R (Kd.int .i64) 3 wr base (fun _=>True) v' D):=⟨HSm.out,v,HBm.out,HRm.out⟩
      first
        | (go_end0;exact⟨rfl,HF.out⟩)
        | exact⟨rfl,HF.out⟩
    · obtain⟨A7,c7,rfl⟩:=Kd.yw_ HRm.out
      obtain⟨hco,hfo⟩:=HBm.out.cellO
      have hcut:=cut43 A1 who.length c1 i m HN.out.1 HN.out.2.2.1 HN.out.2.2.2
      obtain⟨-,-,hbl,hcw⟩:=HS.out _ _ _ _ HBm.out
      have HCP:=Aside0.mk (C_part hcw HN.out.1 HN.out.2.2.1)
      have HCP2:Aside0 (Kd.C (Kd.int .i64) wr.drew (if m=i then A1 else A1.map (·.add i)) (m - i) ((who.drop i).take (m - i))):=⟨Kd.C_drew HCP.out⟩
      clear hcw
      go_wp2_with fail
      have HBd:=Aside0.mk HBm.out.drew
      refine start_ (n:=8) (S:=fun w'=>w'.cell? ⟨bo,0,none⟩=some (.slice A7 D.length c7)∧w'.cell? ⟨bn,0,none⟩=some (.int .i64 (m:Int))∧w'.cell? ⟨bl,0,none⟩=some (.slice A1 who.length c1)) (ds:=[7]) #[false,false,false,false,false,false,false,false] (by kernel_rfl) rfl rfl ⟨HBd.out.cellO.1,HBd.out.cellN.1,(HS.out _ _ _ _ HBd.out).2.2.1⟩ (fun hHeld=>?_)
      refine take_ (i:=0) (N:=some 24) (v:=?_) (a':=?_) #[true,false,false,false,false,false,false,false] rfl rfl (by kernel_rfl) (fun _ _ _ h=>h) (Or.inl ⟨by rfl,?_⟩) hHeld ?_ ?_
      rotate_left
      · rintro w' ⟨s0,s1,s2⟩
        go_simp
        with_reducible rfl
      rotate_left
      · simp only[Act.put,List.setIfInBounds_toArray,List.set_cons_zero,List.set_cons_succ,i64_w,i32_w]
        rfl
      refine take_ (i:=1) (N:=some 25) (v:=?_) (a':=?_) #[true,true,false,false,false,false,false,false] rfl rfl (by kernel_rfl) (fun _ _ _ h=>h) (Or.inl ⟨by rfl,?_⟩) hHeld ?_ ?_
      rotate_left
      · rintro w' ⟨s0,s1,s2⟩
        go_simp
        with_reducible rfl
      rotate_left
      · simp only[Act.put,List.setIfInBounds_toArray,List.set_cons_zero,List.set_cons_succ,i64_w,i32_w]
        rfl
      refine pure_ (i:=2) (N:=some 26) (v:=?_) (a':=?_) #[true,true,true,false,false,false,false,false] rfl rfl (by kernel_rfl) (fun _ _ _ h=>h) (Or.inl ⟨by rfl,?_⟩) ?_ ?_
      rotate_left
      · intro w'
        go_simp
        with_reducible rfl
      rotate_left
      · simp only[Act.put,List.setIfInBounds_toArray,List.set_cons_zero,List.set_cons_succ,i64_w,i32_w]
        rfl
      refine take_ (i:=3) (N:=some 27) (v:=?_) (a':=?_) #[true,true,true,true,false,false,false,false] rfl rfl (by kernel_rfl) (fun _ _ _ h=>h) (Or.inl ⟨by rfl,?_⟩) hHeld ?_ ?_
      rotate_left
      · rintro w' ⟨s0,s1,s2⟩
        go_simp
        with_reducible rfl
      rotate_left
      · simp only[Act.put,List.setIfInBounds_toArray,List.set_cons_zero,List.set_cons_succ,i64_w,i32_w]
        rfl
      refine take_ (i:=4) (N:=some 28) (v:=?_) (a':=?_) #[true,true,true,true,true,false,false,false] rfl rfl (by kernel_rfl) (fun _ _ _ h=>h) (Or.inl ⟨by rfl,?_⟩) hHeld ?_ ?_
      rotate_left
      · rintro w' ⟨s0,s1,s2⟩
        go_simp
        with_reducible rfl
      rotate_left
      · simp only[Act.put,List.setIfInBounds_toArray,List.set_cons_zero,List.set_cons_succ,i64_w,i32_w]
        rfl
      refine pure_ (i:=5) (N:=some 29) (v:=?_) (a':=?_) #[true,true,true,true,true,true,false,false] rfl rfl (by kernel_rfl) (fun _ _ _ h=>h) (Or.inl ⟨by rfl,?_⟩) ?_ ?_
      rotate_left
      · intro w'
        go_simp
        with_reducible rfl
      rotate_left
      · simp only[Act.put,List.setIfInBounds_toArray,List.set_cons_zero,List.set_cons_succ,i64_w,i32_w]
        rfl
      refine one_ (i:=6) (N:=some 30) #[true,true,true,true,true,true,true,false] rfl rfl (by kernel_rfl) (by decide) (fun K hK=>?_)
      refine append_part (c:=m - i) base bo ba bn ?hw1 ?hg1 ?hs1 ?hx1 HBm.out.drew (Kd.R_drew HRm.out) HCP2.out HLT.out.1 HLT.out.2.1 HLT.out.2.2.1 HLT.out.2.2.2 ?hL1 (fun A8 c8 w7 h1 hg h2=>?_)
      (case hw1=>rfl)
      (case hg1=>rfl)
      (case hs1=>rfl)
      (case hx1=>rfl)
      (case hL1=>have h1:=HD.out;have h2:=HN.out;have h3:=HL.out;omega)
      have HB7:=Aside0.mk h1
      have HG7:=Aside0.mk hg
      have HO7:=Aside0.mk h2
      obtain⟨hco7,hfo7⟩:=HB7.out.cellO
      clear h1 h2 hg
      refine hK.out _ _ ⟨HB7.out.cellO.1,HB7.out.cellN.1,(HS.out _ _ _ _ HB7.out).2.2.1⟩ (fun hHeld=>?_)
      clear hK K
      refine norm_ (a':=?_) ?_ ?_
      rotate_left
      · show Act.put _ (some 30) _=_
        simp only[Act.put,List.setIfInBounds_toArray,List.set_cons_zero,List.set_cons_succ,i64_w,i32_w]
        rfl
      refine last_ (i:=7) (N:=none) #[true,true,true,true,true,true,true,true] rfl rfl (by kernel_rfl) (by decide) (fun K hK=>?_)
      refine skip_ (w1:=?_) (by rfl) rfl ?_ ?_
      rotate_left
      · go_simp
        rfl
      refine hK.out _ _ ?_
      clear hK K
      refine done_ (by kernel_rfl) ?_
      have HF:Aside0 (Stays w (w7.setCell ⟨bo,0,none⟩ (.slice A8 (D.length+(m - i)) c8)) bo ba bn (Value.slice A7 D.length c7).ownBlock∧∃ v',Bx W0 (w7.setCell ⟨bo,0,none⟩ (.slice A8 (D.length+(m - i)) c8)) base bo ba bn v' (off m) m∧Kd.R (Kd.int .i64) 3 (w7.setCell ⟨bo,0,none⟩ (.slice A8 (D.length+(m - i)) c8)) base (fun _=>True) v' (D++(who.drop i).take (m - i))) :=
        ⟨((HSm.out.drew).grow HG7.out.1 HG7.out.2).set (.inl rfl),_,HB7.out.setO (fun e=>HNE.out.1 e.symm) (fun e=>HNE.out.2.1 e.symm) _,R_setBox HO7.out HLT.out.1⟩
      first
        | (go_end0;exact⟨rfl,HF.out⟩)
        | exact⟨rfl,HF.out⟩
end Go.Proofs.YthimblhfjfngiaaGreat.PText

namespace Go.Proofs.YthimblhfjfngiaaGreat.PText
open Go.RowKit Go.Lib Go.Sort Go.Proofs.YthimblhfjfngiaaGreatW.PrintWords Go.Proofs.YthimblhfjfngiaaGreatW.PrintLast Go.Proofs.YthimblhfjfngiaaGreatW.PrintMore
set_option linter.unusedVariables false
set_option linter.unusedSimpArgs false
/-- the bytes before a line, as a number -/
def offT (s:ByteArray) (m:Nat):Int:=(Tx.off (Tx.lines (bL s)) m:Int)
theorem yrb_ (s:ByteArray):(linesB s).length=(Tx.lines (bL s)).length:=by rw[← yqb_,List.length_map]
theorem offT_succ (s:ByteArray) (m:Nat) (h:m < (linesB s).length):offT s (m+1)=offT s m+((linesB s)[m].size:Int):=by
  have h2:m < (Tx.lines (bL s)).length:=by rw[← yrb_];exact h
  have e:(Tx.lines (bL s))[m]=bL (linesB s)[m]:=by
    have:=yqb_ s
    have q:(Tx.lines (bL s))[m]=((linesB s).map bL)[m]'(by rw[List.length_map];exact h):=by congr 1;exact this.symm
    rw[q,List.getElem_map]
  unfold offT
  rw[Tx.off_succ h2,e,yXb_];omega
theorem offT_lt (s:ByteArray) {m j:Nat} (h:m < j) (hj:j≤(linesB s).length):offT s m < offT s j:=by
  have:=Tx.off_lt (Tx.lines_ne (bL s)) h (by rw[← yrb_];exact hj)
  unfold offT;omega
theorem offT_le (s:ByteArray) (m:Nat):0≤offT s m∧offT s m≤(s.size:Int):=by
  have h1:=Tx.yIb_ (L:=Tx.lines (bL s)) (Nat.le_max_left m (Tx.lines (bL s)).length)
  rw[Tx.off_all (Nat.le_max_right m (Tx.lines (bL s)).length),Tx.y6_,← yXb_] at h1
  unfold offT;omega
theorem offT_all (s:ByteArray):offT s (linesB s).length=(s.size:Int):=by
  unfold offT
  rw[yrb_,Tx.off_all (Nat.le_refl _),Tx.y6_,← yXb_]
/-- whose the lines are -/
def blameR (old now:ByteArray) (who:List Int) (k:Int):List Int:=if (editsR old now).2≠0 then [] else Tx.bl (Tx.lines (bL old)) who k 0 (Tx.edits (bL old) (bL now))
def blT (old now:ByteArray) (who:List Int) (k:Int) (i:Nat):Nat × List Int:=Tx.blS (Tx.lines (bL old)) who k (Tx.edits (bL old) (bL now)) i
theorem bl_len (old now:ByteArray) (who:List Int) (k:Int) (hw:who.length=(linesB old).length):(Tx.bl (Tx.lines (bL old)) who k 0 (Tx.edits (bL old) (bL now))).length=(linesB now).length:=by
  rw[yrb_]
  exact (Tx.bl_edits (bL old) (bL now) who k (by rw[hw,yrb_]) (fun _ _=>True) (fun _ _=>trivial) (fun _ _=>trivial)).1
/-- an edit of whole lines: where it begins and ends, how it turns what is so far -/
structure EdAt (old:ByteArray) (who:List Int) (k:Int) (x:S91) (s s':Nat × List Int) (f t n:Nat):Prop where
  h0:x.f0=offT old f
  h1:x.f1=offT old t
  sf:s.1≤f
  ft:f≤t
  tl:t≤(linesB old).length
  hn:n=(linesB x.f2).length
  hs:s'=(t,s.2++(who.drop s.1).take (f - s.1)++List.replicate n k)
theorem edAt (old now:ByteArray) (who:List Int) (k:Int) (i:Nat) (h:i < (editsS old now).length):∃ f t n,EdAt old who k (editsS old now)[i] (blT old now who k i) (blT old now who k (i+1)) f t n:=by
  have hl:i < (Tx.edits (bL old) (bL now)).length:=by rw[← editsS_toE,List.length_map];exact h
  have e:(Tx.edits (bL old) (bL now))[i]=toE (editsS old now)[i]:=by
    have:=editsS_toE old now
    have q:(Tx.edits (bL old) (bL now))[i]=((editsS old now).map toE)[i]'(by rw[List.length_map];exact h):=by congr 1;exact this.symm
    rw[q,List.getElem_map]
  obtain⟨x1,x2,x3,x4,-,-⟩:=Tx.ep_ix (Tx.y2b_ (bL old)) (Tx.edits_ep (bL old) (bL now) _ (List.getElem_mem hl))
  have hln:=(Tx.blS_line (bL old) (bL now) who k i).2 hl
  have hs:=Tx.blS_succ (Tx.lines (bL old)) who k (Tx.edits (bL old) (bL now)) i hl
  refine⟨Tx.adv (Tx.lines (bL old)) (Tx.edits (bL old) (bL now))[i].f,Tx.adv (Tx.lines (bL old)) (Tx.edits (bL old) (bL now))[i].t,(linesB (editsS old now)[i].f2).length,?_,?_,hln,x1,by rw[yrb_];exact x2,rfl,?_⟩
  · unfold offT;rw[x3,e];rfl
  · unfold offT;rw[x4,e];rfl
  · unfold blT
    rw[hs]
    unfold Tx.blp
    have q:(Tx.lines (Tx.edits (bL old) (bL now))[i].x).length=(linesB (editsS old now)[i].f2).length:=by
      rw[yrb_,e]
      show (Tx.lines (editsS old now)[i].f2.toList).length=_
      rw[Lib.toList_data];rfl
    rw[q]
theorem blT_len (old now:ByteArray) (who:List Int) (k:Int) (hw:who.length=(linesB old).length) (i:Nat):(blT old now who k i).2.length≤(linesB now).length:=by
  rw[← bl_len old now who k hw];exact Tx.blS_len _ _ _ _ _
theorem blT_line (old now:ByteArray) (who:List Int) (k:Int) (i:Nat):(blT old now who k i).1≤(linesB old).length:=by
  rw[yrb_];exact (Tx.blS_line (bL old) (bL now) who k i).1
theorem blT_all (old now:ByteArray) (who:List Int) (k:Int) (hw:who.length=(linesB old).length):Tx.bl (Tx.lines (bL old)) who k 0 (Tx.edits (bL old) (bL now))=(blT old now who k (editsS old now).length).2++(who.drop (blT old now who k (editsS old now).length).1).take ((linesB old).length - (blT old now who k (editsS old now).length).1):=by
  have hl:(Tx.edits (bL old) (bL now)).length≤(editsS old now).length:=by rw[← editsS_toE,List.length_map];exact Nat.le_refl _
  rw[Tx.blS_all _ who k _ _ hl]
  unfold blT
  rw[List.take_of_length_le (by rw[List.length_drop];omega)]
/-- the variables of past.blamed, laid, whatever the row is -/
theorem boxes2 {w w1 w2:World} {vl v2:Value} (h1:Below (w.alloc (.cells #[vl] 28)).heap.size (w.alloc (.cells #[vl] 28)) w1)
    (h2:Below (((w1.alloc (.cells #[.slice none 0 0] 28)).alloc (.cells #[.int .i64 0] 3)).alloc (.cells #[.int .i64 0] 3)).heap.size (((w1.alloc (.cells #[.slice none 0 0] 28)).alloc (.cells #[.int .i64 0] 3)).alloc (.cells #[.int .i64 0] 3)) w2) :
    (w2.alloc (.cells #[v2] 47)).heap[w1.heap.size]?=some (.cells #[.slice none 0 0] 28 (0,0))∧(w2.alloc (.cells #[v2] 47)).heap[w1.heap.size+1]?=some (.cells #[.int .i64 0] 3 (0,0))∧(w2.alloc (.cells #[v2] 47)).heap[w1.heap.size+1+1]?=some (.cells #[.int .i64 0] 3 (0,0)) ∧
    (w2.alloc (.cells #[v2] 47)).cell? ⟨w.heap.size,0,none⟩=some vl∧(w2.alloc (.cells #[v2] 47)).cell? ⟨w2.heap.size,0,none⟩=some v2∧Below w.heap.size w (w2.alloc (.cells #[v2] 47))∧Below w1.heap.size w1 (w2.alloc (.cells #[v2] 47))∧Below w2.heap.size w2 (w2.alloc (.cells #[v2] 47)) ∧
    (w2.alloc (.cells #[v2] 47)).heap.size=w2.heap.size+1∧w.heap.size < w1.heap.size∧w1.heap.size+3≤w2.heap.size:=by
  obtain⟨q1,q2,q3,q4,q5⟩:=heap3 w1 (.cells #[.slice none 0 0] 28) (.cells #[.int .i64 0] 3) (.cells #[.int .i64 0] 3)
  have s0:(w.alloc (.cells #[vl] 28)).heap.size=w.heap.size+1:=by simp
  have s1:=h1.size
  have s2:=h2.size
  have b2:Below w2.heap.size w2 (w2.alloc (.cells #[v2] 47)):=(Below.refl _ w2).alloc (Nat.le_refl _) _
  have B12:Below w1.heap.size w1 (w2.alloc (.cells #[v2] 47)):=(q5.trans (h2.mono (by omega))).trans (b2.mono (by omega))
  have hh:∀ k,k < w1.heap.size+3→(w2.alloc (.cells #[v2] 47)).heap[k]?=(((w1.alloc (.cells #[.slice none 0 0] 28)).alloc (.cells #[.int .i64 0] 3)).alloc (.cells #[.int .i64 0] 3)).heap[k]?:=fun k hk=>(b2.block k (by omega)).trans (h2.block k (by omega))
  refine⟨(hh _ (by omega)).trans q1,(hh (w1.heap.size+1) (by omega)).trans q2,(hh (w1.heap.size+1+1) (by omega)).trans q3,?_,?_,?_,B12,b2,by simp,by omega,by omega⟩
  · have:(w2.alloc (.cells #[v2] 47)).heap[w.heap.size]?=some (.cells #[vl] 28 (0,0)):=(B12.block _ (by omega)).trans ((h1.block _ (by omega)).trans (yJb_ w _))
    unfold World.cell?;rw[this];rfl
  · unfold World.cell?;rw[yJb_];rfl
  · exact (((Below.refl _ w).alloc (Nat.le_refl _) _).trans (h1.mono (by omega))).trans (B12.mono (by omega))
/-- what lies below the boxes stands -/
theorem Bx.low {W0 w' x:World} {base bo ba bn b:Nat} {v:Value} {a n:Int} (h:Bx W0 w' base bo ba bn v a n) (hb:Below b x W0) (l0:b≤base) (l1:b≤bo) (l2:b≤ba) (l3:b≤bn):Below b x w' :=
  ⟨h.os.trans hb.os,h.tape.trans hb.tape,h.output.trans hb.output,Nat.le_trans hb.size h.size,fun k hk=>(h.far k (by omega) (by omega) (by omega) (by omega)).trans (hb.block k hk)⟩
/-- a row that was made behind the boxes stands -/
theorem Bx.row {W0 w' w2:World} {base bo ba bn b e:Nat} {v u:Value} {a n:Int} {α:Type} {d:Kd α} {xs:List α} (h:Bx W0 w' base bo ba bn v a n) (hr:Kd.R d e w2 b (fun _=>True) u xs) (hb:Below w2.heap.size w2 W0) (l0:w2.heap.size≤base) (l1:bo < b) (l2:ba < b) (l3:bn < b):Kd.R d e w' b (fun _=>True) u xs :=
  Kd.R_mono (Kd.R_step (Kd.yNb_ hr) (fun k hk hk2=>by
    have:=hk.2.1
    exact (h.far k (by omega) (by omega) (by omega) (by omega)).trans (hb.block k hk2))) (fun _ _=>trivial)
attribute [irreducible] offT blT
end Go.Proofs.YthimblhfjfngiaaGreat.PText

namespace Go.Proofs.YthimblhfjfngiaaGreat.PText
open Go.RowKit Go.Lib Go.Sort Go.Proofs.YthimblhfjfngiaaGreatW.PrintWords Go.Proofs.YthimblhfjfngiaaGreatW.PrintLast Go.Proofs.YthimblhfjfngiaaGreatW.PrintMore
set_option linter.unusedVariables false
set_option linter.unusedSimpArgs false
theorem Stays.box {w w':World} {bo ba bn k base:Nat} {row:Option Nat} {o:Obj} (h:Stays w w' bo ba bn row) (hk:w.heap[k]?=some o) (h0:bo < base∧ba < base∧bn < base) (h1:base≤k) (hr:some k≠row):w'.heap[k]?=some o :=
  (h.2 k (Array.getElem?_eq_some_iff.1 hk).1 (by omega) (by omega) (by omega) hr).trans hk
theorem cells3 {w:World} {b:Nat} {x y z:Value} {t:TypeId} (h:w.heap[b]?=some (.cells #[x,y,z] t (0,0))):w.cell? ⟨b,0,none⟩=some x∧w.cell? ⟨b,1,none⟩=some y∧w.cell? ⟨b,2,none⟩=some z:=by
  refine⟨?_,?_,?_⟩ <;> (unfold World.cell?;rw[h];rfl)
theorem R_ne59 {w:World} {base k:Nat} {v:Value} {D:List Int} {cs:Array Value} (h:Kd.R (Kd.int .i64) 3 w base (fun _=>True) v D) (hk:w.heap[k]?=some (.cells cs 91 (0,0))):some k≠v.ownBlock:=Kd.R_ne h hk (by decide)
theorem R_neH {w:World} {base:Nat} {v:Value} {D:List Int} (h:Kd.R (Kd.int .i64) 3 w base (fun _=>True) v D):some w.heap.size≠v.ownBlock:=fun e=>by
  have:=Kd.R_lt h _ e.symm
  omega
theorem sumS_mem:∀ {l:List S91} {x:S91},x∈l→x.f2.size≤sumS l
  | y :: l,x,h=>by
    rw[sumS_cons]
    rcases List.mem_cons.1 h with rfl|h
    · omega
    · have:=sumS_mem h;omega
theorem len_part (who:List Int) {s s':Nat × List Int} {f t n N:Nat} {k:Int} (h:s'=(t,s.2++(who.drop s.1).take (f - s.1)++List.replicate n k)) (hl:s'.2.length≤N):(s.2++(who.drop s.1).take (f - s.1)).length≤N:=by
  rw[h] at hl
  simp only[List.length_append] at hl
  rw[List.length_append]
  omega
set_option maxRecDepth 100000 in
set_option maxHeartbeats 8000000 in
theorem blamed_calls (old now:ByteArray) (A1:Option Addr) (c1:Nat) (who:List Int) (k:Int) (w:World) (hC:Kd.C (Kd.int .i64) w A1 who.length who) (hc1:who.length≤c1) (hw:who.length=(linesB old).length) (hos:old.size≤1000000) (hns:now.size≤1000000) :
    Calls Tryz.prog 29 #[.string old,.string now,.slice A1 who.length c1,.int .i64 k] w fun e w'=>∃ v,e=.returned (.tuple #[v,.int .i64 (editsR old now).2])∧Kd.R (Kd.int .i64) 3 w' w.heap.size (fun _=>True) v (blameR old now who k)∧Below w.heap.size w w':=by
  have HE0:=Aside0.mk (edits_f old now (by omega) (by omega) 5000000 (Nat.le_refl _))
  by_cases hz:(editsR old now).2=0
  rotate_left
  · have hbr:blameR old now who k=[]:=by unfold blameR;rw[if_pos hz]
    have HBR:=Aside0.mk hbr
    rcases hr:editsR old now with ⟨es,er⟩
    rw[hr] at HE0 hz
    show Calls Tryz.prog 29 _ w fun e w'=>∃ v,e=.returned (.tuple #[v,.int .i64 er])∧_
    have hb:(er == 0)=false:=beq_eq_false_iff_ne.2 hz
    clear hbr hr hz hC hc1 hw hos hns
    go_enter Tryz.func29,Tryz.ntmps29
    go_wp2_with (go_at_call 50;refine (yo_.calls 5000000 old now es er _ HE0.out).mono ?_;rintro e w1 ⟨v1,rfl,ho,hb1⟩;obtain⟨Ae,ce,rfl⟩:=Kd.yw_ ho;have HB1:=Aside0.mk hb1;clear ho hb1 HE0)
    go_ret2
    exact⟨_,rfl,by rw[HBR.out];exact Kd.R_nil _ _ _ _ _,((Below.refl _ w).alloc (Nat.le_refl _) _).trans (HB1.out.mono (by simp))⟩
  have hes:editsR old now=(editsS old now,0):=by
    unfold editsR at hz ⊢
    by_cases c:(sizedR old now 0).2=0
    · rw[if_pos c]
    rw[if_neg c] at hz;exact absurd hz c
  have hbr:blameR old now who k=Tx.bl (Tx.lines (bL old)) who k 0 (Tx.edits (bL old) (bL now)):=by unfold blameR;rw[if_neg (fun q=>q hz)]
  have HFIN:=Aside0.mk (hbr.trans (blT_all old now who k hw))
  rw[hes] at HE0
  rw[hz]
  have HLN:Aside0 ((editsS old now).length≤4000):=⟨by have:=editsR_len old now;rw[hes] at this;exact this⟩
  have HED:=Aside0.mk (edAt old now who k)
  have HBT:=Aside0.mk (blT_len old now who k hw)
  have HLI:=Aside0.mk (blT_line old now who k)
  have HT2:Aside0 (∀ x∈editsS old now,x.f2.size≤100000000):=⟨fun x hx=>by
    have:=sumS_edits2 old now
    rw[hes] at this
    have h2:x.f2.size≤sumS (editsS old now):=by
      exact sumS_mem hx
    show x.f2.size≤_
    have h3:sumS (editsS old now)≤old.size+now.size:=this
    omega⟩
  have hln:=yKb_ old
  have hnn:=yKb_ now
  have HW:=Aside0.mk hw
  have HLB:Aside0 ((linesB old).length≤1000000∧(linesB now).length≤1000000):=⟨by omega,by omega⟩
  have HOS:=Aside0.mk hos
  have HC:=Aside0.mk hC
  have HC1:=Aside0.mk hc1
  have h00:blT old now who k 0=(0,[]):=by unfold blT;rfl
  have H00:=Aside0.mk h00
  have HTL:Aside0 (yK_.f old=some (linesB old)):=⟨by unfold yK_.f;rw[if_pos (by omega)]⟩
  generalize editsS old now=es at *
  clear hz hes hbr hln hnn hw hos hns hC hc1 h00
  go_enter Tryz.func29,Tryz.ntmps29
  go_wp2_with (first
    | (go_at_call 50;refine (yo_.calls 5000000 old now es 0 _ HE0.out).mono ?_;rintro e w1 ⟨v1,rfl,ho,hb⟩;obtain⟨Ae,ce,rfl⟩:=Kd.yw_ ho;have HOE:=Aside0.mk ho;have HB1:=Aside0.mk hb;clear ho hb HE0)
    | (go_at_call 36;go_loud (refine (yK_.calls _ _ _ HTL.out).mono ?_;rintro e w2 ⟨v2,rfl,ho,hb⟩;obtain⟨A2,c2,rfl⟩:=Kd.yw_ ho;have HX:=Aside0.mk (boxes2 (v2:=.slice A2 (linesB old).length c2) HB1.out hb);have HOL:=Aside0.mk ho;clear ho hb HB1)))
  obtain⟨hbo,hba,hbn,hbl,hbs,hB,hB1,hB2,hz,hlt1,hlt2⟩:=HX.out
  clear HX
  have hW3:((((w1.alloc (.cells #[.slice none 0 0] 28)).alloc (.cells #[.int .i64 0] 3)).alloc (.cells #[.int .i64 0] 3)).heap.size:Nat)=w1.heap.size+3:=by simp
  rw[hW3] at HOL
  clear hW3
  generalize w2.alloc (.cells #[.slice A2 (linesB old).length c2] 47)=W0 at *
  have HOE2:Aside0 (Kd.R k91 91 w1 w.heap.size (fun _=>True) (.slice Ae es.length ce) es):=⟨Kd.y1_ HOE.out (by simp)⟩
  clear HOE
  have l1:w1.heap.size+1+1 < W0.heap.size:=by omega
  have l2:w1.heap.size+1 < W0.heap.size:=by omega
  have l3:w1.heap.size < W0.heap.size:=by omega
  have l4:w.heap.size < W0.heap.size:=by omega
  have l5:w.heap.size≤w1.heap.size:=by omega
  have l6:w2.heap.size < W0.heap.size:=by omega
  have HLO:Aside0 (w.heap.size < w1.heap.size∧w1.heap.size+3≤w2.heap.size∧w2.heap.size < W0.heap.size):=⟨by omega,by omega,by omega⟩
  have HBX0:Aside0 (Bx W0 W0 W0.heap.size w1.heap.size (w1.heap.size+1) (w1.heap.size+1+1) (.slice none 0 0) 0 0):=⟨⟨rfl,rfl,rfl,Nat.le_refl _,fun _ _ _ _ _=>rfl,hbo,hba,hbn⟩⟩
  have HS:Aside0 (∀ w' v a n,Bx W0 w' W0.heap.size w1.heap.size (w1.heap.size+1) (w1.heap.size+1+1) v a n→w'.cell? ⟨w2.heap.size,0,none⟩=some (.slice A2 (linesB old).length c2)∧Kd.C Kd.string w' A2 (linesB old).length (linesB old)∧w'.cell? ⟨w.heap.size,0,none⟩=some (.slice A1 who.length c1)∧Kd.C (Kd.int .i64) w' A1 who.length who) :=
    ⟨fun w' v a n h=>⟨h.cell l6 (by omega) (by omega) (by omega) hbs,(Kd.yj_ (h.row HOL.out hB2 (by omega) (by omega) (by omega) (by omega))).2.2,h.cell l4 (by omega) (by omega) (by omega) hbl,Kd.y2_ HC.out (h.low hB (by omega) (by omega) (by omega) (by omega))⟩⟩
  have HCE:Aside0 (∀ w' v a n,Bx W0 w' W0.heap.size w1.heap.size (w1.heap.size+1) (w1.heap.size+1+1) v a n→Kd.C k91 w' Ae es.length es) :=
    ⟨fun w' v a n h=>Kd.y2_ (Kd.yj_ HOE2.out).2.2 (h.low hB1 (by omega) (by omega) (by omega) (by omega))⟩
  have HBF:Aside0 (∀ w' v a n,Bx W0 w' W0.heap.size w1.heap.size (w1.heap.size+1) (w1.heap.size+1+1) v a n→Below w.heap.size w w'):=⟨fun w' v a n h=>h.low hB (by omega) (by omega) (by omega) (by omega)⟩
  clear hbo hba hbn hbl hbs hB hB1 hB2 hz hlt1 hlt2 HOL HOE2
  generalize w2.heap.size=bs at *
  generalize hbn:w1.heap.size+1+1=bn at *
  generalize hba:w1.heap.size+1=ba at *
  generalize hbo:w1.heap.size=bo at *
  have HNE:Aside0 (bo≠ba∧bo≠bn∧ba≠bn):=⟨by omega,by omega,by omega⟩
  have HLT:Aside0 (bo < W0.heap.size∧ba < W0.heap.size∧bn < W0.heap.size):=⟨l3,l2,l1⟩
  have HPA:Aside0 (∀ (keep:Bool) (i j:Nat) (v:Value) (D X:List Int) (wr:World),X=D++(if keep=true then (who.drop i).take (j - i) else [])→i≤j→j≤(linesB old).length→Bx W0 wr W0.heap.size bo ba bn v (offT old i) i→Kd.R (Kd.int .i64) 3 wr W0.heap.size (fun _=>True) v D→D.length≤1000000 →
      Calls Tryz.prog 51 #[.int .i64 (offT old j),.bool keep,.pointer (some ⟨bn,0,none⟩),.pointer (some ⟨ba,0,none⟩),.pointer (some ⟨bs,0,none⟩),.pointer (some ⟨bo,0,none⟩),.pointer (some ⟨w.heap.size,0,none⟩)] wr fun e w'=>e=.returned (.tuple #[]) ∧
        Stays wr w' bo ba bn v.ownBlock∧∃ v',Bx W0 w' W0.heap.size bo ba bn v' (offT old j) j∧Kd.R (Kd.int .i64) 3 w' W0.heap.size (fun _=>True) v' X) :=
    ⟨fun keep i j v D X wr hX h1 h2 h3 h4 h5=>by rw[hX];exact pass_calls keep W0 W0.heap.size bo ba bn bs w.heap.size A2 c2 (linesB old) A1 c1 who (offT old) i j HS.out l3 l2 l1 (by omega) (by omega) (by omega) (Nat.le_refl _) h1 h2 (by rw[HW.out];exact h2) HC1.out HLB.out.1 (fun m h=>offT_succ old m h) (fun m h=>offT_lt old h h2) (fun m h=>by have:=offT_le old m;have:=HOS.out;omega) v D wr h3 h4 h5⟩
  clear l1 l2 l3 l4 l5 l6 hbn hba hbo HS
  have h0l:((Tx.off (Tx.lines (bL old)) 0:Nat):Int)=0:=by unfold Tx.off;simp
  have hb0:Bx W0 W0 W0.heap.size bo ba bn (.slice none 0 0) (offT old (blT old now who k 0).1) ((blT old now who k 0).1:Int):=by
    rw[H00.out]
    show Bx _ _ _ _ _ _ _ (offT old 0) 0
    unfold offT
    rw[h0l];exact HBX0.out
  have HB0:=Aside0.mk hb0
  clear hb0 h0l HBX0
  go_loopg [33] (es.length+1) (fun kq v33 w'=>∃ (i:Nat) (v:Value),v33=.int .i64 (i:Int)∧Aside0 (es.length - i < kq∧i≤es.length)∧Aside0 (Bx W0 w' W0.heap.size bo ba bn v (offT old (blT old now who k i).1) ((blT old now who k i).1:Int))∧Aside0 (Kd.R (Kd.int .i64) 3 w' W0.heap.size (fun _=>True) v (blT old now who k i).2))
  case atStart=>exact⟨0,.slice none 0 0,rfl,⟨by omega,by omega⟩,HB0,⟨by rw[H00.out];exact Kd.R_nil _ _ _ _ _⟩⟩
  case round =>
    obtain⟨i,v,rfl,HI,HBe,HR⟩:=hrel
    obtain⟨k1,rfl⟩:∃ k1,gk=k1+1:=⟨gk - 1,by have:=HI.out.1;omega⟩
    have hwr:W0.heap.size≤wr.heap.size:=HBe.out.size
    by_cases hlt:i < es.length
    rotate_left
    · have hb:decide ((i:Int) < (es.length:Int))=false:=by simp;omega
      have hin:i=es.length:=by have:=HI.out.2;omega
      have HPZ:=HPA.out true (blT old now who k i).1 (linesB old).length v (blT old now who k i).2 _ wr rfl (HLI.out i) (Nat.le_refl _) HBe.out HR.out (by have:=HBT.out i;have:=HLB.out;omega)
      rw[offT_all,if_pos rfl,hin,← HFIN.out] at HPZ
      have HPY:=Aside0.mk HPZ
      clear HPZ
      go_wp2_with (go_at_call 51;with_reducible refine HPY.out.mono ?_;rintro e w3 ⟨rfl,hst,v3,hb3,hr3⟩;obtain⟨A3,c3,rfl⟩:=Kd.yw_ hr3;obtain⟨ho3,hf3⟩:=hb3.cellO;have HB3:=Aside0.mk hb3;have HR3:=Aside0.mk hr3;clear hst hb3 hr3 HPY)
      go_ret2
      exact⟨_,rfl,Kd.y1_ HR3.out (by have:=HLO.out;omega),HBF.out _ _ _ _ HB3.out⟩
    have hb:decide ((i:Int) < (es.length:Int))=true:=by simp;omega
    have hb2:decide ((0:Int)≤(i:Int))=true:=by simp
    obtain⟨ad,e0,hx0,hx1,hx2⟩:=at_T91 (HCE.out _ _ _ _ HBe.out) (i:Int) (by omega) (by omega)
    cases e0
    rw[Int.toNat_natCast] at hx0 hx1 hx2
    rw[rd34_at es i hlt] at hx0 hx1 hx2
    obtain⟨f,t,n,hed⟩:=HED.out i hlt
    have hy:=HT2.out es[i] (List.getElem_mem hlt)
    have hsl:=HBT.out i
    have hsl1:=HBT.out (i+1)
    have HI2:Aside0 (es.length - i < k1+1∧i < es.length):=⟨HI.out.1,hlt⟩
    have HLS:=HLB.out.2
    generalize es[i]=x at *
    generalize hs:blT old now who k i=s at *
    generalize hs':blT old now who k (i+1)=s' at *
    obtain⟨g0,g1,tt⟩:=x
    obtain⟨e1,e2,q1,q2,q3,q4,q5⟩:=hed
    cases e1
    cases e2
    have HT:=Aside0.mk (show yK_.f tt=some (linesB tt) by unfold yK_.f;rw[if_pos (by simp only at hy;omega)])
    have HQ:Aside0 (s.1≤f∧f≤t∧t≤(linesB old).length):=⟨q1,q2,q3⟩
    have HN:=Aside0.mk q4
    have HSS:=Aside0.mk q5
    have HS':=Aside0.mk hs'
    have HSL:Aside0 (s.2.length≤1000000∧s'.2.length≤1000000):=⟨by omega,by omega⟩
    clear q1 q2 q3 q4 q5 hs' hs hsl hsl1 HLS hy HI
    have HWA:Aside0 (Below wr.heap.size wr (wr.alloc (.cells #[.int .i64 (offT old f),.int .i64 (offT old t),.string tt] 91))):=⟨(Below.refl _ wr).alloc (Nat.le_refl _) _⟩
    have HBA:Aside0 (Bx W0 (wr.alloc (.cells #[.int .i64 (offT old f),.int .i64 (offT old t),.string tt] 91)) W0.heap.size bo ba bn v (offT old s.1) (s.1:Int)):=⟨HBe.out.below HLT.out.1 HLT.out.2.1 HLT.out.2.2 (HWA.out.mono hwr)⟩
    have HRA:Aside0 (Kd.R (Kd.int .i64) 3 (wr.alloc (.cells #[.int .i64 (offT old f),.int .i64 (offT old t),.string tt] 91)) W0.heap.size (fun _=>True) v s.2):=⟨Kd.yg_ HR.out _⟩
    have HOW:=Aside0.mk (R_neH HR.out)
    have hxb:(wr.alloc (.cells #[.int .i64 (offT old f),.int .i64 (offT old t),.string tt] 91)).heap[wr.heap.size]?=some (.cells #[.int .i64 (offT old f),.int .i64 (offT old t),.string tt] 91 (0,0)):=yJb_ _ _
    obtain⟨hz0,hz1,hz2⟩:=cells3 hxb
    have HXB:=Aside0.mk hxb
    have HWR:=Aside0.mk hwr
    clear hxb hz1 hz2 hwr
    go_wp2_with (first
      | (go_at_call 51;with_reducible refine (HPA.out true s.1 f v s.2 (s.2++(who.drop s.1).take (f - s.1)) _ (by rw[if_pos rfl]) HQ.out.1 (Nat.le_trans HQ.out.2.1 HQ.out.2.2) HBA.out HRA.out HSL.out.1).mono ?_;rintro e w3 ⟨rfl,hst,v3,hb3,hr3⟩;have hxb3:=hst.box HXB.out HLT.out HWR.out HOW.out;obtain⟨hz03,hz13,hz23⟩:=cells3 hxb3;have HXB3:=Aside0.mk hxb3;have HB3:=Aside0.mk hb3;have HR3:=Aside0.mk hr3;clear hst hb3 hr3 hxb3 hz03 hz23)
      | (go_at_call 51;with_reducible refine (HPA.out false f t v3 (s.2++(who.drop s.1).take (f - s.1)) (s.2++(who.drop s.1).take (f - s.1)) w3 (by rw[if_neg (by decide),List.append_nil]) HQ.out.2.1 HQ.out.2.2 HB3.out HR3.out (len_part who HSS.out HSL.out.2)).mono ?_;rintro e w4 ⟨rfl,hst,v4,hb4,hr4⟩;have hxb4:=hst.box HXB3.out HLT.out HWR.out (R_ne59 HR3.out HXB3.out);obtain⟨hz04,hz14,hz24⟩:=cells3 hxb4;have HXB4:=Aside0.mk hxb4;have HB4:=Aside0.mk hb4;have HR4:=Aside0.mk hr4;clear hst hb4 hr4 hxb4 hz04 hz14 hz13)
      | (go_at_call 36;with_reducible refine (yK_.calls _ _ _ HT.out).mono ?_;rintro e w5 ⟨v5,rfl,ho,hb⟩;obtain⟨A5,c5,rfl⟩:=Kd.yw_ ho;have HB5:=Aside0.mk hb;clear ho hb))
    have HB6:Aside0 (Bx W0 w5 W0.heap.size bo ba bn v4 (offT old t) (t:Int)):=⟨HB4.out.below HLT.out.1 HLT.out.2.1 HLT.out.2.2 (HB5.out.mono HB4.out.size)⟩
    have HR6:Aside0 (Kd.R (Kd.int .i64) 3 w5 W0.heap.size (fun _=>True) v4 (s.2++(who.drop s.1).take (f - s.1)++List.replicate 0 k)):=⟨by
      have:=Kd.yT_ HR4.out HB5.out
      rw[List.replicate_zero,List.append_nil];exact this⟩
    have HS'':Aside0 (s'.2=s.2++(who.drop s.1).take (f - s.1)++List.replicate n k∧s'.1=t):=⟨by rw[HSS.out];exact⟨rfl,rfl⟩⟩
    have hn:((linesB tt).length:Int)=(n:Int):=by rw[HN.out]
    rw[hn]
    clear hlt hn hx0 hx1 hx2 HB5 HB4 HB3 HBA HRA HXB HXB3 HXB4 HR3 HR4 HBe HR hz0 hz24 HT HWA
    generalize s.2++(who.drop s.1).take (f - s.1)=D at *
    go_loopg [49] (n+1) (fun kq v49 w'=>∃ (j:Nat) (v:Value),v49=.int .i64 (j:Int)∧Aside0 (n - j < kq∧j≤n)∧Aside0 (Bx W0 w' W0.heap.size bo ba bn v (offT old t) (t:Int))∧Aside0 (Kd.R (Kd.int .i64) 3 w' W0.heap.size (fun _=>True) v (D++List.replicate j k)))
    case atStart=>exact⟨0,v4,rfl,⟨by omega,by omega⟩,HB6,HR6⟩
    case round =>
      obtain⟨j,v,rfl,HJ,HBj,HRj⟩:=hrel
      obtain⟨k2,rfl⟩:∃ k2,gk=k2+1:=⟨gk - 1,by have:=HJ.out.1;omega⟩
      have HWJ:=Aside0.mk HBj.out.size
      have hlen:(D++List.replicate j k).length≤1000000:=by
        have h1:=HSL.out.2
        rw[HS''.out.1,List.length_append,List.length_replicate] at h1
        have h3:=HJ.out.2
        rw[List.length_append,List.length_replicate]
        omega
      have hnb:n≤1000000:=by
        have h1:=HSL.out.2
        rw[HS''.out.1,List.length_append,List.length_replicate] at h1
        omega
      have HLE:=Aside0.mk hlen
      have HNB:=Aside0.mk hnb
      clear hlen hnb
      by_cases hlt:j < n
      rotate_left
      · have hb:decide ((j:Int) < (n:Int))=false:=by simp;omega
        have hjn:j=n:=by have:=HJ.out.2;omega
        subst hjn
        rw[← HS''.out.1] at HRj
        rw[← HS''.out.2] at HBj
        have HRz:Aside0 (Kd.R (Kd.int .i64) 3 wr W0.heap.size (fun _=>True) v (blT old now who k (i+1)).2):=⟨by rw[HS'.out];exact HRj.out⟩
        have HBz:Aside0 (Bx W0 wr W0.heap.size bo ba bn v (offT old (blT old now who k (i+1)).1) ((blT old now who k (i+1)).1:Int)):=⟨by rw[HS'.out];exact HBj.out⟩
        go_wp2_with fail
        go_roundg k1
        case measure=>have:=HI2.out;omega
        case rel=>exact⟨i+1,_,congrArg (Value.int .i64) (by first|exact nx i (by have:=HLN.out;have:=HI2.out;omega)|(have:=HLN.out;have:=HI2.out;omega)),⟨by have:=HI2.out;omega,by have:=HI2.out;omega⟩,HBz,HRz⟩
      have hb:decide ((j:Int) < (n:Int))=true:=by simp;omega
      obtain⟨A7,c7,rfl⟩:=Kd.yw_ HRj.out
      obtain⟨hoc,hof⟩:=HBj.out.cellO
      have HLTj:=Aside0.mk hlt
      have HEQ:Aside0 (D++List.replicate j k++[k]=D++List.replicate (j+1) k):=⟨by rw[List.append_assoc,List.replicate_succ']⟩
      generalize D++List.replicate j k=L at *
      go_wp2_with (at_builtin;go_loud (refine Kd.yM_ (Kd.int .i64) (w0:=wr) W0.heap.size rfl (.tmp 51) (.tmp 53) 28 3 (.int .i64 0) 8 rfl Tryz.underlying28 info3 rfl (by decide) (by omega) _ L k [.int .i64 k] (fun _=>True) (fun _=>False) rfl (by first|rfl|(simp;done)|(go_simp;done)) rfl (fun _ hk=>hk.elim) (fun _ _=>trivial) HRj.out (Below.refl W0.heap.size wr) HWJ.out (by have:=HLE.out;omega) ?_);intro v1 w7 ho hb hg hat;go_loud (obtain⟨A8,c8,rfl⟩:=Kd.yw_ ho;have HB7:=Aside0.mk (HBj.out.below HLT.out.1 HLT.out.2.1 HLT.out.2.2 hb);obtain⟨hc7,hf7⟩:=HB7.out.cellO;rw[show (L++[k]).length=L.length+1 by rw[List.length_append];rfl] at ho;have HO7:=Aside0.mk ho;clear ho hb hg hat))
      go_roundg k2
      case measure=>have:=HJ.out.1;have:=HLTj.out;omega
      case rel=>exact⟨j+1,_,congrArg (Value.int .i64) (by first|exact nx j (by have:=HNB.out;have:=HJ.out;omega)|(have:=HNB.out;have:=HJ.out;omega)),⟨by have:=HJ.out.1;omega,by have:=HLTj.out;omega⟩,⟨HB7.out.setO (fun e=>HNE.out.1 e.symm) (fun e=>HNE.out.2.1 e.symm) _⟩,⟨by rw[← HEQ.out];exact R_setBox HO7.out HLT.out.1⟩⟩
end Go.Proofs.YthimblhfjfngiaaGreat.PText

namespace Go.Proofs.YthimblhfjfngiaaGreat.PText
open Go.RowKit Go.Lib Go.Sort Go.Proofs.YthimblhfjfngiaaGreatW.PrintWords Go.Proofs.YthimblhfjfngiaaGreatW.PrintLast Go.Proofs.YthimblhfjfngiaaGreatW.PrintMore
set_option linter.unusedVariables false
set_option linter.unusedSimpArgs false
/-- the row of a past of some commits -/
theorem past_at {w:World} {base p:Nat} {L:List Com} (h:PastIs w base p L) (hl:0 < L.length):∃ (g cap:Nat) (cs:List Nat),p < w.heap.size∧g < w.heap.size∧base≤p∧base≤g∧L.length≤cap∧w.cell? ⟨p,0,none⟩=some (.slice (some ⟨g,0,none⟩) L.length cap) ∧
    ∀ i,∀ h:i < L.length,∃ c,w.cell? ⟨g,i,none⟩=some (.pointer (some ⟨c,0,none⟩))∧ComAt w c L[i]:=by
  obtain⟨A,cap,ps,h1,h2,h3,h4,h5⟩:=h
  have h4':Kd.R kP 63 w base (fun _=>True) (.slice A ps.length cap) ps:=by rw[h1];exact h4
  obtain⟨g,cap',hv,hb,-,cs,hc⟩:=Kd.R_form h4' (by omega)
  cases hv
  refine⟨g,cap,ps,(Array.getElem?_eq_some_iff.1 h3).1,(Array.getElem?_eq_some_iff.1 hc).1,h2,hb,(Kd.yj_ h4).2.1,by unfold World.cell?;rw[h3];rfl,fun i hi=>?_⟩
  have hi':i < ps.length:=by omega
  obtain⟨q1,-⟩:=Kd.R_cell (enc:=fun c:Nat=>Value.pointer (some ⟨c,0,none⟩)) (h1:=fun _=>rfl) 0 h4' (i:Int) (by omega) (by omega)
  have hr:rdOf 0 ps (i:Int)=ps[i]:=by unfold rdOf;rw[Int.toNat_natCast,List.getD_eq_getElem?_getD,List.getElem?_eq_getElem hi'];rfl
  rw[Int.toNat_natCast,hr] at q1
  exact⟨ps[i],q1,h5 i hi hi'⟩
/-- whose the lines are behind the commits to come -/
def blGo (file:ByteArray):List Com→Nat→ByteArray→List Int→List Int × Int
  | [],_,_,out=>(out,0)
  | c :: L,k,old,out=>if (editsR old (findR c.files file).1).2≠0 then ([],(editsR old (findR c.files file).1).2) else blGo file L (k+1) (findR c.files file).1 (blameR old (findR c.files file).1 out (k:Int))
def blameA (L:List Com) (file:ByteArray):List Int × Int:=match L.getLast? with
  | none=>([],4)
  | some c=>if (findR c.files file).2=true then blGo file L 0 ⟨#[]⟩ [] else ([],4)
/-- commits that are not large -/
def Small (L:List Com):Prop:=∀ c∈L,c.files.length≤10000∧∀ x∈c.files,x.f1.size≤1000000
theorem yEb_ {l:List S41} {file:ByteArray} {B:Nat} (h:∀ x∈l,x.f1.size≤B):(findR l file).1.size≤B:=by
  unfold findR
  cases q:l.find? (nameP file) with
  | none=>exact Nat.zero_le _
  | some x=>exact h x (List.mem_of_find?_eq_some q)
theorem keepP {w w':World} {p g m:Nat} {u v:Value} (hb:Below w.heap.size w w') (h1:w.cell? ⟨p,0,none⟩=some u) (h2:w.cell? ⟨g,m,none⟩=some v) (l1:p < w.heap.size) (l2:g < w.heap.size) :
    w'.cell? ⟨p,0,none⟩=some u∧w'.cell? ⟨g,m,none⟩=some v∧Below w.heap.size w w':=⟨(hb.cell (p:=⟨p,0,none⟩) l1).trans h1,(hb.cell (p:=⟨g,m,none⟩) l2).trans h2,hb⟩
set_option maxRecDepth 100000 in
set_option maxHeartbeats 4000000 in
theorem blame_calls (base p:Nat) (L:List Com) (file:ByteArray) (w:World) (hP:PastIs w base p L) (hL:L.length≤1000) (hS:Small L) :
    Calls Tryz.prog 9 #[.pointer (some ⟨p,0,none⟩),.string file] w fun e w'=>∃ v,e=.returned (.tuple #[v,.int .i64 (blameA L file).2])∧Kd.R (Kd.int .i64) 3 w' w.heap.size (fun _=>True) v (blameA L file).1∧Below w.heap.size w w':=by
  by_cases hl:L=[]
  · subst hl
    obtain⟨A,cap,ps,h1,h2,h3,h4,h5⟩:=hP
    have hx0:w.cell? ⟨p,0,none⟩=some (.slice A 0 cap):=by unfold World.cell?;rw[h3];rfl
    clear h1 h2 h3 h4 h5
    go_enter Tryz.func9,Tryz.ntmps9
    go_wp2_with fail
    go_ret2
    exact⟨_,rfl,Kd.R_nil _ _ _ _ _,Below.refl _ _⟩
  have hlen:0 < L.length:=List.length_pos_iff.2 hl
  obtain⟨g,cap,cs,l1,l2,b1,b2,hcap,hc1,hat⟩:=past_at hP hlen
  obtain⟨m,hm⟩:∃ m,L.length=m+1:=⟨L.length - 1,by omega⟩
  obtain⟨c,hc2,hcom⟩:=hat m (by omega)
  have hlast:L.getLast?=some L[m]:=by
    rw[List.getLast?_eq_getElem?,show L.length - 1=m by omega]
    exact List.getElem?_eq_getElem (by omega)
  have hA:blameA L file=if (findR L[m].files file).2=true then blGo file L 0 ⟨#[]⟩ [] else ([],4):=by unfold blameA;rw[hlast]
  have HA:=Aside0.mk hA
  have hx:=(hS L[m] (List.getElem_mem (by omega))).1
  generalize hr:findR L[m].files file=r at *
  obtain⟨t0,ok⟩:=r
  have HF:Aside0 (∀ wr,Below w.heap.size w wr→Calls Tryz.prog 28 #[.pointer (some ⟨c,0,none⟩),.string file] wr fun e w'=>e=.returned (.tuple #[.string t0,.bool ok])∧Below wr.heap.size wr w') :=
    ⟨fun wr hb=>by
      have q:=y6b_ c L[m] file wr (hcom.keep (PKept.of_below hb)) hx
      rw[hr] at q
      exact q⟩
  have HAT:=Aside0.mk hat
  have HSM:=Aside0.mk hS
  have HM:=Aside0.mk hm
  have HLL:=Aside0.mk hL
  have HLT:Aside0 (p < w.heap.size∧g < w.heap.size):=⟨l1,l2⟩
  have HB0:=Aside0.mk (Below.refl w.heap.size w)
  have hz:((L.length:Int) == 0)=false:=beq_eq_false_iff_ne.2 (by omega)
  have hw0:wrap64 ((L.length:Int) - 1)=(m:Int):=by rw[w64 (by omega) (by omega)];omega
  have hw1:IntKind.i64.wrap ((L.length:Int) - 1)=(m:Int):=(i64_w _).trans hw0
  have hm0:(0:Int)≤(m:Int):=by omega
  have hm1:(m:Int) < (L.length:Int):=by omega
  have hHC1:=Aside0.mk hc1
  have hHC2:=Aside0.mk hc2
  clear hA hP hL hS hlast hat hcom hr hx hl hlen hm b1 b2 hcap
  go_enter Tryz.func9,Tryz.ntmps9
  go_wp2_with fail
  go_region_held3 (fun w'=>w'.cell? ⟨p,0,none⟩=some (.slice (some ⟨g,0,none⟩) L.length cap)∧w'.cell? ⟨g,m,none⟩=some (.pointer (some ⟨c,0,none⟩))∧Below w.heap.size w w')
    (first
      | exact keepP (Below.refl _ _) hHC1.out hHC2.out HLT.out.1 HLT.out.2
      | exact keepP (Below.refl _ _).drew hHC1.out hHC2.out HLT.out.1 HLT.out.2
      | (go_split_ands;exact keepP (Below.drew (by assumption)) hHC1.out hHC2.out HLT.out.1 HLT.out.2)
      | (go_split_ands;exact keepP (yn_ (by assumption) hb) hHC1.out hHC2.out HLT.out.1 HLT.out.2)
      | (go_split_ands;exact keepP (yn_ (by assumption) hb).drew hHC1.out hHC2.out HLT.out.1 HLT.out.2))
    (first
      | (go_at_call 28;with_reducible refine (HF.out _ ?zb).mono ?_;(case zb=>(go_split_ands;assumption));rintro e w5 ⟨rfl,hb⟩))
  go_split_ands
  have HB5:Aside0 (Below w.heap.size w w5):=⟨by assumption⟩
  clear hb
  cases ok
  · have hA':blameA L file=([],4):=by rw[HA.out,if_neg (by decide)]
    have HA2:=Aside0.mk hA'
    clear hA' HA
    go_wp2_with fail
    go_ret2
    rw[HA2.out]
    exact⟨_,rfl,Kd.R_nil _ _ _ _ _,HB5.out⟩
  · have hA':blameA L file=blGo file L 0 ⟨#[]⟩ []:=by rw[HA.out,if_pos rfl]
    have HA2:=Aside0.mk hA'
    have hp5:=(HB5.out.cell (p:=⟨p,0,none⟩) HLT.out.1).trans hHC1.out
    clear hA' HA HF
    go_wp2_with fail
    go_loopg [48,8,9] (L.length+1) (fun kq v48 v8 v9 w'=>∃ (i:Nat) (old:ByteArray) (out:List Int) (A:Option Addr) (cc:Nat),v48=.int .i64 (i:Int)∧v8=.slice A out.length cc∧v9=.string old∧Aside0 (L.length - i < kq∧i≤L.length)∧Aside0 (Below w.heap.size w w')∧Aside0 (Kd.R (Kd.int .i64) 3 w' w.heap.size (fun _=>True) (.slice A out.length cc) out)∧Aside0 (blGo file L 0 ⟨#[]⟩ []=blGo file (L.drop i) i old out)∧Aside0 (out.length=(linesB old).length∧old.size≤1000000))
    case atStart=>exact⟨0,⟨#[]⟩,[],none,0,rfl,rfl,rfl,⟨by omega,by omega⟩,HB5,⟨Kd.R_nil _ _ _ _ _⟩,⟨by rw[List.drop_zero]⟩,⟨rfl,by show 0≤1000000;omega⟩⟩
    case round =>
      obtain⟨i,old,out,A,cc,rfl,rfl,rfl,HI,HBe,HR,HG,HO⟩:=hrel
      obtain⟨k1,rfl⟩:∃ k1,gk=k1+1:=⟨gk - 1,by have:=HI.out.1;omega⟩
      by_cases hlt:i < L.length
      rotate_left
      · have hb:decide ((i:Int) < (L.length:Int))=false:=by simp;omega
        have hdn:L.drop i=[]:=List.drop_eq_nil_of_le (by omega)
        have HFN:Aside0 (blGo file L 0 ⟨#[]⟩ []=(out,0)):=⟨by rw[HG.out,hdn];rfl⟩
        clear HG hdn
        go_wp2_with fail
        go_ret2
        rw[HA2.out,HFN.out]
        exact⟨_,rfl,HR.out,HBe.out⟩
      have hb:decide ((i:Int) < (L.length:Int))=true:=by simp;omega
      have hb2:decide ((0:Int)≤(i:Int))=true:=by simp
      have hi0:(0:Int)≤(i:Int):=by omega
      have hi1:(i:Int) < (L.length:Int):=by omega
      obtain⟨ci,hci,hcomi⟩:=HAT.out i hlt
      have hci':=(HBe.out.cell (p:=⟨g,i,none⟩) HLT.out.2).trans hci
      have HF:Aside0 (∀ wr,Below w.heap.size w wr→Calls Tryz.prog 28 #[.pointer (some ⟨ci,0,none⟩),.string file] wr fun e w'=>e=.returned (.tuple #[.string (findR L[i].files file).1,.bool (findR L[i].files file).2])∧Below wr.heap.size wr w') :=
        ⟨fun wr hb=>y6b_ ci L[i] file wr (hcomi.keep (PKept.of_below hb)) (HSM.out L[i] (List.getElem_mem hlt)).1⟩
      have hsz:=yEb_ (file:=file) (HSM.out L[i] (List.getElem_mem hlt)).2
      have hgo:blGo file (L.drop i) i old out=if (editsR old (findR L[i].files file).1).2≠0 then ([],(editsR old (findR L[i].files file).1).2) else blGo file (L.drop (i+1)) (i+1) (findR L[i].files file).1 (blameR old (findR L[i].files file).1 out (i:Int)):=by
        rw[List.drop_eq_getElem_cons hlt];rfl
      have HG2:=Aside0.mk (HG.out.trans hgo)
      have HLT2:=Aside0.mk hlt
      generalize (findR L[i].files file).2=fok at *
      generalize (findR L[i].files file).1=now at *
      have HNS:=Aside0.mk hsz
      have HBL:Aside0 (∀ wr,Below w.heap.size w wr→Kd.R (Kd.int .i64) 3 wr w.heap.size (fun _=>True) (.slice A out.length cc) out→Calls Tryz.prog 29 #[.string old,.string now,.slice A out.length cc,.int .i64 (i:Int)] wr fun e w'=>∃ v,e=.returned (.tuple #[v,.int .i64 (editsR old now).2])∧Kd.R (Kd.int .i64) 3 w' wr.heap.size (fun _=>True) v (blameR old now out (i:Int))∧Below wr.heap.size wr w') :=
        ⟨fun wr hb h=>blamed_calls old now A cc out (i:Int) wr (Kd.yj_ h).2.2 (Kd.yj_ h).2.1 HO.out.1 HO.out.2 HNS.out⟩
      have hbl:(editsR old now).2=0→(blameR old now out (i:Int)).length=(linesB now).length:=fun h=>by
        unfold blameR
        rw[if_neg (fun q=>q h)]
        exact bl_len old now out _ HO.out.1
      have HBLN:=Aside0.mk hbl
      clear hci hcomi hsz hgo HG hbl
      by_cases hz:(editsR old now).2=0
      rotate_left
      · have hbz:((editsR old now).2 == 0)=false:=beq_eq_false_iff_ne.2 hz
        have HFN:Aside0 (blGo file L 0 ⟨#[]⟩ []=([],(editsR old now).2)):=⟨by rw[HG2.out,if_pos hz]⟩
        clear hz HG2 HBLN
        generalize (editsR old now).2=er at *
        go_wp2_with (first
          | (go_at_call 28;with_reducible refine (HF.out _ HBe.out).mono ?_;rintro e w6 ⟨rfl,hb6⟩;have HB6:=Aside0.mk (yn_ HBe.out hb6);have HR6:=Aside0.mk (Kd.yT_ HR.out hb6);clear hb6 HF)
          | (go_at_call 29;with_reducible refine (HBL.out _ HB6.out HR6.out).mono ?_;rintro e w7 ⟨v7,rfl,ho,hb7⟩;obtain⟨A7,c7,rfl⟩:=Kd.yw_ ho;have HB7:=Aside0.mk (yn_ HB6.out hb7);clear ho hb7 HBL))
        go_ret2
        rw[HA2.out,HFN.out]
        exact⟨_,rfl,Kd.R_nil _ _ _ _ _,HB7.out⟩
      rw[hz] at HBL
      have HZ:=Aside0.mk hz
      clear hz
      go_wp2_with (first
        | (go_at_call 28;with_reducible refine (HF.out _ HBe.out).mono ?_;rintro e w6 ⟨rfl,hb6⟩;have HB6:=Aside0.mk (yn_ HBe.out hb6);have HR6:=Aside0.mk (Kd.yT_ HR.out hb6);clear hb6 HF)
        | (go_at_call 29;with_reducible refine (HBL.out _ HB6.out HR6.out).mono ?_;rintro e w7 ⟨v7,rfl,ho,hb7⟩;obtain⟨A7,c7,rfl⟩:=Kd.yw_ ho;have HO7:=Aside0.mk (Kd.y1_ ho HB6.out.size);have HB7:=Aside0.mk (yn_ HB6.out hb7);clear ho hb7 HBL))
      go_roundg k1
      case measure=>have:=HI.out.1;have:=HLT2.out;omega
      case rel=>exact⟨i+1,now,blameR old now out (i:Int),A7,c7,congrArg (Value.int .i64) (by first|exact nx i (by have:=HLL.out;have:=HLT2.out;omega)|(have:=HLL.out;have:=HLT2.out;omega)),rfl,rfl,⟨by have:=HI.out.1;have:=HLT2.out;omega,by have:=HLT2.out;omega⟩,HB7,HO7,⟨by rw[HG2.out,if_neg (fun q=>q HZ.out)]⟩,⟨HBLN.out HZ.out,HNS.out⟩⟩
end Go.Proofs.YthimblhfjfngiaaGreat.PText

namespace Go.Proofs.YthimblhfjfngiaaGreat.PText
open Go.RowKit Go.Lib Go.Sort Go.Proofs.YthimblhfjfngiaaGreatW.PrintWords Go.Proofs.YthimblhfjfngiaaGreatW.PrintLast Go.Proofs.YthimblhfjfngiaaGreatW.PrintMore
set_option linter.unusedVariables false
set_option linter.unusedSimpArgs false
end Go.Proofs.YthimblhfjfngiaaGreat.PText

namespace Go.Proofs.YthimblhfjfngiaaGreat.PText
open Go.RowKit Go.Lib Go.Sort Go.Proofs.YthimblhfjfngiaaGreatW.PrintWords Go.Proofs.YthimblhfjfngiaaGreatW.PrintLast Go.Proofs.YthimblhfjfngiaaGreatW.PrintMore
set_option linter.unusedVariables false
set_option linter.unusedSimpArgs false
/-- a slice's value, in a row -/
def kL:Kd (Option Addr × Nat × Nat):=Kd.scalar (fun x:Option Addr × Nat × Nat=>Value.slice x.1 x.2.1 x.2.2) (fun _=>rfl)
theorem info46:(Tryz.prog.info? 37).map (fun i=>(i.zero,i.size,i.bytes))=some (some (.slice none 0 0),1,24):=by kernel_rfl
/-- whatever lies in blocks of other types than the document's past's own (itself, its rows of names and of files) stands -/
def RKept (w w':World):Prop:=∀ (k:Nat) (o:Obj),w.heap[k]?=some o→(∀ c fz,o≠.cells c 58 fz)→(∀ c fz,o≠.cells c 9 fz)→(∀ c fz,o≠.cells c 37 fz)→w'.heap[k]?=some o
theorem RKept.refl (w:World):RKept w w:=fun _ _ h _ _ _=>h
theorem RKept.trans {a b c:World} (h:RKept a b) (k:RKept b c):RKept a c:=fun i o hi h1 h2 h3=>k i o (h i o hi h1 h2 h3) h1 h2 h3
theorem RKept.of_below {w w':World} (h:Below w.heap.size w w'):RKept w w':=fun k o hk _ _ _=>(h.block k (Array.getElem?_eq_some_iff.1 hk).1).trans hk
theorem RKept.grown {w w':World} {base n t:Nat} {v:Value} {inner:List Value} {sz:Nat} (hg:w.grownBy w' v.ownBlock) (ho:w.ownsRow base t sz v n inner) (ht:t=58∨t=9∨t=37):RKept w w':=fun k o hk h1 h2 h3=>by
  rw[hg.block k (Array.getElem?_eq_some_iff.1 hk).1 ?_,hk]
  intro e
  obtain⟨cells,hc⟩:=yob_ ho k e.symm
  rw[hk] at hc
  cases hc
  rcases ht with rfl|rfl|rfl
  · exact h1 _ _ rfl
  · exact h2 _ _ rfl
  · exact h3 _ _ rfl
theorem RKept.set {w:World} {q i:Nat} {cs:Array Value} {x:Value} (hq:w.heap[q]?=some (.cells cs 58 (0,0))):RKept w (w.setCell ⟨q,i,none⟩ x):=fun k o hk h1 h2 h3=>by
  rw[Below.heap_setCell _ _ _ _ (fun e=>?_),hk]
  subst e
  rw[hq] at hk
  cases hk
  exact h1 _ _ rfl
theorem FRow.rkeep {w w':World} {A:Option Addr} {cap:Nat} {l:List S41} (h:FRow w A cap l) (hk:RKept w w'):FRow w' A cap l:=by
  rcases h.lies with e|⟨b,cs,e,hb⟩
  · subst e
    exact⟨h.cap,⟨rfl,by simp,fun q=>absurd q (by simp)⟩,.inl rfl⟩
  · have hb':=hk b _ hb (fun c fz q=>by cases q) (fun c fz q=>by cases q) (fun c fz q=>by cases q)
    exact⟨h.cap,C_kept53 h.reads e (by rw[hb,hb']),.inr ⟨b,cs,e,hb'⟩⟩
theorem ComAt.rkeep {w w':World} {c:Nat} {x:Com} (h:ComAt w c x) (hk:RKept w w'):ComAt w' c x:=by
  obtain⟨A,cap,h1,h2⟩:=h
  exact⟨A,cap,hk c _ h1 (fun c fz q=>by cases q) (fun c fz q=>by cases q) (fun c fz q=>by cases q),h2.rkeep hk⟩
theorem R_types' {α:Type} {d:Kd α} {e:Nat} {w w':World} {base:Nat} {v:Value} {xs:List α} (h:Kd.R d e w base (fun _=>True) v xs) (hm:∀ (k q:Nat) (cs:Array Value),q∈e :: d.E→w.heap[k]?=some (.cells cs q (0,0))→w'.heap[k]?=some (.cells cs q (0,0))):Kd.R d e w' base (fun _=>True) v xs :=
  Kd.R_mono (Kd.R_step (Kd.yNb_ h) (fun k hk hk2=>by
    obtain⟨-,-,-,q,hq,cs,hc⟩:=hk
    rw[hm k q cs hq hc,hc])) (fun _ _=>trivial)
/-- the program's past stands where the document's is written -/
theorem PastIs.rkeep {w w':World} {base p:Nat} {L:List Com} (h:PastIs w base p L) (hk:RKept w w'):PastIs w' base p L:=by
  obtain⟨A,cap,ps,h1,h2,h3,h4,h5⟩:=h
  refine⟨A,cap,ps,h1,h2,hk p _ h3 (fun c fz q=>by cases q) (fun c fz q=>by cases q) (fun c fz q=>by cases q),R_types' h4 (fun k q cs hq hc=>?_),fun i a b=>(h5 i a b).rkeep hk⟩
  have e:q=63:=by rcases List.mem_cons.1 hq with h|h;exact h;cases h
  subst e
  exact hk k _ hc (fun c fz q=>by cases q) (fun c fz q=>by cases q) (fun c fz q=>by cases q)
/-- the document's past: names and files of its commits -/
def RefIs (w:World) (base q:Nat) (L:List Com):Prop :=
  ∃ (A1 A2:Option Addr) (c1 c2:Nat) (ps:List (Option Addr × Nat × Nat)),ps.length=L.length∧base≤q∧w.heap[q]?=some (.cells #[.slice A1 L.length c1,.slice A2 L.length c2] 58 (0,0))∧Kd.R Kd.string 9 w base (fun _=>True) (.slice A1 L.length c1) (L.map (·.name)) ∧
    Kd.R kL 37 w base (fun _=>True) (.slice A2 L.length c2) ps∧∀ i,∀ h:i < L.length,∀ h':i < ps.length,ps[i].2.1=L[i].files.length∧FRow w ps[i].1 ps[i].2.2 L[i].files
theorem RefIs.keep {w w':World} {base q:Nat} {L:List Com} (h:RefIs w base q L) (hk:PKept w w'):RefIs w' base q L:=by
  obtain⟨A1,A2,c1,c2,ps,h1,h2,h3,h4,h5,h6⟩:=h
  have one:∀ (t:Nat) (e:List Nat),e=[]→t≠61→t≠63→∀ (k q:Nat) (cs:Array Value),q∈t :: e→w.heap[k]?=some (.cells cs q (0,0))→w'.heap[k]?=some (.cells cs q (0,0)):=fun t e he n1 n2 k q cs hq hc=>by
    subst he
    have e:q=t:=by rcases List.mem_cons.1 hq with h|h;exact h;cases h
    subst e
    exact hk k _ hc (fun c fz z=>by cases z;exact n1 rfl) (fun c fz z=>by cases z;exact n2 rfl)
  exact⟨A1,A2,c1,c2,ps,h1,h2,hk q _ h3 (fun c fz z=>by cases z) (fun c fz z=>by cases z),R_types' h4 (one 9 _ rfl (by decide) (by decide)),R_types' h5 (one 37 _ rfl (by decide) (by decide)),fun i a b=>⟨(h6 i a b).1,(h6 i a b).2.keep hk⟩⟩
theorem RefIs.below {w w':World} {base q:Nat} {L:List Com} (h:RefIs w base q L) (hb:Below w.heap.size w w'):RefIs w' base q L:=h.keep (PKept.of_below hb)
end Go.Proofs.YthimblhfjfngiaaGreat.PText

namespace Go.Proofs.YthimblhfjfngiaaGreat.PText
open Go.RowKit Go.Lib Go.Sort Go.Proofs.YthimblhfjfngiaaGreatW.PrintWords Go.Proofs.YthimblhfjfngiaaGreatW.PrintLast Go.Proofs.YthimblhfjfngiaaGreatW.PrintMore
set_option linter.unusedVariables false
set_option linter.unusedSimpArgs false
theorem files_row {w:World} {base:Nat} {A2:Option Addr} {c2:Nat} {L:List Com} {ps:List (Option Addr × Nat × Nat)} (h1:ps.length=L.length) (h5:Kd.R kL 37 w base (fun _=>True) (.slice A2 L.length c2) ps)
    (h6:∀ i,∀ h:i < L.length,∀ h':i < ps.length,ps[i].2.1=L[i].files.length∧FRow w ps[i].1 ps[i].2.2 L[i].files):Kd.C (Kd.slice 41 k41) w A2 (L.map (·.files)).length (L.map (·.files)):=by
  rw[← h1] at h5
  obtain⟨q1,q2,q3⟩:=(Kd.yj_ h5).2.2
  refine⟨rfl,by rw[List.length_map,← h1];exact q2,fun hl=>?_⟩
  rw[List.length_map] at hl
  obtain⟨ad,e,q4⟩:=q3 (by omega)
  refine⟨ad,e,fun j p hj=>?_⟩
  obtain⟨hj1,hj2⟩:=List.getElem?_eq_some_iff.1 hj
  have hjL:j < L.length:=by rwa [List.length_map] at hj1
  have hjp:j < ps.length:=by omega
  obtain⟨c,e1,e2,e3⟩:=q4 j ps[j] (List.getElem?_eq_getElem hjp)
  obtain⟨f1,f2⟩:=h6 j hjL hjp
  rw[List.getElem_map] at hj2
  subst hj2
  refine⟨c,e1,?_,e3⟩
  have e2':c=[.slice ps[j].1 ps[j].2.1 ps[j].2.2]:=e2
  rw[f1] at e2'
  exact⟨ps[j].1,ps[j].2.2,e2',f2.cap,f2.reads⟩
theorem refIs_S {w:World} {base q:Nat} {L:List Com} (h:RefIs w base q L):IsS58 w w q (L.map (·.name)) (L.map (·.files)):=by
  obtain⟨A1,A2,c1,c2,ps,h1,h2,h3,h4,h5,h6⟩:=h
  have hn:(L.map (·.name)).length=L.length:=List.length_map _
  refine⟨A1,c1,A2,c2,by rw[List.length_map,List.length_map];exact h3,trivial,?_,files_row h1 h5 h6⟩
  have h4':Kd.R Kd.string 9 w base (fun _=>True) (.slice A1 (L.map (·.name)).length c1) (L.map (·.name)):=by rw[hn];exact h4
  exact (Kd.yj_ h4').2.2
end Go.Proofs.YthimblhfjfngiaaGreat.PText

