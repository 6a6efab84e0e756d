/- PastThree holds: for every three texts the statement answers true. Part 23 of 25. -/
import Derived.Test.YthimblhfjfngiaaBThreeV
import Derived.Shelf.Abstract
import Derived.OwnWalkIn
import Derived.TacticsInMore
import Derived.LoopNIn
import Derived.LoopIn
import Derived.Lib.IndexLaws
namespace Go.Proofs.Ythimblhfjfngiaa.PText
open Go.RowKit Go.Shelf Go.Proofs.YthimblhfjfngiaaW.PrintWords Go.Proofs.YthimblhfjfngiaaW.PrintLast Go.Proofs.YthimblhfjfngiaaW.PrintMore
set_option linter.unusedVariables false
set_option linter.unusedSimpArgs false
attribute [local go_sem] Oper.semAt_some
def linesB (s:ByteArray):List ByteArray:=(Tx.lines s.data.toList).map fun l=>⟨l.toArray⟩
def ycb_.f (s:ByteArray):Option (List ByteArray):=if s.size≤1000000000 then some (linesB s) else none
/-- where the first line of a text ends -/
def lineEnd (s:ByteArray):Nat:=if Lib.indexByte s.data.toList 10+1=0 then s.size else (Lib.indexByte s.data.toList 10+1).toNat
theorem bytes_list {l:List UInt8} {i:Nat} (h:l[i]?=some 10) (k:∀ j,j < i→l[j]?≠some 10):∃ a r,l=a++10 :: r∧a.length=i∧(10:UInt8) ∉ a:=by
  have hlt:i < l.length:=by
    rcases Nat.lt_or_ge i l.length with q|q
    · exact q
    · rw[List.getElem?_eq_none q] at h;cases h
  refine⟨l.take i,l.drop (i+1),?_,by rw[List.length_take];omega,?_⟩
  · have e:l[i]=10:=by rw[List.getElem?_eq_getElem hlt] at h;exact Option.some.inj h
    rw[← e,← List.drop_eq_getElem_cons hlt,List.take_append_drop]
  · intro m
    obtain⟨j,hj,e⟩:=List.mem_iff_getElem.1 m
    rw[List.length_take] at hj
    rw[List.getElem_take] at e
    exact k j (by omega) (by rw[List.getElem?_eq_getElem (by omega),e])
theorem ba_ext {a b:ByteArray} (h:a.data.toList=b.data.toList):a=b:=by
  have:a.data=b.data:=Array.toList_inj.1 h
  cases a;cases b;simp_all
theorem lgo_all:∀ (s cur:List UInt8),(∀ x∈s,x≠10)→cur++s≠[]→Tx.lgo cur s=[cur++s]
  | [],cur,_,h=>by
    unfold Tx.lgo
    rw[List.append_nil] at h ⊢
    rw[if_neg h]
  | c :: r,cur,h,_=>by
    unfold Tx.lgo
    rw[if_neg (h c List.mem_cons_self),lgo_all r (cur++[c]) (fun x m=>h x (List.mem_cons_of_mem _ m)) (by simp)]
    simp
theorem linesB_step (s:ByteArray) (h:s≠⟨#[]⟩):0 < lineEnd s∧lineEnd s≤s.size∧linesB s=s.extract 0 (lineEnd s) :: linesB (s.extract (lineEnd s) s.size):=by
  have hne:s.data.toList≠[]:=fun e=>h (ba_ext e)
  have hsz:s.size=s.data.toList.length:=by rw[Array.length_toList];rfl
  unfold lineEnd
  have hge:=Lib.indexByte_ge s.data.toList 10
  by_cases hi:Lib.indexByte s.data.toList 10+1=0
  · rw[if_pos hi]
    have hn:Lib.indexByte s.data.toList 10=-1:=by omega
    have hno:=Lib.indexByte_none hn
    have hpos:0 < s.data.toList.length:=List.length_pos_iff.2 hne
    refine⟨by omega,Nat.le_refl _,?_⟩
    have e1:s.extract 0 s.size=s:=by apply ba_ext;rw[ByteArray.data_extract,Array.toList_extract,List.extract_eq_take_drop,List.drop_zero,Nat.sub_zero,hsz,List.take_length]
    have e2:linesB (s.extract s.size s.size)=[]:=by
      have:(s.extract s.size s.size).data.toList=[]:=by rw[ByteArray.data_extract,Array.toList_extract,List.extract_eq_take_drop,Nat.sub_self,List.take_zero]
      unfold linesB;rw[this];rfl
    rw[e1,e2]
    unfold linesB Tx.lines
    rw[lgo_all _ _ (fun x m e=>by subst e;obtain⟨j,hj,e⟩:=List.mem_iff_getElem.1 m;exact hno j (by rw[List.getElem?_eq_getElem hj,e])) (by simpa using hne)]
    simp
  rw[if_neg hi]
  obtain⟨i,hi'⟩:∃ i:Nat,Lib.indexByte s.data.toList 10=(i:Int):=⟨(Lib.indexByte s.data.toList 10).toNat,by omega⟩
  obtain⟨hs,hk⟩:=Lib.indexByte_some hi'
  obtain⟨a,r,e,hl,hm⟩:=bytes_list hs hk
  have ei:(Lib.indexByte s.data.toList 10+1).toNat=i+1:=by omega
  rw[ei]
  have hlen:s.data.toList.length=i+1+r.length:=by rw[e];simp;omega
  refine⟨by omega,by omega,?_⟩
  have e1:(s.extract 0 (i+1)).data.toList=a++[10]:=by
    rw[ByteArray.data_extract,Array.toList_extract,List.extract_eq_take_drop,List.drop_zero,Nat.sub_zero,e,← hl]
    have:a++10 :: r=(a++[10])++r:=by simp
    rw[this,List.take_left' (by simp)]
  have e2:(s.extract (i+1) s.size).data.toList=r:=by
    rw[ByteArray.data_extract,Array.toList_extract,hsz,hlen,e,← hl]
    have:a++10 :: r=(a++[10])++r:=by simp
    rw[this,List.extract_eq_take_drop,show a.length+1=(a++[10]).length by simp,List.drop_left]
    simp
  have e3:s.extract 0 (i+1)=⟨(a++[10]).toArray⟩:=ba_ext (by rw[e1])
  unfold linesB Tx.lines
  rw[e3,e2,e,Tx.lgo_line _ _ _ hm]
  simp
theorem linesB_nil:linesB ⟨#[]⟩=[]:=rfl
theorem idx_calls (s:ByteArray) (w:World):Calls Try.prog 89 #[.string s,.int .u8 10] w fun e w'=>e=.returned (.int .i64 (Lib.indexByte s.data.toList 10))∧w'=w:=Try.strings_IndexByte s 10 w
theorem lineEnd_none {s:ByteArray} (h:Lib.indexByte s.data.toList 10+1=0):lineEnd s=s.size:=by unfold lineEnd;rw[if_pos h]
theorem lineEnd_some {s:ByteArray} (h:¬ Lib.indexByte s.data.toList 10+1=0):((lineEnd s:Nat):Int)=Lib.indexByte s.data.toList 10+1:=by
  unfold lineEnd;rw[if_neg h]
  have:=Lib.indexByte_ge s.data.toList 10
  omega
set_option maxRecDepth 100000 in
set_option maxHeartbeats 4000000 in
theorem each_in (l Bc:Nat) (s:ByteArray) (xs:List ByteArray) (hxs:xs=linesB s) (hsz:s.size≤1000000000) (J:List ByteArray→World→Prop)
    (hJs:∀ pre W v,J pre W→J pre (W.setCell ⟨Bc,0,none⟩ v))
    (hY:∀ pre x W,(∃ post,pre++x :: post=xs)→J pre W→YieldAt Fence.wide 2 Try.prog l #[.string x] W fun e W'=>e=.returned (.bool true)∧J (pre++[x]) W'∧yIb_ Bc 9 W W')
    (W:World) (hB:Boxed W Bc 9 (.string s)) (h0:J [] W) :
    CallsIn Fence.wide 3 Try.prog 88 #[.func (.yield l) #[] #[],.pointer (some ⟨Bc,0,none⟩)] W fun e W'=>(∃ v,e=.returned v)∧J xs W':=by
  refine callsIn_of_wp Try.func88 rfl trivial ?_ rfl
  simp only[Try.ntmps88,List.size_toArray,List.length_cons,List.length_nil,Nat.reduceAdd,Nat.reduceSub,Array.replicate_succ,Array.replicate_zero,List.push_toArray,List.append_toArray,List.nil_append,List.cons_append]
  gi_wp2
  gi_loopw [] (fun wr=>∃ (pre:List ByteArray) (rest:ByteArray),xs=pre++linesB rest∧rest.size≤1000000000∧Boxed wr Bc 9 (.string rest)∧J pre wr)
    (fun wr=>match wr.cell? ⟨Bc,0,none⟩ with|some (.string r)=>r.size|_=>0)
  case atStart=>exact⟨[],s,hxs,hsz,hB,h0⟩
  case round =>
    obtain⟨pre,rest,hx,hr,hb,hJ⟩:=hrel
    have hc:=hb.cell
    have hf:=hb.frozen
    by_cases he:rest=⟨#[]⟩
    · subst he
      gi_wp2
      go_end0
      exact⟨⟨_,rfl⟩,by rw[hx,linesB_nil,List.append_nil];exact hJ⟩
    obtain⟨h1,h2,h3⟩:=linesB_step rest he
    have hbe:rest.toList.isEmpty=false:=by
      cases q:rest.toList.isEmpty with
      | false=>rfl
      | true=>exact absurd (ba_ext (by rw[← Lib.toList_data rest];exact List.isEmpty_iff.1 q)) he
    have hge:=Lib.indexByte_ge rest.data.toList 10
    by_cases hi:Lib.indexByte rest.data.toList 10+1=0
    rotate_left
    · have hle:=lineEnd_some hi
      obtain⟨i,hi1⟩:∃ i:Nat,Lib.indexByte rest.data.toList 10=(i:Int):=⟨(Lib.indexByte rest.data.toList 10).toNat,by omega⟩
      have hle2:lineEnd rest=i+1:=by omega
      rw[hle2] at h1 h2 h3
      obtain⟨fn,tmps,assign,body,hy,hR⟩:=hY pre (rest.extract 0 (i+1)) wr ⟨_,by rw[hx,h3]⟩ hJ
      gi_wp2_with (refine⟨trivial,?_⟩;gi_at_call 89;refine (callsIn_wide.2 (idx_calls rest _)).mono ?_;rintro e w' ⟨rfl,rfl⟩)
      refine hR.mono ?_
      rintro e W3 ⟨rfl,hJ3,hk3⟩
      have hb3:=hk3 _ hb
      have hc3:=hb3.cell
      have hf3:=hb3.frozen
      gi_wp2
      go_roundw
      case rel=>exact⟨pre++[rest.extract 0 (i+1)],rest.extract (i+1) rest.size,by rw[hx,h3];simp,by rw[ByteArray.size_extract];omega,hb3.set _,hJs _ _ _ hJ3⟩
      case measure =>
        rw[(hb3.set _).cell,hb.cell]
        show (rest.extract (i+1) rest.size).size < rest.size
        rw[ByteArray.size_extract]
        omega
    have hle:=lineEnd_none hi
    have hi':Lib.indexByte rest.data.toList 10=-1:=by omega
    have hx1:rest.extract 0 (lineEnd rest)=rest:=by
      apply ba_ext;rw[hle,ByteArray.data_extract,Array.toList_extract,List.extract_eq_take_drop,List.drop_zero,Nat.sub_zero]
      exact List.take_of_length_le (by rw[Array.length_toList];exact Nat.le_refl _)
    have hx2:rest.extract (lineEnd rest) rest.size=⟨#[]⟩:=by
      apply ba_ext;rw[hle,ByteArray.data_extract,Array.toList_extract,List.extract_eq_take_drop,Nat.sub_self,List.take_zero]
    obtain⟨fn,tmps,assign,body,hy,hR⟩:=hY pre rest wr ⟨linesB ⟨#[]⟩,by rw[hx,h3,hx1,hx2]⟩ hJ
    gi_wp2_with (refine⟨trivial,?_⟩;gi_at_call 89;refine (callsIn_wide.2 (idx_calls rest _)).mono ?_;rintro e w' ⟨rfl,rfl⟩)
    refine hR.mono ?_
    rintro e W3 ⟨rfl,hJ3,hk3⟩
    have hb3:=hk3 _ hb
    have hc3:=hb3.cell
    have hf3:=hb3.frozen
    gi_wp2
    go_roundw
    case rel=>exact⟨pre++[rest],⟨#[]⟩,by rw[hx,h3,hx1,hx2];simp,Nat.zero_le _,hb3.set _,hJs _ _ _ hJ3⟩
    case measure =>
      rw[(hb3.set _).cell,hb.cell]
      show 0 < rest.size
      omega
theorem each_calls (s:ByteArray) (w:World):Calls Try.prog 71 #[.string s] w fun e w'=>e=.returned (.func (.func 88) #[] #[.pointer (some ⟨w.heap.size,0,none⟩)])∧w'=w.alloc (.cells #[.string s] 9):=by
  go_enter Try.func71,Try.ntmps71
  go_wp2
  go_ret
  exact⟨rfl,rfl⟩
theorem info9L:(Try.prog.info? 9).map (fun i=>(i.zero,i.size,i.bytes))=some (some (.string ⟨#[]⟩),1,16):=by kernel_rfl
theorem flat_len:∀ (L:List (List UInt8)),(∀ x∈L,x≠[])→L.length≤L.flatten.length
  | [],_=>Nat.le_refl _
  | x :: L,h=>by
    have h1:0 < x.length:=List.length_pos_iff.2 (h x List.mem_cons_self)
    have h2:=flat_len L (fun y m=>h y (List.mem_cons_of_mem _ m))
    rw[List.flatten_cons,List.length_append,List.length_cons]
    omega
theorem linesB_len (s:ByteArray):(linesB s).length≤s.size:=by
  have h:=flat_len (Tx.lines s.data.toList) (Tx.lines_ne _)
  rw[Tx.yYb_,Array.length_toList] at h
  unfold linesB
  rw[List.length_map]
  exact h
set_option maxRecDepth 100000 in
set_option maxHeartbeats 4000000 in
theorem ycb_.calls (a0:ByteArray) (r:List ByteArray) (w:World) (h:ycb_.f a0=some r) :
    Calls Try.prog 55 #[.string a0] w fun e w'=>∃ v0_:Value,e=.returned (v0_)∧Kd.R Kd.string 9 w' w.heap.size (fun _=>True) v0_ r∧Below w.heap.size w w':=by
  unfold ycb_.f at h
  by_cases hsz:a0.size≤1000000000
  rotate_left
  · rw[if_neg hsz] at h;cases h
  rw[if_pos hsz] at h
  have hr:=Option.some.inj h
  clear h
  refine (callsIn_wide (n:=4)).1 ?_
  obtain⟨i0,hi,hz0,hz1,hz2⟩:=info_parts info9L
  refine callsIn_of_wp_marks Try.func55 rfl trivial ?_ rfl
  simp only[Try.ntmps55,List.size_toArray,List.length_cons,List.length_nil,Nat.reduceAdd,Nat.reduceSub,Array.replicate_succ,Array.replicate_zero,List.push_toArray,List.append_toArray,List.nil_append,List.cons_append]
  gi_wp2_with (refine⟨trivial,?_⟩;gi_at_call 71;refine (callsIn_wide.2 (each_calls a0 _)).mono ?_;rintro e w' ⟨rfl,rfl⟩)
  have bO:=Boxed.new w 32 (.slice none 0 0)
  have bS:=Boxed.new (w.alloc (.cells #[.slice none 0 0] 32)) 9 (.string a0)
  simp only[World.size_alloc] at bS ⊢
  have hB0:Below w.heap.size w ((w.alloc (.cells #[.slice none 0 0] 32)).alloc (.cells #[.string a0] 9)):=((Below.refl _ w).alloc (Nat.le_refl _) _).alloc (by simp) _
  refine wpIn_rangeFunc_cell rfl (by omega) (gf:=88) (lb:=#[.pointer (some ⟨w.heap.size+1,0,none⟩)]) rfl trivial (enters_of Try.func88 (by kernel_rfl) rfl)
    (encs:=fun x:ByteArray=>#[Value.string x]) (Bc:=w.heap.size+1) (t:=9) (v0:=.string a0) (xs:=linesB a0) (fun l J W hJ hJs hY hB h0=>each_in l _ a0 _ rfl hsz J hJs hY W hB h0) bS (fun _=>rfl)
    (fun pre W=>(∃ v,Boxed W w.heap.size 32 v∧W.ownsRow (w.heap.size+2) 9 1 v pre.length (pre.map Value.string))∧Below w.heap.size w W∧w.heap.size+2≤W.heap.size)
    ?own ?cell ⟨⟨_,bO.alloc _,World.ownsRow_nil _ _ _ _⟩,hB0,by simp⟩
    (fun x=>{ tmps:=#[.string a0,undef,.slice none 0 0,.pointer (some ⟨w.heap.size,0,none⟩),.string x,.string a0,.func (.func 88) #[] #[.pointer (some ⟨w.heap.size+1,0,none⟩)],.string x,undef,undef,undef,undef,undef],defers:=[] }) ?assign ?body ?done
  case own =>
    rintro s A B row ⟨⟨v,hv,hrow⟩,hb,hs⟩ hg hr
    have hne:∀ (b:Nat) (cs:Array Value) (t:TypeId) (fz:Nat × Nat),A.heap[b]?=some (.cells cs t fz)→some b≠row:=fun b cs t fz hb' e=>by
      obtain⟨_,o,ho,hc⟩:=hr b e.symm
      rw[hb'] at ho;cases ho;cases hc
    refine⟨⟨v,hv.kept hg (hne _ _ _ _ hv),hrow.kept hg ?_⟩,hb.grown hg hb.size (fun k e=>?_),Nat.le_trans hs hg.size⟩
    · rcases hrow.2 with ⟨rfl,_⟩|⟨g,cap,cur,rfl,_,hgb,_⟩
      · exact .inl rfl
      · exact .inr (hne _ _ _ _ hgb)
    · have:=(hr k e).1
      simp at this
      omega
  case cell =>
    rintro s W v ⟨⟨u,hu,hr⟩,hb,hs⟩
    refine⟨⟨u,hu.other (by omega) _,hr.kept (grownBy_setCell' _ _ _) (.inr fun e=>?_)⟩,hb.setCell (p:=⟨w.heap.size+1,0,none⟩) (by show _≤w.heap.size+1;omega) _,by simpa using hs⟩
    have:=(hr.lt _ e).1
    omega
  case assign =>
    intro l x W K hK
    gi_wp2
    exact hK
  case body =>
    rintro l pre x W ⟨post,hp⟩ ⟨⟨v,hv,hrow⟩,hB,hS⟩
    have hc:=hv.cell
    have hlen:pre.length+1≤1000000000:=by
      have h1:=linesB_len a0
      rw[← hp,List.length_append,List.length_cons] at h1
      omega
    gi_wp2_with (gi_at_builtin;refine wpListIn_append_own _ rfl _ _ 32 rfl (w.heap.size+2) 9 i0 (.string ⟨#[]⟩) 1 16 Try.underlying32 hi hz0 hz1 hz2 rfl (by decide) _ _ _ rfl (hrow.alloc _) ⟨W.heap.size,0,none⟩ 1 1 [.string x] rfl rfl (cell_one_new _ _ _) (by simp [Value.oneCell']) (by simp only[maxLen];omega) (by omega) (by simp;omega) ?_;intro v' w1 hown' hgrow _;obtain⟨g',cap',rfl⟩:=ownsRow_succ hown';obtain⟨hv1,hv2,hr2,hk2,hb2⟩:=hv.appended (by decide) (own_weaken hrow (show w.heap.size≤w.heap.size+2 by omega)) hB.size (Nat.le_refl _) (own_weaken hown' (show w.heap.size≤w.heap.size+2 by omega)) hgrow;have hc1:=hv1.cell;have hf1:=hv1.frozen)
    refine⟨hk2,?_,⟨_,hv2,?_⟩,hB.trans hb2,?_⟩
    · intro u hu
      exact ((hu.alloc _).kept hgrow (fun e=>by have:=(hrow.lt _ e.symm).1;omega)).other (by omega) _
    · rw[List.length_append,List.map_append]
      exact hown'.kept (grownBy_setCell' _ _ _) (.inr fun e=>by have:=(hown'.lt _ e).1;omega)
    · have:=hgrow.size
      simp at this ⊢
      omega
  case done =>
    rintro D W hD ⟨⟨v,hv,hrow⟩,hB,hS⟩ hK
    have hc:=hv.cell
    gi_wp2
    refine⟨by simp,.inl ⟨_,_,rfl,run_takeDeferred hK,?_⟩⟩
    refine⟨_,results_tmp rfl _ _ _,v,rfl,?_,hB.trans (belowK_b (w:=w) (Nat.le_refl _) W D _ _ (by simp at hD;omega) hK rfl rfl)⟩
    have hr3:=ownsRow_putObj hrow (.deferred none) hK rfl
    rw[← hr]
    exact Kd.R_of_own (own_weaken hr3 (by omega)) (fun _ _=>trivial)
end Go.Proofs.Ythimblhfjfngiaa.PText

namespace Go.Proofs.Ythimblhfjfngiaa.PText
open Go.RowKit Go.Proofs.YthimblhfjfngiaaW.PrintWords Go.Proofs.YthimblhfjfngiaaW.PrintLast Go.Proofs.YthimblhfjfngiaaW.PrintMore
attribute [local go_sem] y2_ y3_ yfb_ ygb_ yS_ yT_ y4_ y5_   -- for this text's walks alone
set_option linter.unusedVariables false
set_option linter.unusedSimpArgs false

def yE_.j0:Nat→Int→List ByteArray→List ByteArray→Bool→Option ((List (S120)) × Int)
 | 0,_,_,_,_=>none
 | k+1,x2,x8,x9,x14=>if x14=true then (some (([]:List (S120)),2)) else (if x2 < 0 then (some (([]:List (S120)),1)) else (if x2 > 20 then (some (([]:List (S120)),1)) else ((yl_.f k x8 x9).bind fun t141=>(some (t141,0)))))
def yE_.f (k:Nat) (a0:ByteArray) (a1:ByteArray) (a2:Int):Option ((List (S120)) × Int):=(ycb_.f a0).bind fun t135=>((ycb_.f a1).bind fun t138=>(if (a0.size:Int) > 200000 then (yE_.j0 k a2 t135 t138 true) else (if (a1.size:Int) > 200000 then (yE_.j0 k a2 t135 t138 true) else (if (t135.length:Int) > 2000 then (yE_.j0 k a2 t135 t138 true) else (yE_.j0 k a2 t135 t138 (decide ((t138.length:Int) > 2000)))))))
theorem yE_.mono_l:∀ k,(∀ y0 y1 y2 y3,LeO (yE_.j0 k y0 y1 y2 y3) (yE_.j0 (k+1) y0 y1 y2 y3))
 | 0=>fun _ _ _ _ r h=>by simp [yE_.j0] at h
 | k+1=>by
  have ih0:=yE_.mono_l k
  ·intro y0 y1 y2 y3
   unfold yE_.j0
   repeat' first
   | (with_reducible exact ih0 _ _ _ _)
   | (with_reducible exact yl_.mono _ _ _)
   | (with_reducible exact LeO.refl _)
   | (with_reducible exact LeO.none _)
   | (with_reducible refine LeO.ite ?_ ?_)
   | (with_reducible refine LeO.bind ?_ (fun _=>?_))
   | exact ih0 _ _ _ _
   | exact yl_.mono _ _ _
   | exact LeO.none _
   | refine LeO.ite ?_ ?_
   | refine LeO.bind ?_ (fun _=>?_)
theorem yE_.mono:∀ a0 a1 a2 k,LeO (yE_.f k a0 a1 a2) (yE_.f (k+1) a0 a1 a2):=by
 intro a0 a1 a2 k
 have ih0:=yE_.mono_l k
 unfold yE_.f
 repeat' first
   | (with_reducible exact ih0 _ _ _ _)
   | (with_reducible exact yl_.mono _ _ _)
   | (with_reducible exact LeO.refl _)
   | (with_reducible exact LeO.none _)
   | (with_reducible refine LeO.ite ?_ ?_)
   | (with_reducible refine LeO.bind ?_ (fun _=>?_))
   | exact ih0 _ _ _ _
   | exact yl_.mono _ _ _
   | exact LeO.none _
   | refine LeO.ite ?_ ?_
   | refine LeO.bind ?_ (fun _=>?_)
set_option maxHeartbeats 8000000 in
set_option maxRecDepth 100000 in
theorem yE_.calls (k:Nat) (a0:ByteArray) (a1:ByteArray) (a2:Int) (r1:List (S120)) (r2:Int) (w:World) (h:yE_.f k a0 a1 a2=some (r1,r2)) :
  Calls Try.prog 60 #[.string a0,.string a1,.int .i64 a2] w fun e w'=>∃ v0_:Value,e=.returned (.tuple #[v0_,.int .i64 r2])∧Kd.R k120 120 w' w.heap.size (fun _=>True) v0_ r1∧Below w.heap.size w w':=by
 have HB:=Aside0.mk (Below.refl w.heap.size w)
 have H:((ycb_.f a0).bind fun t135=>((ycb_.f a1).bind fun t138=>(if (a0.size:Int) > 200000 then (yE_.j0 k a2 t135 t138 true) else (if (a1.size:Int) > 200000 then (yE_.j0 k a2 t135 t138 true) else (if (t135.length:Int) > 2000 then (yE_.j0 k a2 t135 t138 true) else (yE_.j0 k a2 t135 t138 (decide ((t138.length:Int) > 2000))))))))=some (r1,r2):=h
 clear h
 replace H:=Option.bind_eq_some_iff.mp H
 obtain⟨t135,A40,H⟩:=H
 replace H:((ycb_.f a1).bind fun t138=>(if (a0.size:Int) > 200000 then (yE_.j0 k a2 t135 t138 true) else (if (a1.size:Int) > 200000 then (yE_.j0 k a2 t135 t138 true) else (if (t135.length:Int) > 2000 then (yE_.j0 k a2 t135 t138 true) else (yE_.j0 k a2 t135 t138 (decide ((t138.length:Int) > 2000)))))))=some (r1,r2):=H
 have A4:=Aside0.mk A40
 clear A40
 replace H:=Option.bind_eq_some_iff.mp H
 obtain⟨t138,A50,H⟩:=H
 replace H:(if (a0.size:Int) > 200000 then (yE_.j0 k a2 t135 t138 true) else (if (a1.size:Int) > 200000 then (yE_.j0 k a2 t135 t138 true) else (if (t135.length:Int) > 2000 then (yE_.j0 k a2 t135 t138 true) else (yE_.j0 k a2 t135 t138 (decide ((t138.length:Int) > 2000))))))=some (r1,r2):=H
 have A5:=Aside0.mk A50
 clear A50
 have HC6:=Aside0.mk H
 clear H
 go_enter Try.func60,Try.ntmps60
 go_upto_region 2 with (first|((with_reducible refine yt_ (f:=55) rfl ?_);refine goesL_ (some 11) rfl rfl Try.func55 (by kernel_rfl) rfl #[.string a0] rfl (by (try simp only[List.map_toArray,List.map_cons,List.map_nil]);first|done|rfl|(simp only[List.length_drop,List.length_take];rfl)) ?_;(with_reducible refine (ycb_.calls a0 t135 _ A4.out).mono ?_);rintro e w7 ⟨v136,rfl,ho0,hb⟩;refine⟨_,rfl,?_⟩;have n0_:=Aside0.mk (Kd.yJ_ ho0 (yn_ (by repeat (with_reducible first|exact HB.out|apply yc_|apply ya_|apply yb_))));have n1_:=Aside0.mk (yp_ (by repeat (with_reducible first|exact HB.out|apply yc_|apply ya_|apply yb_)) hb);clear HB;have HO137:=n0_;have HB:=n1_;clear n0_ n1_;(try clear hb);(try clear hb2);(try clear hk);(try clear hi);(try clear ho0))|((with_reducible refine yt_ (f:=55) rfl ?_);refine goesL_ (some 13) rfl rfl Try.func55 (by kernel_rfl) rfl #[.string a1] rfl (by (try simp only[List.map_toArray,List.map_cons,List.map_nil]);first|done|rfl|(simp only[List.length_drop,List.length_take];rfl)) ?_;(with_reducible refine (ycb_.calls a1 t138 _ A5.out).mono ?_);rintro e w8 ⟨v139,rfl,ho0,hb⟩;refine⟨_,rfl,?_⟩;have n0_:=Aside0.mk (Kd.yFb_ (by (with_reducible repeat (first|apply Kd.yg_|apply Kd.yh_|apply Kd.R_drew));exact HO137.out) (Kd.R_base ho0) hb);have n1_:=Aside0.mk (Kd.yJ_ (Kd.R_new' ho0 (Kd.R_lt (by (with_reducible repeat (first|apply Kd.yg_|apply Kd.yh_|apply Kd.R_drew));exact HO137.out))) (yn_ (by repeat (with_reducible first|exact HB.out|apply yc_|apply ya_|apply yb_))));have n2_:=Aside0.mk (yp_ (by repeat (with_reducible first|exact HB.out|apply yc_|apply ya_|apply yb_)) hb);clear HO137;clear HB;have HO137:=n0_;have HO140:=n1_;have HB:=n2_;clear n0_ n1_ n2_;(try clear hb);(try clear hb2);(try clear hk);(try clear hi);(try clear ho0)))
 (try simp only[Act.put,q1_,q2_,q3_])
 go_cut [14] (fun v14 wc=>∃ (kq:Nat) (x14_5:Bool),v14=.bool x14_5∧Aside0 (yE_.j0 kq a2 t135 t138 x14_5=some (r1,r2))∧Aside0 (kq≤k)∧Aside0 (Kd.R Kd.string 9 wc w.heap.size (fun k_=>some k_≠(v139:Value).ownBlock) v136 t135)∧Aside0 (Kd.R Kd.string 9 wc w.heap.size (fun k_=>some k_≠(v136:Value).ownBlock) v139 t138)∧Aside0 (Below w.heap.size w wc))
 case first =>
  have H:=HC6.out
  clear HC6
  by_cases c9:(a0.size:Int) > 200000
  ·rw[if_pos c9] at H
   have c9b0:decide (200000 < (a0.size:Int))=true:=decide_eq_true c9
   have c9b1:decide (200000 < a0.size)=true:=decide_eq_true (by omega)
   clear c9
   (first|rw[c9b0]|(simp only[i64_w,i32_w];rw[c9b0])|skip)
   have H':=Aside0.mk H
   clear H
   go_wp2
   go_meet
   case rel=>exact⟨_,(true),(by first|rfl|(simp;done)|(simp [*];done)),H',⟨by first|omega|exact Nat.le_refl _⟩,⟨by (with_reducible repeat (first|apply Kd.yg_|apply Kd.yh_|apply Kd.R_drew));exact Kd.R_mono HO137.out (fun _ hk=>hk.2)⟩,⟨by (with_reducible repeat (first|apply Kd.yg_|apply Kd.yh_|apply Kd.R_drew));exact Kd.R_mono HO140.out (fun _ hk=>hk.2)⟩,⟨by repeat (with_reducible first|exact HB.out|apply yc_|apply ya_|apply yb_)⟩⟩
  rw[if_neg c9] at H
  have c9b0:decide (200000 < (a0.size:Int))=false:=decide_eq_false c9
  have c9b1:decide (200000 < a0.size)=false:=decide_eq_false (by omega)
  clear c9
  (first|rw[c9b0]|(simp only[i64_w,i32_w];rw[c9b0])|skip)
  by_cases c10:(a1.size:Int) > 200000
  ·rw[if_pos c10] at H
   have c10b0:decide (200000 < (a1.size:Int))=true:=decide_eq_true c10
   have c10b1:decide (200000 < a1.size)=true:=decide_eq_true (by omega)
   clear c10
   have H':=Aside0.mk H
   clear H
   go_wp2
   go_meet
   case rel=>exact⟨_,(true),(by first|rfl|(simp;done)|(simp [*];done)),H',⟨by first|omega|exact Nat.le_refl _⟩,⟨by (with_reducible repeat (first|apply Kd.yg_|apply Kd.yh_|apply Kd.R_drew));exact Kd.R_mono HO137.out (fun _ hk=>hk.2)⟩,⟨by (with_reducible repeat (first|apply Kd.yg_|apply Kd.yh_|apply Kd.R_drew));exact Kd.R_mono HO140.out (fun _ hk=>hk.2)⟩,⟨by repeat (with_reducible first|exact HB.out|apply yc_|apply ya_|apply yb_)⟩⟩
  rw[if_neg c10] at H
  have c10b0:decide (200000 < (a1.size:Int))=false:=decide_eq_false c10
  have c10b1:decide (200000 < a1.size)=false:=decide_eq_false (by omega)
  clear c10
  by_cases c11:(t135.length:Int) > 2000
  ·rw[if_pos c11] at H
   have c11b0:decide (2000 < (t135.length:Int))=true:=decide_eq_true c11
   have c11b1:decide (2000 < t135.length)=true:=decide_eq_true (by omega)
   clear c11
   have H':=Aside0.mk H
   clear H
   obtain⟨Ao12,co12,eo12⟩:=Kd.yC_ HO137.out
   subst eo12
   go_wp2
   go_meet
   case rel=>exact⟨_,(true),(by first|rfl|(simp;done)|(simp [*];done)),H',⟨by first|omega|exact Nat.le_refl _⟩,⟨by (with_reducible repeat (first|apply Kd.yg_|apply Kd.yh_|apply Kd.R_drew));exact Kd.R_mono HO137.out (fun _ hk=>hk.2)⟩,⟨by (with_reducible repeat (first|apply Kd.yg_|apply Kd.yh_|apply Kd.R_drew));exact Kd.R_mono HO140.out (fun _ hk=>hk.2)⟩,⟨by repeat (with_reducible first|exact HB.out|apply yc_|apply ya_|apply yb_)⟩⟩
  rw[if_neg c11] at H
  have c11b0:decide (2000 < (t135.length:Int))=false:=decide_eq_false c11
  have c11b1:decide (2000 < t135.length)=false:=decide_eq_false (by omega)
  clear c11
  have H':=Aside0.mk H
  clear H
  obtain⟨Ao13,co13,eo13⟩:=Kd.yC_ HO137.out
  subst eo13
  obtain⟨Ao14,co14,eo14⟩:=Kd.yC_ HO140.out
  subst eo14
  go_wp2
  go_meet
  case rel=>exact⟨_,(decide ((t138.length:Int) > 2000)),(by first|rfl|(simp;done)|(simp [*];done)),H',⟨by first|omega|exact Nat.le_refl _⟩,⟨by (with_reducible repeat (first|apply Kd.yg_|apply Kd.yh_|apply Kd.R_drew));exact Kd.R_mono HO137.out (fun _ hk=>hk.2)⟩,⟨by (with_reducible repeat (first|apply Kd.yg_|apply Kd.yh_|apply Kd.R_drew));exact Kd.R_mono HO140.out (fun _ hk=>hk.2)⟩,⟨by repeat (with_reducible first|exact HB.out|apply yc_|apply ya_|apply yb_)⟩⟩
 case rest =>
  clear HC6
  try clear c1
  try clear p2
  try clear c5
  try clear c6
  try clear c9
  try clear c9b0
  try clear c9b1
  try clear c10
  try clear c10b0
  try clear c10b1
  try clear c11
  try clear c11b0
  try clear c11b1
  obtain⟨kq,x14_5,rfl,HA,HJ5,HO_8,HO_9,HB⟩:=hcut
  cases kq with
  | zero=>exact absurd HA.out (by simp [yE_.j0])
  | succ kj5 =>
   have H:=HA.out
   clear HA
   simp only[yE_.j0] at H
   by_cases c15:x14_5=true
   ·subst c15
    have H1:(some (([]:List (S120)),2))=some (r1,r2):=by rw[if_pos rfl] at H;exact H
    clear H
    have H:=H1
    clear H1
    simp only[Option.some.injEq,Prod.mk.injEq] at H
    obtain⟨rfl,rfl⟩:=H
    go_wp2
    go_ret2
    exact⟨_,by first|rfl|(simp [yq_,yr_] <;> rfl)|(simp [*,yq_,yr_] <;> rfl),by first|exact Kd.R_nil _ _ _ _ _|exact Kd.N_nil _ _ _ _ _|exact Kd.V_nil _ _ _ _ _|exact Kd.Q_nil _ _ _ _ _|exact Kd.S_nil _ _ _ _ _,by repeat (with_reducible first|exact HB.out|apply yc_|apply ya_|apply yb_)⟩
   replace c15:=Bool.eq_false_iff.mpr c15
   subst c15
   have H1:(if a2 < 0 then (some (([]:List (S120)),1)) else (if a2 > 20 then (some (([]:List (S120)),1)) else ((yl_.f kj5 t135 t138).bind fun t141=>(some (t141,0)))))=some (r1,r2):=by rw[if_neg (show ¬ (false=true) by decide)] at H;exact H
   clear H
   have H:=H1
   clear H1
   by_cases c16:a2 < 0
   ·rw[if_pos c16] at H
    have c16b0:decide (a2 < 0)=true:=decide_eq_true c16
    clear c16
    simp only[Option.some.injEq,Prod.mk.injEq] at H
    obtain⟨rfl,rfl⟩:=H
    go_wp2
    go_ret2
    exact⟨_,by first|rfl|(simp [yq_,yr_] <;> rfl)|(simp [*,yq_,yr_] <;> rfl),by first|exact Kd.R_nil _ _ _ _ _|exact Kd.N_nil _ _ _ _ _|exact Kd.V_nil _ _ _ _ _|exact Kd.Q_nil _ _ _ _ _|exact Kd.S_nil _ _ _ _ _,by repeat (with_reducible first|exact HB.out|apply yc_|apply ya_|apply yb_)⟩
   rw[if_neg c16] at H
   have c16b0:decide (a2 < 0)=false:=decide_eq_false c16
   clear c16
   by_cases c17:a2 > 20
   ·rw[if_pos c17] at H
    have c17b0:decide (20 < a2)=true:=decide_eq_true c17
    clear c17
    simp only[Option.some.injEq,Prod.mk.injEq] at H
    obtain⟨rfl,rfl⟩:=H
    go_wp2
    go_ret2
    exact⟨_,by first|rfl|(simp [yq_,yr_] <;> rfl)|(simp [*,yq_,yr_] <;> rfl),by first|exact Kd.R_nil _ _ _ _ _|exact Kd.N_nil _ _ _ _ _|exact Kd.V_nil _ _ _ _ _|exact Kd.Q_nil _ _ _ _ _|exact Kd.S_nil _ _ _ _ _,by repeat (with_reducible first|exact HB.out|apply yc_|apply ya_|apply yb_)⟩
   rw[if_neg c17] at H
   have c17b0:decide (20 < a2)=false:=decide_eq_false c17
   clear c17
   replace H:=Option.bind_eq_some_iff.mp H
   obtain⟨t141,A180,H⟩:=H
   replace H:(some (t141,0))=some (r1,r2):=H
   have A18:=Aside0.mk A180
   clear A180
   simp only[Option.some.injEq,Prod.mk.injEq] at H
   obtain⟨rfl,rfl⟩:=H
   obtain⟨Ao19,co19,eo19⟩:=Kd.yC_ HO_8.out
   subst eo19
   obtain⟨Ao20,co20,eo20⟩:=Kd.yC_ HO_9.out
   subst eo20
   go_wp2_with (first|((with_reducible refine yt_ (f:=82) rfl ?_);refine goesL_ (some 42) rfl rfl Try.func82 (by kernel_rfl) rfl #[.slice Ao19 t135.length co19,.slice Ao20 t138.length co20] rfl (by (try simp only[List.map_toArray,List.map_cons,List.map_nil]);first|done|rfl|(simp only[List.length_drop,List.length_take];rfl)) ?_;(with_reducible refine (yl_.calls kj5 _ _ t135 _ _ t138 t141 _ ?side1 ?side2 ?side3 ?side4 A18.out).mono ?_);(case side1=>repeat (first|exact (Kd.ys_ HO_8.out).2.2|(with_reducible refine Kd.yK_ ?_ _)|(with_reducible refine Kd.y1_ ?_ _)|(with_reducible refine Kd.C_drew ?_)));(case side2=>exact (Kd.ys_ HO_8.out).2.1);(case side3=>repeat (first|exact (Kd.ys_ HO_9.out).2.2|(with_reducible refine Kd.yK_ ?_ _)|(with_reducible refine Kd.y1_ ?_ _)|(with_reducible refine Kd.C_drew ?_)));(case side4=>exact (Kd.ys_ HO_9.out).2.1);rintro e w21 ⟨v142,rfl,ho0,hb⟩;refine⟨_,rfl,?_⟩;have n0_:=Aside0.mk (Kd.yV_ (by (with_reducible repeat (first|apply Kd.yg_|apply Kd.yh_|apply Kd.R_drew));exact HO_8.out) hb);have n1_:=Aside0.mk (Kd.yV_ (by (with_reducible repeat (first|apply Kd.yg_|apply Kd.yh_|apply Kd.R_drew));exact HO_9.out) hb);have n2_:=Aside0.mk (Kd.yJ_ ho0 (yn_ (by repeat (with_reducible first|exact HB.out|apply yc_|apply ya_|apply yb_))));have n3_:=Aside0.mk (yp_ (by repeat (with_reducible first|exact HB.out|apply yc_|apply ya_|apply yb_)) hb);clear HO_8;clear HO_9;clear HB;have HO_8:=n0_;have HO_9:=n1_;have HO143:=n2_;have HB:=n3_;clear n0_ n1_ n2_ n3_;(try clear hb);(try clear hb2);(try clear hk);(try clear hi);(try clear ho0)))
   go_ret2
   exact⟨_,by first|rfl|(simp [yq_,yr_] <;> rfl)|(simp [*,yq_,yr_] <;> rfl),by (with_reducible repeat (first|apply Kd.yg_|apply Kd.yh_|apply Kd.R_drew));exact HO143.out,by repeat (with_reducible first|exact HB.out|apply yc_|apply ya_|apply yb_)⟩

end Go.Proofs.Ythimblhfjfngiaa.PText

namespace Go.Proofs.Ythimblhfjfngiaa.PText
open Go.RowKit Go.Proofs.YthimblhfjfngiaaW.PrintWords Go.Proofs.YthimblhfjfngiaaW.PrintLast Go.Proofs.YthimblhfjfngiaaW.PrintMore
attribute [local go_sem] y2_ y3_ yfb_ ygb_ yS_ yT_ y4_ y5_   -- for this text's walks alone
set_option linter.unusedVariables false
set_option linter.unusedSimpArgs false

def yv_.l0:Nat→List (S59)→Int→Bool→List (S120)→Int→Int→Option ((List (S59)) × Int)
 | 0,_,_,_,_,_,_=>none
 | k+1,x8,x9,x10,x23,x24,x25=>if x25 < x24 then (if 0≤x25 then (if x25 < (x23.length:Int) then (if ((rd_T120 x23 x25).f0)=32 then (yv_.l0 k x8 (wrap64 (x9+(((rd_T120 x23 x25).f1).size:Int))) false x23 x24 (wrap64 (x25+1))) else (if x10=true then (if 0≤(wrap64 ((x8.length:Int) - 1)) then (if (wrap64 ((x8.length:Int) - 1)) < (x8.length:Int) then (if ((rd_T120 x23 x25).f0)=45 then (yv_.l0 k (x8.set ((wrap64 ((x8.length:Int) - 1)):Int).toNat (⟨(rd_T59 x8 (wrap64 ((x8.length:Int) - 1))).f0,wrap64 (x9+(((rd_T120 x23 x25).f1).size:Int)),(rd_T59 x8 (wrap64 ((x8.length:Int) - 1))).f2⟩:S59)) (wrap64 (x9+(((rd_T120 x23 x25).f1).size:Int))) true x23 x24 (wrap64 (x25+1))) else (if ((rd_T59 x8 (wrap64 ((x8.length:Int) - 1))).f2).size+((rd_T120 x23 x25).f1).size≤9223372036854775807 then (yv_.l0 k (x8.set ((wrap64 ((x8.length:Int) - 1)):Int).toNat (⟨(rd_T59 x8 (wrap64 ((x8.length:Int) - 1))).f0,(rd_T59 x8 (wrap64 ((x8.length:Int) - 1))).f1,((rd_T59 x8 (wrap64 ((x8.length:Int) - 1))).f2)++((rd_T120 x23 x25).f1)⟩:S59)) x9 true x23 x24 (wrap64 (x25+1))) else (none))) else (none)) else (none)) else (if x8.length < 4398046511104 then ((some (x8++[(⟨x9,x9,(⟨#[]⟩:ByteArray)⟩:S59)]:List (S59))).bind fun y152=>(if 0≤(wrap64 ((y152.length:Int) - 1)) then (if (wrap64 ((y152.length:Int) - 1)) < (y152.length:Int) then (if ((rd_T120 x23 x25).f0)=45 then (yv_.l0 k (y152.set ((wrap64 ((y152.length:Int) - 1)):Int).toNat (⟨(rd_T59 y152 (wrap64 ((y152.length:Int) - 1))).f0,wrap64 (x9+(((rd_T120 x23 x25).f1).size:Int)),(rd_T59 y152 (wrap64 ((y152.length:Int) - 1))).f2⟩:S59)) (wrap64 (x9+(((rd_T120 x23 x25).f1).size:Int))) true x23 x24 (wrap64 (x25+1))) else (if ((rd_T59 y152 (wrap64 ((y152.length:Int) - 1))).f2).size+((rd_T120 x23 x25).f1).size≤9223372036854775807 then (yv_.l0 k (y152.set ((wrap64 ((y152.length:Int) - 1)):Int).toNat (⟨(rd_T59 y152 (wrap64 ((y152.length:Int) - 1))).f0,(rd_T59 y152 (wrap64 ((y152.length:Int) - 1))).f1,((rd_T59 y152 (wrap64 ((y152.length:Int) - 1))).f2)++((rd_T120 x23 x25).f1)⟩:S59)) x9 true x23 x24 (wrap64 (x25+1))) else (none))) else (none)) else (none))) else (none)))) else (none)) else (none)) else (some (x8,0))
def yv_.f (k:Nat) (a0:ByteArray) (a1:ByteArray):Option ((List (S59)) × Int):=(yE_.f k a0 a1 0).bind fun bt144=>(if bt144.2=0 then (yv_.l0 k ([]:List (S59)) 0 false bt144.1 (bt144.1.length:Int) 0) else (some (([]:List (S59)),bt144.2)))
theorem yv_.mono_l:∀ k,(∀ y0 y1 y2 y3 y4 y5,LeO (yv_.l0 k y0 y1 y2 y3 y4 y5) (yv_.l0 (k+1) y0 y1 y2 y3 y4 y5))
 | 0=>fun _ _ _ _ _ _ r h=>by simp [yv_.l0] at h
 | k+1=>by
  have ih0:=yv_.mono_l k
  ·intro y0 y1 y2 y3 y4 y5
   unfold yv_.l0
   repeat' first
   | (with_reducible exact ih0 _ _ _ _ _ _)
   | (with_reducible exact yE_.mono _ _ _ _)
   | (with_reducible exact LeO.refl _)
   | (with_reducible exact LeO.none _)
   | (with_reducible refine LeO.ite ?_ ?_)
   | (with_reducible refine LeO.bind ?_ (fun _=>?_))
   | exact ih0 _ _ _ _ _ _
   | exact yE_.mono _ _ _ _
   | exact LeO.none _
   | refine LeO.ite ?_ ?_
   | refine LeO.bind ?_ (fun _=>?_)
theorem yv_.mono:∀ a0 a1 k,LeO (yv_.f k a0 a1) (yv_.f (k+1) a0 a1):=by
 intro a0 a1 k
 have ih0:=yv_.mono_l k
 unfold yv_.f
 repeat' first
   | (with_reducible exact ih0 _ _ _ _ _ _)
   | (with_reducible exact yE_.mono _ _ _ _)
   | (with_reducible exact LeO.refl _)
   | (with_reducible exact LeO.none _)
   | (with_reducible refine LeO.ite ?_ ?_)
   | (with_reducible refine LeO.bind ?_ (fun _=>?_))
   | exact ih0 _ _ _ _ _ _
   | exact yE_.mono _ _ _ _
   | exact LeO.none _
   | refine LeO.ite ?_ ?_
   | refine LeO.bind ?_ (fun _=>?_)
def yv_.T19:Bool × List (List Nat × List Nat):=(true,[([],[]),([0],[0]),([1],[1]),([2],[2]),([],[]),([4],[4]),([3,5],[3,5]),([0,0,1,2,3,4,5,6],[0]),([7,0,1,2,3,4,5,6],[7]),([8,6,0,1,2,3,4,5,6],[6,8])])
def yv_.B19:List Nat:=[0,1,3,7,0,16,63,127,255,511]
theorem yv_.tab19:rtab .any (opsOf Try.f41 19)=yv_.T19:=by kernel_rfl
theorem yv_.bits19:waitsOk yv_.T19.2 yv_.B19=true:=by kernel_rfl
set_option maxHeartbeats 8000000 in
set_option maxRecDepth 100000 in
theorem yv_.calls (k:Nat) (a0:ByteArray) (a1:ByteArray) (r1:List (S59)) (r2:Int) (w:World) (h:yv_.f k a0 a1=some (r1,r2)) :
  Calls Try.prog 41 #[.string a0,.string a1] w fun e w'=>∃ v0_:Value,e=.returned (.tuple #[v0_,.int .i64 r2])∧Kd.R k59 59 w' w.heap.size (fun _=>True) v0_ r1∧Below w.heap.size w w':=by
 have hu120:=Try.underlying120
 have hu59:=Try.underlying59
 have HB:=Aside0.mk (Below.refl w.heap.size w)
 have H:((yE_.f k a0 a1 0).bind fun bt144=>(if bt144.2=0 then (yv_.l0 k ([]:List (S59)) 0 false bt144.1 (bt144.1.length:Int) 0) else (some (([]:List (S59)),bt144.2))))=some (r1,r2):=h
 clear h
 replace H:=Option.bind_eq_some_iff.mp H
 obtain⟨⟨t144,t145⟩,A30,H⟩:=H
 replace H:(if t145=0 then (yv_.l0 k ([]:List (S59)) 0 false t144 (t144.length:Int) 0) else (some (([]:List (S59)),t145)))=some (r1,r2):=H
 have A3:=Aside0.mk A30
 clear A30
 by_cases c4:t145=0
 rotate_left
 ·rw[if_neg c4] at H
  have c4b0:(t145 == 0)=false:=beq_eq_false_iff_ne.mpr c4
  have c4b1:(t145 != 0)=true:=bne_iff_ne.mpr c4
  simp only[Option.some.injEq,Prod.mk.injEq] at H
  obtain⟨rfl,rfl⟩:=H
  go_enter Try.func41,Try.ntmps41
  go_wp2_with (first|((with_reducible refine yt_ (f:=60) rfl ?_);refine goesL_ (some 17) rfl rfl Try.func60 (by kernel_rfl) rfl #[.string a0,.string a1,.int .i64 0] rfl (by (try simp only[List.map_toArray,List.map_cons,List.map_nil]);first|done|rfl|(simp only[List.length_drop,List.length_take];rfl)) ?_;(with_reducible refine (yE_.calls k a0 a1 0 t144 t145 _ A3.out).mono ?_);rintro e w55 ⟨v146,rfl,ho0,hb⟩;refine⟨_,rfl,?_⟩;have n0_:=Aside0.mk (Kd.yJ_ ho0 (yn_ (by repeat (with_reducible first|exact HB.out|apply yc_|apply ya_|apply yb_))));have n1_:=Aside0.mk (yp_ (by repeat (with_reducible first|exact HB.out|apply yc_|apply ya_|apply yb_)) hb);clear HB;have HO147:=n0_;have HB:=n1_;clear n0_ n1_;(try clear hb);(try clear hb2);(try clear hk);(try clear hi);(try clear ho0)))
  go_ret2
  exact⟨_,by first|rfl|(simp [yq_,yr_] <;> rfl)|(simp [*,yq_,yr_] <;> rfl),by first|exact Kd.R_nil _ _ _ _ _|exact Kd.N_nil _ _ _ _ _|exact Kd.V_nil _ _ _ _ _|exact Kd.Q_nil _ _ _ _ _|exact Kd.S_nil _ _ _ _ _,by repeat (with_reducible first|exact HB.out|apply yc_|apply ya_|apply yb_)⟩
 rw[if_pos c4] at H
 have c4b0:(t145 == 0)=true:=beq_iff_eq.mpr c4
 have c4b1:(t145 != 0)=false:=bne_eq_false_iff_eq.mpr c4
 clear c4
 have H':=Aside0.mk H
 clear H
 go_enter Try.func41,Try.ntmps41
 go_wp2_with (first|((with_reducible refine yt_ (f:=60) rfl ?_);refine goesL_ (some 17) rfl rfl Try.func60 (by kernel_rfl) rfl #[.string a0,.string a1,.int .i64 0] rfl (by (try simp only[List.map_toArray,List.map_cons,List.map_nil]);first|done|rfl|(simp only[List.length_drop,List.length_take];rfl)) ?_;(with_reducible refine (yE_.calls k a0 a1 0 t144 t145 _ A3.out).mono ?_);rintro e w5 ⟨v146,rfl,ho0,hb⟩;refine⟨_,rfl,?_⟩;have n0_:=Aside0.mk (Kd.yJ_ ho0 (yn_ (by repeat (with_reducible first|exact HB.out|apply yc_|apply ya_|apply yb_))));have n1_:=Aside0.mk (yp_ (by repeat (with_reducible first|exact HB.out|apply yc_|apply ya_|apply yb_)) hb);clear HB;have HO147:=n0_;have HB:=n1_;clear n0_ n1_;(try clear hb);(try clear hb2);(try clear hk);(try clear hi);(try clear ho0);obtain⟨Ao6,co6,eo6⟩:=Kd.yC_ HO147.out;subst eo6))
 try simp only[Act.put,List.setIfInBounds_toArray,List.set_cons_succ,List.set_cons_zero]
 go_loopg [8,9,10,25] k (fun kq v8 v9 v10 v25 w'=>∃ (x8_1:List (S59)) (x9_1:Int) (x10_1:Bool) (x25_1:Int),v9=.int .i64 x9_1∧v10=.bool x10_1∧v25=.int .i64 x25_1∧Aside0 (yv_.l0 kq x8_1 x9_1 x10_1 t144 (t144.length:Int) x25_1=some (r1,r2))∧Aside0 (kq≤k)∧Aside0 (Kd.R k59 59 w' w.heap.size (fun _=>True) v8 x8_1)∧Aside0 (Kd.R k120 120 w' w.heap.size (fun _=>True) (.slice Ao6 t144.length co6) t144)∧Aside0 (Below w.heap.size w w'))
 case atStart=>exact⟨(([]:List (S59))),(0),(false),(0),(by first|rfl|(simp;done)|(simp [*];done)),(by first|rfl|(simp;done)|(simp [*];done)),(by first|rfl|(simp;done)|(simp [*];done)),H',⟨Nat.le_refl _⟩,⟨by first|exact Kd.R_nil _ _ _ _ _|exact Kd.N_nil _ _ _ _ _|exact Kd.V_nil _ _ _ _ _|exact Kd.Q_nil _ _ _ _ _|exact Kd.S_nil _ _ _ _ _⟩,⟨by (with_reducible repeat (first|apply Kd.yg_|apply Kd.yh_|apply Kd.R_drew));exact HO147.out⟩,⟨by repeat (with_reducible first|exact HB.out|apply yc_|apply ya_|apply yb_)⟩⟩
 case round =>
  clear H'
  try clear p2
  try clear c4
  try clear c4b0
  try clear c4b1
  try clear c6
  obtain⟨x8_1,x9_1,x10_1,x25_1,rfl,rfl,rfl,HA,HK1,HO_8,HO_23,HB⟩:=hrel
  cases gk with
  | zero=>exact absurd HA.out (by simp [yv_.l0])
  | succ k1 =>
   have H:=HA.out
   clear HA
   simp only[yv_.l0] at H
   by_cases c7:x25_1 < (t144.length:Int)
   rotate_left
   ·rw[if_neg c7] at H
    have c7b0:decide (x25_1 < (t144.length:Int))=false:=decide_eq_false c7
    clear c7
    simp only[Option.some.injEq,Prod.mk.injEq] at H
    obtain⟨rfl,rfl⟩:=H
    go_wp2
    go_ret2
    exact⟨_,by first|rfl|(simp [yq_,yr_] <;> rfl)|(simp [*,yq_,yr_] <;> rfl),by (with_reducible repeat (first|apply Kd.yg_|apply Kd.yh_|apply Kd.R_drew));exact HO_8.out,by repeat (with_reducible first|exact HB.out|apply yc_|apply ya_|apply yb_)⟩
   rw[if_pos c7] at H
   have c7b0:decide (x25_1 < (t144.length:Int))=true:=decide_eq_true c7
   clear c7
   by_cases c8:0≤x25_1
   rotate_left
   ·rw[if_neg c8] at H
    exact absurd H (by simp)
   rw[if_pos c8] at H
   have c8b0:decide (0≤x25_1)=true:=decide_eq_true c8
   clear c8
   by_cases c9:x25_1 < (t144.length:Int)
   rotate_left
   ·rw[if_neg c9] at H
    exact absurd H (by simp)
   rw[if_pos c9] at H
   have c9b0:decide (x25_1 < (t144.length:Int))=true:=decide_eq_true c9
   clear c9
   by_cases c10:((rd_T120 t144 x25_1).f0)=32
   ·rw[if_pos c10] at H
    have c10b0:(((rd_T120 t144 x25_1).f0) == 32)=true:=beq_iff_eq.mpr c10
    have c10b1:(((rd_T120 t144 x25_1).f0) != 32)=false:=bne_eq_false_iff_eq.mpr c10
    clear c10
    have H':=Aside0.mk H
    clear H
    have p148:0≤(x25_1:Int):=of_decide_eq_true (by assumption)
    have q148:x25_1 < (t144.length:Int):=of_decide_eq_true (by assumption)
    obtain⟨ad148,e148,hx148_0,hx148_1⟩:=at_T120 (Kd.ys_ HO_23.out).2.2 x25_1 p148 q148
    cases e148
    replace p148:=eq_true p148
    replace q148:=eq_true q148
    go_wp2_with (first|((with_reducible refine yL_ (N:=12) rfl ?_);refine y0_ ?hg (N:=12) ?hd (cs:=#[.int .u8 0,.string (⟨#[]⟩:ByteArray)]) (t:=120) ?hr ?_;(case hd=>rfl);(case hg=>rfl);(case hr=>first|(go_simp;done)|(go_simp;rfl));intro gb149 hg w11 hbox hb;have n0_:=Aside0.mk (Kd.yV_ (by (with_reducible repeat (first|apply Kd.yg_|apply Kd.yh_|apply Kd.R_drew));exact HO_8.out) hb);have n1_:=Aside0.mk (Kd.yV_ (Kd.y9b_ (by (with_reducible repeat (first|apply Kd.yg_|apply Kd.yh_|apply Kd.R_drew));exact HO_23.out) gb149 (Nat.le_of_eq hg.symm)) hb);have n2_:=Aside0.mk (yp_ (by repeat (with_reducible first|exact HB.out|apply yc_|apply ya_|apply yb_)) hb);have n3_:=Aside0.mk (hbox);have n4_:=Aside0.mk ((by rw[hg];exact (yn_ (by repeat (with_reducible first|exact HB.out|apply yc_|apply ya_|apply yb_))):w.heap.size≤gb149));have n5_:=Aside0.mk ((by rw[hg];exact (yn_ (by repeat (with_reducible first|exact HB.out|apply yc_|apply ya_|apply yb_))):w.heap.size≤gb149));clear HO_8;clear HO_23;clear HB;have HO_8:=n0_;have HO_23:=n1_;have HB:=n2_;have BK149:=n3_;have GW149:=n4_;have GE149:=n5_;clear n0_ n1_ n2_ n3_ n4_ n5_;clear hb hbox hg;have hcz12_0:w11.cell? ⟨gb149,0,none⟩=some (.int .u8 0):=(yk_ BK149.out 0).trans rfl;have hcz12_1:w11.cell? ⟨gb149,1,none⟩=some (.string (⟨#[]⟩:ByteArray)):=(yk_ BK149.out 1).trans rfl;have hfz12_0:=ym_ BK149.out 0;have hfz12_1:=ym_ BK149.out 1))
    go_roundg k1
    case measure=>have:=HK1.out;omega
    case rel=>exact⟨(x8_1),(wrap64 (x9_1+(((rd_T120 t144 x25_1).f1).size:Int))),(false),(wrap64 (x25_1+1)),(by first|rfl|(simp;done)|(simp [*];done)),(by first|rfl|(simp;done)|(simp [*];done)),(by first|rfl|(simp;done)|(simp [*];done)),H',⟨by have:=HK1.out;omega⟩,⟨by (with_reducible repeat (first|apply Kd.yg_|apply Kd.yh_|apply Kd.R_drew));exact Kd.R_mono (Kd.R_far (p:=⟨gb149,1,none⟩) (Kd.R_far (p:=⟨gb149,0,none⟩) (Kd.yRb_ HO_8.out BK149.out (by decide)) (fun _ hk=>hk.2) (.int .u8 ((rd_T120 t144 x25_1).f0))) (fun _ hk=>hk.2) (.string ((rd_T120 t144 x25_1).f1))) (fun _ hk=>trivial)⟩,⟨by (with_reducible repeat (first|apply Kd.yg_|apply Kd.yh_|apply Kd.R_drew));exact Kd.R_mono (Kd.R_far (p:=⟨gb149,1,none⟩) (Kd.R_far (p:=⟨gb149,0,none⟩) (Kd.R_mono HO_23.out (fun k_ hk=>(⟨hk,hk.2⟩:_∧k_≠gb149))) (fun _ hk=>hk.2) (.int .u8 ((rd_T120 t144 x25_1).f0))) (fun _ hk=>hk.2) (.string ((rd_T120 t144 x25_1).f1))) (fun _ hk=>trivial)⟩,⟨by repeat (with_reducible first|exact HB.out|apply yc_|apply ya_|apply yb_|refine yo_ ?_ GE149.out)⟩⟩
   rw[if_neg c10] at H
   have c10b0:(((rd_T120 t144 x25_1).f0) == 32)=false:=beq_eq_false_iff_ne.mpr c10
   have c10b1:(((rd_T120 t144 x25_1).f0) != 32)=true:=bne_iff_ne.mpr c10
   by_cases c13:x10_1=true
   ·subst c13
    have H1:(if 0≤(wrap64 ((x8_1.length:Int) - 1)) then (if (wrap64 ((x8_1.length:Int) - 1)) < (x8_1.length:Int) then (if ((rd_T120 t144 x25_1).f0)=45 then (yv_.l0 k1 (x8_1.set ((wrap64 ((x8_1.length:Int) - 1)):Int).toNat (⟨(rd_T59 x8_1 (wrap64 ((x8_1.length:Int) - 1))).f0,wrap64 (x9_1+(((rd_T120 t144 x25_1).f1).size:Int)),(rd_T59 x8_1 (wrap64 ((x8_1.length:Int) - 1))).f2⟩:S59)) (wrap64 (x9_1+(((rd_T120 t144 x25_1).f1).size:Int))) true t144 (t144.length:Int) (wrap64 (x25_1+1))) else (if ((rd_T59 x8_1 (wrap64 ((x8_1.length:Int) - 1))).f2).size+((rd_T120 t144 x25_1).f1).size≤9223372036854775807 then (yv_.l0 k1 (x8_1.set ((wrap64 ((x8_1.length:Int) - 1)):Int).toNat (⟨(rd_T59 x8_1 (wrap64 ((x8_1.length:Int) - 1))).f0,(rd_T59 x8_1 (wrap64 ((x8_1.length:Int) - 1))).f1,((rd_T59 x8_1 (wrap64 ((x8_1.length:Int) - 1))).f2)++((rd_T120 t144 x25_1).f1)⟩:S59)) x9_1 true t144 (t144.length:Int) (wrap64 (x25_1+1))) else (none))) else (none)) else (none))=some (r1,r2):=by rw[if_pos rfl] at H;exact H
    clear H
    have H:=H1
    clear H1
    obtain⟨ji14,hji14⟩:∃ j_:Int,(wrap64 ((x8_1.length:Int) - 1))=j_:=⟨_,rfl⟩
    replace H:(if 0≤(ji14) then (if (ji14) < (x8_1.length:Int) then (if ((rd_T120 t144 x25_1).f0)=45 then (yv_.l0 k1 (x8_1.set ((ji14):Int).toNat (⟨(rd_T59 x8_1 (ji14)).f0,wrap64 (x9_1+(((rd_T120 t144 x25_1).f1).size:Int)),(rd_T59 x8_1 (ji14)).f2⟩:S59)) (wrap64 (x9_1+(((rd_T120 t144 x25_1).f1).size:Int))) true t144 (t144.length:Int) (wrap64 (x25_1+1))) else (if ((rd_T59 x8_1 (ji14)).f2).size+((rd_T120 t144 x25_1).f1).size≤9223372036854775807 then (yv_.l0 k1 (x8_1.set ((ji14):Int).toNat (⟨(rd_T59 x8_1 (ji14)).f0,(rd_T59 x8_1 (ji14)).f1,((rd_T59 x8_1 (ji14)).f2)++((rd_T120 t144 x25_1).f1)⟩:S59)) x9_1 true t144 (t144.length:Int) (wrap64 (x25_1+1))) else (none))) else (none)) else (none))=some (r1,r2):=by first|(rw[hji14] at H;exact H)|(simp only[hji14] at H ⊢;exact H)
    have hji14w:(IntKind.i64.wrap ((x8_1.length:Int) - 1))=ji14:=(i64_w _).trans hji14
    by_cases c15:0≤(ji14)
    rotate_left
    ·rw[if_neg c15] at H
     exact absurd H (by simp)
    rw[if_pos c15] at H
    have c15b0:decide (0≤(ji14))=true:=decide_eq_true c15
    clear c15
    by_cases c16:(ji14) < (x8_1.length:Int)
    rotate_left
    ·rw[if_neg c16] at H
     exact absurd H (by simp)
    rw[if_pos c16] at H
    have c16b0:decide ((ji14) < (x8_1.length:Int))=true:=decide_eq_true c16
    clear c16
    by_cases c18:((rd_T120 t144 x25_1).f0)=45
    ·rw[if_pos c18] at H
     have c18b0:(((rd_T120 t144 x25_1).f0) == 45)=true:=beq_iff_eq.mpr c18
     have c18b1:(((rd_T120 t144 x25_1).f0) != 45)=false:=bne_eq_false_iff_eq.mpr c18
     clear c18
     obtain⟨y150,hy150⟩:∃ y_:List (S59),y_=(x8_1.set ((ji14):Int).toNat (⟨(rd_T59 x8_1 (ji14)).f0,wrap64 (x9_1+(((rd_T120 t144 x25_1).f1).size:Int)),(rd_T59 x8_1 (ji14)).f2⟩:S59)):=⟨_,rfl⟩
     replace H:(yv_.l0 k1 y150 (wrap64 (x9_1+(((rd_T120 t144 x25_1).f1).size:Int))) true t144 (t144.length:Int) (wrap64 (x25_1+1)))=some (r1,r2):=by first|(rw[hy150];with_reducible exact H)|(have H2_:=(Option.bind_some _ _).symm.trans H;rw[hy150];with_reducible exact H2_)|(have H2_:=(Option.bind_some _ _).symm.trans H;with_reducible exact H2_)|with_reducible exact H|(rw[hy150];exact H)|exact H
     have Ny150:=Aside0.mk hy150
     clear hy150
     have H':=Aside0.mk H
     clear H
     have p148:0≤(x25_1:Int):=of_decide_eq_true (by assumption)
     have q148:x25_1 < (t144.length:Int):=of_decide_eq_true (by assumption)
     obtain⟨ad148,e148,hx148_0,hx148_1⟩:=at_T120 (Kd.ys_ HO_23.out).2.2 x25_1 p148 q148
     cases e148
     replace p148:=eq_true p148
     replace q148:=eq_true q148
     go_wp2_with (first|((with_reducible refine yL_ (N:=12) rfl ?_);refine y0_ ?hg (N:=12) ?hd (cs:=#[.int .u8 0,.string (⟨#[]⟩:ByteArray)]) (t:=120) ?hr ?_;(case hd=>rfl);(case hg=>rfl);(case hr=>first|(go_simp;done)|(go_simp;rfl));intro gb149 hg w19 hbox hb;have n0_:=Aside0.mk (Kd.yV_ (by (with_reducible repeat (first|apply Kd.yg_|apply Kd.yh_|apply Kd.R_drew));exact HO_8.out) hb);have n1_:=Aside0.mk (Kd.yV_ (Kd.y9b_ (by (with_reducible repeat (first|apply Kd.yg_|apply Kd.yh_|apply Kd.R_drew));exact HO_23.out) gb149 (Nat.le_of_eq hg.symm)) hb);have n2_:=Aside0.mk (yp_ (by repeat (with_reducible first|exact HB.out|apply yc_|apply ya_|apply yb_)) hb);have n3_:=Aside0.mk (hbox);have n4_:=Aside0.mk ((by rw[hg];exact (yn_ (by repeat (with_reducible first|exact HB.out|apply yc_|apply ya_|apply yb_))):w.heap.size≤gb149));have n5_:=Aside0.mk ((by rw[hg];exact (yn_ (by repeat (with_reducible first|exact HB.out|apply yc_|apply ya_|apply yb_))):w.heap.size≤gb149));clear HO_8;clear HO_23;clear HB;have HO_8:=n0_;have HO_23:=n1_;have HB:=n2_;have BK149:=n3_;have GW149:=n4_;have GE149:=n5_;clear n0_ n1_ n2_ n3_ n4_ n5_;clear hb hbox hg;have hcz20_0:w19.cell? ⟨gb149,0,none⟩=some (.int .u8 0):=(yk_ BK149.out 0).trans rfl;have hcz20_1:w19.cell? ⟨gb149,1,none⟩=some (.string (⟨#[]⟩:ByteArray)):=(yk_ BK149.out 1).trans rfl;have hfz20_0:=ym_ BK149.out 0;have hfz20_1:=ym_ BK149.out 1)|((with_reducible refine yM_ (t:=120) (p:=12) rfl ?_);refine yH_ (t:=120) (p:=12) (v:=?vo_w21) (w1:=((w19.setCell ⟨gb149,0,none⟩ (.int .u8 ((rd_T120 t144 x25_1).f0))).setCell ⟨gb149,1,none⟩ (.string ((rd_T120 t144 x25_1).f1)))) ?hg ?ho ?hn ?hr ?_;(case ho=>rfl);(case hg=>rfl);(case hn=>rfl);(case hr=>first|(go_simp;done)|(go_simp;rfl));intro w21 hw;have n0_:Aside0 (Kd.R k59 59 w21 w.heap.size (fun _=>True) u8 x8_1):=⟨(by rw[hw];exact (by (with_reducible repeat (first|apply Kd.yg_|apply Kd.yh_|apply Kd.R_drew));exact Kd.R_mono (Kd.R_far (p:=⟨gb149,1,none⟩) (Kd.R_far (p:=⟨gb149,0,none⟩) (Kd.yRb_ HO_8.out BK149.out (by decide)) (fun _ hk=>hk.2) (.int .u8 ((rd_T120 t144 x25_1).f0))) (fun _ hk=>hk.2) (.string ((rd_T120 t144 x25_1).f1))) (fun _ hk=>trivial)))⟩;have n1_:Aside0 (Kd.R k120 120 w21 w.heap.size (fun k_=>k_≠gb149) (.slice (some ad148) t144.length co6) t144):=⟨(by rw[hw];exact (by (with_reducible repeat (first|apply Kd.yg_|apply Kd.yh_|apply Kd.R_drew));exact Kd.R_mono (Kd.R_far (p:=⟨gb149,1,none⟩) (Kd.R_far (p:=⟨gb149,0,none⟩) (Kd.R_mono HO_23.out (fun k_ hk=>(⟨hk,hk.2⟩:_∧k_≠gb149))) (fun _ hk=>hk.2) (.int .u8 ((rd_T120 t144 x25_1).f0))) (fun _ hk=>hk.2) (.string ((rd_T120 t144 x25_1).f1))) (fun _ hk=>hk.1.2)))⟩;have n2_:Aside0 (w21.heap[gb149]?=some (.cells #[.int .u8 ((rd_T120 t144 x25_1).f0),.string ((rd_T120 t144 x25_1).f1)] 120 (0,0))):=⟨(by rw[hw];exact (by (with_reducible repeat (first|refine yx_ ?_ _|refine yA_ ?_|refine yw_ ?_ _));refine yqb_ (cs:=#[.int .u8 ((rd_T120 t144 x25_1).f0),.string (⟨#[]⟩:ByteArray)]) ?_ 1 _ rfl;(with_reducible repeat (first|refine yx_ ?_ _|refine yA_ ?_|refine yw_ ?_ _));refine yqb_ (cs:=#[.int .u8 0,.string (⟨#[]⟩:ByteArray)]) ?_ 0 _ rfl;(with_reducible repeat (first|refine yx_ ?_ _|refine yA_ ?_|refine yw_ ?_ _));exact BK149.out))⟩;have n3_:Aside0 (Below w.heap.size w w21):=⟨(by rw[hw];exact (by repeat (with_reducible first|exact HB.out|apply yc_|apply ya_|apply yb_|refine yo_ ?_ GE149.out)))⟩;clear hw;clear HO_8;clear HO_23;clear BK149;clear HB;have HO_8:=n0_;have HO_23:=n1_;have BK149:=n2_;have HB:=n3_;clear n0_ n1_ n2_ n3_;have hcz22_0:w21.cell? ⟨gb149,0,none⟩=some (.int .u8 ((rd_T120 t144 x25_1).f0)):=(yk_ BK149.out 0).trans rfl;have hcz22_1:w21.cell? ⟨gb149,1,none⟩=some (.string ((rd_T120 t144 x25_1).f1)):=(yk_ BK149.out 1).trans rfl;have hfz22_0:=ym_ BK149.out 0;have hfz22_1:=ym_ BK149.out 1;obtain⟨Ao23,co23,eo23⟩:=Kd.yC_ HO_8.out;subst eo23;have p17:0≤((ji14):Int):=of_decide_eq_true (by assumption);have q17:((ji14):Int) < ((x8_1.length:Int):Int):=of_decide_eq_true (by assumption);obtain⟨go17,co17,eo17,gb17,gl17,cl17,HG17⟩:=Kd.R_form HO_8.out (by omega);(first|cases eo17|(injection eo17 with ea_ en_ ec_;(first|subst ea_|(injection ea_ with ea_;subst ea_));subst ec_;clear en_));have GB17:=Aside0.mk gb17;have GG17:=Aside0.mk HG17;clear gb17 gl17 HG17;obtain⟨ce17,hcl17,hM17,hcc17,hfr17⟩:=Kd.R_elem HO_8.out z59 ((ji14):Int) p17 q17;obtain rfl:=yzb_ hM17;have hx17_0:w21.cell? ⟨go17,((ji14):Int).toNat * 3,none⟩=some (.int .i64 ((rd_T59 x8_1 (ji14)).f0)):=hcc17 0 _ rfl;have hx17_1:w21.cell? ⟨go17,((ji14):Int).toNat * 3+1,none⟩=some (.int .i64 ((rd_T59 x8_1 (ji14)).f1)):=hcc17 1 _ rfl;have hx17_2:w21.cell? ⟨go17,((ji14):Int).toNat * 3+2,none⟩=some (.string ((rd_T59 x8_1 (ji14)).f2)):=hcc17 2 _ rfl;have hf17_0:w21.frozen? ⟨go17,((ji14):Int).toNat * 3,none⟩=false:=hfr17 0;have hf17_1:w21.frozen? ⟨go17,((ji14):Int).toNat * 3+1,none⟩=false:=hfr17 1;have hf17_2:w21.frozen? ⟨go17,((ji14):Int).toNat * 3+2,none⟩=false:=hfr17 2;clear hcl17 hcc17 hfr17 hM17;replace p17:=eq_true p17;replace q17:=eq_true q17;have HX24:=Aside0.mk (show Kd.R k59 59 w21 w.heap.size (fun _=>True) (.slice (some ⟨go17,0,none⟩) x8_1.length co23) x8_1 from (by (with_reducible repeat (first|apply Kd.yg_|apply Kd.yh_|apply Kd.R_drew));exact HO_8.out));obtain⟨ce24,hcl24,hM24,hcc24,hfr24⟩:=Kd.R_elem HX24.out z59 ((ji14):Int) (of_decide_eq_true (by assumption)) (by have h_:((ji14):Int) < ((x8_1.length:Int):Int):=of_decide_eq_true (by assumption);first|exact h_|(have e_:=(Kd.ys_ HO_8.out).1;omega)|simpa using h_);obtain rfl:=yzb_ hM24;have HP24:=Kd.R_seg HX24.out ((ji14):Int) (of_decide_eq_true (by assumption)) (by have h_:((ji14):Int) < ((x8_1.length:Int):Int):=of_decide_eq_true (by assumption);first|exact h_|(have e_:=(Kd.ys_ HO_8.out).1;omega)|simpa using h_) (seg:=[.int .i64 (wrap64 (x9_1+(((rd_T120 t144 x25_1).f1).size:Int)))]) (j:=1) hcl24 hcc24 (show 2≤3 from by decide) (x':=(⟨(rd_T59 x8_1 (ji14)).f0,wrap64 (x9_1+(((rd_T120 t144 x25_1).f1).size:Int)),(rd_T59 x8_1 (ji14)).f2⟩:S59)) (yXb_ _ _ _ (⟨(rd_T59 x8_1 (ji14)).f0,wrap64 (x9_1+(((rd_T120 t144 x25_1).f1).size:Int)),(rd_T59 x8_1 (ji14)).f2⟩:S59) ) (fun _ hk=>hk);have hx24_1:=hcc24 1 _ rfl;(try simp only[show (k59).sz=3 from rfl,Nat.mul_one,Nat.add_zero] at hx24_1);have hf24_1:=hfr24 1;(try simp only[show (k59).sz=3 from rfl,Nat.mul_one,Nat.add_zero] at hf24_1);clear hcl24 hcc24 hfr24 hM24)|((with_reducible refine yM_ (t:=3) (p:=61) rfl ?_);refine yH_ (t:=3) (p:=61) (v:=?vo_w25) (w1:=(w21.setCell ⟨go17,((ji14):Int).toNat * 3+1,none⟩ (.int .i64 (wrap64 (x9_1+(((rd_T120 t144 x25_1).f1).size:Int)))))) ?hg ?ho ?hn ?hr ?_;(case ho=>rfl);(case hg=>rfl);(case hn=>rfl);(case hr=>first|(go_simp;done)|(go_simp;rfl));intro w25 hw;have hg:w21.grownBy w25 (some go17):=(by rw[hw];exact HP24.2);have hp_:Kd.R k59 59 w25 w.heap.size (fun _=>True) (.slice (some ⟨go17,0,none⟩) x8_1.length co23) y150:=(by rw[hw,Ny150.out];exact HP24.1);clear HP24;have n0_:=Aside0.mk (hp_);have n1_:=Aside0.mk (Kd.ybb_ (v:=(.slice (some ⟨go17,0,none⟩) x8_1.length co23)) (by (with_reducible repeat (first|apply Kd.yg_|apply Kd.yh_|apply Kd.R_drew));exact HO_23.out) (Kd.yO_ HO_8.out) (by decide) hg);have n2_:=Aside0.mk (y1b_ (g:=gb149) (o:=.cells #[.int .u8 ((rd_T120 t144 x25_1).f0),.string ((rd_T120 t144 x25_1).f1)] 120 (0,0)) (by (with_reducible repeat (first|refine yx_ ?_ _|refine yA_ ?_|refine yw_ ?_ _));exact BK149.out) hg (Kd.R_ne HO_8.out BK149.out (by decide)));have n3_:=Aside0.mk ((by rw[hw];exact yo_ (HB.out) GB17.out:Below w.heap.size w w25));clear HO_8;clear HO_23;clear BK149;clear HB;have HO_8:=n0_;have HO_23:=n1_;have BK149:=n2_;have HB:=n3_;clear n0_ n1_ n2_ n3_;clear hg hw hp_))
     go_roundg k1
     case measure=>have:=HK1.out;omega
     case rel=>exact⟨(y150),(wrap64 (x9_1+(((rd_T120 t144 x25_1).f1).size:Int))),(true),(wrap64 (x25_1+1)),(by first|rfl|(simp;done)|(simp [*];done)),(by first|rfl|(simp;done)|(simp [*];done)),(by first|rfl|(simp;done)|(simp [*];done)),H',⟨by have:=HK1.out;omega⟩,⟨by (with_reducible repeat (first|apply Kd.yg_|apply Kd.yh_|apply Kd.R_drew));exact HO_8.out⟩,⟨by (with_reducible repeat (first|apply Kd.yg_|apply Kd.yh_|apply Kd.R_drew));exact Kd.R_mono HO_23.out (fun _ hk=>trivial)⟩,⟨by repeat (with_reducible first|exact HB.out|apply yc_|apply ya_|apply yb_|refine yo_ ?_ GE149.out)⟩⟩
    rw[if_neg c18] at H
    have c18b0:(((rd_T120 t144 x25_1).f0) == 45)=false:=beq_eq_false_iff_ne.mpr c18
    have c18b1:(((rd_T120 t144 x25_1).f0) != 45)=true:=bne_iff_ne.mpr c18
    by_cases c26:((rd_T59 x8_1 (ji14)).f2).size+((rd_T120 t144 x25_1).f1).size≤9223372036854775807
    rotate_left
    ·rw[if_neg c26] at H
     exact absurd H (by simp)
    rw[if_pos c26] at H
    have c26b0:=eq_true c26
    have c26b1:decide (((rd_T59 x8_1 (ji14)).f2).size+((rd_T120 t144 x25_1).f1).size≤9223372036854775807)=true:=decide_eq_true c26
    try have c26b2:(9223372036854775807 < ((rd_T59 x8_1 (ji14)).f2).size+((rd_T120 t144 x25_1).f1).size)=False:=eq_false (Nat.not_lt.2 c26)
    obtain⟨y151,hy151⟩:∃ y_:List (S59),y_=(x8_1.set ((ji14):Int).toNat (⟨(rd_T59 x8_1 (ji14)).f0,(rd_T59 x8_1 (ji14)).f1,((rd_T59 x8_1 (ji14)).f2)++((rd_T120 t144 x25_1).f1)⟩:S59)):=⟨_,rfl⟩
    replace H:(yv_.l0 k1 y151 x9_1 true t144 (t144.length:Int) (wrap64 (x25_1+1)))=some (r1,r2):=by first|(rw[hy151];with_reducible exact H)|(have H2_:=(Option.bind_some _ _).symm.trans H;rw[hy151];with_reducible exact H2_)|(have H2_:=(Option.bind_some _ _).symm.trans H;with_reducible exact H2_)|with_reducible exact H|(rw[hy151];exact H)|exact H
    have Ny151:=Aside0.mk hy151
    clear hy151
    have H':=Aside0.mk H
    clear H
    have p148:0≤(x25_1:Int):=of_decide_eq_true (by assumption)
    have q148:x25_1 < (t144.length:Int):=of_decide_eq_true (by assumption)
    obtain⟨ad148,e148,hx148_0,hx148_1⟩:=at_T120 (Kd.ys_ HO_23.out).2.2 x25_1 p148 q148
    cases e148
    replace p148:=eq_true p148
    replace q148:=eq_true q148
    try go_wp2_with (first|((with_reducible refine yL_ (N:=12) rfl ?_);refine y0_ ?hg (N:=12) ?hd (cs:=#[.int .u8 0,.string (⟨#[]⟩:ByteArray)]) (t:=120) ?hr ?_;(case hd=>rfl);(case hg=>rfl);(case hr=>first|(go_simp;done)|(go_simp;rfl));intro gb149 hg w27 hbox hb;have n0_:=Aside0.mk (Kd.yV_ (by (with_reducible repeat (first|apply Kd.yg_|apply Kd.yh_|apply Kd.R_drew));exact HO_8.out) hb);have n1_:=Aside0.mk (Kd.yV_ (Kd.y9b_ (by (with_reducible repeat (first|apply Kd.yg_|apply Kd.yh_|apply Kd.R_drew));exact HO_23.out) gb149 (Nat.le_of_eq hg.symm)) hb);have n2_:=Aside0.mk (yp_ (by repeat (with_reducible first|exact HB.out|apply yc_|apply ya_|apply yb_)) hb);have n3_:=Aside0.mk (hbox);have n4_:=Aside0.mk ((by rw[hg];exact (yn_ (by repeat (with_reducible first|exact HB.out|apply yc_|apply ya_|apply yb_))):w.heap.size≤gb149));have n5_:=Aside0.mk ((by rw[hg];exact (yn_ (by repeat (with_reducible first|exact HB.out|apply yc_|apply ya_|apply yb_))):w.heap.size≤gb149));clear HO_8;clear HO_23;clear HB;have HO_8:=n0_;have HO_23:=n1_;have HB:=n2_;have BK149:=n3_;have GW149:=n4_;have GE149:=n5_;clear n0_ n1_ n2_ n3_ n4_ n5_;clear hb hbox hg;have hcz28_0:w27.cell? ⟨gb149,0,none⟩=some (.int .u8 0):=(yk_ BK149.out 0).trans rfl;have hcz28_1:w27.cell? ⟨gb149,1,none⟩=some (.string (⟨#[]⟩:ByteArray)):=(yk_ BK149.out 1).trans rfl;have hfz28_0:=ym_ BK149.out 0;have hfz28_1:=ym_ BK149.out 1)|((with_reducible refine yM_ (t:=120) (p:=12) rfl ?_);refine yH_ (t:=120) (p:=12) (v:=?vo_w29) (w1:=((w27.setCell ⟨gb149,0,none⟩ (.int .u8 ((rd_T120 t144 x25_1).f0))).setCell ⟨gb149,1,none⟩ (.string ((rd_T120 t144 x25_1).f1)))) ?hg ?ho ?hn ?hr ?_;(case ho=>rfl);(case hg=>rfl);(case hn=>rfl);(case hr=>first|(go_simp;done)|(go_simp;rfl));intro w29 hw;have n0_:Aside0 (Kd.R k59 59 w29 w.heap.size (fun _=>True) u8 x8_1):=⟨(by rw[hw];exact (by (with_reducible repeat (first|apply Kd.yg_|apply Kd.yh_|apply Kd.R_drew));exact Kd.R_mono (Kd.R_far (p:=⟨gb149,1,none⟩) (Kd.R_far (p:=⟨gb149,0,none⟩) (Kd.yRb_ HO_8.out BK149.out (by decide)) (fun _ hk=>hk.2) (.int .u8 ((rd_T120 t144 x25_1).f0))) (fun _ hk=>hk.2) (.string ((rd_T120 t144 x25_1).f1))) (fun _ hk=>trivial)))⟩;have n1_:Aside0 (Kd.R k120 120 w29 w.heap.size (fun k_=>k_≠gb149) (.slice (some ad148) t144.length co6) t144):=⟨(by rw[hw];exact (by (with_reducible repeat (first|apply Kd.yg_|apply Kd.yh_|apply Kd.R_drew));exact Kd.R_mono (Kd.R_far (p:=⟨gb149,1,none⟩) (Kd.R_far (p:=⟨gb149,0,none⟩) (Kd.R_mono HO_23.out (fun k_ hk=>(⟨hk,hk.2⟩:_∧k_≠gb149))) (fun _ hk=>hk.2) (.int .u8 ((rd_T120 t144 x25_1).f0))) (fun _ hk=>hk.2) (.string ((rd_T120 t144 x25_1).f1))) (fun _ hk=>hk.1.2)))⟩;have n2_:Aside0 (w29.heap[gb149]?=some (.cells #[.int .u8 ((rd_T120 t144 x25_1).f0),.string ((rd_T120 t144 x25_1).f1)] 120 (0,0))):=⟨(by rw[hw];exact (by (with_reducible repeat (first|refine yx_ ?_ _|refine yA_ ?_|refine yw_ ?_ _));refine yqb_ (cs:=#[.int .u8 ((rd_T120 t144 x25_1).f0),.string (⟨#[]⟩:ByteArray)]) ?_ 1 _ rfl;(with_reducible repeat (first|refine yx_ ?_ _|refine yA_ ?_|refine yw_ ?_ _));refine yqb_ (cs:=#[.int .u8 0,.string (⟨#[]⟩:ByteArray)]) ?_ 0 _ rfl;(with_reducible repeat (first|refine yx_ ?_ _|refine yA_ ?_|refine yw_ ?_ _));exact BK149.out))⟩;have n3_:Aside0 (Below w.heap.size w w29):=⟨(by rw[hw];exact (by repeat (with_reducible first|exact HB.out|apply yc_|apply ya_|apply yb_|refine yo_ ?_ GE149.out)))⟩;clear hw;clear HO_8;clear HO_23;clear BK149;clear HB;have HO_8:=n0_;have HO_23:=n1_;have BK149:=n2_;have HB:=n3_;clear n0_ n1_ n2_ n3_;have hcz30_0:w29.cell? ⟨gb149,0,none⟩=some (.int .u8 ((rd_T120 t144 x25_1).f0)):=(yk_ BK149.out 0).trans rfl;have hcz30_1:w29.cell? ⟨gb149,1,none⟩=some (.string ((rd_T120 t144 x25_1).f1)):=(yk_ BK149.out 1).trans rfl;have hfz30_0:=ym_ BK149.out 0;have hfz30_1:=ym_ BK149.out 1;obtain⟨Ao31,co31,eo31⟩:=Kd.yC_ HO_8.out;subst eo31;have p17:0≤((ji14):Int):=of_decide_eq_true (by assumption);have q17:((ji14):Int) < ((x8_1.length:Int):Int):=of_decide_eq_true (by assumption);obtain⟨go17,co17,eo17,gb17,gl17,cl17,HG17⟩:=Kd.R_form HO_8.out (by omega);(first|cases eo17|(injection eo17 with ea_ en_ ec_;(first|subst ea_|(injection ea_ with ea_;subst ea_));subst ec_;clear en_));have GB17:=Aside0.mk gb17;have GG17:=Aside0.mk HG17;clear gb17 gl17 HG17;obtain⟨ce17,hcl17,hM17,hcc17,hfr17⟩:=Kd.R_elem HO_8.out z59 ((ji14):Int) p17 q17;obtain rfl:=yzb_ hM17;have hx17_0:w29.cell? ⟨go17,((ji14):Int).toNat * 3,none⟩=some (.int .i64 ((rd_T59 x8_1 (ji14)).f0)):=hcc17 0 _ rfl;have hx17_1:w29.cell? ⟨go17,((ji14):Int).toNat * 3+1,none⟩=some (.int .i64 ((rd_T59 x8_1 (ji14)).f1)):=hcc17 1 _ rfl;have hx17_2:w29.cell? ⟨go17,((ji14):Int).toNat * 3+2,none⟩=some (.string ((rd_T59 x8_1 (ji14)).f2)):=hcc17 2 _ rfl;have hf17_0:w29.frozen? ⟨go17,((ji14):Int).toNat * 3,none⟩=false:=hfr17 0;have hf17_1:w29.frozen? ⟨go17,((ji14):Int).toNat * 3+1,none⟩=false:=hfr17 1;have hf17_2:w29.frozen? ⟨go17,((ji14):Int).toNat * 3+2,none⟩=false:=hfr17 2;clear hcl17 hcc17 hfr17 hM17;replace p17:=eq_true p17;replace q17:=eq_true q17))
    have n0_:=Aside0.mk (Kd.R_drew HO_8.out)
    have n1_:=Aside0.mk (Kd.R_drew HO_23.out)
    have n2_:=Aside0.mk (yA_ BK149.out)
    have n3_:=Aside0.mk (yb_ HB.out)
    clear HO_8
    clear HO_23
    clear BK149
    clear HB
    have HO_8:=n0_
    have HO_23:=n1_
    have BK149:=n2_
    have HB:=n3_
    clear n0_ n1_ n2_ n3_
    obtain⟨ce33,hcl33,hM33,hcc33,hfr33⟩:=Kd.R_elem HO_8.out z59 ((ji14):Int) (of_decide_eq_true (by assumption)) (by have h_:((ji14):Int) < ((x8_1.length:Int):Int):=of_decide_eq_true (by assumption);first|exact h_|(have e_:=(Kd.ys_ HO_8.out).1;omega)|simpa using h_)
    obtain rfl:=yzb_ hM33
    have HP33:=(Kd.R_seg HO_8.out ((ji14):Int) (of_decide_eq_true (by assumption)) (by have h_:((ji14):Int) < ((x8_1.length:Int):Int):=of_decide_eq_true (by assumption);first|exact h_|(have e_:=(Kd.ys_ HO_8.out).1;omega)|simpa using h_) (seg:=[.string (((rd_T59 x8_1 (ji14)).f2)++((rd_T120 t144 x25_1).f1))]) (j:=2) hcl33 hcc33 (show 3≤3 from by decide) (x':=(⟨(rd_T59 x8_1 (ji14)).f0,(rd_T59 x8_1 (ji14)).f1,((rd_T59 x8_1 (ji14)).f2)++((rd_T120 t144 x25_1).f1)⟩:S59)) (yXb_ _ _ _ (⟨(rd_T59 x8_1 (ji14)).f0,(rd_T59 x8_1 (ji14)).f1,((rd_T59 x8_1 (ji14)).f2)++((rd_T120 t144 x25_1).f1)⟩:S59) ) (fun _ hk=>hk)).1
    rw[← Ny151.out] at HP33
    have HQ33:=Aside0.mk HP33
    have hxq33:=hcc33 2 _ rfl
    have hfq33:World.frozen? _ ⟨go17,((ji14):Int).toNat * 3+2,none⟩=false:=hfr33 2
    clear hcl33 hcc33 hfr33 hM33 HP33
    refine start_ (n:=10) (S:=fun w'=>w'.cell? ⟨gb149,0,none⟩=some (.int .u8 ((rd_T120 t144 x25_1).f0))∧w'.cell? ⟨gb149,1,none⟩=some (.string ((rd_T120 t144 x25_1).f1))∧w'.cell? ⟨go17,(ji14).toNat * 3+2,none⟩=some (.string ((rd_T59 x8_1 (ji14)).f2))) (ds:=[9]) (bA 10 0) (by kernel_rfl) rfl rfl ⟨(yk_ BK149.out 0).trans rfl,(yk_ BK149.out 1).trans rfl,hxq33⟩ (fun hHeld=>?_);refine yP_ yv_.tab19 yv_.bits19 (fun HT_ HW_=>?_)
    have GG17:=(show Aside0 (w29.drew.heap[go17]?=some (.cells cl17 59)) from GG17)
    generalize w29.drew=w32 at HO_8 HO_23 BK149 HB HQ33 GG17 hxq33 hfq33 hHeld ⊢
    refine pu_ 0 62 (bA 10 1) HT_ ?_
    refine pu_ 1 63 (bA 10 3) HT_ ?_
    refine pu_ 2 64 (bA 10 7) HT_ ?_
    refine pu_ 4 66 (bA 10 23) HT_ ?_
    refine tk_ 3 65 (bA 10 31) rfl HT_ HW_ hHeld (by rintro w' ⟨s0,s1,s2⟩;go_simp;with_reducible rfl) ?_
    refine tk_ 5 67 (bA 10 63) rfl HT_ HW_ hHeld (by rintro w' ⟨s0,s1,s2⟩;go_simp;with_reducible rfl) ?_
    refine pu_ 6 68 (bA 10 127) HT_ ?_
    refine pu_ 7 69 (bA 10 255) HT_ ?_
    refine pu_ 8 70 (bA 10 511) HT_ ?_
    refine last_ (i:=9) (N:=none) (bA 10 1023) rfl rfl (one_of HT_.out (by kernel_rfl)) (by decide) (fun K hK=>?_)
    refine skip_ (w1:=?_) (by rfl) rfl ?_ ?_
    rotate_left
    ·go_simp
     rfl
    refine hK.out _ _ ?_
    clear hK K
    refine done_ (ydb_ HT_.out (by kernel_rfl)) ?_
    try go_wp2
    go_roundg k1
    case measure=>have:=HK1.out;omega
    case rel=>exact⟨(y151),(x9_1),(true),(wrap64 (x25_1+1)),(by first|rfl|(simp;done)|(simp [*];done)),(by first|rfl|(simp;done)|(simp [*];done)),(by first|rfl|(simp;done)|(simp [*];done)),H',⟨by have:=HK1.out;omega⟩,⟨by (with_reducible repeat (first|apply Kd.yg_|apply Kd.yh_|apply Kd.R_drew));exact HQ33.out⟩,⟨by (with_reducible repeat (first|apply Kd.yg_|apply Kd.yh_|apply Kd.R_drew));exact Kd.R_mono (Kd.R_far (p:=⟨go17,((ji14):Int).toNat * 3+2,none⟩) (Kd.yRb_ HO_23.out GG17.out (by decide)) (fun _ hk=>hk.2) (.string (((rd_T59 x8_1 (ji14)).f2)++((rd_T120 t144 x25_1).f1)))) (fun _ hk=>trivial)⟩,⟨by repeat (with_reducible first|exact HB.out|apply yc_|apply ya_|apply yb_|refine yo_ ?_ GB17.out|refine yo_ ?_ GE149.out)⟩⟩
   replace c13:=Bool.eq_false_iff.mpr c13
   subst c13
   have H1:(if x8_1.length < 4398046511104 then ((some (x8_1++[(⟨x9_1,x9_1,(⟨#[]⟩:ByteArray)⟩:S59)]:List (S59))).bind fun y152=>(if 0≤(wrap64 ((y152.length:Int) - 1)) then (if (wrap64 ((y152.length:Int) - 1)) < (y152.length:Int) then (if ((rd_T120 t144 x25_1).f0)=45 then (yv_.l0 k1 (y152.set ((wrap64 ((y152.length:Int) - 1)):Int).toNat (⟨(rd_T59 y152 (wrap64 ((y152.length:Int) - 1))).f0,wrap64 (x9_1+(((rd_T120 t144 x25_1).f1).size:Int)),(rd_T59 y152 (wrap64 ((y152.length:Int) - 1))).f2⟩:S59)) (wrap64 (x9_1+(((rd_T120 t144 x25_1).f1).size:Int))) true t144 (t144.length:Int) (wrap64 (x25_1+1))) else (if ((rd_T59 y152 (wrap64 ((y152.length:Int) - 1))).f2).size+((rd_T120 t144 x25_1).f1).size≤9223372036854775807 then (yv_.l0 k1 (y152.set ((wrap64 ((y152.length:Int) - 1)):Int).toNat (⟨(rd_T59 y152 (wrap64 ((y152.length:Int) - 1))).f0,(rd_T59 y152 (wrap64 ((y152.length:Int) - 1))).f1,((rd_T59 y152 (wrap64 ((y152.length:Int) - 1))).f2)++((rd_T120 t144 x25_1).f1)⟩:S59)) x9_1 true t144 (t144.length:Int) (wrap64 (x25_1+1))) else (none))) else (none)) else (none))) else (none))=some (r1,r2):=by rw[if_neg (show ¬ (false=true) by decide)] at H;exact H
   clear H
   have H:=H1
   clear H1
   by_cases c34:x8_1.length < 4398046511104
   rotate_left
   ·rw[if_neg c34] at H
    exact absurd H (by simp)
   rw[if_pos c34] at H
   have LMc34:=Aside0.mk c34
   clear c34
   obtain⟨y152,hy152⟩:∃ y_:List (S59),y_=(x8_1++[(⟨x9_1,x9_1,(⟨#[]⟩:ByteArray)⟩:S59)]):=⟨_,rfl⟩
   replace H:(if 0≤(wrap64 ((y152.length:Int) - 1)) then (if (wrap64 ((y152.length:Int) - 1)) < (y152.length:Int) then (if ((rd_T120 t144 x25_1).f0)=45 then (yv_.l0 k1 (y152.set ((wrap64 ((y152.length:Int) - 1)):Int).toNat (⟨(rd_T59 y152 (wrap64 ((y152.length:Int) - 1))).f0,wrap64 (x9_1+(((rd_T120 t144 x25_1).f1).size:Int)),(rd_T59 y152 (wrap64 ((y152.length:Int) - 1))).f2⟩:S59)) (wrap64 (x9_1+(((rd_T120 t144 x25_1).f1).size:Int))) true t144 (t144.length:Int) (wrap64 (x25_1+1))) else (if ((rd_T59 y152 (wrap64 ((y152.length:Int) - 1))).f2).size+((rd_T120 t144 x25_1).f1).size≤9223372036854775807 then (yv_.l0 k1 (y152.set ((wrap64 ((y152.length:Int) - 1)):Int).toNat (⟨(rd_T59 y152 (wrap64 ((y152.length:Int) - 1))).f0,(rd_T59 y152 (wrap64 ((y152.length:Int) - 1))).f1,((rd_T59 y152 (wrap64 ((y152.length:Int) - 1))).f2)++((rd_T120 t144 x25_1).f1)⟩:S59)) x9_1 true t144 (t144.length:Int) (wrap64 (x25_1+1))) else (none))) else (none)) else (none))=some (r1,r2):=by first|(rw[hy152];with_reducible exact H)|(have H2_:=(Option.bind_some _ _).symm.trans H;rw[hy152];with_reducible exact H2_)|(have H2_:=(Option.bind_some _ _).symm.trans H;with_reducible exact H2_)|with_reducible exact H|(rw[hy152];exact H)|exact H
   have Ny152:=Aside0.mk hy152
   clear hy152
   obtain⟨ji35,hji35⟩:∃ j_:Int,(wrap64 ((y152.length:Int) - 1))=j_:=⟨_,rfl⟩
   replace H:(if 0≤(ji35) then (if (ji35) < (y152.length:Int) then (if ((rd_T120 t144 x25_1).f0)=45 then (yv_.l0 k1 (y152.set ((ji35):Int).toNat (⟨(rd_T59 y152 (ji35)).f0,wrap64 (x9_1+(((rd_T120 t144 x25_1).f1).size:Int)),(rd_T59 y152 (ji35)).f2⟩:S59)) (wrap64 (x9_1+(((rd_T120 t144 x25_1).f1).size:Int))) true t144 (t144.length:Int) (wrap64 (x25_1+1))) else (if ((rd_T59 y152 (ji35)).f2).size+((rd_T120 t144 x25_1).f1).size≤9223372036854775807 then (yv_.l0 k1 (y152.set ((ji35):Int).toNat (⟨(rd_T59 y152 (ji35)).f0,(rd_T59 y152 (ji35)).f1,((rd_T59 y152 (ji35)).f2)++((rd_T120 t144 x25_1).f1)⟩:S59)) x9_1 true t144 (t144.length:Int) (wrap64 (x25_1+1))) else (none))) else (none)) else (none))=some (r1,r2):=by first|(rw[hji35] at H;exact H)|(simp only[hji35] at H ⊢;exact H)
   have hji35w:(IntKind.i64.wrap ((y152.length:Int) - 1))=ji35:=(i64_w _).trans hji35
   by_cases c36:0≤(ji35)
   rotate_left
   ·rw[if_neg c36] at H
    exact absurd H (by simp)
   rw[if_pos c36] at H
   have c36b0:decide (0≤(ji35))=true:=decide_eq_true c36
   clear c36
   by_cases c37:(ji35) < (y152.length:Int)
   rotate_left
   ·rw[if_neg c37] at H
    exact absurd H (by simp)
   rw[if_pos c37] at H
   have c37b0:decide ((ji35) < (y152.length:Int))=true:=decide_eq_true c37
   clear c37
   by_cases c39:((rd_T120 t144 x25_1).f0)=45
   ·rw[if_pos c39] at H
    have c39b0:(((rd_T120 t144 x25_1).f0) == 45)=true:=beq_iff_eq.mpr c39
    have c39b1:(((rd_T120 t144 x25_1).f0) != 45)=false:=bne_eq_false_iff_eq.mpr c39
    clear c39
    obtain⟨y155,hy155⟩:∃ y_:List (S59),y_=(y152.set ((ji35):Int).toNat (⟨(rd_T59 y152 (ji35)).f0,wrap64 (x9_1+(((rd_T120 t144 x25_1).f1).size:Int)),(rd_T59 y152 (ji35)).f2⟩:S59)):=⟨_,rfl⟩
    replace H:(yv_.l0 k1 y155 (wrap64 (x9_1+(((rd_T120 t144 x25_1).f1).size:Int))) true t144 (t144.length:Int) (wrap64 (x25_1+1)))=some (r1,r2):=by first|(rw[hy155];with_reducible exact H)|(have H2_:=(Option.bind_some _ _).symm.trans H;rw[hy155];with_reducible exact H2_)|(have H2_:=(Option.bind_some _ _).symm.trans H;with_reducible exact H2_)|with_reducible exact H|(rw[hy155];exact H)|exact H
    have Ny155:=Aside0.mk hy155
    clear hy155
    have H':=Aside0.mk H
    clear H
    have p148:0≤(x25_1:Int):=of_decide_eq_true (by assumption)
    have q148:x25_1 < (t144.length:Int):=of_decide_eq_true (by assumption)
    obtain⟨ad148,e148,hx148_0,hx148_1⟩:=at_T120 (Kd.ys_ HO_23.out).2.2 x25_1 p148 q148
    cases e148
    replace p148:=eq_true p148
    replace q148:=eq_true q148
    go_wp2_with (first|((with_reducible refine yL_ (N:=12) rfl ?_);refine y0_ ?hg (N:=12) ?hd (cs:=#[.int .u8 0,.string (⟨#[]⟩:ByteArray)]) (t:=120) ?hr ?_;(case hd=>rfl);(case hg=>rfl);(case hr=>first|(go_simp;done)|(go_simp;rfl));intro gb149 hg w40 hbox hb;have n0_:=Aside0.mk (Kd.yV_ (by (with_reducible repeat (first|apply Kd.yg_|apply Kd.yh_|apply Kd.R_drew));exact HO_8.out) hb);have n1_:=Aside0.mk (Kd.yV_ (Kd.y9b_ (by (with_reducible repeat (first|apply Kd.yg_|apply Kd.yh_|apply Kd.R_drew));exact HO_23.out) gb149 (Nat.le_of_eq hg.symm)) hb);have n2_:=Aside0.mk (yp_ (by repeat (with_reducible first|exact HB.out|apply yc_|apply ya_|apply yb_)) hb);have n3_:=Aside0.mk (hbox);have n4_:=Aside0.mk ((by rw[hg];exact (yn_ (by repeat (with_reducible first|exact HB.out|apply yc_|apply ya_|apply yb_))):w.heap.size≤gb149));have n5_:=Aside0.mk ((by rw[hg];exact (yn_ (by repeat (with_reducible first|exact HB.out|apply yc_|apply ya_|apply yb_))):w.heap.size≤gb149));clear HO_8;clear HO_23;clear HB;have HO_8:=n0_;have HO_23:=n1_;have HB:=n2_;have BK149:=n3_;have GW149:=n4_;have GE149:=n5_;clear n0_ n1_ n2_ n3_ n4_ n5_;clear hb hbox hg;have hcz41_0:w40.cell? ⟨gb149,0,none⟩=some (.int .u8 0):=(yk_ BK149.out 0).trans rfl;have hcz41_1:w40.cell? ⟨gb149,1,none⟩=some (.string (⟨#[]⟩:ByteArray)):=(yk_ BK149.out 1).trans rfl;have hfz41_0:=ym_ BK149.out 0;have hfz41_1:=ym_ BK149.out 1)|((with_reducible refine yF_ (b:=.append) (xs:=#[.tmp 39,.tmp 43]) rfl ?_);at_builtin;refine Kd.y7_ k59 (w0:=w) w.heap.size rfl (.tmp 39) (.tmp 43) 55 59 (.agg #[(.int .i64 0),(.int .i64 0),(.string ⟨#[]⟩)]) 32 rfl Try.underlying55 info59 rfl (by decide) (by omega) u8 x8_1 (⟨x9_1,x9_1,(⟨#[]⟩:ByteArray)⟩:S59) [.int .i64 x9_1,.int .i64 x9_1,.string (⟨#[]⟩:ByteArray)] (fun _=>True) (fun _=>False) rfl (by first|(go_simp;done)|(go_simp;rfl)) ?aP (fun _ hk=>hk.elim) ?aF ?aO ?aB ?aS ?aL ?_;(case aP=>exact yXb_ _ _ _ (⟨x9_1,x9_1,(⟨#[]⟩:ByteArray)⟩:S59));(case aB=>exact (by repeat (with_reducible first|exact HB.out|apply yc_|apply ya_|apply yb_|refine yo_ ?_ GE149.out)));(case aF=>exact (fun _ _=>trivial));(case aO=>exact (by (with_reducible repeat (first|apply Kd.yg_|apply Kd.yh_|apply Kd.R_drew));exact Kd.R_mono (Kd.R_far (p:=⟨gb149,1,none⟩) (Kd.R_far (p:=⟨gb149,0,none⟩) (Kd.yRb_ HO_8.out BK149.out (by decide)) (fun _ hk=>hk.2) (.int .u8 ((rd_T120 t144 x25_1).f0))) (fun _ hk=>hk.2) (.string ((rd_T120 t144 x25_1).f1))) (fun _ hk=>trivial)));(case aS=>exact (yn_ (by repeat (with_reducible first|exact HB.out|apply yc_|apply ya_|apply yb_|refine yo_ ?_ GE149.out))));(case aL=>have:=LMc34.out;omega);intro v153 w42 ho hb hg hat;rw[← Ny152.out] at ho;have n0_:=Aside0.mk (Kd.ybb_ (by (with_reducible repeat (first|apply Kd.yg_|apply Kd.yh_|apply Kd.R_drew));exact (Kd.R_mono (Kd.R_far (p:=⟨gb149,1,none⟩) (Kd.R_far (p:=⟨gb149,0,none⟩) (Kd.R_mono HO_23.out (fun k_ hk=>(⟨hk,hk.2⟩:_∧k_≠gb149))) (fun _ hk=>hk.2) (.int .u8 ((rd_T120 t144 x25_1).f0))) (fun _ hk=>hk.2) (.string ((rd_T120 t144 x25_1).f1))) (fun _ h_=>h_.1))) (Kd.yO_ (by (with_reducible repeat (first|apply Kd.yg_|apply Kd.yh_|apply Kd.R_drew));exact (Kd.R_mono (Kd.R_far (p:=⟨gb149,1,none⟩) (Kd.R_far (p:=⟨gb149,0,none⟩) (Kd.yRb_ HO_8.out BK149.out (by decide)) (fun _ hk=>hk.2) (.int .u8 ((rd_T120 t144 x25_1).f0))) (fun _ hk=>hk.2) (.string ((rd_T120 t144 x25_1).f1))) (fun _ h_=>h_.1)))) (by decide) hg);have n1_:=Aside0.mk (y1b_ (g:=gb149) (o:=.cells #[.int .u8 ((rd_T120 t144 x25_1).f0),.string ((rd_T120 t144 x25_1).f1)] 120 (0,0)) (by (with_reducible repeat (first|refine yx_ ?_ _|refine yA_ ?_|refine yw_ ?_ _));refine yqb_ (cs:=#[.int .u8 ((rd_T120 t144 x25_1).f0),.string (⟨#[]⟩:ByteArray)]) ?_ 1 _ rfl;(with_reducible repeat (first|refine yx_ ?_ _|refine yA_ ?_|refine yw_ ?_ _));refine yqb_ (cs:=#[.int .u8 0,.string (⟨#[]⟩:ByteArray)]) ?_ 0 _ rfl;(with_reducible repeat (first|refine yx_ ?_ _|refine yA_ ?_|refine yw_ ?_ _));exact BK149.out) hg (Kd.R_ne HO_8.out BK149.out (by decide)));have n2_:=Aside0.mk (hb);have n3_:=Aside0.mk (ho);clear HO_23;clear BK149;clear HB;clear HO_8;have HO_23:=n0_;have BK149:=n1_;have HB:=n2_;have HO154:=n3_;clear n0_ n1_ n2_ n3_;clear ho hb hg hat;obtain⟨Ao43,co43,eo43⟩:=Kd.yC_ HO154.out;subst eo43;have p38:0≤((ji35):Int):=of_decide_eq_true (by assumption);have q38:((ji35):Int) < ((y152.length:Int):Int):=of_decide_eq_true (by assumption);obtain⟨go38,co38,eo38,gb38,gl38,cl38,HG38⟩:=Kd.R_form HO154.out (by omega);(first|cases eo38|(injection eo38 with ea_ en_ ec_;(first|subst ea_|(injection ea_ with ea_;subst ea_));subst ec_;clear en_));have GB38:=Aside0.mk gb38;have GG38:=Aside0.mk HG38;clear gb38 gl38 HG38;obtain⟨ce38,hcl38,hM38,hcc38,hfr38⟩:=Kd.R_elem HO154.out z59 ((ji35):Int) p38 q38;obtain rfl:=yzb_ hM38;have hx38_0:w42.cell? ⟨go38,((ji35):Int).toNat * 3,none⟩=some (.int .i64 ((rd_T59 y152 (ji35)).f0)):=hcc38 0 _ rfl;have hx38_1:w42.cell? ⟨go38,((ji35):Int).toNat * 3+1,none⟩=some (.int .i64 ((rd_T59 y152 (ji35)).f1)):=hcc38 1 _ rfl;have hx38_2:w42.cell? ⟨go38,((ji35):Int).toNat * 3+2,none⟩=some (.string ((rd_T59 y152 (ji35)).f2)):=hcc38 2 _ rfl;have hf38_0:w42.frozen? ⟨go38,((ji35):Int).toNat * 3,none⟩=false:=hfr38 0;have hf38_1:w42.frozen? ⟨go38,((ji35):Int).toNat * 3+1,none⟩=false:=hfr38 1;have hf38_2:w42.frozen? ⟨go38,((ji35):Int).toNat * 3+2,none⟩=false:=hfr38 2;clear hcl38 hcc38 hfr38 hM38;replace p38:=eq_true p38;replace q38:=eq_true q38;have hcz44_0:w42.cell? ⟨gb149,0,none⟩=some (.int .u8 ((rd_T120 t144 x25_1).f0)):=(yk_ BK149.out 0).trans rfl;have hcz44_1:w42.cell? ⟨gb149,1,none⟩=some (.string ((rd_T120 t144 x25_1).f1)):=(yk_ BK149.out 1).trans rfl;have hfz44_0:=ym_ BK149.out 0;have hfz44_1:=ym_ BK149.out 1;have HX45:=Aside0.mk (show Kd.R k59 59 w42 w.heap.size (fun _=>True) (.slice (some ⟨go38,0,none⟩) y152.length co43) y152 from (by (with_reducible repeat (first|apply Kd.yg_|apply Kd.yh_|apply Kd.R_drew));exact HO154.out));obtain⟨ce45,hcl45,hM45,hcc45,hfr45⟩:=Kd.R_elem HX45.out z59 ((ji35):Int) (of_decide_eq_true (by assumption)) (by have h_:((ji35):Int) < ((y152.length:Int):Int):=of_decide_eq_true (by assumption);first|exact h_|(have e_:=(Kd.ys_ HO154.out).1;omega)|simpa using h_);obtain rfl:=yzb_ hM45;have HP45:=Kd.R_seg HX45.out ((ji35):Int) (of_decide_eq_true (by assumption)) (by have h_:((ji35):Int) < ((y152.length:Int):Int):=of_decide_eq_true (by assumption);first|exact h_|(have e_:=(Kd.ys_ HO154.out).1;omega)|simpa using h_) (seg:=[.int .i64 (wrap64 (x9_1+(((rd_T120 t144 x25_1).f1).size:Int)))]) (j:=1) hcl45 hcc45 (show 2≤3 from by decide) (x':=(⟨(rd_T59 y152 (ji35)).f0,wrap64 (x9_1+(((rd_T120 t144 x25_1).f1).size:Int)),(rd_T59 y152 (ji35)).f2⟩:S59)) (yXb_ _ _ _ (⟨(rd_T59 y152 (ji35)).f0,wrap64 (x9_1+(((rd_T120 t144 x25_1).f1).size:Int)),(rd_T59 y152 (ji35)).f2⟩:S59) ) (fun _ hk=>hk);have hx45_1:=hcc45 1 _ rfl;(try simp only[show (k59).sz=3 from rfl,Nat.mul_one,Nat.add_zero] at hx45_1);have hf45_1:=hfr45 1;(try simp only[show (k59).sz=3 from rfl,Nat.mul_one,Nat.add_zero] at hf45_1);clear hcl45 hcc45 hfr45 hM45)|((with_reducible refine yM_ (t:=3) (p:=61) rfl ?_);refine yH_ (t:=3) (p:=61) (v:=?vo_w46) (w1:=(w42.setCell ⟨go38,((ji35):Int).toNat * 3+1,none⟩ (.int .i64 (wrap64 (x9_1+(((rd_T120 t144 x25_1).f1).size:Int)))))) ?hg ?ho ?hn ?hr ?_;(case ho=>rfl);(case hg=>rfl);(case hn=>rfl);(case hr=>first|(go_simp;done)|(go_simp;rfl));intro w46 hw;have hg:w42.grownBy w46 (some go38):=(by rw[hw];exact HP45.2);have hp_:Kd.R k59 59 w46 w.heap.size (fun _=>True) (.slice (some ⟨go38,0,none⟩) y152.length co43) y155:=(by rw[hw,Ny155.out];exact HP45.1);clear HP45;have n0_:=Aside0.mk (Kd.ybb_ (v:=(.slice (some ⟨go38,0,none⟩) y152.length co43)) (by (with_reducible repeat (first|apply Kd.yg_|apply Kd.yh_|apply Kd.R_drew));exact HO_23.out) (Kd.yO_ HO154.out) (by decide) hg);have n1_:=Aside0.mk (y1b_ (g:=gb149) (o:=.cells #[.int .u8 ((rd_T120 t144 x25_1).f0),.string ((rd_T120 t144 x25_1).f1)] 120 (0,0)) (by (with_reducible repeat (first|refine yx_ ?_ _|refine yA_ ?_|refine yw_ ?_ _));exact BK149.out) hg (Kd.R_ne HO154.out BK149.out (by decide)));have n2_:=Aside0.mk (hp_);have n3_:=Aside0.mk ((by rw[hw];exact yo_ (HB.out) GB38.out:Below w.heap.size w w46));clear HO_23;clear BK149;clear HO154;clear HB;have HO_23:=n0_;have BK149:=n1_;have HO154:=n2_;have HB:=n3_;clear n0_ n1_ n2_ n3_;clear hg hw hp_))
    go_roundg k1
    case measure=>have:=HK1.out;omega
    case rel=>exact⟨(y155),(wrap64 (x9_1+(((rd_T120 t144 x25_1).f1).size:Int))),(true),(wrap64 (x25_1+1)),(by first|rfl|(simp;done)|(simp [*];done)),(by first|rfl|(simp;done)|(simp [*];done)),(by first|rfl|(simp;done)|(simp [*];done)),H',⟨by have:=HK1.out;omega⟩,⟨by (with_reducible repeat (first|apply Kd.yg_|apply Kd.yh_|apply Kd.R_drew));exact HO154.out⟩,⟨by (with_reducible repeat (first|apply Kd.yg_|apply Kd.yh_|apply Kd.R_drew));exact Kd.R_mono HO_23.out (fun _ hk=>trivial)⟩,⟨by repeat (with_reducible first|exact HB.out|apply yc_|apply ya_|apply yb_|refine yo_ ?_ GE149.out)⟩⟩
   rw[if_neg c39] at H
   have c39b0:(((rd_T120 t144 x25_1).f0) == 45)=false:=beq_eq_false_iff_ne.mpr c39
   have c39b1:(((rd_T120 t144 x25_1).f0) != 45)=true:=bne_iff_ne.mpr c39
   by_cases c47:((rd_T59 y152 (ji35)).f2).size+((rd_T120 t144 x25_1).f1).size≤9223372036854775807
   rotate_left
   ·rw[if_neg c47] at H
    exact absurd H (by simp)
   rw[if_pos c47] at H
   have c47b0:=eq_true c47
   have c47b1:decide (((rd_T59 y152 (ji35)).f2).size+((rd_T120 t144 x25_1).f1).size≤9223372036854775807)=true:=decide_eq_true c47
   try have c47b2:(9223372036854775807 < ((rd_T59 y152 (ji35)).f2).size+((rd_T120 t144 x25_1).f1).size)=False:=eq_false (Nat.not_lt.2 c47)
   obtain⟨y156,hy156⟩:∃ y_:List (S59),y_=(y152.set ((ji35):Int).toNat (⟨(rd_T59 y152 (ji35)).f0,(rd_T59 y152 (ji35)).f1,((rd_T59 y152 (ji35)).f2)++((rd_T120 t144 x25_1).f1)⟩:S59)):=⟨_,rfl⟩
   replace H:(yv_.l0 k1 y156 x9_1 true t144 (t144.length:Int) (wrap64 (x25_1+1)))=some (r1,r2):=by first|(rw[hy156];with_reducible exact H)|(have H2_:=(Option.bind_some _ _).symm.trans H;rw[hy156];with_reducible exact H2_)|(have H2_:=(Option.bind_some _ _).symm.trans H;with_reducible exact H2_)|with_reducible exact H|(rw[hy156];exact H)|exact H
   have Ny156:=Aside0.mk hy156
   clear hy156
   have H':=Aside0.mk H
   clear H
   have p148:0≤(x25_1:Int):=of_decide_eq_true (by assumption)
   have q148:x25_1 < (t144.length:Int):=of_decide_eq_true (by assumption)
   obtain⟨ad148,e148,hx148_0,hx148_1⟩:=at_T120 (Kd.ys_ HO_23.out).2.2 x25_1 p148 q148
   cases e148
   replace p148:=eq_true p148
   replace q148:=eq_true q148
   try go_wp2_with (first|((with_reducible refine yL_ (N:=12) rfl ?_);refine y0_ ?hg (N:=12) ?hd (cs:=#[.int .u8 0,.string (⟨#[]⟩:ByteArray)]) (t:=120) ?hr ?_;(case hd=>rfl);(case hg=>rfl);(case hr=>first|(go_simp;done)|(go_simp;rfl));intro gb149 hg w48 hbox hb;have n0_:=Aside0.mk (Kd.yV_ (by (with_reducible repeat (first|apply Kd.yg_|apply Kd.yh_|apply Kd.R_drew));exact HO_8.out) hb);have n1_:=Aside0.mk (Kd.yV_ (Kd.y9b_ (by (with_reducible repeat (first|apply Kd.yg_|apply Kd.yh_|apply Kd.R_drew));exact HO_23.out) gb149 (Nat.le_of_eq hg.symm)) hb);have n2_:=Aside0.mk (yp_ (by repeat (with_reducible first|exact HB.out|apply yc_|apply ya_|apply yb_)) hb);have n3_:=Aside0.mk (hbox);have n4_:=Aside0.mk ((by rw[hg];exact (yn_ (by repeat (with_reducible first|exact HB.out|apply yc_|apply ya_|apply yb_))):w.heap.size≤gb149));have n5_:=Aside0.mk ((by rw[hg];exact (yn_ (by repeat (with_reducible first|exact HB.out|apply yc_|apply ya_|apply yb_))):w.heap.size≤gb149));clear HO_8;clear HO_23;clear HB;have HO_8:=n0_;have HO_23:=n1_;have HB:=n2_;have BK149:=n3_;have GW149:=n4_;have GE149:=n5_;clear n0_ n1_ n2_ n3_ n4_ n5_;clear hb hbox hg;have hcz49_0:w48.cell? ⟨gb149,0,none⟩=some (.int .u8 0):=(yk_ BK149.out 0).trans rfl;have hcz49_1:w48.cell? ⟨gb149,1,none⟩=some (.string (⟨#[]⟩:ByteArray)):=(yk_ BK149.out 1).trans rfl;have hfz49_0:=ym_ BK149.out 0;have hfz49_1:=ym_ BK149.out 1)|((with_reducible refine yF_ (b:=.append) (xs:=#[.tmp 39,.tmp 43]) rfl ?_);at_builtin;refine Kd.y7_ k59 (w0:=w) w.heap.size rfl (.tmp 39) (.tmp 43) 55 59 (.agg #[(.int .i64 0),(.int .i64 0),(.string ⟨#[]⟩)]) 32 rfl Try.underlying55 info59 rfl (by decide) (by omega) u8 x8_1 (⟨x9_1,x9_1,(⟨#[]⟩:ByteArray)⟩:S59) [.int .i64 x9_1,.int .i64 x9_1,.string (⟨#[]⟩:ByteArray)] (fun _=>True) (fun _=>False) rfl (by first|(go_simp;done)|(go_simp;rfl)) ?aP (fun _ hk=>hk.elim) ?aF ?aO ?aB ?aS ?aL ?_;(case aP=>exact yXb_ _ _ _ (⟨x9_1,x9_1,(⟨#[]⟩:ByteArray)⟩:S59));(case aB=>exact (by repeat (with_reducible first|exact HB.out|apply yc_|apply ya_|apply yb_|refine yo_ ?_ GE149.out)));(case aF=>exact (fun _ _=>trivial));(case aO=>exact (by (with_reducible repeat (first|apply Kd.yg_|apply Kd.yh_|apply Kd.R_drew));exact Kd.R_mono (Kd.R_far (p:=⟨gb149,1,none⟩) (Kd.R_far (p:=⟨gb149,0,none⟩) (Kd.yRb_ HO_8.out BK149.out (by decide)) (fun _ hk=>hk.2) (.int .u8 ((rd_T120 t144 x25_1).f0))) (fun _ hk=>hk.2) (.string ((rd_T120 t144 x25_1).f1))) (fun _ hk=>trivial)));(case aS=>exact (yn_ (by repeat (with_reducible first|exact HB.out|apply yc_|apply ya_|apply yb_|refine yo_ ?_ GE149.out))));(case aL=>have:=LMc34.out;omega);intro v153 w50 ho hb hg hat;rw[← Ny152.out] at ho;have n0_:=Aside0.mk (Kd.ybb_ (by (with_reducible repeat (first|apply Kd.yg_|apply Kd.yh_|apply Kd.R_drew));exact (Kd.R_mono (Kd.R_far (p:=⟨gb149,1,none⟩) (Kd.R_far (p:=⟨gb149,0,none⟩) (Kd.R_mono HO_23.out (fun k_ hk=>(⟨hk,hk.2⟩:_∧k_≠gb149))) (fun _ hk=>hk.2) (.int .u8 ((rd_T120 t144 x25_1).f0))) (fun _ hk=>hk.2) (.string ((rd_T120 t144 x25_1).f1))) (fun _ h_=>h_.1))) (Kd.yO_ (by (with_reducible repeat (first|apply Kd.yg_|apply Kd.yh_|apply Kd.R_drew));exact (Kd.R_mono (Kd.R_far (p:=⟨gb149,1,none⟩) (Kd.R_far (p:=⟨gb149,0,none⟩) (Kd.yRb_ HO_8.out BK149.out (by decide)) (fun _ hk=>hk.2) (.int .u8 ((rd_T120 t144 x25_1).f0))) (fun _ hk=>hk.2) (.string ((rd_T120 t144 x25_1).f1))) (fun _ h_=>h_.1)))) (by decide) hg);have n1_:=Aside0.mk (y1b_ (g:=gb149) (o:=.cells #[.int .u8 ((rd_T120 t144 x25_1).f0),.string ((rd_T120 t144 x25_1).f1)] 120 (0,0)) (by (with_reducible repeat (first|refine yx_ ?_ _|refine yA_ ?_|refine yw_ ?_ _));refine yqb_ (cs:=#[.int .u8 ((rd_T120 t144 x25_1).f0),.string (⟨#[]⟩:ByteArray)]) ?_ 1 _ rfl;(with_reducible repeat (first|refine yx_ ?_ _|refine yA_ ?_|refine yw_ ?_ _));refine yqb_ (cs:=#[.int .u8 0,.string (⟨#[]⟩:ByteArray)]) ?_ 0 _ rfl;(with_reducible repeat (first|refine yx_ ?_ _|refine yA_ ?_|refine yw_ ?_ _));exact BK149.out) hg (Kd.R_ne HO_8.out BK149.out (by decide)));have n2_:=Aside0.mk (hb);have n3_:=Aside0.mk (ho);clear HO_23;clear BK149;clear HB;clear HO_8;have HO_23:=n0_;have BK149:=n1_;have HB:=n2_;have HO154:=n3_;clear n0_ n1_ n2_ n3_;clear ho hb hg hat;obtain⟨Ao51,co51,eo51⟩:=Kd.yC_ HO154.out;subst eo51;have p38:0≤((ji35):Int):=of_decide_eq_true (by assumption);have q38:((ji35):Int) < ((y152.length:Int):Int):=of_decide_eq_true (by assumption);obtain⟨go38,co38,eo38,gb38,gl38,cl38,HG38⟩:=Kd.R_form HO154.out (by omega);(first|cases eo38|(injection eo38 with ea_ en_ ec_;(first|subst ea_|(injection ea_ with ea_;subst ea_));subst ec_;clear en_));have GB38:=Aside0.mk gb38;have GG38:=Aside0.mk HG38;clear gb38 gl38 HG38;obtain⟨ce38,hcl38,hM38,hcc38,hfr38⟩:=Kd.R_elem HO154.out z59 ((ji35):Int) p38 q38;obtain rfl:=yzb_ hM38;have hx38_0:w50.cell? ⟨go38,((ji35):Int).toNat * 3,none⟩=some (.int .i64 ((rd_T59 y152 (ji35)).f0)):=hcc38 0 _ rfl;have hx38_1:w50.cell? ⟨go38,((ji35):Int).toNat * 3+1,none⟩=some (.int .i64 ((rd_T59 y152 (ji35)).f1)):=hcc38 1 _ rfl;have hx38_2:w50.cell? ⟨go38,((ji35):Int).toNat * 3+2,none⟩=some (.string ((rd_T59 y152 (ji35)).f2)):=hcc38 2 _ rfl;have hf38_0:w50.frozen? ⟨go38,((ji35):Int).toNat * 3,none⟩=false:=hfr38 0;have hf38_1:w50.frozen? ⟨go38,((ji35):Int).toNat * 3+1,none⟩=false:=hfr38 1;have hf38_2:w50.frozen? ⟨go38,((ji35):Int).toNat * 3+2,none⟩=false:=hfr38 2;clear hcl38 hcc38 hfr38 hM38;replace p38:=eq_true p38;replace q38:=eq_true q38;have hcz52_0:w50.cell? ⟨gb149,0,none⟩=some (.int .u8 ((rd_T120 t144 x25_1).f0)):=(yk_ BK149.out 0).trans rfl;have hcz52_1:w50.cell? ⟨gb149,1,none⟩=some (.string ((rd_T120 t144 x25_1).f1)):=(yk_ BK149.out 1).trans rfl;have hfz52_0:=ym_ BK149.out 0;have hfz52_1:=ym_ BK149.out 1))
   have n0_:=Aside0.mk (Kd.R_drew HO_23.out)
   have n1_:=Aside0.mk (Kd.R_drew HO154.out)
   have n2_:=Aside0.mk (yA_ BK149.out)
   have n3_:=Aside0.mk (yb_ HB.out)
   clear HO_23
   clear HO154
   clear BK149
   clear HB
   have HO_23:=n0_
   have HO154:=n1_
   have BK149:=n2_
   have HB:=n3_
   clear n0_ n1_ n2_ n3_
   obtain⟨ce54,hcl54,hM54,hcc54,hfr54⟩:=Kd.R_elem HO154.out z59 ((ji35):Int) (of_decide_eq_true (by assumption)) (by have h_:((ji35):Int) < ((y152.length:Int):Int):=of_decide_eq_true (by assumption);first|exact h_|(have e_:=(Kd.ys_ HO154.out).1;omega)|simpa using h_)
   obtain rfl:=yzb_ hM54
   have HP54:=(Kd.R_seg HO154.out ((ji35):Int) (of_decide_eq_true (by assumption)) (by have h_:((ji35):Int) < ((y152.length:Int):Int):=of_decide_eq_true (by assumption);first|exact h_|(have e_:=(Kd.ys_ HO154.out).1;omega)|simpa using h_) (seg:=[.string (((rd_T59 y152 (ji35)).f2)++((rd_T120 t144 x25_1).f1))]) (j:=2) hcl54 hcc54 (show 3≤3 from by decide) (x':=(⟨(rd_T59 y152 (ji35)).f0,(rd_T59 y152 (ji35)).f1,((rd_T59 y152 (ji35)).f2)++((rd_T120 t144 x25_1).f1)⟩:S59)) (yXb_ _ _ _ (⟨(rd_T59 y152 (ji35)).f0,(rd_T59 y152 (ji35)).f1,((rd_T59 y152 (ji35)).f2)++((rd_T120 t144 x25_1).f1)⟩:S59) ) (fun _ hk=>hk)).1
   rw[← Ny156.out] at HP54
   have HQ54:=Aside0.mk HP54
   have hxq54:=hcc54 2 _ rfl
   have hfq54:World.frozen? _ ⟨go38,((ji35):Int).toNat * 3+2,none⟩=false:=hfr54 2
   clear hcl54 hcc54 hfr54 hM54 HP54
   refine start_ (n:=10) (S:=fun w'=>w'.cell? ⟨gb149,0,none⟩=some (.int .u8 ((rd_T120 t144 x25_1).f0))∧w'.cell? ⟨gb149,1,none⟩=some (.string ((rd_T120 t144 x25_1).f1))∧w'.cell? ⟨go38,(ji35).toNat * 3+2,none⟩=some (.string ((rd_T59 y152 (ji35)).f2))) (ds:=[9]) (bA 10 0) (by kernel_rfl) rfl rfl ⟨(yk_ BK149.out 0).trans rfl,(yk_ BK149.out 1).trans rfl,hxq54⟩ (fun hHeld=>?_);refine yP_ yv_.tab19 yv_.bits19 (fun HT_ HW_=>?_)
   have GG38:=(show Aside0 (w50.drew.heap[go38]?=some (.cells cl38 59)) from GG38)
   generalize w50.drew=w53 at HO_23 HO154 BK149 HB HQ54 GG38 hxq54 hfq54 hHeld ⊢
   refine pu_ 0 62 (bA 10 1) HT_ ?_
   refine pu_ 1 63 (bA 10 3) HT_ ?_
   refine pu_ 2 64 (bA 10 7) HT_ ?_
   refine pu_ 4 66 (bA 10 23) HT_ ?_
   refine tk_ 3 65 (bA 10 31) rfl HT_ HW_ hHeld (by rintro w' ⟨s0,s1,s2⟩;go_simp;with_reducible rfl) ?_
   refine tk_ 5 67 (bA 10 63) rfl HT_ HW_ hHeld (by rintro w' ⟨s0,s1,s2⟩;go_simp;with_reducible rfl) ?_
   refine pu_ 6 68 (bA 10 127) HT_ ?_
   refine pu_ 7 69 (bA 10 255) HT_ ?_
   refine pu_ 8 70 (bA 10 511) HT_ ?_
   refine last_ (i:=9) (N:=none) (bA 10 1023) rfl rfl (one_of HT_.out (by kernel_rfl)) (by decide) (fun K hK=>?_)
   refine skip_ (w1:=?_) (by rfl) rfl ?_ ?_
   rotate_left
   ·go_simp
    rfl
   refine hK.out _ _ ?_
   clear hK K
   refine done_ (ydb_ HT_.out (by kernel_rfl)) ?_
   try go_wp2
   go_roundg k1
   case measure=>have:=HK1.out;omega
   case rel=>exact⟨(y156),(x9_1),(true),(wrap64 (x25_1+1)),(by first|rfl|(simp;done)|(simp [*];done)),(by first|rfl|(simp;done)|(simp [*];done)),(by first|rfl|(simp;done)|(simp [*];done)),H',⟨by have:=HK1.out;omega⟩,⟨by (with_reducible repeat (first|apply Kd.yg_|apply Kd.yh_|apply Kd.R_drew));exact HQ54.out⟩,⟨by (with_reducible repeat (first|apply Kd.yg_|apply Kd.yh_|apply Kd.R_drew));exact Kd.R_mono (Kd.R_far (p:=⟨go38,((ji35):Int).toNat * 3+2,none⟩) (Kd.yRb_ HO_23.out GG38.out (by decide)) (fun _ hk=>hk.2) (.string (((rd_T59 y152 (ji35)).f2)++((rd_T120 t144 x25_1).f1)))) (fun _ hk=>trivial)⟩,⟨by repeat (with_reducible first|exact HB.out|apply yc_|apply ya_|apply yb_|refine yo_ ?_ GB38.out|refine yo_ ?_ GE149.out)⟩⟩

end Go.Proofs.Ythimblhfjfngiaa.PText

-- mended25

namespace Go.Proofs.Ythimblhfjfngiaa.PText
open Go.RowKit Go.Proofs.YthimblhfjfngiaaW.PrintWords Go.Proofs.YthimblhfjfngiaaW.PrintLast Go.Proofs.YthimblhfjfngiaaW.PrintMore
attribute [local go_sem] y2_ y3_ yfb_ ygb_ yS_ yT_ y4_ y5_   -- for this text's walks alone
set_option linter.unusedVariables false
set_option linter.unusedSimpArgs false

def yEb_.f (k:Nat) (a0:ByteArray) (a1:ByteArray) (a2:ByteArray):Option ((List (S59)) × (List (S59)) × Int):=(yv_.f k a0 a1).bind fun bt157=>(if bt157.2=0 then ((yv_.f k a0 a2).bind fun bt161=>(if bt161.2=0 then (some (bt157.1,bt161.1,0)) else (some (([]:List (S59)),([]:List (S59)),bt161.2)))) else (some (([]:List (S59)),([]:List (S59)),bt157.2)))
set_option maxHeartbeats 8000000 in
set_option maxRecDepth 100000 in
theorem yEb_.calls (k:Nat) (a0:ByteArray) (a1:ByteArray) (a2:ByteArray) (r1:List (S59)) (r2:List (S59)) (r3:Int) (w:World) (h:yEb_.f k a0 a1 a2=some (r1,r2,r3)) :
  Calls Try.prog 23 #[.string a0,.string a1,.string a2] w fun e w'=>∃ v0_ v1_:Value,e=.returned (.tuple #[v0_,v1_,.int .i64 r3])∧Kd.R k59 59 w' w.heap.size (fun k_=>some k_≠(v1_:Value).ownBlock) v0_ r1∧Kd.R k59 59 w' w.heap.size (fun k_=>some k_≠(v0_:Value).ownBlock) v1_ r2∧Below w.heap.size w w':=by
 have HB:=Aside0.mk (Below.refl w.heap.size w)
 have H:((yv_.f k a0 a1).bind fun bt157=>(if bt157.2=0 then ((yv_.f k a0 a2).bind fun bt161=>(if bt161.2=0 then (some (bt157.1,bt161.1,0)) else (some (([]:List (S59)),([]:List (S59)),bt161.2)))) else (some (([]:List (S59)),([]:List (S59)),bt157.2))))=some (r1,r2,r3):=h
 clear h
 replace H:=Option.bind_eq_some_iff.mp H
 obtain⟨⟨t157,t158⟩,A40,H⟩:=H
 replace H:(if t158=0 then ((yv_.f k a0 a2).bind fun bt161=>(if bt161.2=0 then (some (t157,bt161.1,0)) else (some (([]:List (S59)),([]:List (S59)),bt161.2)))) else (some (([]:List (S59)),([]:List (S59)),t158)))=some (r1,r2,r3):=H
 have A4:=Aside0.mk A40
 clear A40
 by_cases c5:t158=0
 rotate_left
 ·rw[if_neg c5] at H
  have c5b0:(t158 == 0)=false:=beq_eq_false_iff_ne.mpr c5
  have c5b1:(t158 != 0)=true:=bne_iff_ne.mpr c5
  simp only[Option.some.injEq,Prod.mk.injEq] at H
  obtain⟨rfl,rfl,rfl⟩:=H
  go_enter Try.func23,Try.ntmps23
  go_wp2_with (first|((with_reducible refine yt_ (f:=41) rfl ?_);refine goesL_ (some 12) rfl rfl Try.func41 (by kernel_rfl) rfl #[.string a0,.string a1] rfl (by (try simp only[List.map_toArray,List.map_cons,List.map_nil]);first|done|rfl|(simp only[List.length_drop,List.length_take];rfl)) ?_;(with_reducible refine (yv_.calls k a0 a1 t157 t158 _ A4.out).mono ?_);rintro e w12 ⟨v159,rfl,ho0,hb⟩;refine⟨_,rfl,?_⟩;have n0_:=Aside0.mk (Kd.yJ_ ho0 (yn_ (by repeat (with_reducible first|exact HB.out|apply yc_|apply ya_|apply yb_))));have n1_:=Aside0.mk (yp_ (by repeat (with_reducible first|exact HB.out|apply yc_|apply ya_|apply yb_)) hb);clear HB;have HO160:=n0_;have HB:=n1_;clear n0_ n1_;(try clear hb);(try clear hb2);(try clear hk);(try clear hi);(try clear ho0)))
  go_ret3
  exact⟨_,_,by first|rfl|(simp [yq_,yr_] <;> rfl)|(simp [*,yq_,yr_] <;> rfl),by first|exact Kd.R_nil _ _ _ _ _|exact Kd.N_nil _ _ _ _ _|exact Kd.V_nil _ _ _ _ _|exact Kd.Q_nil _ _ _ _ _|exact Kd.S_nil _ _ _ _ _,by first|exact Kd.R_nil _ _ _ _ _|exact Kd.N_nil _ _ _ _ _|exact Kd.V_nil _ _ _ _ _|exact Kd.Q_nil _ _ _ _ _|exact Kd.S_nil _ _ _ _ _,by repeat (with_reducible first|exact HB.out|apply yc_|apply ya_|apply yb_)⟩
 rw[if_pos c5] at H
 have c5b0:(t158 == 0)=true:=beq_iff_eq.mpr c5
 have c5b1:(t158 != 0)=false:=bne_eq_false_iff_eq.mpr c5
 clear c5
 replace H:=Option.bind_eq_some_iff.mp H
 obtain⟨⟨t161,t162⟩,A60,H⟩:=H
 replace H:(if t162=0 then (some (t157,t161,0)) else (some (([]:List (S59)),([]:List (S59)),t162)))=some (r1,r2,r3):=H
 have A6:=Aside0.mk A60
 clear A60
 by_cases c7:t162=0
 ·rw[if_pos c7] at H
  have c7b0:(t162 == 0)=true:=beq_iff_eq.mpr c7
  have c7b1:(t162 != 0)=false:=bne_eq_false_iff_eq.mpr c7
  clear c7
  simp only[Option.some.injEq,Prod.mk.injEq] at H
  obtain⟨rfl,rfl,rfl⟩:=H
  go_enter Try.func23,Try.ntmps23
  go_wp2_with (first|((with_reducible refine yt_ (f:=41) rfl ?_);refine goesL_ (some 12) rfl rfl Try.func41 (by kernel_rfl) rfl #[.string a0,.string a1] rfl (by (try simp only[List.map_toArray,List.map_cons,List.map_nil]);first|done|rfl|(simp only[List.length_drop,List.length_take];rfl)) ?_;(with_reducible refine (yv_.calls k a0 a1 t157 t158 _ A4.out).mono ?_);rintro e w8 ⟨v159,rfl,ho0,hb⟩;refine⟨_,rfl,?_⟩;have n0_:=Aside0.mk (Kd.yJ_ ho0 (yn_ (by repeat (with_reducible first|exact HB.out|apply yc_|apply ya_|apply yb_))));have n1_:=Aside0.mk (yp_ (by repeat (with_reducible first|exact HB.out|apply yc_|apply ya_|apply yb_)) hb);clear HB;have HO160:=n0_;have HB:=n1_;clear n0_ n1_;(try clear hb);(try clear hb2);(try clear hk);(try clear hi);(try clear ho0))|((with_reducible refine yt_ (f:=41) rfl ?_);refine goesL_ (some 21) rfl rfl Try.func41 (by kernel_rfl) rfl #[.string a0,.string a2] rfl (by (try simp only[List.map_toArray,List.map_cons,List.map_nil]);first|done|rfl|(simp only[List.length_drop,List.length_take];rfl)) ?_;(with_reducible refine (yv_.calls k a0 a2 t161 t162 _ A6.out).mono ?_);rintro e w9 ⟨v163,rfl,ho0,hb⟩;refine⟨_,rfl,?_⟩;have n0_:=Aside0.mk (Kd.yFb_ (by (with_reducible repeat (first|apply Kd.yg_|apply Kd.yh_|apply Kd.R_drew));exact HO160.out) (Kd.R_base ho0) hb);have n1_:=Aside0.mk (Kd.yJ_ (Kd.R_new' ho0 (Kd.R_lt (by (with_reducible repeat (first|apply Kd.yg_|apply Kd.yh_|apply Kd.R_drew));exact HO160.out))) (yn_ (by repeat (with_reducible first|exact HB.out|apply yc_|apply ya_|apply yb_))));have n2_:=Aside0.mk (yp_ (by repeat (with_reducible first|exact HB.out|apply yc_|apply ya_|apply yb_)) hb);clear HO160;clear HB;have HO160:=n0_;have HO164:=n1_;have HB:=n2_;clear n0_ n1_ n2_;(try clear hb);(try clear hb2);(try clear hk);(try clear hi);(try clear ho0)))
  go_ret3
  exact⟨_,_,by first|rfl|(simp [yq_,yr_] <;> rfl)|(simp [*,yq_,yr_] <;> rfl),by (with_reducible repeat (first|apply Kd.yg_|apply Kd.yh_|apply Kd.R_drew));exact Kd.R_mono HO160.out (fun _ hk=>hk.2),by (with_reducible repeat (first|apply Kd.yg_|apply Kd.yh_|apply Kd.R_drew));exact Kd.R_mono HO164.out (fun _ hk=>hk.2),by repeat (with_reducible first|exact HB.out|apply yc_|apply ya_|apply yb_)⟩
 rw[if_neg c7] at H
 have c7b0:(t162 == 0)=false:=beq_eq_false_iff_ne.mpr c7
 have c7b1:(t162 != 0)=true:=bne_iff_ne.mpr c7
 simp only[Option.some.injEq,Prod.mk.injEq] at H
 obtain⟨rfl,rfl,rfl⟩:=H
 go_enter Try.func23,Try.ntmps23
 go_wp2_with (first|((with_reducible refine yt_ (f:=41) rfl ?_);refine goesL_ (some 12) rfl rfl Try.func41 (by kernel_rfl) rfl #[.string a0,.string a1] rfl (by (try simp only[List.map_toArray,List.map_cons,List.map_nil]);first|done|rfl|(simp only[List.length_drop,List.length_take];rfl)) ?_;(with_reducible refine (yv_.calls k a0 a1 t157 t158 _ A4.out).mono ?_);rintro e w10 ⟨v159,rfl,ho0,hb⟩;refine⟨_,rfl,?_⟩;have n0_:=Aside0.mk (Kd.yJ_ ho0 (yn_ (by repeat (with_reducible first|exact HB.out|apply yc_|apply ya_|apply yb_))));have n1_:=Aside0.mk (yp_ (by repeat (with_reducible first|exact HB.out|apply yc_|apply ya_|apply yb_)) hb);clear HB;have HO160:=n0_;have HB:=n1_;clear n0_ n1_;(try clear hb);(try clear hb2);(try clear hk);(try clear hi);(try clear ho0))|((with_reducible refine yt_ (f:=41) rfl ?_);refine goesL_ (some 21) rfl rfl Try.func41 (by kernel_rfl) rfl #[.string a0,.string a2] rfl (by (try simp only[List.map_toArray,List.map_cons,List.map_nil]);first|done|rfl|(simp only[List.length_drop,List.length_take];rfl)) ?_;(with_reducible refine (yv_.calls k a0 a2 t161 t162 _ A6.out).mono ?_);rintro e w11 ⟨v163,rfl,ho0,hb⟩;refine⟨_,rfl,?_⟩;have n0_:=Aside0.mk (Kd.yFb_ (by (with_reducible repeat (first|apply Kd.yg_|apply Kd.yh_|apply Kd.R_drew));exact HO160.out) (Kd.R_base ho0) hb);have n1_:=Aside0.mk (Kd.yJ_ (Kd.R_new' ho0 (Kd.R_lt (by (with_reducible repeat (first|apply Kd.yg_|apply Kd.yh_|apply Kd.R_drew));exact HO160.out))) (yn_ (by repeat (with_reducible first|exact HB.out|apply yc_|apply ya_|apply yb_))));have n2_:=Aside0.mk (yp_ (by repeat (with_reducible first|exact HB.out|apply yc_|apply ya_|apply yb_)) hb);clear HO160;clear HB;have HO160:=n0_;have HO164:=n1_;have HB:=n2_;clear n0_ n1_ n2_;(try clear hb);(try clear hb2);(try clear hk);(try clear hi);(try clear ho0)))
 go_ret3
 exact⟨_,_,by first|rfl|(simp [yq_,yr_] <;> rfl)|(simp [*,yq_,yr_] <;> rfl),by first|exact Kd.R_nil _ _ _ _ _|exact Kd.N_nil _ _ _ _ _|exact Kd.V_nil _ _ _ _ _|exact Kd.Q_nil _ _ _ _ _|exact Kd.S_nil _ _ _ _ _,by first|exact Kd.R_nil _ _ _ _ _|exact Kd.N_nil _ _ _ _ _|exact Kd.V_nil _ _ _ _ _|exact Kd.Q_nil _ _ _ _ _|exact Kd.S_nil _ _ _ _ _,by repeat (with_reducible first|exact HB.out|apply yc_|apply ya_|apply yb_)⟩

end Go.Proofs.Ythimblhfjfngiaa.PText

namespace Go.Proofs.Ythimblhfjfngiaa.PText
open Go.RowKit Go.Proofs.YthimblhfjfngiaaW.PrintWords Go.Proofs.YthimblhfjfngiaaW.PrintLast Go.Proofs.YthimblhfjfngiaaW.PrintMore
attribute [local go_sem] y2_ y3_ yfb_ ygb_ yS_ yT_ y4_ y5_   -- for this text's walks alone
set_option linter.unusedVariables false
set_option linter.unusedSimpArgs false

mutual
def yu_.l0:Nat→List (S59)→List (S59)→List (S67)→Int→Int→Option ((List (S67)) × Int)
 | 0,_,_,_,_,_=>none
 | k+1,x8,x9,x11,x26,x27=>if x27 < x26 then (yu_.l1 k x8 x9 x11 x27 x26 x27 (x9.length:Int) 0) else (some (x11,0))
def yu_.l1:Nat→List (S59)→List (S59)→List (S67)→Int→Int→Int→Int→Int→Option ((List (S67)) × Int)
 | 0,_,_,_,_,_,_,_,_=>none
 | k+1,x8,x9,x11,x12,x26,x27,x31,x32=>if x32 < x31 then (if 0≤x12 then (if x12 < (x8.length:Int) then (if 0≤x32 then (if x32 < (x9.length:Int) then ((yUb_.f ((rd_T59 x8 x12).f0) ((rd_T59 x8 x12).f1) ((rd_T59 x8 x12).f2) ((rd_T59 x9 x32).f0) ((rd_T59 x9 x32).f1) ((rd_T59 x9 x32).f2)).bind fun t398=>(if t398=true then (if x11.length < 8796093022208 then (yu_.l1 k x8 x9 (x11++[(⟨x12,x32⟩:S67)]) x12 x26 x27 x31 (wrap64 (x32+1))) else (none)) else (yu_.l1 k x8 x9 x11 x12 x26 x27 x31 (wrap64 (x32+1))))) else (none)) else (none)) else (none)) else (none)) else (yu_.l0 k x8 x9 x11 x26 (wrap64 (x27+1)))
end
def yu_.f (k:Nat) (a0:ByteArray) (a1:ByteArray) (a2:ByteArray):Option ((List (S67)) × Int):=(yEb_.f k a0 a1 a2).bind fun bt389=>(if bt389.2.2=0 then (yu_.l0 k bt389.1 bt389.2.1 ([]:List (S67)) (bt389.1.length:Int) 0) else (some (([]:List (S67)),bt389.2.2)))
def yu_.T11:Bool × List (List Nat × List Nat):=(true,[([],[]),([],[]),([0,1],[0,1]),([2],[2]),([],[]),([],[]),([4,5],[4,5]),([6],[6]),([3,7],[3,7])])
def yu_.B11:List Nat:=[0,0,3,7,0,0,48,112,255]
theorem yu_.tab11:rtab .any (opsOf Try.f8 11)=yu_.T11:=by kernel_rfl
theorem yu_.bits11:waitsOk yu_.T11.2 yu_.B11=true:=by kernel_rfl
set_option maxHeartbeats 8000000 in
set_option maxRecDepth 100000 in
theorem yu_.calls (k:Nat) (a0:ByteArray) (a1:ByteArray) (a2:ByteArray) (r1:List (S67)) (r2:Int) (w:World) (h:yu_.f k a0 a1 a2=some (r1,r2)) :
  Calls Try.prog 8 #[.string a0,.string a1,.string a2] w fun e w'=>∃ v0_:Value,e=.returned (.tuple #[v0_,.int .i64 r2])∧Kd.R k67 67 w' w.heap.size (fun _=>True) v0_ r1∧Below w.heap.size w w':=by
 have hu59:=Try.underlying59
 have hu67:=Try.underlying67
 have HB:=Aside0.mk (Below.refl w.heap.size w)
 have H:((yEb_.f k a0 a1 a2).bind fun bt389=>(if bt389.2.2=0 then (yu_.l0 k bt389.1 bt389.2.1 ([]:List (S67)) (bt389.1.length:Int) 0) else (some (([]:List (S67)),bt389.2.2))))=some (r1,r2):=h
 clear h
 replace H:=Option.bind_eq_some_iff.mp H
 obtain⟨⟨t389,t390,t391⟩,A40,H⟩:=H
 replace H:(if t391=0 then (yu_.l0 k t389 t390 ([]:List (S67)) (t389.length:Int) 0) else (some (([]:List (S67)),t391)))=some (r1,r2):=H
 have A4:=Aside0.mk A40
 clear A40
 by_cases c5:t391=0
 rotate_left
 ·rw[if_neg c5] at H
  have c5b0:(t391 == 0)=false:=beq_eq_false_iff_ne.mpr c5
  have c5b1:(t391 != 0)=true:=bne_iff_ne.mpr c5
  simp only[Option.some.injEq,Prod.mk.injEq] at H
  obtain⟨rfl,rfl⟩:=H
  go_enter Try.func8,Try.ntmps8
  go_wp2_with (first|((with_reducible refine yt_ (f:=23) rfl ?_);refine goesL_ (some 18) rfl rfl Try.func23 (by kernel_rfl) rfl #[.string a0,.string a1,.string a2] rfl (by (try simp only[List.map_toArray,List.map_cons,List.map_nil]);first|done|rfl|(simp only[List.length_drop,List.length_take];rfl)) ?_;(with_reducible refine (yEb_.calls k a0 a1 a2 t389 t390 t391 _ A4.out).mono ?_);rintro e w23 ⟨v392,v394,rfl,ho0,ho1,hb⟩;refine⟨_,rfl,?_⟩;have n0_:=Aside0.mk (Kd.yJ_ ho0 (yn_ (by repeat (with_reducible first|exact HB.out|apply yc_|apply ya_|apply yb_))));have n1_:=Aside0.mk (Kd.yJ_ ho1 (yn_ (by repeat (with_reducible first|exact HB.out|apply yc_|apply ya_|apply yb_))));have n2_:=Aside0.mk (yp_ (by repeat (with_reducible first|exact HB.out|apply yc_|apply ya_|apply yb_)) hb);clear HB;have HO393:=n0_;have HO395:=n1_;have HB:=n2_;clear n0_ n1_ n2_;(try clear hb);(try clear hb2);(try clear hk);(try clear hi);(try clear ho0);(try clear ho1)))
  go_ret2
  exact⟨_,by first|rfl|(simp [yq_,yr_] <;> rfl)|(simp [*,yq_,yr_] <;> rfl),by first|exact Kd.R_nil _ _ _ _ _|exact Kd.N_nil _ _ _ _ _|exact Kd.V_nil _ _ _ _ _|exact Kd.Q_nil _ _ _ _ _|exact Kd.S_nil _ _ _ _ _,by repeat (with_reducible first|exact HB.out|apply yc_|apply ya_|apply yb_)⟩
 rw[if_pos c5] at H
 have c5b0:(t391 == 0)=true:=beq_iff_eq.mpr c5
 have c5b1:(t391 != 0)=false:=bne_eq_false_iff_eq.mpr c5
 clear c5
 have H':=Aside0.mk H
 clear H
 go_enter Try.func8,Try.ntmps8
 go_wp2_with (first|((with_reducible refine yt_ (f:=23) rfl ?_);refine goesL_ (some 18) rfl rfl Try.func23 (by kernel_rfl) rfl #[.string a0,.string a1,.string a2] rfl (by (try simp only[List.map_toArray,List.map_cons,List.map_nil]);first|done|rfl|(simp only[List.length_drop,List.length_take];rfl)) ?_;(with_reducible refine (yEb_.calls k a0 a1 a2 t389 t390 t391 _ A4.out).mono ?_);rintro e w6 ⟨v392,v394,rfl,ho0,ho1,hb⟩;refine⟨_,rfl,?_⟩;have n0_:=Aside0.mk (Kd.yJ_ ho0 (yn_ (by repeat (with_reducible first|exact HB.out|apply yc_|apply ya_|apply yb_))));have n1_:=Aside0.mk (Kd.yJ_ ho1 (yn_ (by repeat (with_reducible first|exact HB.out|apply yc_|apply ya_|apply yb_))));have n2_:=Aside0.mk (yp_ (by repeat (with_reducible first|exact HB.out|apply yc_|apply ya_|apply yb_)) hb);clear HB;have HO393:=n0_;have HO395:=n1_;have HB:=n2_;clear n0_ n1_ n2_;(try clear hb);(try clear hb2);(try clear hk);(try clear hi);(try clear ho0);(try clear ho1);obtain⟨Ao7,co7,eo7⟩:=Kd.yC_ HO393.out;subst eo7))
 try simp only[Act.put,List.setIfInBounds_toArray,List.set_cons_succ,List.set_cons_zero]
 go_loopg [11,27] k (fun kq v11 v27 w'=>∃ (x11_1:List (S67)) (x27_1:Int),v27=.int .i64 x27_1∧Aside0 (yu_.l0 kq t389 t390 x11_1 (t389.length:Int) x27_1=some (r1,r2))∧Aside0 (kq≤k)∧Aside0 (Kd.R k59 59 w' w.heap.size (fun k_=>some k_≠(v394:Value).ownBlock) (.slice Ao7 t389.length co7) t389)∧Aside0 (Kd.R k59 59 w' w.heap.size (fun k_=>some k_≠((.slice Ao7 t389.length co7):Value).ownBlock) v394 t390)∧Aside0 (Kd.R k67 67 w' w.heap.size (fun _=>True) v11 x11_1)∧Aside0 (Below w.heap.size w w'))
 case atStart=>exact⟨(([]:List (S67))),(0),(by first|rfl|(simp;done)|(simp [*];done)),H',⟨Nat.le_refl _⟩,⟨by (with_reducible repeat (first|apply Kd.yg_|apply Kd.yh_|apply Kd.R_drew));exact HO393.out⟩,⟨by (with_reducible repeat (first|apply Kd.yg_|apply Kd.yh_|apply Kd.R_drew));exact HO395.out⟩,⟨by first|exact Kd.R_nil _ _ _ _ _|exact Kd.N_nil _ _ _ _ _|exact Kd.V_nil _ _ _ _ _|exact Kd.Q_nil _ _ _ _ _|exact Kd.S_nil _ _ _ _ _⟩,⟨by repeat (with_reducible first|exact HB.out|apply yc_|apply ya_|apply yb_)⟩⟩
 case round =>
  clear H'
  try clear c2
  try clear p2
  try clear c5
  try clear c5b0
  try clear c5b1
  obtain⟨x11_1,x27_1,rfl,HA,HK1,HO_8,HO_9,HO_11,HB⟩:=hrel
  cases gk with
  | zero=>exact absurd HA.out (by simp [yu_.l0])
  | succ k1 =>
   have H:=HA.out
   clear HA
   simp only[yu_.l0] at H
   by_cases c8:x27_1 < (t389.length:Int)
   rotate_left
   ·rw[if_neg c8] at H
    have c8b0:decide (x27_1 < (t389.length:Int))=false:=decide_eq_false c8
    clear c8
    simp only[Option.some.injEq,Prod.mk.injEq] at H
    obtain⟨rfl,rfl⟩:=H
    go_wp2
    go_ret2
    exact⟨_,by first|rfl|(simp [yq_,yr_] <;> rfl)|(simp [*,yq_,yr_] <;> rfl),by (with_reducible repeat (first|apply Kd.yg_|apply Kd.yh_|apply Kd.R_drew));exact HO_11.out,by repeat (with_reducible first|exact HB.out|apply yc_|apply ya_|apply yb_)⟩
   rw[if_pos c8] at H
   have c8b0:decide (x27_1 < (t389.length:Int))=true:=decide_eq_true c8
   clear c8
   have H':=Aside0.mk H
   clear H
   obtain⟨Ao9,co9,eo9⟩:=Kd.yC_ HO_9.out
   subst eo9
   go_wp2
   try simp only[Act.put,List.setIfInBounds_toArray,List.set_cons_succ,List.set_cons_zero]
   go_loopg [11,32] k1 (fun kq v11 v32 w'=>∃ (x11_2:List (S67)) (x32_2:Int),v32=.int .i64 x32_2∧Aside0 (yu_.l1 kq t389 t390 x11_2 x27_1 (t389.length:Int) x27_1 (t390.length:Int) x32_2=some (r1,r2))∧Aside0 (kq≤k1)∧Aside0 (Kd.R k59 59 w' w.heap.size (fun k_=>some k_≠((.slice Ao9 t390.length co9):Value).ownBlock) (.slice Ao7 t389.length co7) t389)∧Aside0 (Kd.R k59 59 w' w.heap.size (fun k_=>some k_≠((.slice Ao7 t389.length co7):Value).ownBlock) (.slice Ao9 t390.length co9) t390)∧Aside0 (Kd.R k67 67 w' w.heap.size (fun _=>True) v11 x11_2)∧Aside0 (Below w.heap.size w w'))
   case atStart=>exact⟨(x11_1),(0),(by first|rfl|(simp;done)|(simp [*];done)),H',⟨Nat.le_refl _⟩,⟨by (with_reducible repeat (first|apply Kd.yg_|apply Kd.yh_|apply Kd.R_drew));exact HO_8.out⟩,⟨by (with_reducible repeat (first|apply Kd.yg_|apply Kd.yh_|apply Kd.R_drew));exact HO_9.out⟩,⟨by (with_reducible repeat (first|apply Kd.yg_|apply Kd.yh_|apply Kd.R_drew));exact HO_11.out⟩,⟨by repeat (with_reducible first|exact HB.out|apply yc_|apply ya_|apply yb_)⟩⟩
   case round =>
    clear H'
    try clear c2
    try clear p2
    try clear c5
    try clear c5b0
    try clear c5b1
    try clear c8
    try clear c8b0
    try clear p2
    obtain⟨x11_2,x32_2,rfl,HA,HK2,HO_8,HO_9,HO_11,HB⟩:=hrel
    cases gk with
    | zero=>exact absurd HA.out (by simp [yu_.l1])
    | succ k2 =>
     have H:=HA.out
     clear HA
     simp only[yu_.l1] at H
     by_cases c10:x32_2 < (t390.length:Int)
     rotate_left
     ·rw[if_neg c10] at H
      have c10b0:decide (x32_2 < (t390.length:Int))=false:=decide_eq_false c10
      clear c10
      have H':=Aside0.mk H
      clear H
      go_wp2
      go_roundg k2
      case measure=>have:=HK1.out;have:=HK2.out;omega
      case rel=>exact⟨(x11_2),(wrap64 (x27_1+1)),(by first|rfl|(simp;done)|(simp [*];done)),H',⟨by have:=HK1.out;have:=HK2.out;omega⟩,⟨by (with_reducible repeat (first|apply Kd.yg_|apply Kd.yh_|apply Kd.R_drew));exact HO_8.out⟩,⟨by (with_reducible repeat (first|apply Kd.yg_|apply Kd.yh_|apply Kd.R_drew));exact HO_9.out⟩,⟨by (with_reducible repeat (first|apply Kd.yg_|apply Kd.yh_|apply Kd.R_drew));exact HO_11.out⟩,⟨by repeat (with_reducible first|exact HB.out|apply yc_|apply ya_|apply yb_)⟩⟩
     rw[if_pos c10] at H
     have c10b0:decide (x32_2 < (t390.length:Int))=true:=decide_eq_true c10
     clear c10
     by_cases c11:0≤x27_1
     rotate_left
     ·rw[if_neg c11] at H
      exact absurd H (by simp)
     rw[if_pos c11] at H
     have c11b0:decide (0≤x27_1)=true:=decide_eq_true c11
     clear c11
     by_cases c12:x27_1 < (t389.length:Int)
     rotate_left
     ·rw[if_neg c12] at H
      exact absurd H (by simp)
     rw[if_pos c12] at H
     have c12b0:decide (x27_1 < (t389.length:Int))=true:=decide_eq_true c12
     clear c12
     by_cases c13:0≤x32_2
     rotate_left
     ·rw[if_neg c13] at H
      exact absurd H (by simp)
     rw[if_pos c13] at H
     have c13b0:decide (0≤x32_2)=true:=decide_eq_true c13
     clear c13
     by_cases c14:x32_2 < (t390.length:Int)
     rotate_left
     ·rw[if_neg c14] at H
      exact absurd H (by simp)
     rw[if_pos c14] at H
     have c14b0:decide (x32_2 < (t390.length:Int))=true:=decide_eq_true c14
     clear c14
     replace H:=Option.bind_eq_some_iff.mp H
     obtain⟨t398,A150,H⟩:=H
     replace H:(if t398=true then (if x11_2.length < 8796093022208 then (yu_.l1 k2 t389 t390 (x11_2++[(⟨x27_1,x32_2⟩:S67)]) x27_1 (t389.length:Int) x27_1 (t390.length:Int) (wrap64 (x32_2+1))) else (none)) else (yu_.l1 k2 t389 t390 x11_2 x27_1 (t389.length:Int) x27_1 (t390.length:Int) (wrap64 (x32_2+1))))=some (r1,r2):=H
     have A15:=Aside0.mk A150
     clear A150
     by_cases c16:t398=true
     rotate_left
     ·replace c16:=Bool.eq_false_iff.mpr c16
      subst c16
      have H1:(yu_.l1 k2 t389 t390 x11_2 x27_1 (t389.length:Int) x27_1 (t390.length:Int) (wrap64 (x32_2+1)))=some (r1,r2):=by rw[if_neg (show ¬ (false=true) by decide)] at H;exact H
      clear H
      have H:=H1
      clear H1
      have H':=Aside0.mk H
      clear H
      try go_wp2
      have n0_:=Aside0.mk (Kd.R_drew HO_8.out)
      have n1_:=Aside0.mk (Kd.R_drew HO_9.out)
      have n2_:=Aside0.mk (Kd.R_drew HO_11.out)
      have n3_:=Aside0.mk (yb_ HB.out)
      clear HO_8
      clear HO_9
      clear HO_11
      clear HB
      have HO_8:=n0_
      have HO_9:=n1_
      have HO_11:=n2_
      have HB:=n3_
      clear n0_ n1_ n2_ n3_
      have p396:0≤(x27_1:Int):=of_decide_eq_true (by assumption)
      have q396:x27_1 < (t389.length:Int):=of_decide_eq_true (by assumption)
      obtain⟨ad396,e396,hx396_0,hx396_1,hx396_2⟩:=at_T59 (Kd.ys_ HO_8.out).2.2 x27_1 p396 q396
      cases e396
      replace p396:=eq_true p396
      replace q396:=eq_true q396
      have p397:0≤(x32_2:Int):=of_decide_eq_true (by assumption)
      have q397:x32_2 < (t390.length:Int):=of_decide_eq_true (by assumption)
      obtain⟨ad397,e397,hx397_0,hx397_1,hx397_2⟩:=at_T59 (Kd.ys_ HO_9.out).2.2 x32_2 p397 q397
      cases e397
      replace p397:=eq_true p397
      replace q397:=eq_true q397
      refine start_ (n:=9) (S:=fun w'=>w'.cell? (ad396.add ((x27_1).toNat * 3))=some (.int .i64 ((rd_T59 t389 x27_1).f0))∧w'.cell? ⟨(ad396.add ((x27_1).toNat * 3)).block,(ad396.add ((x27_1).toNat * 3)).off+1,none⟩=some (.int .i64 ((rd_T59 t389 x27_1).f1))∧w'.cell? ⟨(ad396.add ((x27_1).toNat * 3)).block,(ad396.add ((x27_1).toNat * 3)).off+2,none⟩=some (.string ((rd_T59 t389 x27_1).f2))∧w'.cell? (ad397.add ((x32_2).toNat * 3))=some (.int .i64 ((rd_T59 t390 x32_2).f0))∧w'.cell? ⟨(ad397.add ((x32_2).toNat * 3)).block,(ad397.add ((x32_2).toNat * 3)).off+1,none⟩=some (.int .i64 ((rd_T59 t390 x32_2).f1))∧w'.cell? ⟨(ad397.add ((x32_2).toNat * 3)).block,(ad397.add ((x32_2).toNat * 3)).off+2,none⟩=some (.string ((rd_T59 t390 x32_2).f2))) (ds:=[]) (bA 9 0) (by kernel_rfl) rfl rfl ⟨hx396_0,hx396_1,hx396_2,hx397_0,hx397_1,hx397_2⟩ (fun hHeld=>?_);refine yP_ yu_.tab11 yu_.bits11 (fun HT_ HW_=>?_)
      generalize wr.drew=w21 at HO_8 HO_9 HO_11 HB hx396_0 hx396_1 hx396_2 hx397_0 hx397_1 hx397_2 hHeld ⊢
      refine pu_ 0 35 (bA 9 1) HT_ ?_
      refine pu_ 1 36 (bA 9 3) HT_ ?_
      refine pu_ 2 37 (bA 9 7) HT_ ?_
      refine pu_ 4 39 (bA 9 23) HT_ ?_
      refine pu_ 5 40 (bA 9 55) HT_ ?_
      refine pu_ 6 41 (bA 9 119) HT_ ?_
      refine tk_ 3 38 (bA 9 127) rfl HT_ HW_ hHeld (by rintro w' ⟨s0,s1,s2,s3,s4,s5⟩;go_simp;with_reducible rfl) ?_
      refine tk_ 7 42 (bA 9 255) rfl HT_ HW_ hHeld (by rintro w' ⟨s0,s1,s2,s3,s4,s5⟩;go_simp;with_reducible rfl) ?_
      refine one_ (i:=8) (N:=some 43) (bA 9 511) rfl rfl (one_of HT_.out (by kernel_rfl)) (by decide) (fun K hK=>?_)
      refine goes_ Try.func26 (by kernel_rfl) rfl #[.agg #[.int .i64 ((rd_T59 t389 x27_1).f0),.int .i64 ((rd_T59 t389 x27_1).f1),.string ((rd_T59 t389 x27_1).f2)],.agg #[.int .i64 ((rd_T59 t390 x32_2).f0),.int .i64 ((rd_T59 t390 x32_2).f1),.string ((rd_T59 t390 x32_2).f2)]] (by rfl) rfl rfl (by (try simp only[List.map_toArray,List.map_cons,List.map_nil]);first|done|rfl|(simp only[List.length_drop,List.length_take];rfl)) ?_
      with_reducible refine (yUb_.calls ((rd_T59 t389 x27_1).f0) ((rd_T59 t389 x27_1).f1) ((rd_T59 t389 x27_1).f2) ((rd_T59 t390 x32_2).f0) ((rd_T59 t390 x32_2).f1) ((rd_T59 t390 x32_2).f2) false _ A15.out).mono ?_
      rintro e w22 ⟨rfl,hb⟩
      have HS0_:=(hb.cell (World.block_lt_of_cell? _ _ (hHeld.1))).trans (hHeld.1)
      have HS1_:=(hb.cell (World.block_lt_of_cell? _ _ (hHeld.2.1))).trans (hHeld.2.1)
      have HS2_:=(hb.cell (World.block_lt_of_cell? _ _ (hHeld.2.2.1))).trans (hHeld.2.2.1)
      have HS3_:=(hb.cell (World.block_lt_of_cell? _ _ (hHeld.2.2.2.1))).trans (hHeld.2.2.2.1)
      have HS4_:=(hb.cell (World.block_lt_of_cell? _ _ (hHeld.2.2.2.2.1))).trans (hHeld.2.2.2.2.1)
      have HS5_:=(hb.cell (World.block_lt_of_cell? _ _ (hHeld.2.2.2.2.2))).trans (hHeld.2.2.2.2.2)
      refine⟨_,rfl,?_⟩
      have n0_:=Aside0.mk (Kd.yV_ (by (with_reducible repeat (first|apply Kd.yg_|apply Kd.yh_|apply Kd.R_drew));exact HO_8.out) hb)
      have n1_:=Aside0.mk (Kd.yV_ (by (with_reducible repeat (first|apply Kd.yg_|apply Kd.yh_|apply Kd.R_drew));exact HO_9.out) hb)
      have n2_:=Aside0.mk (Kd.yV_ (by (with_reducible repeat (first|apply Kd.yg_|apply Kd.yh_|apply Kd.R_drew));exact HO_11.out) hb)
      have n3_:=Aside0.mk (yp_ (by repeat (with_reducible first|exact HB.out|apply yc_|apply ya_|apply yb_)) hb)
      clear HO_8
      clear HO_9
      clear HO_11
      clear HB
      have HO_8:=n0_
      have HO_9:=n1_
      have HO_11:=n2_
      have HB:=n3_
      clear n0_ n1_ n2_ n3_
      (try clear hb)
      (try clear hb2)
      (try clear hk)
      (try clear hi)
      refine hK.out _ _ ⟨HS0_,HS1_,HS2_,HS3_,HS4_,HS5_⟩ (fun hHeld=>?_)
      clear hK K
      refine norm_ (a':=?_) ?_ ?_
      rotate_left
      ·show Act.put _ (some 43) _=_
       simp only[Act.put,q1_,q2_,q3_,i64_w,i32_w]
       rfl
      refine done_ (ydb_ HT_.out (by kernel_rfl)) ?_
      try go_wp2
      go_roundg k2
      case measure=>have:=HK1.out;have:=HK2.out;omega
      case rel=>exact⟨(x11_2),(wrap64 (x32_2+1)),(by first|rfl|(simp;done)|(simp [*];done)),H',⟨by have:=HK1.out;have:=HK2.out;omega⟩,⟨by (with_reducible repeat (first|apply Kd.yg_|apply Kd.yh_|apply Kd.R_drew));exact HO_8.out⟩,⟨by (with_reducible repeat (first|apply Kd.yg_|apply Kd.yh_|apply Kd.R_drew));exact HO_9.out⟩,⟨by (with_reducible repeat (first|apply Kd.yg_|apply Kd.yh_|apply Kd.R_drew));exact HO_11.out⟩,⟨by repeat (with_reducible first|exact HB.out|apply yc_|apply ya_|apply yb_)⟩⟩
     subst c16
     have H1:(if x11_2.length < 8796093022208 then (yu_.l1 k2 t389 t390 (x11_2++[(⟨x27_1,x32_2⟩:S67)]) x27_1 (t389.length:Int) x27_1 (t390.length:Int) (wrap64 (x32_2+1))) else (none))=some (r1,r2):=by rw[if_pos rfl] at H;exact H
     clear H
     have H:=H1
     clear H1
     by_cases c17:x11_2.length < 8796093022208
     rotate_left
     ·rw[if_neg c17] at H
      exact absurd H (by simp)
     rw[if_pos c17] at H
     have LMc17:=Aside0.mk c17
     clear c17
     obtain⟨y399,hy399⟩:∃ y_:List (S67),y_=(x11_2++[(⟨x27_1,x32_2⟩:S67)]):=⟨_,rfl⟩
     replace H:(yu_.l1 k2 t389 t390 y399 x27_1 (t389.length:Int) x27_1 (t390.length:Int) (wrap64 (x32_2+1)))=some (r1,r2):=by first|(rw[hy399];with_reducible exact H)|(have H2_:=(Option.bind_some _ _).symm.trans H;rw[hy399];with_reducible exact H2_)|(have H2_:=(Option.bind_some _ _).symm.trans H;with_reducible exact H2_)|with_reducible exact H|(rw[hy399];exact H)|exact H
     have Ny399:=Aside0.mk hy399
     clear hy399
     have H':=Aside0.mk H
     clear H
     try go_wp2
     have n0_:=Aside0.mk (Kd.R_drew HO_8.out)
     have n1_:=Aside0.mk (Kd.R_drew HO_9.out)
     have n2_:=Aside0.mk (Kd.R_drew HO_11.out)
     have n3_:=Aside0.mk (yb_ HB.out)
     clear HO_8
     clear HO_9
     clear HO_11
     clear HB
     have HO_8:=n0_
     have HO_9:=n1_
     have HO_11:=n2_
     have HB:=n3_
     clear n0_ n1_ n2_ n3_
     have p396:0≤(x27_1:Int):=of_decide_eq_true (by assumption)
     have q396:x27_1 < (t389.length:Int):=of_decide_eq_true (by assumption)
     obtain⟨ad396,e396,hx396_0,hx396_1,hx396_2⟩:=at_T59 (Kd.ys_ HO_8.out).2.2 x27_1 p396 q396
     cases e396
     replace p396:=eq_true p396
     replace q396:=eq_true q396
     have p397:0≤(x32_2:Int):=of_decide_eq_true (by assumption)
     have q397:x32_2 < (t390.length:Int):=of_decide_eq_true (by assumption)
     obtain⟨ad397,e397,hx397_0,hx397_1,hx397_2⟩:=at_T59 (Kd.ys_ HO_9.out).2.2 x32_2 p397 q397
     cases e397
     replace p397:=eq_true p397
     replace q397:=eq_true q397
     refine start_ (n:=9) (S:=fun w'=>w'.cell? (ad396.add ((x27_1).toNat * 3))=some (.int .i64 ((rd_T59 t389 x27_1).f0))∧w'.cell? ⟨(ad396.add ((x27_1).toNat * 3)).block,(ad396.add ((x27_1).toNat * 3)).off+1,none⟩=some (.int .i64 ((rd_T59 t389 x27_1).f1))∧w'.cell? ⟨(ad396.add ((x27_1).toNat * 3)).block,(ad396.add ((x27_1).toNat * 3)).off+2,none⟩=some (.string ((rd_T59 t389 x27_1).f2))∧w'.cell? (ad397.add ((x32_2).toNat * 3))=some (.int .i64 ((rd_T59 t390 x32_2).f0))∧w'.cell? ⟨(ad397.add ((x32_2).toNat * 3)).block,(ad397.add ((x32_2).toNat * 3)).off+1,none⟩=some (.int .i64 ((rd_T59 t390 x32_2).f1))∧w'.cell? ⟨(ad397.add ((x32_2).toNat * 3)).block,(ad397.add ((x32_2).toNat * 3)).off+2,none⟩=some (.string ((rd_T59 t390 x32_2).f2))) (ds:=[]) (bA 9 0) (by kernel_rfl) rfl rfl ⟨hx396_0,hx396_1,hx396_2,hx397_0,hx397_1,hx397_2⟩ (fun hHeld=>?_);refine yP_ yu_.tab11 yu_.bits11 (fun HT_ HW_=>?_)
     generalize wr.drew=w18 at HO_8 HO_9 HO_11 HB hx396_0 hx396_1 hx396_2 hx397_0 hx397_1 hx397_2 hHeld ⊢
     refine pu_ 0 35 (bA 9 1) HT_ ?_
     refine pu_ 1 36 (bA 9 3) HT_ ?_
     refine pu_ 2 37 (bA 9 7) HT_ ?_
     refine pu_ 4 39 (bA 9 23) HT_ ?_
     refine pu_ 5 40 (bA 9 55) HT_ ?_
     refine pu_ 6 41 (bA 9 119) HT_ ?_
     refine tk_ 3 38 (bA 9 127) rfl HT_ HW_ hHeld (by rintro w' ⟨s0,s1,s2,s3,s4,s5⟩;go_simp;with_reducible rfl) ?_
     refine tk_ 7 42 (bA 9 255) rfl HT_ HW_ hHeld (by rintro w' ⟨s0,s1,s2,s3,s4,s5⟩;go_simp;with_reducible rfl) ?_
     refine one_ (i:=8) (N:=some 43) (bA 9 511) rfl rfl (one_of HT_.out (by kernel_rfl)) (by decide) (fun K hK=>?_)
     refine goes_ Try.func26 (by kernel_rfl) rfl #[.agg #[.int .i64 ((rd_T59 t389 x27_1).f0),.int .i64 ((rd_T59 t389 x27_1).f1),.string ((rd_T59 t389 x27_1).f2)],.agg #[.int .i64 ((rd_T59 t390 x32_2).f0),.int .i64 ((rd_T59 t390 x32_2).f1),.string ((rd_T59 t390 x32_2).f2)]] (by rfl) rfl rfl (by (try simp only[List.map_toArray,List.map_cons,List.map_nil]);first|done|rfl|(simp only[List.length_drop,List.length_take];rfl)) ?_
     with_reducible refine (yUb_.calls ((rd_T59 t389 x27_1).f0) ((rd_T59 t389 x27_1).f1) ((rd_T59 t389 x27_1).f2) ((rd_T59 t390 x32_2).f0) ((rd_T59 t390 x32_2).f1) ((rd_T59 t390 x32_2).f2) true _ A15.out).mono ?_
     rintro e w19 ⟨rfl,hb⟩
     have HS0_:=(hb.cell (World.block_lt_of_cell? _ _ (hHeld.1))).trans (hHeld.1)
     have HS1_:=(hb.cell (World.block_lt_of_cell? _ _ (hHeld.2.1))).trans (hHeld.2.1)
     have HS2_:=(hb.cell (World.block_lt_of_cell? _ _ (hHeld.2.2.1))).trans (hHeld.2.2.1)
     have HS3_:=(hb.cell (World.block_lt_of_cell? _ _ (hHeld.2.2.2.1))).trans (hHeld.2.2.2.1)
     have HS4_:=(hb.cell (World.block_lt_of_cell? _ _ (hHeld.2.2.2.2.1))).trans (hHeld.2.2.2.2.1)
     have HS5_:=(hb.cell (World.block_lt_of_cell? _ _ (hHeld.2.2.2.2.2))).trans (hHeld.2.2.2.2.2)
     refine⟨_,rfl,?_⟩
     have n0_:=Aside0.mk (Kd.yV_ (by (with_reducible repeat (first|apply Kd.yg_|apply Kd.yh_|apply Kd.R_drew));exact HO_8.out) hb)
     have n1_:=Aside0.mk (Kd.yV_ (by (with_reducible repeat (first|apply Kd.yg_|apply Kd.yh_|apply Kd.R_drew));exact HO_9.out) hb)
     have n2_:=Aside0.mk (Kd.yV_ (by (with_reducible repeat (first|apply Kd.yg_|apply Kd.yh_|apply Kd.R_drew));exact HO_11.out) hb)
     have n3_:=Aside0.mk (yp_ (by repeat (with_reducible first|exact HB.out|apply yc_|apply ya_|apply yb_)) hb)
     clear HO_8
     clear HO_9
     clear HO_11
     clear HB
     have HO_8:=n0_
     have HO_9:=n1_
     have HO_11:=n2_
     have HB:=n3_
     clear n0_ n1_ n2_ n3_
     (try clear hb)
     (try clear hb2)
     (try clear hk)
     (try clear hi)
     refine hK.out _ _ ⟨HS0_,HS1_,HS2_,HS3_,HS4_,HS5_⟩ (fun hHeld=>?_)
     clear hK K
     refine norm_ (a':=?_) ?_ ?_
     rotate_left
     ·show Act.put _ (some 43) _=_
      simp only[Act.put,q1_,q2_,q3_,i64_w,i32_w]
      rfl
     refine done_ (ydb_ HT_.out (by kernel_rfl)) ?_
     try go_wp2_with (first|((with_reducible refine yF_ (b:=.append) (xs:=#[.tmp 44,.tmp 48]) rfl ?_);at_builtin;refine Kd.y7_ k67 (w0:=w) w.heap.size rfl (.tmp 44) (.tmp 48) 25 67 (.agg #[(.int .i64 0),(.int .i64 0)]) 16 rfl Try.underlying25 info67 rfl (by decide) (by omega) u11 x11_2 (⟨x27_1,x32_2⟩:S67) [.int .i64 x27_1,.int .i64 x32_2] (fun _=>True) (fun _=>False) rfl rfl ?aP (fun _ hk=>hk.elim) ?aF ?aO ?aB ?aS ?aL ?_;(case aP=>exact k67_mkM _ _ _ (⟨x27_1,x32_2⟩:S67));(case aB=>exact (by repeat (with_reducible first|exact HB.out|apply yc_|apply ya_|apply yb_)));(case aF=>exact (fun _ _=>trivial));(case aO=>exact (by (with_reducible repeat (first|apply Kd.yg_|apply Kd.yh_|apply Kd.R_drew));exact HO_11.out));(case aS=>exact (yn_ (by repeat (with_reducible first|exact HB.out|apply yc_|apply ya_|apply yb_))));(case aL=>have:=LMc17.out;omega);intro v400 w20 ho hb hg hat;rw[← Ny399.out] at ho;have n0_:=Aside0.mk (Kd.ybb_ (by (with_reducible repeat (first|apply Kd.yg_|apply Kd.yh_|apply Kd.R_drew));exact HO_8.out) (Kd.yO_ (by (with_reducible repeat (first|apply Kd.yg_|apply Kd.yh_|apply Kd.R_drew));exact HO_11.out)) (by decide) hg);have n1_:=Aside0.mk (Kd.ybb_ (by (with_reducible repeat (first|apply Kd.yg_|apply Kd.yh_|apply Kd.R_drew));exact HO_9.out) (Kd.yO_ (by (with_reducible repeat (first|apply Kd.yg_|apply Kd.yh_|apply Kd.R_drew));exact HO_11.out)) (by decide) hg);have n2_:=Aside0.mk (hb);have n3_:=Aside0.mk (ho);clear HO_8;clear HO_9;clear HB;clear HO_11;have HO_8:=n0_;have HO_9:=n1_;have HB:=n2_;have HO401:=n3_;clear n0_ n1_ n2_ n3_;clear ho hb hg hat))
     go_roundg k2
     case measure=>have:=HK1.out;have:=HK2.out;omega
     case rel=>exact⟨(y399),(wrap64 (x32_2+1)),(by first|rfl|(simp;done)|(simp [*];done)),H',⟨by have:=HK1.out;have:=HK2.out;omega⟩,⟨by (with_reducible repeat (first|apply Kd.yg_|apply Kd.yh_|apply Kd.R_drew));exact HO_8.out⟩,⟨by (with_reducible repeat (first|apply Kd.yg_|apply Kd.yh_|apply Kd.R_drew));exact HO_9.out⟩,⟨by (with_reducible repeat (first|apply Kd.yg_|apply Kd.yh_|apply Kd.R_drew));exact HO401.out⟩,⟨by repeat (with_reducible first|exact HB.out|apply yc_|apply ya_|apply yb_)⟩⟩

end Go.Proofs.Ythimblhfjfngiaa.PText

namespace Go.Proofs.Ythimblhfjfngiaa.PText
open Go.RowKit Go.Lib Go.Proofs.YthimblhfjfngiaaW.PrintWords Go.Proofs.YthimblhfjfngiaaW.PrintLast Go.Proofs.YthimblhfjfngiaaW.PrintMore
theorem stp_len {α:Type} [DecidableEq α]:∀ (k:Nat) (l m:List α),l.length+m.length≤k→(Tx.stp l m).length≤l.length+m.length:=by
  intro k
  induction k with
  | zero =>
    intro l m h
    have hl:l=[]:=List.eq_nil_of_length_eq_zero (by omega)
    have hm:m=[]:=List.eq_nil_of_length_eq_zero (by omega)
    subst hl hm
    rw[Tx.stp];exact Nat.le_refl _
  | succ k ih =>
    intro l m h
    match l,m,h with
    | [],[],_=>rw[Tx.stp];exact Nat.le_refl _
    | a :: l,[],h =>
      simp only[List.length_cons,List.length_nil] at h
      have:=ih l [] (by simp;omega)
      rw[Tx.stp]
      simp only[List.length_cons,List.length_nil] at *
      omega
    | [],b :: m,h =>
      simp only[List.length_cons,List.length_nil] at h
      have:=ih [] m (by simp;omega)
      rw[Tx.stp]
      simp only[List.length_cons,List.length_nil] at *
      omega
    | a :: l,b :: m,h =>
      simp only[List.length_cons] at h
      rw[Tx.stp]
      by_cases e:a=b
      · rw[if_pos e]
        have:=ih l m (by omega)
        simp only[List.length_cons];omega
      rw[if_neg e]
      split
      · have:=ih l (b :: m) (by simp only[List.length_cons];omega)
        simp only[List.length_cons] at *;omega
      · have:=ih (a :: l) m (by simp only[List.length_cons];omega)
        simp only[List.length_cons] at *;omega
theorem stS_len (a b:List ByteArray):(stS a b).length≤a.length+b.length:=by
  unfold stS
  rw[List.length_map]
  have:=stp_len _ (a.map bL) (b.map bL) (Nat.le_refl _)
  rw[List.length_map,List.length_map] at this
  exact this
/-- the steps from one text to another one, or the error -/
def sizedR (a b:ByteArray) (ctx:Int):List S120 × Int :=
  if 200000 < a.size∨200000 < b.size∨2000 < (linesB a).length∨2000 < (linesB b).length then ([],2) else if ctx < 0∨20 < ctx then ([],1) else (stS (linesB a) (linesB b),0)
theorem sized_zero {a b:ByteArray} {ctx:Int} (h:(sizedR a b ctx).2=0):sizedR a b ctx=(stS (linesB a) (linesB b),0)∧0≤ctx∧ctx≤20∧(linesB a).length≤2000∧(linesB b).length≤2000∧a.size≤200000∧b.size≤200000:=by
  unfold sizedR at h ⊢
  by_cases c1:200000 < a.size∨200000 < b.size∨2000 < (linesB a).length∨2000 < (linesB b).length
  · rw[if_pos c1] at h;cases h
  rw[if_neg c1] at h ⊢
  by_cases c2:ctx < 0∨20 < ctx
  · rw[if_pos c2] at h;cases h
  rw[if_neg c2]
  exact⟨rfl,by omega,by omega,by omega,by omega,by omega,by omega⟩
theorem sized_nil {a b:ByteArray} {ctx:Int} (h:(sizedR a b ctx).2≠0):(sizedR a b ctx).1=[]∧((sizedR a b ctx).2=1∨(sizedR a b ctx).2=2):=by
  unfold sizedR at h ⊢
  by_cases c1:200000 < a.size∨200000 < b.size∨2000 < (linesB a).length∨2000 < (linesB b).length
  · rw[if_pos c1];exact⟨rfl,.inr rfl⟩
  rw[if_neg c1] at h ⊢
  by_cases c2:ctx < 0∨20 < ctx
  · rw[if_pos c2];exact⟨rfl,.inl rfl⟩
  rw[if_neg c2] at h;exact absurd rfl h
theorem sized_f (a b:ByteArray) (ctx:Int) (ha:a.size≤1000000000) (hb:b.size≤1000000000) (k:Nat) (hk:5000000≤k):yE_.f k a b ctx=some (sizedR a b ctx):=by
  obtain⟨k,rfl⟩:∃ q,k=q+1:=⟨k - 1,by omega⟩
  have ea:ycb_.f a=some (linesB a):=by unfold ycb_.f;rw[if_pos ha]
  have eb:ycb_.f b=some (linesB b):=by unfold ycb_.f;rw[if_pos hb]
  unfold yE_.f sizedR
  rw[ea,eb,Option.bind_some,Option.bind_some]
  have hT:yE_.j0 (k+1) ctx (linesB a) (linesB b) true=some ([],2):=by rw[yE_.j0,if_pos rfl]
  by_cases c1:200000 < a.size
  · rw[if_pos (show (a.size:Int) > 200000 by omega),if_pos (Or.inl c1),hT]
  rw[if_neg (show ¬ (a.size:Int) > 200000 by omega)]
  by_cases c2:200000 < b.size
  · rw[if_pos (show (b.size:Int) > 200000 by omega),if_pos (Or.inr (Or.inl c2)),hT]
  rw[if_neg (show ¬ (b.size:Int) > 200000 by omega)]
  by_cases c3:2000 < (linesB a).length
  · rw[if_pos (show ((linesB a).length:Int) > 2000 by omega),if_pos (Or.inr (Or.inr (Or.inl c3))),hT]
  rw[if_neg (show ¬ ((linesB a).length:Int) > 2000 by omega)]
  by_cases c4:2000 < (linesB b).length
  · rw[decide_eq_true (show ((linesB b).length:Int) > 2000 by omega),if_pos (Or.inr (Or.inr (Or.inr c4))),hT]
  rw[decide_eq_false (show ¬ ((linesB b).length:Int) > 2000 by omega),if_neg (by omega),yE_.j0,if_neg (by decide)]
  by_cases c5:ctx < 0
  · rw[if_pos c5,if_pos (Or.inl c5)]
  rw[if_neg c5]
  by_cases c6:20 < ctx
  · rw[if_pos c6,if_pos (Or.inr c6)]
  have hm:(linesB a).length * ((linesB b).length+2)≤2000 * 2002:=Nat.mul_le_mul (by omega) (by omega)
  rw[if_neg c6,if_neg (by omega),steps_f _ _ (by omega) (by omega) k (by omega),Option.bind_some]
end Go.Proofs.Ythimblhfjfngiaa.PText

namespace Go.Proofs.Ythimblhfjfngiaa.PText
open Go.RowKit Go.Lib Go.Proofs.YthimblhfjfngiaaW.PrintWords Go.Proofs.YthimblhfjfngiaaW.PrintLast Go.Proofs.YthimblhfjfngiaaW.PrintMore
def ofE (e:Tx.Ed):S59:=⟨e.f,e.t,⟨e.x.toArray⟩⟩
theorem rdSt (st:List (UInt8 × List UInt8)) (i:Nat) (h:i < st.length):rd_T120 (st.map toSt) (i:Int)=toSt st[i]:=by
  rw[rd78_at _ i (by rw[List.length_map];exact h),List.getElem_map]
theorem rdSr (st:List (UInt8 × List UInt8)) (i:Nat) (h:i < st.length):rd_T106 (st.map toSr) (i:Int)=toSr st[i]:=by
  unfold rd_T106
  rw[Int.toNat_natCast,List.getD_eq_getElem?_getD,List.getElem?_eq_getElem (by rw[List.length_map];exact h)]
  show (st.map toSr)[i]'(by rw[List.length_map];exact h)=_
  rw[List.getElem_map]
theorem u8_is (x:UInt8) (n:Nat) (hn:n < 256):((x.toNat:Nat):Int)=(n:Int)↔x=UInt8.ofNat n:=by
  constructor
  · intro h
    apply UInt8.toNat_inj.1
    rw[UInt8.toNat_ofNat',Nat.mod_eq_of_lt (by omega)]
    omega
  · intro h
    rw[h,UInt8.toNat_ofNat',Nat.mod_eq_of_lt (by omega)]
theorem u8_32 (x:UInt8):((x.toNat:Nat):Int)=32↔x=32:=u8_is x 32 (by omega)
theorem u8_45 (x:UInt8):((x.toNat:Nat):Int)=45↔x=45:=u8_is x 45 (by omega)
theorem u8_43 (x:UInt8):((x.toNat:Nat):Int)=43↔x=43:=u8_is x 43 (by omega)
theorem toSt0 (x:UInt8 × List UInt8):(toSt x).f0=((x.1.toNat:Nat):Int):=rfl
theorem toSr0 (x:UInt8 × List UInt8):(toSr x).f0=((x.1.toNat:Nat):Int):=rfl
theorem mk_size (l:List UInt8):(⟨l.toArray⟩:ByteArray).size=l.length:=by show l.toArray.size=_;simp
theorem toSt1 (x:UInt8 × List UInt8):((toSt x).f1).size=x.2.length:=mk_size _
theorem toSr1 (x:UInt8 × List UInt8):((toSr x).f1).size=x.2.length:=mk_size _
theorem mk_append (a b:List UInt8):(⟨a.toArray⟩:ByteArray)++⟨b.toArray⟩=⟨(a++b).toArray⟩:=by
  apply bL_ext;rw[bL_append];rfl
/-- a list that ends with an element -/
theorem last34 (D:List S59) (e:S59) (h:D.length≤1000000):wrap64 (((D++[e]).length:Int) - 1)=(D.length:Int):=by
  rw[List.length_append,List.length_singleton,w64 (by omega) (by omega)];omega
theorem get34 (D:List S59) (e:S59):rd_T59 (D++[e]) (D.length:Int)=e:=by
  unfold rd_T59
  rw[Int.toNat_natCast,List.getD_eq_getElem?_getD,List.getElem?_append_right (Nat.le_refl _),Nat.sub_self];rfl
theorem set34 (D:List S59) (e v:S59):(D++[e]).set (D.length:Int).toNat v=D++[v]:=by
  rw[Int.toNat_natCast,List.set_append_right _ _ (Nat.le_refl _),Nat.sub_self];rfl
/-- an edit that is open takes a step -/
theorem tEdit_step (k:Nat) (D:List S59) (e:Tx.Ed) (at_:Int) (st:List (UInt8 × List UInt8)) (i:Nat) (o:UInt8) (x:List UInt8) (hD:D.length≤1000000) (hb:e.x.length+x.length≤1000000000000) (W:Int) (hW:wrap64 (at_+(x.length:Int))=W) :
    (if 0≤wrap64 (((D++[ofE e]).length:Int) - 1) then if wrap64 (((D++[ofE e]).length:Int) - 1) < ((D++[ofE e]).length:Int) then
      if ((o.toNat:Nat):Int)=45 then yv_.l0 k ((D++[ofE e]).set (wrap64 (((D++[ofE e]).length:Int) - 1)).toNat ⟨(rd_T59 (D++[ofE e]) (wrap64 (((D++[ofE e]).length:Int) - 1))).f0,wrap64 (at_+(x.length:Int)),(rd_T59 (D++[ofE e]) (wrap64 (((D++[ofE e]).length:Int) - 1))).f2⟩) (wrap64 (at_+(x.length:Int))) true (st.map toSt) (st.length:Int) (wrap64 ((i:Int)+1))
      else if (rd_T59 (D++[ofE e]) (wrap64 (((D++[ofE e]).length:Int) - 1))).f2.size+x.length≤9223372036854775807 then yv_.l0 k ((D++[ofE e]).set (wrap64 (((D++[ofE e]).length:Int) - 1)).toNat ⟨(rd_T59 (D++[ofE e]) (wrap64 (((D++[ofE e]).length:Int) - 1))).f0,(rd_T59 (D++[ofE e]) (wrap64 (((D++[ofE e]).length:Int) - 1))).f1,(rd_T59 (D++[ofE e]) (wrap64 (((D++[ofE e]).length:Int) - 1))).f2++⟨x.toArray⟩⟩) at_ true (st.map toSt) (st.length:Int) (wrap64 ((i:Int)+1)) else none
    else none else none)=if o=45 then yv_.l0 k (D++[ofE ⟨e.f,W,e.x⟩]) W true (st.map toSt) (st.length:Int) (wrap64 ((i:Int)+1)) else yv_.l0 k (D++[ofE ⟨e.f,e.t,e.x++x⟩]) at_ true (st.map toSt) (st.length:Int) (wrap64 ((i:Int)+1)):=by
  have hs:(ofE e).f2.size=e.x.length:=mk_size _
  rw[last34 D _ hD,get34,set34,set34,hW,if_pos (by omega),if_pos (by rw[List.length_append,List.length_singleton];omega)]
  by_cases c:o=45
  · rw[if_pos ((u8_45 o).2 c),if_pos c];rfl
  rw[if_neg (fun q=>c ((u8_45 o).1 q)),if_neg c,if_pos (by rw[hs];omega)]
  have e3:(ofE e).f2++⟨x.toArray⟩=⟨(e.x++x).toArray⟩:=mk_append _ _
  rw[e3];rfl
theorem tEdits_l0 (st:List (UInt8 × List UInt8)) (hst:st.length≤100000) (hx:∀ x∈st,x.2.length≤1000000):∀ (n i k:Nat) (D:List S59) (c:Option Tx.Ed) (at_:Int),st.length - i=n→i≤st.length→n+1≤k→D.length+c.toList.length≤i→0≤at_→at_≤(i:Int) * 1000000→(∀ e∈c.toList,e.x.length≤i * 1000000) →
    yv_.l0 k (D++c.toList.map ofE) at_ c.isSome (st.map toSt) (st.length:Int) (i:Int)=some (D++(Tx.eg at_ c (st.drop i)).map ofE,0):=by
  intro n
  induction n with
  | zero =>
    intro i k D c at_ hn hi hk hD h0 h1 h2
    obtain⟨k,rfl⟩:∃ q,k=q+1:=⟨k - 1,by omega⟩
    rw[yv_.l0,if_neg (by omega),List.drop_of_length_le (by omega)]
    rfl
  | succ n ih =>
    intro i k D c at_ hn hi hk hD h0 h1 h2
    obtain⟨k,rfl⟩:∃ q,k=q+1:=⟨k - 1,by omega⟩
    have hlt:i < st.length:=by omega
    have hd:st.drop i=st[i] :: st.drop (i+1):=List.drop_eq_getElem_cons hlt
    have hxs:=hx st[i] (List.getElem_mem hlt)
    rw[hd,yv_.l0,if_pos (by omega),if_pos (by omega),if_pos (by rw[List.length_map];omega),rdSt st i hlt,toSt0,toSt1]
    rw[show (toSt st[i]).f1=⟨st[i].2.toArray⟩ from rfl]
    generalize st[i]=y at *
    obtain⟨o,x⟩:=y
    dsimp only
    have W:Aside0 (wrap64 (at_+(x.length:Int))=at_+(x.length:Int)):=⟨w64 (by omega) (by have:x.length≤1000000:=hxs;omega)⟩
    have hxl:x.length≤1000000:=hxs
    have N:Aside0 (wrap64 ((i:Int)+1)=((i+1:Nat):Int)):=⟨nx i (by omega)⟩
    by_cases c1:o=32
    · subst c1
      rw[if_pos (show (((32:UInt8).toNat:Nat):Int)=32 from rfl),Tx.eg_keep]
      rw[W.out,N.out]
      have:=ih (i+1) k (D++c.toList.map ofE) none (at_+(x.length:Int)) (by omega) (by omega) (by omega) (by rw[List.length_append,List.length_map];simp;omega) (by omega) (by omega) (fun e h=>by cases h)
      simp only[Option.toList_none,List.map_nil,List.append_nil,Option.isSome_none] at this
      rw[this,List.map_append,← List.append_assoc]
    rw[if_neg (fun q=>c1 ((u8_32 o).1 q))]
    -- the edit that is open, or a new one
    have main:∀ (e:Tx.Ed) (D':List S59),D'.length+1≤i+1→e.x.length≤i * 1000000 →
        (if o=45 then yv_.l0 k (D'++[ofE ⟨e.f,at_+(x.length:Int),e.x⟩]) (at_+(x.length:Int)) true (st.map toSt) (st.length:Int) (wrap64 ((i:Int)+1)) else yv_.l0 k (D'++[ofE ⟨e.f,e.t,e.x++x⟩]) at_ true (st.map toSt) (st.length:Int) (wrap64 ((i:Int)+1))) =
        some (D'++(if o=45 then Tx.eg (at_+(x.length:Int)) (some ⟨e.f,at_+(x.length:Int),e.x⟩) (st.drop (i+1)) else Tx.eg at_ (some ⟨e.f,e.t,e.x++x⟩) (st.drop (i+1))).map ofE,0):=by
      intro e D' hD' he
      rw[N.out]
      by_cases c2:o=45
      · rw[if_pos c2,if_pos c2]
        exact ih (i+1) k D' (some ⟨e.f,at_+(x.length:Int),e.x⟩) (at_+(x.length:Int)) (by omega) (by omega) (by omega) (by simp;omega) (by omega) (by omega) (fun e' h=>by have h3:=List.mem_singleton.1 h;subst h3;exact Nat.le_trans he (Nat.mul_le_mul_right _ (by omega)))
      rw[if_neg c2,if_neg c2]
      exact ih (i+1) k D' (some ⟨e.f,e.t,e.x++x⟩) at_ (by omega) (by omega) (by omega) (by simp;omega) (by omega) (by omega) (fun e' h=>by have h3:=List.mem_singleton.1 h;subst h3;have h4:(e.x++x).length=e.x.length+x.length:=List.length_append;exact Nat.le_trans (Nat.le_of_eq h4) (by rw[Nat.add_mul];omega))
    have hE:∀ e:Tx.Ed,Tx.eg at_ c ((o,x) :: st.drop (i+1))=(if o=45 then Tx.eg (at_+(x.length:Int)) (some ⟨(c.getD ⟨at_,at_,[]⟩).f,at_+(x.length:Int),(c.getD ⟨at_,at_,[]⟩).x⟩) (st.drop (i+1)) else Tx.eg at_ (some ⟨(c.getD ⟨at_,at_,[]⟩).f,(c.getD ⟨at_,at_,[]⟩).t,(c.getD ⟨at_,at_,[]⟩).x++x⟩) (st.drop (i+1))):=fun _=>by
      by_cases c2:o=45
      · subst c2;rw[if_pos rfl,Tx.eg_gone]
      rw[if_neg c2,Tx.eg_come at_ c o x _ c1 c2]
    rw[hE ⟨0,0,[]⟩]
    cases c with
    | some e =>
      have he:e.x.length≤i * 1000000:=h2 e (by simp)
      have hD':D.length+1≤i:=hD
      rw[if_pos (show (Option.isSome (some e))=true from rfl)]
      exact (tEdit_step k D e at_ st i o x (by omega) (by omega) _ W.out).trans (main e D (by omega) he)
    | none =>
      have hD':D.length≤i:=by simpa using hD
      rw[if_neg (show ¬ (Option.isSome (none:Option Tx.Ed))=true by decide),if_pos (by simp;omega),Option.bind_some]
      have e0:D++(none:Option Tx.Ed).toList.map ofE++[(⟨at_,at_,(⟨#[]⟩:ByteArray)⟩:S59)]=D++[ofE ⟨at_,at_,[]⟩]:=by simp [ofE]
      rw[e0]
      exact (tEdit_step k D ⟨at_,at_,[]⟩ at_ st i o x (by omega) (by simp;omega) _ W.out).trans (main ⟨at_,at_,[]⟩ D (by omega) (by simp))
end Go.Proofs.Ythimblhfjfngiaa.PText

namespace Go.Proofs.Ythimblhfjfngiaa.PText
open Go.RowKit Go.Lib Go.Proofs.YthimblhfjfngiaaW.PrintWords Go.Proofs.YthimblhfjfngiaaW.PrintLast Go.Proofs.YthimblhfjfngiaaW.PrintMore
theorem rEdits_l (st:List (UInt8 × List UInt8)) (hst:st.length≤100000) (hx:∀ x∈st,x.2.length≤1000000):∀ (n i:Nat),st.length - i=n→i≤st.length →
    (∀ (k:Nat) (D:List S59) (at_:Int),4 * n+5≤k→D.length≤i→0≤at_→at_≤(i:Int) * 1000000→ye_.l0 k (st.map toSr) D at_ (i:Int)=some (D++(Tx.eg at_ none (st.drop i)).map ofE,0)) ∧
    (∀ (k:Nat) (D:List S59) (f t:Int) (x:List UInt8),4 * n+4≤k→D.length≤i→0≤t→t≤(i:Int) * 1000000→x.length≤i * 1000000→ye_.l1 k (st.map toSr) D (i:Int) f t ⟨x.toArray⟩=some (D++(Tx.eg t (some ⟨f,t,x⟩) (st.drop i)).map ofE,0)):=by
  intro n
  have hlen:(st.map toSr).length=st.length:=List.length_map _
  induction n with
  | zero =>
    intro i hn hi
    have hd:st.drop i=[]:=List.drop_of_length_le (by omega)
    have l0:∀ (k:Nat) (D:List S59) (at_:Int),1≤k→ye_.l0 k (st.map toSr) D at_ (i:Int)=some (D,0):=fun k D at_ hk=>by
      obtain⟨k,rfl⟩:∃ q,k=q+1:=⟨k - 1,by omega⟩
      rw[ye_.l0,if_neg (by omega)]
    rw[hd]
    refine⟨fun k D at_ hk _ _ _=>?_,fun k D f t x hk hD _ _ _=>?_⟩
    · rw[l0 k D at_ (by omega)]
      show _=some (D++[].map ofE,0)
      rw[List.map_nil,List.append_nil]
    · obtain⟨k,rfl⟩:∃ q,k=q+2:=⟨k - 2,by omega⟩
      rw[ye_.l1,if_neg (by omega),ye_.j3,if_neg (by decide),if_pos (by omega),l0 k _ t (by omega)]
      rfl
  | succ n ih =>
    intro i hn hi
    have hlt:i < st.length:=by omega
    have hd:st.drop i=st[i] :: st.drop (i+1):=List.drop_eq_getElem_cons hlt
    have hxs:=hx st[i] (List.getElem_mem hlt)
    obtain⟨ih0,ih1⟩:=ih (i+1) (by omega) (by omega)
    have hr:=rdSr st i hlt
    rw[hd]
    generalize st[i]=y at *
    obtain⟨o,x⟩:=y
    have hf0:(rd_T106 (st.map toSr) (i:Int)).f0=((o.toNat:Nat):Int):=by rw[hr];rfl
    have hf1:(rd_T106 (st.map toSr) (i:Int)).f1=⟨x.toArray⟩:=by rw[hr];rfl
    have hfs:(⟨x.toArray⟩:ByteArray).size=x.length:=mk_size _
    have hxl:x.length≤1000000:=hxs
    have N:Aside0 (wrap64 ((i:Int)+1)=((i+1:Nat):Int)):=⟨nx i (by omega)⟩
    have keep0:o=32→∀ (k:Nat) (D:List S59) (at_:Int),4 * n+6≤k→D.length≤i+1→0≤at_→at_≤(i:Int) * 1000000→ye_.l0 k (st.map toSr) D at_ (i:Int)=some (D++(Tx.eg at_ none ((o,x) :: st.drop (i+1))).map ofE,0):=by
      rintro rfl k D at_ hk hD h0 h1
      obtain⟨k,rfl⟩:∃ q,k=q+1:=⟨k - 1,by omega⟩
      rw[ye_.l0,if_pos (by omega),if_pos (by omega),hf0,if_pos (show (((32:UInt8).toNat:Nat):Int)=32 from rfl),hf1,hfs,w64 (x:=at_+(x.length:Int)) (by omega) (by omega),N.out,ih0 k D (at_+(x.length:Int)) (by omega) hD (by omega) (by omega),Tx.eg_keep]
      rfl
    have l1:∀ (k:Nat) (D:List S59) (f t:Int) (X:List UInt8),4 * (n+1)+4≤k→D.length≤i→0≤t→t≤(i:Int) * 1000000→X.length≤i * 1000000→ye_.l1 k (st.map toSr) D (i:Int) f t ⟨X.toArray⟩=some (D++(Tx.eg t (some ⟨f,t,X⟩) ((o,x) :: st.drop (i+1))).map ofE,0):=by
      intro k D f t X hk hD h0 h1 h2
      obtain⟨k,rfl⟩:∃ q,k=q+2:=⟨k - 2,by omega⟩
      rw[ye_.l1,if_pos (by omega),if_pos (by omega),hf0]
      by_cases c1:o=32
      · have e:(((o.toNat:Nat):Int) != 32)=false:=by simp [c1]
        rw[e,ye_.j3,if_neg (by decide),if_pos (by omega),keep0 c1 k _ t (by omega) (by rw[List.length_append,List.length_singleton];omega) h0 h1]
        subst c1
        rw[Tx.eg_keep,Tx.eg_keep,List.append_assoc]
        rfl
      have e:(((o.toNat:Nat):Int) != 32)=true:=by rw[bne_iff_ne];exact fun q=>c1 ((u8_32 o).1 q)
      rw[e,ye_.j3,if_pos rfl,if_pos (by omega),if_pos (by omega),hf0,hf1,hfs,N.out]
      by_cases c2:o=45
      · rw[if_pos ((u8_45 o).2 c2),w64 (x:=t+(x.length:Int)) (by omega) (by omega),ih1 k D f (t+(x.length:Int)) X (by omega) (by omega) (by omega) (by omega) (Nat.le_trans h2 (Nat.mul_le_mul_right _ (by omega)))]
        subst c2
        rw[Tx.eg_gone];rfl
      have hs:(⟨X.toArray⟩:ByteArray).size=X.length:=mk_size _
      rw[if_neg (fun q=>c2 ((u8_45 o).1 q)),hs,if_pos (by omega),mk_append,ih1 k D f t (X++x) (by omega) (by omega) (by omega) (by omega) (by have h4:(X++x).length=X.length+x.length:=List.length_append;exact Nat.le_trans (Nat.le_of_eq h4) (by rw[Nat.add_mul];omega)),Tx.eg_come t _ o x _ c1 c2]
      rfl
    refine⟨fun k D at_ hk hD h0 h1=>?_,l1⟩
    by_cases c1:o=32
    · exact keep0 c1 k D at_ (by omega) (by omega) h0 h1
    obtain⟨k,rfl⟩:∃ q,k=q+1:=⟨k - 1,by omega⟩
    have e:=l1 k D at_ at_ [] (by omega) hD h0 h1 (Nat.zero_le _)
    rw[ye_.l0,if_pos (by omega),if_pos (by omega),hf0,if_neg (fun q=>c1 ((u8_32 o).1 q))]
    refine e.trans ?_
    by_cases c2:o=45
    · subst c2;rw[Tx.eg_gone,Tx.eg_gone];rfl
    rw[Tx.eg_come at_ _ o x _ c1 c2,Tx.eg_come at_ _ o x _ c1 c2];rfl
theorem yVb_ (s:ByteArray):(linesB s).map bL=Tx.lines (bL s):=by
  unfold linesB
  rw[List.map_map]
  exact (List.map_congr_left (fun x _=>bL_mk x)).trans (List.map_id _)
theorem flat_mem {α:Type}:∀ {l:List (List α)} {x:List α},x∈l→x.length≤l.flatten.length
  | y :: l,x,h=>by
    rw[List.flatten_cons,List.length_append]
    rcases List.mem_cons.1 h with h|h
    · subst h;omega
    · have:=flat_mem h;omega
/-- the steps of two texts -/
def stT (a b:ByteArray):List (UInt8 × List UInt8):=Tx.stp (Tx.lines (bL a)) (Tx.lines (bL b))
theorem stT_S (a b:ByteArray):stS (linesB a) (linesB b)=(stT a b).map toSt:=by unfold stS stT;rw[yVb_,yVb_]
theorem stT_R (a b:ByteArray):stR (linesB a) (linesB b)=(stT a b).map toSr:=by unfold stR stT;rw[yVb_,yVb_]
theorem stT_len (a b:ByteArray):(stT a b).length≤(linesB a).length+(linesB b).length:=by
  have:=stp_len _ (Tx.lines (bL a)) (Tx.lines (bL b)) (Nat.le_refl _)
  rw[← yVb_,← yVb_,List.length_map,List.length_map,yVb_,yVb_] at this
  exact this
theorem stT_ok (a b:ByteArray):∀ x∈stT a b,(x.1=32∨x.1=45∨x.1=43)∧x.2≠[]∧x.2.length≤max a.size b.size:=by
  intro x hx
  obtain⟨h1,h2⟩:=Tx.stp_op _ _ _ (Nat.le_refl _) x hx
  have ha:=bL_size a
  have hb:=bL_size b
  rcases h2 with h2|h2
  · have:=flat_mem h2
    rw[Tx.yYb_] at this
    exact⟨h1,Tx.lines_ne _ x.2 h2,by omega⟩
  · have:=flat_mem h2
    rw[Tx.yYb_] at this
    exact⟨h1,Tx.lines_ne _ x.2 h2,by omega⟩
/-- the edits from one text to another one -/
def editsS (a b:ByteArray):List S59:=(Tx.eg 0 none (stT a b)).map ofE
def editsR (a b:ByteArray):List S59 × Int:=if (sizedR a b 0).2=0 then (editsS a b,0) else ([],(sizedR a b 0).2)
theorem edits_f (a b:ByteArray) (ha:a.size≤1000000000) (hb:b.size≤1000000000) (k:Nat) (hk:5000000≤k):yv_.f k a b=some (editsR a b):=by
  unfold yv_.f editsR
  rw[sized_f a b 0 ha hb k hk,Option.bind_some]
  by_cases h:(sizedR a b 0).2=0
  rotate_left
  · rw[if_neg h,if_neg h]
  rw[if_pos h,if_pos h]
  obtain⟨e1,-,-,n1,n2,z1,z2⟩:=sized_zero h
  have hl:=stT_len a b
  rw[e1]
  show yv_.l0 k [] 0 false (stS (linesB a) (linesB b)) ((stS (linesB a) (linesB b)).length:Int) 0=_
  rw[stT_S,List.length_map]
  have:=tEdits_l0 (stT a b) (by omega) (fun x hx=>by have:=(stT_ok a b x hx).2.2;omega) (stT a b).length 0 k [] none 0 (by omega) (by omega) (by omega) (by simp) (by omega) (by omega) (fun e h=>by cases h)
  rw[List.drop_zero] at this
  exact this
theorem eg_len:∀ (l:List Tx.St) (a:Int) (c:Option Tx.Ed),(Tx.eg a c l).length≤c.toList.length+l.length
  | [],a,c=>by show c.toList.length≤_;omega
  | (o,x) :: l,a,c=>by
    by_cases c1:o=32
    · subst c1
      rw[Tx.eg_keep,List.length_append,List.length_cons]
      have:=eg_len l (a+x.length) none
      simp only[Option.toList_none,List.length_nil] at this
      omega
    have one:∀ d:Tx.Ed,(some d).toList.length=1:=fun _=>rfl
    by_cases c2:o=45
    · subst c2
      rw[Tx.eg_gone,List.length_cons]
      have:=eg_len l (a+x.length) (some ⟨(c.getD ⟨a,a,[]⟩).f,a+x.length,(c.getD ⟨a,a,[]⟩).x⟩)
      rw[one] at this;omega
    rw[Tx.eg_come a c o x l c1 c2,List.length_cons]
    have:=eg_len l a (some ⟨(c.getD ⟨a,a,[]⟩).f,(c.getD ⟨a,a,[]⟩).t,(c.getD ⟨a,a,[]⟩).x++x⟩)
    rw[one] at this;omega
theorem yvb_ (a b:ByteArray):(editsR a b).1.length≤4000:=by
  unfold editsR
  by_cases h:(sizedR a b 0).2=0
  rotate_left
  · rw[if_neg h];exact Nat.zero_le _
  obtain⟨-,-,-,n1,n2,-,-⟩:=sized_zero h
  have hl:=stT_len a b
  have:=eg_len (stT a b) 0 none
  rw[if_pos h]
  show (List.map ofE _).length≤_
  rw[List.length_map]
  simp only[Option.toList_none,List.length_nil] at this
  omega
end Go.Proofs.Ythimblhfjfngiaa.PText

namespace Go.Proofs.Ythimblhfjfngiaa.PText
open Go.RowKit Go.Lib Go.Sort Go.Proofs.YthimblhfjfngiaaW.PrintWords Go.Proofs.YthimblhfjfngiaaW.PrintLast Go.Proofs.YthimblhfjfngiaaW.PrintMore
set_option linter.unusedVariables false
set_option linter.unusedSimpArgs false
theorem heap_same {w:World} {b t:Nat} {v:Value} {fz:Nat × Nat} (h:w.heap[b]?=some (.cells #[v] t fz)) (k:Nat):(w.setCell ⟨b,0,none⟩ v).heap[k]?=w.heap[k]?:=by
  by_cases hk:k=b
  rotate_left
  · exact Below.heap_setCell _ _ _ _ (fun e=>hk e)
  subst hk
  unfold World.setCell
  simp only
  rw[Array.getElem?_modify,if_pos rfl,h]
  rfl
theorem below_same {B:Nat} {a w:World} {b t:Nat} {v:Value} {fz:Nat × Nat} (h:Below B a w) (hb:w.heap[b]?=some (.cells #[v] t fz)):Below B a (w.setCell ⟨b,0,none⟩ v) :=
  ⟨h.os,h.tape,h.output,by
    have:(w.setCell ⟨b,0,none⟩ v).heap.size=w.heap.size:=by unfold World.setCell;simp
    rw[this];exact h.size,fun k hk=>(heap_same hb k).trans (h.block k hk)⟩
/-- to append no values to a row -/
theorem append_idle {P:Program} {ops:Array Oper} {o:Oper} {a:Act} {Q:Exit→Act→World→Prop} {Kc:Act→World→Prop} {W:World} {α:Type} (d:Kd α) (hw:Region.wanted o (yielded ops a.tmps)=true) (s x:Operand) (t e:TypeId) (z:Value) (bytes base:Nat)
    (ho:o.op=.call { callee:=.builtin .append,args:=#[s,x],argTypes:=#[t,t] })
    (ht:P.underlying t=some (.slice e)) (hinfo:(P.info? e).map (fun i=>(i.zero,i.size,i.bytes))=some (some z,d.sz,bytes)) (v:Value) (xs:List α) (ok:Nat→Prop) (hs:a.eval s=v) (hx:a.eval x=.slice none 0 0)
    {W0:World} (HO:d.R e W0 base ok v xs) (h:Kc (a.put o.dst v) W) :
    if Region.wanted o (yielded ops a.tmps)=true then Oper.wp P o a W Kc Q else Kc (a.put o.dst undef) W:=by
  obtain⟨i0,hi,hzz⟩:=Option.map_eq_some_iff.1 hinfo
  obtain⟨hok,inner,hown,hr⟩:=HO
  have hrun:(Builtin.append_ #[t,t] o.type #[v,.slice none 0 0]).run P W=.ok v W:=by
    rcases hown.2 with ⟨rfl,hn⟩|⟨g,cap,cur,rfl,_,_,hnc,_⟩
    · simp [Builtin.append_,run_underlying ht,sizeOf,typeInfo,hi,Builtin.lenOf,Builtin.firstCells]
    · simp [Builtin.append_,run_underlying ht,sizeOf,typeInfo,hi,Builtin.lenOf,Builtin.firstCells,hnc,storeCells]
  rw[if_pos hw]
  unfold Oper.wp execOp
  simp only[ho,resolve,invoke,builtin,Sem.run_bind,Sem.run_pure,Result.andThen_ok,List.map_toArray,List.map_cons,List.map_nil,hs,hx,hrun]
  exact h
/-- the same heap -/
structure Same (w w':World):Prop where
  below:Below w.heap.size w w'
  heap:∀ k:Nat,w'.heap[k]?=w.heap[k]?
theorem Same.refl (w:World):Same w w:=⟨Below.refl _ _,fun _=>rfl⟩
theorem Same.drew {w w':World} (h:Same w w'):Same w w'.drew:=⟨h.below.drew,h.heap⟩
theorem Same.set {w w':World} {b t:Nat} {v:Value} {fz:Nat × Nat} (h:Same w w') (hb:w.heap[b]?=some (.cells #[v] t fz)):Same w (w'.setCell ⟨b,0,none⟩ v) :=
  ⟨below_same h.below ((h.heap b).trans hb),fun k=>(heap_same ((h.heap b).trans hb) k).trans (h.heap k)⟩
theorem Same.cell {w w':World} (h:Same w w') (p:Addr):w'.cell? p=w.cell? p:=by
  unfold World.cell?
  simp only[h.heap]
theorem Same.frozen {w w':World} (h:Same w w') (p:Addr):w'.frozen? p=w.frozen? p:=by
  simp only[World.frozen?,h.heap]
theorem Same.all {w w':World} {bn bo bl:Nat} {v:Value} (h:Same w w') (hn:w.cell? ⟨bn,0,none⟩=some (.int .i64 0)) (ho:w.cell? ⟨bo,0,none⟩=some v) (hl:w.cell? ⟨bl,0,none⟩=some (.slice none 0 0)) (hf:w.frozen? ⟨bo,0,none⟩=false) :
    w'.cell? ⟨bn,0,none⟩=some (.int .i64 0)∧w'.cell? ⟨bo,0,none⟩=some v∧w'.cell? ⟨bl,0,none⟩=some (.slice none 0 0)∧w'.frozen? ⟨bo,0,none⟩=false∧Same w w' :=
  ⟨(h.cell _).trans hn,(h.cell _).trans ho,(h.cell _).trans hl,(h.frozen _).trans hf,h⟩
set_option maxRecDepth 100000 in
set_option maxHeartbeats 2000000 in
/-- nothing to pass -/
theorem pass_idle (keep:Bool) (bn ba bs bo bl base:Nat) (v:Value) (D:List Int) (w:World) (hn:w.cell? ⟨bn,0,none⟩=some (.int .i64 0)) (ha:w.cell? ⟨ba,0,none⟩=some (.int .i64 0))
    (ho:w.heap[bo]?=some (.cells #[v] 43 (0,0))) (hl:w.cell? ⟨bl,0,none⟩=some (.slice none 0 0)) (hR:Kd.R (Kd.int .i64) 3 w base (fun _=>True) v D) :
    Calls Try.prog 56 #[.int .i64 0,.bool keep,.pointer (some ⟨bn,0,none⟩),.pointer (some ⟨ba,0,none⟩),.pointer (some ⟨bs,0,none⟩),.pointer (some ⟨bo,0,none⟩),.pointer (some ⟨bl,0,none⟩)] w fun e w'=>e=.returned (.tuple #[])∧Below w.heap.size w w':=by
  obtain⟨A,c,rfl⟩:=Kd.yC_ hR
  have hoc:w.cell? ⟨bo,0,none⟩=some (.slice A D.length c):=by unfold World.cell?;rw[ho];rfl
  have hof:w.frozen? ⟨bo,0,none⟩=false:=by simp [World.frozen?,ho]
  have HO:=Aside0.mk ho
  have HR:=Aside0.mk hR
  clear ho hR
  go_enter Try.func56,Try.ntmps56
  go_wp2_with fail
  go_loopg [11] 0 (fun _ v11 wr=>wr=w)
  case atStart=>exact rfl
  case round =>
    obtain rfl:=hrel
    cases keep
    · go_wp2_with fail
      first
        | (go_end0;exact⟨rfl,Below.refl _ _⟩)
        | exact⟨rfl,Below.refl _ _⟩
    · go_wp2_with fail
      go_region_held3 (fun w'=>w'.cell? ⟨bn,0,none⟩=some (.int .i64 0)∧w'.cell? ⟨bo,0,none⟩=some (.slice A D.length c)∧w'.cell? ⟨bl,0,none⟩=some (.slice none 0 0)∧w'.frozen? ⟨bo,0,none⟩=false∧Same wr w')
        (first|exact Same.all (Same.refl _) hn hoc hl hof|exact Same.all (Same.refl _).drew hn hoc hl hof|exact Same.all ((Same.refl _).set HO.out).drew hn hoc hl hof|exact Same.all ((Same.refl _).drew.set HO.out).drew hn hoc hl hof)
        (first
          | (refine append_idle (Kd.int .i64) ?hw1 (.tmp 24) (.tmp 29) 43 3 (.int .i64 0) 8 base ?hg1 Try.underlying43 info3 _ D (fun _=>True) ?hs1 ?hx1 HR.out ?_;(case hw1=>rfl);(case hg1=>rfl);(case hs1=>rfl);(case hx1=>rfl)))
      go_split_ands
      first
        | (go_end0;exact⟨rfl,Same.below (by assumption)⟩)
        | exact⟨rfl,Same.below (by assumption)⟩
        | exact bodyPost_end0 ⟨rfl,Same.below (by assumption)⟩
/-- as many times one number as there are lines -/
def putL (es:List S59) (k:Int):List Int:=(es.map (fun x=>List.replicate (linesB x.f2).length k)).flatten
theorem putL_snoc (es:List S59) (k:Int) (i:Nat) (h:i < es.length):putL (es.take (i+1)) k=putL (es.take i) k++List.replicate (linesB es[i].f2).length k:=by
  unfold putL
  rw[List.take_add_one,List.getElem?_eq_getElem h,Option.toList_some,List.map_append,List.flatten_append]
  simp
theorem putL_take (es:List S59) (k:Int) (i:Nat):(putL (es.take i) k).length≤(putL es k).length:=by
  have h:putL es k=putL (es.take i) k++putL (es.drop i) k:=by
    unfold putL
    rw[← List.flatten_append,← List.map_append,List.take_append_drop]
  rw[h,List.length_append];omega
theorem lines_nil:ycb_.f ⟨#[]⟩=some []:=by kernel_rfl
theorem heap3 (w:World) (a b c:Obj):(((w.alloc a).alloc b).alloc c).heap[w.heap.size]?=some a∧(((w.alloc a).alloc b).alloc c).heap[w.heap.size+1]?=some b∧(((w.alloc a).alloc b).alloc c).heap[w.heap.size+1+1]?=some c∧(((w.alloc a).alloc b).alloc c).heap.size=w.heap.size+3∧Below w.heap.size w (((w.alloc a).alloc b).alloc c):=by
  refine⟨?_,?_,?_,?_,?_⟩
  · show (((w.heap.push a).push b).push c)[w.heap.size]?=_
    rw[Array.getElem?_push,if_neg (by simp;omega),Array.getElem?_push,if_neg (by simp),Array.getElem?_push_size]
  · show (((w.heap.push a).push b).push c)[w.heap.size+1]?=_
    rw[Array.getElem?_push,if_neg (by simp),Array.getElem?_push,if_pos (by simp)]
  · show (((w.heap.push a).push b).push c)[w.heap.size+1+1]?=_
    rw[Array.getElem?_push,if_pos (by simp)]
  · show (((w.heap.push a).push b).push c).size=_
    simp
  · exact (((Below.refl _ w).alloc (Nat.le_refl _) a).alloc (by simp) b).alloc (by simp;omega) c
/-- the variables of past.blamed, laid -/
theorem boxes {w w1 w2:World} {v2:Value} {A1:Option Addr} {c1:Nat} {es:List S59} (h1:Below (w.alloc (.cells #[.slice none 0 0] 43)).heap.size (w.alloc (.cells #[.slice none 0 0] 43)) w1)
    (h2:Below (((w1.alloc (.cells #[.slice none 0 0] 43)).alloc (.cells #[.int .i64 0] 3)).alloc (.cells #[.int .i64 0] 3)).heap.size (((w1.alloc (.cells #[.slice none 0 0] 43)).alloc (.cells #[.int .i64 0] 3)).alloc (.cells #[.int .i64 0] 3)) w2)
    (ho:Kd.R k59 59 w1 (w.alloc (.cells #[.slice none 0 0] 43)).heap.size (fun _=>True) (.slice A1 es.length c1) es) :
    (w2.alloc (.cells #[v2] 32)).heap[w1.heap.size]?=some (.cells #[.slice none 0 0] 43 (0,0))∧(w2.alloc (.cells #[v2] 32)).cell? ⟨w1.heap.size+1,0,none⟩=some (.int .i64 0)∧(w2.alloc (.cells #[v2] 32)).cell? ⟨w1.heap.size+1+1,0,none⟩=some (.int .i64 0) ∧
    (w2.alloc (.cells #[v2] 32)).cell? ⟨w.heap.size,0,none⟩=some (.slice none 0 0)∧Below w.heap.size w (w2.alloc (.cells #[v2] 32))∧(w2.alloc (.cells #[v2] 32)).heap.size=w2.heap.size+1∧w.heap.size < w1.heap.size∧w1.heap.size+3≤w2.heap.size ∧
    Kd.R k59 59 (w2.alloc (.cells #[v2] 32)) (w.alloc (.cells #[.slice none 0 0] 43)).heap.size (fun _=>True) (.slice A1 es.length c1) es:=by
  obtain⟨q1,q2,q3,q4,q5⟩:=heap3 w1 (.cells #[.slice none 0 0] 43) (.cells #[.int .i64 0] 3) (.cells #[.int .i64 0] 3)
  have s0:(w.alloc (.cells #[.slice none 0 0] 43)).heap.size=w.heap.size+1:=by simp
  have s1:=h1.size
  have s2:=h2.size
  have b2:Below w2.heap.size w2 (w2.alloc (.cells #[v2] 32)):=(Below.refl _ w2).alloc (Nat.le_refl _) _
  have B12:Below w1.heap.size w1 (w2.alloc (.cells #[v2] 32)):=(q5.trans (h2.mono (by omega))).trans (b2.mono (by omega))
  have hh:∀ k,k < w1.heap.size+3→(w2.alloc (.cells #[v2] 32)).heap[k]?=(((w1.alloc (.cells #[.slice none 0 0] 43)).alloc (.cells #[.int .i64 0] 3)).alloc (.cells #[.int .i64 0] 3)).heap[k]?:=fun k hk=>(b2.block k (by omega)).trans (h2.block k (by omega))
  refine⟨(hh _ (by omega)).trans q1,?_,?_,?_,?_,by simp,by omega,by omega,Kd.yV_ ho B12⟩
  · have e:=(hh (w1.heap.size+1) (by omega)).trans q2
    unfold World.cell?;simp only[e];rfl
  · have e:=(hh (w1.heap.size+1+1) (by omega)).trans q3
    unfold World.cell?;simp only[e];rfl
  · have:(w2.alloc (.cells #[v2] 32)).heap[w.heap.size]?=some (.cells #[.slice none 0 0] 43 (0,0)):=(B12.block _ (by omega)).trans ((h1.block _ (by omega)).trans (heap_nw w _))
    unfold World.cell?;rw[this];rfl
  · exact (((Below.refl _ w).alloc (Nat.le_refl _) _).trans (h1.mono (by omega))).trans (B12.mono (by omega))
theorem box_self {W0 wr:World} {bo base:Nat} {v0 v:Value} (h:Below base (W0.setCell ⟨bo,0,none⟩ v) wr) (h0:W0.heap[bo]?=some (.cells #[v0] 43 (0,0))) (hb:bo < base):wr.heap[bo]?=some (.cells #[v] 43 (0,0)):=by
  rw[h.block bo hb]
  unfold World.setCell
  simp only
  rw[Array.getElem?_modify,if_pos rfl,h0]
  rfl
theorem box_other {W0 wr:World} {bo base:Nat} {v u:Value} {b i:Nat} (h:Below base (W0.setCell ⟨bo,0,none⟩ v) wr) (hb:b < base) (hne:b≠bo) (hc:W0.cell? ⟨b,i,none⟩=some u):wr.cell? ⟨b,i,none⟩=some u:=by
  rw[← hc]
  unfold World.cell?
  simp only
  rw[h.block b hb,Below.heap_setCell _ _ _ _ hne]
theorem box_step2 {W0 wr w5:World} {bo base:Nat} {v0 v v5:Value} (h:Below base (W0.setCell ⟨bo,0,none⟩ v) wr) (h5:Below base wr w5) (h0:W0.heap[bo]?=some (.cells #[v0] 43 (0,0))) (hb:bo < base) :
    Below base (W0.setCell ⟨bo,0,none⟩ v5) (w5.setCell ⟨bo,0,none⟩ v5):=by
  have ss:∀ (W:World) (u:Value),(W.setCell ⟨bo,0,none⟩ u).heap.size=W.heap.size:=fun W u=>by unfold World.setCell;simp
  refine⟨h5.os.trans h.os,h5.tape.trans h.tape,h5.output.trans h.output,?_,fun k hk=>?_⟩
  · have:=h.size;have:=h5.size
    rw[ss] at *;rw[ss];omega
  · by_cases e:k=bo
    · subst e
      have h3:=(h5.block k hk).trans (box_self h h0 hk)
      unfold World.setCell
      simp only
      rw[Array.getElem?_modify,if_pos rfl,Array.getElem?_modify,if_pos rfl,h0,h3]
      rfl
    · rw[Below.heap_setCell _ _ _ _ e,Below.heap_setCell _ _ _ _ e,h5.block k hk,h.block k hk,Below.heap_setCell _ _ _ _ e]
set_option maxRecDepth 100000 in
set_option maxHeartbeats 4000000 in
theorem blamed_new (es:List S59) (k:Int) (now:ByteArray) (w:World) (he:yv_.f 5000000 ⟨#[]⟩ now=some (es,0)) (h0:∀ x∈es,x.f0=0∧x.f1=0∧x.f2.size≤1000000000) (hlen:es.length≤4000) (hD:(putL es k).length≤1000000) :
    Calls Try.prog 35 #[.string ⟨#[]⟩,.string now,.slice none 0 0,.int .i64 k] w fun e w'=>∃ v,e=.returned (.tuple #[v,.int .i64 0])∧Kd.R (Kd.int .i64) 3 w' w.heap.size (fun _=>True) v (putL es k)∧Below w.heap.size w w':=by
  have HE:=Aside0.mk he
  have H0:=Aside0.mk h0
  have HLN:=Aside0.mk hlen
  have HD:=Aside0.mk hD
  clear he h0 hlen hD
  go_enter Try.func35,Try.ntmps35
  go_wp2_with (first
    | (go_at_call 41;refine (yv_.calls 5000000 _ now es 0 _ HE.out).mono ?_;rintro e w1 ⟨v1,rfl,ho,hb⟩;obtain⟨A1,c1,rfl⟩:=Kd.yC_ ho;have HO1:=Aside0.mk ho;have HB1:=Aside0.mk hb;clear ho hb HE)
    | (go_at_call 55;refine (ycb_.calls _ [] _ lines_nil).mono ?_;rintro e w2 ⟨v2,rfl,ho,hb⟩;obtain⟨A2,c2,rfl⟩:=Kd.yC_ ho;have HX:=Aside0.mk (boxes (v2:=.slice A2 0 c2) HB1.out hb HO1.out);clear ho hb HB1 HO1))
  obtain⟨hbo,hba,hbn,hbl,hB,hz,hlt1,hlt2,hER⟩:=HX.out
  clear HX
  generalize w2.alloc (.cells #[.slice A2 0 c2] 32)=W0 at *
  have l1:w1.heap.size+1+1 < W0.heap.size:=by omega
  have l2:w1.heap.size+1 < W0.heap.size:=by omega
  have l3:w1.heap.size < W0.heap.size:=by omega
  have l4:w.heap.size < W0.heap.size:=by omega
  have l5:w.heap.size≤w1.heap.size:=by omega
  have n1:w1.heap.size+1+1≠w1.heap.size:=by omega
  have n2:w1.heap.size+1≠w1.heap.size:=by omega
  have n4:w.heap.size≠w1.heap.size:=by omega
  clear hlt1 hlt2 hz
  generalize w2.heap.size=bs at *
  generalize w1.heap.size+1+1=bn at *
  generalize w1.heap.size+1=ba at *
  generalize w1.heap.size=bo at *
  have ss:∀ (W:World) (u:Value),(W.setCell ⟨bo,0,none⟩ u).heap.size=W.heap.size:=fun W u=>by unfold World.setCell;simp
  have HCE:Aside0 (∀ v wr,Below W0.heap.size (W0.setCell ⟨bo,0,none⟩ v) wr→Kd.C k59 wr A1 es.length es):=⟨fun v wr h =>
    (Kd.ys_ (Kd.yV_ (Kd.R_set hER hbo (fun q hq=>by rcases List.mem_cons.1 hq with h|h;subst h;decide;cases h) 0 v) (by rw[ss];exact h))).2.2⟩
  have HPA:Aside0 (∀ (keep:Bool) (v:Value) (D:List Int) (wr:World),Below W0.heap.size (W0.setCell ⟨bo,0,none⟩ v) wr→Kd.R (Kd.int .i64) 3 wr W0.heap.size (fun _=>True) v D →
      Calls Try.prog 56 #[.int .i64 0,.bool keep,.pointer (some ⟨bn,0,none⟩),.pointer (some ⟨ba,0,none⟩),.pointer (some ⟨bs,0,none⟩),.pointer (some ⟨bo,0,none⟩),.pointer (some ⟨w.heap.size,0,none⟩)] wr fun e w'=>e=.returned (.tuple #[])∧Below wr.heap.size wr w') :=
    ⟨fun keep v D wr h1 h2=>pass_idle keep bn ba bs bo w.heap.size W0.heap.size v D wr (box_other h1 l1 n1 hbn) (box_other h1 l2 n2 hba) (box_self h1 hbo l3) (box_other h1 l4 n4 hbl) h2⟩
  have HBF:Aside0 (∀ v wr,Below W0.heap.size (W0.setCell ⟨bo,0,none⟩ v) wr→Below w.heap.size w wr):=⟨fun v wr h=>(hB.setCell (p:=⟨bo,0,none⟩) l5 v).trans (h.mono (by omega))⟩
  have HBO:=Aside0.mk hbo
  have HL3:=Aside0.mk l3
  have HS0:Aside0 (Below W0.heap.size (W0.setCell ⟨bo,0,none⟩ (.slice none 0 0)) W0):=⟨by
    have q:=Same.set (Same.refl W0) hbo
    exact⟨rfl,rfl,rfl,by rw[ss];exact Nat.le_refl _,fun k _=>(q.heap k).symm⟩⟩
  clear hbo hba hbn hbl hB hER l1 l2 l3 l4 l5 n1 n2 n4 ss
  go_loopg [33] (es.length+1) (fun kq v33 w'=>∃ (i:Nat) (v:Value),v33=.int .i64 (i:Int)∧Aside0 (es.length - i < kq∧i≤es.length)∧Aside0 (Below W0.heap.size (W0.setCell ⟨bo,0,none⟩ v) w')∧Aside0 (Kd.R (Kd.int .i64) 3 w' W0.heap.size (fun _=>True) v (putL (es.take i) k)))
  case atStart=>exact⟨0,.slice none 0 0,rfl,⟨by omega,by omega⟩,HS0,⟨Kd.R_nil _ _ _ _ _⟩⟩
  case round =>
    obtain⟨i,v,rfl,HI,HBe,HR⟩:=hrel
    obtain⟨k1,rfl⟩:∃ k1,gk=k1+1:=⟨gk - 1,by have:=HI.out.1;omega⟩
    have hwr:W0.heap.size≤wr.heap.size:=by have:=HBe.out.size;unfold World.setCell at this;simpa using this
    by_cases hlt:i < es.length
    rotate_left
    · have hb:decide ((i:Int) < (es.length:Int))=false:=by simp;omega
      have hin:es.take i=es:=List.take_of_length_le (by omega)
      rw[hin] at HR
      clear hin
      obtain⟨A7,c7,rfl⟩:=Kd.yC_ HR.out
      have hoh:=box_self HBe.out HBO.out HL3.out
      have hoc:wr.cell? ⟨bo,0,none⟩=some (.slice A7 (putL es k).length c7):=by unfold World.cell?;rw[hoh];rfl
      have hbw:bo < wr.heap.size:=Nat.lt_of_lt_of_le HL3.out hwr
      have HPZ:=Aside0.mk (HPA.out true _ _ wr HBe.out HR.out)
      go_wp2_with (go_at_call 56;refine HPZ.out.mono ?_;rintro e w3 ⟨rfl,hb3⟩;have HB3:=Aside0.mk hb3;have hz1:=(hb3.cell (p:=⟨bo,0,none⟩) hbw).trans hoc;clear hb3 HPZ)
      go_ret2
      have hbs:w.heap.size≤W0.heap.size:=by have:=(HBF.out _ _ HS0.out).size;exact this
      exact⟨_,rfl,Kd.yV_ (Kd.yJ_ HR.out hbs) HB3.out,(HBF.out _ _ HBe.out).trans (HB3.out.mono (Nat.le_trans hbs hwr))⟩
    have hb:decide ((i:Int) < (es.length:Int))=true:=by simp;omega
    have hb2:decide ((0:Int)≤(i:Int))=true:=by simp
    obtain⟨ad,e0,hx0,hx1,hx2⟩:=at_T59 (HCE.out v wr HBe.out) (i:Int) (by omega) (by omega)
    cases e0
    rw[Int.toNat_natCast] at hx0 hx1 hx2
    rw[yxb_ es i hlt] at hx0 hx1 hx2
    have HSN:=Aside0.mk (putL_snoc es k i hlt)
    have HTK:=Aside0.mk (putL_take es k (i+1))
    have hx:=H0.out es[i] (List.getElem_mem hlt)
    generalize es[i]=x at *
    obtain⟨g0,g1,t⟩:=x
    obtain⟨y0,y1,y2⟩:=hx
    cases y0
    cases y1
    have HT:=Aside0.mk (show ycb_.f t=some (linesB t) by unfold ycb_.f;rw[if_pos y2])
    have HBA:Aside0 (Below W0.heap.size (W0.setCell ⟨bo,0,none⟩ v) (wr.alloc (.cells #[.int .i64 0,.int .i64 0,.string t] 59))):=⟨HBe.out.alloc hwr _⟩
    have HP1:=Aside0.mk (HPA.out true v _ _ HBA.out (Kd.yg_ HR.out _))
    have hy0:(wr.alloc (.cells #[.int .i64 0,.int .i64 0,.string t] 59)).cell? ⟨wr.heap.size,0,none⟩=some (.int .i64 0):=by unfold World.cell?;simp only[heap_nw];rfl
    have hy1:(wr.alloc (.cells #[.int .i64 0,.int .i64 0,.string t] 59)).cell? ⟨wr.heap.size,1,none⟩=some (.int .i64 0):=by unfold World.cell?;simp only[heap_nw];rfl
    have hy2:(wr.alloc (.cells #[.int .i64 0,.int .i64 0,.string t] 59)).cell? ⟨wr.heap.size,2,none⟩=some (.string t):=by unfold World.cell?;simp only[heap_nw];rfl
    have hsa:wr.heap.size < (wr.alloc (.cells #[.int .i64 0,.int .i64 0,.string t] 59)).heap.size:=by simp
    have HY1:=Aside0.mk hy1
    have HY2:=Aside0.mk hy2
    have HSA:=Aside0.mk hsa
    clear hy1 hy2 hsa y2
    go_wp2_with (first
      | (go_at_call 56;refine HP1.out.mono ?_;rintro e w3 ⟨rfl,hb3⟩;have HB3:=Aside0.mk hb3;have hz1:=(hb3.cell (p:=⟨wr.heap.size,1,none⟩) HSA.out).trans HY1.out;clear hb3 HP1)
      | (go_at_call 56;refine (HPA.out false v (putL (es.take i) k) w3 (HBA.out.trans (HB3.out.mono (Nat.le_trans hwr (Nat.le_of_lt HSA.out)))) (Kd.yV_ (Kd.yg_ HR.out _) HB3.out)).mono ?_;rintro e w4 ⟨rfl,hb4⟩;have HB4:=Aside0.mk (HB3.out.trans (hb4.mono HB3.out.size));have hz2:=(HB4.out.cell (p:=⟨wr.heap.size,2,none⟩) HSA.out).trans HY2.out;clear hb4)
      | (go_at_call 55;refine (ycb_.calls _ _ _ HT.out).mono ?_;rintro e w5 ⟨v5,rfl,ho,hb⟩;obtain⟨A5,c5,rfl⟩:=Kd.yC_ ho;have HB5:=Aside0.mk (HB4.out.trans (hb.mono HB4.out.size));clear ho hb))
    have hW:wr.heap.size≤w5.heap.size:=Nat.le_trans (Nat.le_of_lt HSA.out) HB5.out.size
    have HB6:Aside0 (Below W0.heap.size (W0.setCell ⟨bo,0,none⟩ v) w5):=⟨HBA.out.trans (HB5.out.mono (Nat.le_trans hwr (Nat.le_of_lt HSA.out)))⟩
    have HR6:Aside0 (Kd.R (Kd.int .i64) 3 w5 W0.heap.size (fun _=>True) v (putL (es.take i) k++List.replicate 0 k)):=⟨by rw[List.replicate_zero,List.append_nil];exact Kd.yV_ (Kd.yg_ HR.out _) HB5.out⟩
    have HL5:=Aside0.mk (Nat.le_trans hwr hW)
    have HI2:Aside0 (es.length - i < k1+1∧i < es.length):=⟨HI.out.1,hlt⟩
    clear hW hwr hx0 hx1 hx2 HB5 HB4 HB3 HBA HSA HY1 HY2 hz1 hz2 HBe HR hy0 hlt
    generalize hn:(linesB t).length=n at *
    clear hn
    go_loopg [49] (n+1) (fun kq v49 w'=>∃ (j:Nat) (v:Value),v49=.int .i64 (j:Int)∧Aside0 (n - j < kq∧j≤n)∧Aside0 (Below W0.heap.size (W0.setCell ⟨bo,0,none⟩ v) w')∧Aside0 (Kd.R (Kd.int .i64) 3 w' W0.heap.size (fun _=>True) v (putL (es.take i) k++List.replicate j k)))
    case atStart=>exact⟨0,v,rfl,⟨by omega,by omega⟩,HB6,HR6⟩
    case round =>
      obtain⟨j,v,rfl,HJ,HBj,HRj⟩:=hrel
      obtain⟨k2,rfl⟩:∃ k2,gk=k2+1:=⟨gk - 1,by have:=HJ.out.1;omega⟩
      have hwr:W0.heap.size≤wr.heap.size:=by have:=HBj.out.size;unfold World.setCell at this;simpa using this
      have hLen:(putL (es.take i) k++List.replicate j k).length≤1000000:=by
        have h1:=HTK.out
        rw[HSN.out,List.length_append,List.length_replicate] at h1
        have h2:=HD.out
        have h3:=HJ.out.2
        rw[List.length_append,List.length_replicate]
        omega
      have HLE:=Aside0.mk hLen
      have HWR:=Aside0.mk hwr
      clear hLen
      by_cases hlt:j < n
      rotate_left
      · have hb:decide ((j:Int) < (n:Int))=false:=by simp;omega
        have hjn:j=n:=by have:=HJ.out.2;omega
        subst hjn
        rw[← HSN.out] at HRj
        go_wp2_with fail
        go_roundg k1
        case measure=>have:=HI2.out;omega
        case rel=>exact⟨i+1,_,congrArg (Value.int .i64) (by first|exact nx i (by have:=HLN.out;have:=HI2.out;omega)|(have:=HLN.out;have:=HI2.out;omega)),⟨by have:=HI2.out;omega,by have:=HI2.out;omega⟩,HBj,HRj⟩
      have hb:decide ((j:Int) < (n:Int))=true:=by simp;omega
      obtain⟨A7,c7,rfl⟩:=Kd.yC_ HRj.out
      have hoh:=box_self HBj.out HBO.out HL3.out
      have hoc:wr.cell? ⟨bo,0,none⟩=some (.slice A7 (putL (es.take i) k++List.replicate j k).length c7):=by unfold World.cell?;rw[hoh];rfl
      have HOH:=Aside0.mk hoh
      have HLT:=Aside0.mk hlt
      clear hoh
      have HEQ:Aside0 (putL (es.take i) k++List.replicate j k++[k]=putL (es.take i) k++List.replicate (j+1) k):=⟨by rw[List.append_assoc,List.replicate_succ']⟩
      have HNB:Aside0 (n≤1000000):=⟨by
        have h1:=HTK.out
        rw[HSN.out,List.length_append,List.length_replicate] at h1
        have h2:=HD.out
        omega⟩
      generalize putL (es.take i) k++List.replicate j k=L at *
      go_wp2_with (at_builtin;go_loud (refine Kd.y7_ (Kd.int .i64) (w0:=wr) W0.heap.size rfl (.tmp 51) (.tmp 53) 43 3 (.int .i64 0) 8 rfl Try.underlying43 info3 rfl (by decide) (by omega) _ L k [.int .i64 k] (fun _=>True) (fun _=>False) rfl (by first|rfl|(simp;done)|(go_simp;done)) rfl (fun _ hk=>hk.elim) (fun _ _=>trivial) HRj.out (Below.refl W0.heap.size wr) HWR.out (by have:=HLE.out;omega) ?_);intro v1 w7 ho hb hg hat;go_loud (obtain⟨A8,c8,rfl⟩:=Kd.yC_ ho;have hp7:w7.heap[bo]?=some (.cells #[.slice A7 L.length c7] 43 (0,0)):=(hb.block bo HL3.out).trans HOH.out;have hc7:w7.cell? ⟨bo,0,none⟩=some (.slice A7 L.length c7):=(by unfold World.cell?;rw[hp7];rfl);have hf7:w7.frozen? ⟨bo,0,none⟩=false:=(by simp [World.frozen?,hp7]));rw[show (L++[k]).length=L.length+1 by rw[List.length_append];rfl] at ho;have HO7:=Aside0.mk ho;have HB7:=Aside0.mk hb;have HP7:=Aside0.mk hp7;clear ho hb hg hat hp7)
      go_roundg k2
      case measure=>have:=HJ.out.1;have:=HLT.out;omega
      case rel=>exact⟨j+1,_,congrArg (Value.int .i64) (by first|exact nx j (by have:=HNB.out;have:=HJ.out;omega)|(have:=HNB.out;have:=HJ.out;omega)),⟨by have:=HJ.out.1;omega,by have:=HLT.out;omega⟩,⟨box_step2 HBj.out HB7.out HBO.out HL3.out⟩,⟨by rw[← HEQ.out];exact Kd.R_set HO7.out HP7.out (fun q hq=>by rcases List.mem_cons.1 hq with h|h;subst h;decide;cases h) 0 _⟩⟩
end Go.Proofs.Ythimblhfjfngiaa.PText

namespace Go.Proofs.Ythimblhfjfngiaa.PText
open Go.RowKit Go.Lib Go.Sort Go.Proofs.YthimblhfjfngiaaW.PrintWords Go.Proofs.YthimblhfjfngiaaW.PrintLast Go.Proofs.YthimblhfjfngiaaW.PrintMore
set_option linter.unusedVariables false
set_option linter.unusedSimpArgs false
theorem keep2 {w w':World} {p g:Nat} {u v:Value} (hb:Below w.heap.size w w') (h1:w.cell? ⟨p,0,none⟩=some u) (h2:w.cell? ⟨g,0,none⟩=some v) (l1:p < w.heap.size) (l2:g < w.heap.size) :
    w'.cell? ⟨p,0,none⟩=some u∧w'.cell? ⟨g,0,none⟩=some v∧Below w.heap.size w w':=⟨(hb.cell (p:=⟨p,0,none⟩) l1).trans h1,(hb.cell (p:=⟨g,0,none⟩) l2).trans h2,hb⟩
/-- the row of a past of one commit -/
theorem past_one {w:World} {base p:Nat} {x:Com} (h:PastIs w base p [x]):∃ g cap c,p < w.heap.size∧g < w.heap.size∧w.cell? ⟨p,0,none⟩=some (.slice (some ⟨g,0,none⟩) 1 cap)∧w.cell? ⟨g,0,none⟩=some (.pointer (some ⟨c,0,none⟩))∧ComAt w c x:=by
  obtain⟨A,cap,ps,h1,h2,h3,h4,h5⟩:=h
  obtain⟨c,rfl⟩:∃ c,ps=[c]:=List.length_eq_one_iff.1 h1
  obtain⟨g,cap',hv,hb,-,cs,hc⟩:=Kd.R_form h4 (by simp)
  cases hv
  obtain⟨q1,-⟩:=Kd.R_cell (enc:=fun c:Nat=>Value.pointer (some ⟨c,0,none⟩)) (h1:=fun _=>rfl) 0 h4 0 (Int.le_refl _) (by simp)
  exact⟨g,cap,c,(Array.getElem?_eq_some_iff.1 h3).1,(Array.getElem?_eq_some_iff.1 hc).1,by unfold World.cell?;rw[h3];rfl,q1,h5 0 (by simp) (by simp)⟩
set_option maxRecDepth 100000 in
set_option maxHeartbeats 4000000 in
theorem blame_one (base p:Nat) (x:Com) (file t:ByteArray) (es:List S59) (w:World) (hP:PastIs w base p [x]) (hx:x.files.length≤10000) (hf:findR x.files file=(t,true))
    (he:yv_.f 5000000 ⟨#[]⟩ t=some (es,0)) (h0:∀ x∈es,x.f0=0∧x.f1=0∧x.f2.size≤1000000000) (hlen:es.length≤4000) (hD:(putL es 0).length≤1000000) :
    Calls Try.prog 19 #[.pointer (some ⟨p,0,none⟩),.string file] w fun e w'=>∃ v,e=.returned (.tuple #[v,.int .i64 0])∧Kd.R (Kd.int .i64) 3 w' w.heap.size (fun _=>True) v (putL es 0)∧Below w.heap.size w w':=by
  obtain⟨g,cap,c,l1,l2,hc1,hc2,hcom⟩:=past_one hP
  have HF:Aside0 (∀ wr,Below w.heap.size w wr→Calls Try.prog 34 #[.pointer (some ⟨c,0,none⟩),.string file] wr fun e w'=>e=.returned (.tuple #[.string t,.bool true])∧Below wr.heap.size wr w') :=
    ⟨fun wr hb=>by
      have q:=find_calls c x file wr (hcom.keep (PKept.of_below hb)) hx
      rw[hf] at q
      exact q⟩
  have HBL:=Aside0.mk (fun wr=>blamed_new es 0 t wr he h0 hlen hD)
  clear hP hx hf he h0 hlen hD hcom
  have hw0:wrap64 ((1:Int) - 1)=0:=by rw[w64 (by omega) (by omega)];rfl
  have hw1:wrap64 0=0:=by rw[w64 (by omega) (by omega)]
  have hw2:IntKind.i64.wrap ((1:Int) - 1)=0:=(i64_w _).trans hw0
  have hw3:IntKind.i64.wrap 0=0:=(i64_w _).trans hw1
  have HB0:=Aside0.mk (Below.refl w.heap.size w)
  go_enter Try.func19,Try.ntmps19
  go_wp2_with fail
  go_region_held3 (fun w'=>w'.cell? ⟨p,0,none⟩=some (.slice (some ⟨g,0,none⟩) 1 cap)∧w'.cell? ⟨g,0,none⟩=some (.pointer (some ⟨c,0,none⟩))∧Below w.heap.size w w')
    (first
      | exact keep2 (Below.refl _ _) hc1 hc2 l1 l2
      | exact keep2 (Below.refl _ _).drew hc1 hc2 l1 l2
      | (go_split_ands;exact keep2 (Below.drew (by assumption)) hc1 hc2 l1 l2)
      | (go_split_ands;exact keep2 (yp_ (by assumption) hb) hc1 hc2 l1 l2)
      | (go_split_ands;exact keep2 (yp_ (by assumption) hb).drew hc1 hc2 l1 l2))
    (first
      | (go_at_call 34;with_reducible refine (HF.out _ ?zb).mono ?_;(case zb=>(go_split_ands;assumption));rintro e w5 ⟨rfl,hb⟩))
  go_split_ands
  have HB5:Aside0 (Below w.heap.size w w5):=⟨by assumption⟩
  clear hb
  go_wp2_with fail
  go_loopg [48,8,9] 2 (fun kq v48 v8 v9 w'=>Aside0 (Below w.heap.size w w')∧((1 < kq∧v48=.int .i64 0∧v8=.slice none 0 0∧v9=.string ⟨#[]⟩)∨(∃ A cc,0 < kq∧v48=.int .i64 1∧v8=.slice A (putL es 0).length cc∧v9=.string t∧Aside0 (Kd.R (Kd.int .i64) 3 w' w.heap.size (fun _=>True) (.slice A (putL es 0).length cc) (putL es 0)))))
  case atStart=>exact⟨HB5,.inl ⟨by omega,rfl,rfl,rfl⟩⟩
  case round =>
    obtain⟨HBe,hrel⟩:=hrel
    have hcr:=(HBe.out.cell (p:=⟨g,0,none⟩) l2).trans hc2
    rcases hrel with ⟨hk,rfl,rfl,rfl⟩|⟨A,cc,hk,rfl,rfl,rfl,HR⟩
    · obtain⟨k1,rfl⟩:∃ k1,gk=k1+1:=⟨gk - 1,by omega⟩
      go_wp2_with (first
        | (go_at_call 34;refine (HF.out _ HBe.out).mono ?_;rintro e w6 ⟨rfl,hb⟩;have HB6:=Aside0.mk (yp_ HBe.out hb);clear hb)
        | (go_at_call 35;refine (HBL.out _).mono ?_;rintro e w7 ⟨v7,rfl,ho,hb⟩;obtain⟨A7,c7,rfl⟩:=Kd.yC_ ho;have HO7:=Aside0.mk (Kd.yJ_ ho HB6.out.size);have HB7:=Aside0.mk (yp_ HB6.out hb);clear ho hb))
      go_roundg k1
      case measure=>omega
      case rel=>exact⟨HB7,.inr ⟨A7,c7,by omega,by first|rfl|exact congrArg (Value.int .i64) (nx 0 (by omega)),rfl,rfl,HO7⟩⟩
    · go_wp2_with fail
      go_ret2
      exact⟨_,rfl,HR.out,HBe.out⟩
end Go.Proofs.Ythimblhfjfngiaa.PText

namespace Go.Proofs.Ythimblhfjfngiaa.PText
open Go.RowKit Go.Lib Go.Proofs.YthimblhfjfngiaaW.PrintWords Go.Proofs.YthimblhfjfngiaaW.PrintLast Go.Proofs.YthimblhfjfngiaaW.PrintMore
set_option linter.unusedVariables false
set_option linter.unusedSimpArgs false
/-- two edits that do not go together -/
def meetE (x y:S59):Bool:=decide (x≠y) && (decide (x.f0≤y.f1) && decide (y.f0≤x.f1))
theorem meet_f (x y:S59):yUb_.f x.f0 x.f1 x.f2 y.f0 y.f1 y.f2=some (meetE x y):=by
  unfold yUb_.f meetE
  rw[neS34]
  by_cases c:x=y
  · rw[decide_eq_false (show ¬ x≠y from fun q=>q c),if_neg (by decide)];rfl
  rw[decide_eq_true (show x≠y from c),if_pos rfl]
  by_cases c2:x.f0≤y.f1
  · rw[if_pos c2,decide_eq_true c2];rfl
  rw[if_neg c2,decide_eq_false c2];rfl
theorem meet_pred (x:S59) (B:Nat) (w:World) (hB:B < w.heap.size) (h0:w.cell? ⟨B,0,none⟩=some (.int .i64 x.f0)) (h1:w.cell? ⟨B,1,none⟩=some (.int .i64 x.f1)) (h2:w.cell? ⟨B,2,none⟩=some (.string x.f2)) :
    PredBelow Try.prog 25 #[.pointer (some ⟨B,0,none⟩)] (fun y=>.agg (enc34 y).toArray) (meetE x) w:=fun W y hb=>by
  have c0:W.cell? ⟨B,0,none⟩=some (.int .i64 x.f0):=(hb.cell (p:=⟨B,0,none⟩) hB).trans h0
  have c1:W.cell? ⟨B,1,none⟩=some (.int .i64 x.f1):=(hb.cell (p:=⟨B,1,none⟩) hB).trans h1
  have c2:W.cell? ⟨B,2,none⟩=some (.string x.f2):=(hb.cell (p:=⟨B,2,none⟩) hB).trans h2
  have hm:=Aside0.mk (fun W'=>yUb_.calls x.f0 x.f1 x.f2 y.f0 y.f1 y.f2 (meetE x y) W' (meet_f x y))
  have hu34:=Try.underlying59
  have HB:=Aside0.mk hb
  have hBW:B < W.heap.size:=Nat.lt_of_lt_of_le hB hb.size
  clear hb h0 h1 h2
  show Calls Try.prog 25 #[.agg #[.int .i64 y.f0,.int .i64 y.f1,.string y.f2],.pointer (some ⟨B,0,none⟩)] W _
  go_enter Try.func25,Try.ntmps25
  go_wp2_with (go_at_call 26;refine (hm.out _).mono ?_;rintro e w2 ⟨rfl,hb2⟩)
  go_ret
  exact⟨rfl,(HB.out.alloc HB.out.size _).trans (hb2.mono (by have:=HB.out.size;simp;omega))⟩
theorem contains_meet (x:S59) (A1:Option Addr) (c1 B:Nat) (l1:List S59) (w:World) (hC:Kd.C k59 w A1 l1.length l1) (hB:B < w.heap.size) (h0:w.cell? ⟨B,0,none⟩=some (.int .i64 x.f0)) (h1:w.cell? ⟨B,1,none⟩=some (.int .i64 x.f1)) (h2:w.cell? ⟨B,2,none⟩=some (.string x.f2)) (hl:l1.length≤10000) :
    Calls Try.prog 24 #[.slice A1 l1.length c1,.func (.func 25) #[] #[.pointer (some ⟨B,0,none⟩)]] w fun e w'=>e=.returned (.bool (l1.any (meetE x)))∧Below w.heap.size w w':=by
  by_cases hp:l1.length=0
  · obtain rfl:=List.eq_nil_of_length_eq_zero hp
    exact contains_empty A1 c1 25 _ w
  obtain⟨b,o,rfl,hb,hc⟩:=C_addr34 hC (by omega)
  have eg:∀ args w,(callFunc 25 args).run Try.prog w=.ok (.enter 25 args) w:=enters_of Try.func25 (by kernel_rfl) rfl
  have h:=AnyQ.slices_ContainsFunc Try.containsEd 3 isAgg34 sizeOf34 enc34 enc34_len (meetE x) 25 #[.pointer (some ⟨B,0,none⟩)] eg b o l1.length c1 l1 w (meet_pred x B w hB h0 h1 h2) (Nat.le_refl _) (by omega) hb hc
  rw[List.take_length] at h
  exact h
/-- three texts merged: what it answers, but for the making of the edits -/
def ylb_.f (b a c:ByteArray):Option (ByteArray × Int) :=
  if b.size≤1000000000∧a.size≤1000000000∧c.size≤1000000000 then
    (if (editsR b a).2≠0 then some (⟨#[]⟩,(editsR b a).2) else if (editsR b c).2≠0 then some (⟨#[]⟩,(editsR b c).2)
     else if (editsR b a).1.any (fun i=>(editsR b c).1.any (meetE i))=true then some (⟨#[]⟩,250)
     else if (mergeR b.size (editsR b a).1 (editsR b c).1).2≠0 then some (⟨#[]⟩,250)
     else (yNb_.f b (mergeR b.size (editsR b a).1 (editsR b c).1).1).bind fun q=>some (if q.2=0 then (q.1,0) else (⟨#[]⟩,q.2)))
  else none
theorem both_f (b a c:ByteArray) (hb:b.size≤1000000000) (ha:a.size≤1000000000) (hc:c.size≤1000000000) (k:Nat) (hk:5000000≤k) :
    yEb_.f k b a c=some (if (editsR b a).2≠0 then ([],[],(editsR b a).2) else if (editsR b c).2≠0 then ([],[],(editsR b c).2) else ((editsR b a).1,(editsR b c).1,0)):=by
  unfold yEb_.f
  rw[edits_f b a hb ha k hk,Option.bind_some]
  by_cases h1:(editsR b a).2=0
  rotate_left
  · rw[if_neg h1,if_pos h1]
  rw[if_pos h1,if_neg (fun q=>q h1),edits_f b c hb hc k hk,Option.bind_some]
  by_cases h2:(editsR b c).2=0
  rotate_left
  · rw[if_neg h2,if_pos h2]
  rw[if_pos h2,if_neg (fun q=>q h2)]
set_option maxHeartbeats 8000000 in
set_option maxRecDepth 100000 in
theorem ylb_.calls (b a c:ByteArray) (r1:ByteArray) (r2:Int) (w:World) (h:ylb_.f b a c=some (r1,r2)) :
    Calls Try.prog 6 #[.string b,.string a,.string c] w fun e w'=>e=.returned (.tuple #[.string r1,.int .i64 r2])∧Below w.heap.size w w':=by
  unfold ylb_.f at h
  by_cases hs:b.size≤1000000000∧a.size≤1000000000∧c.size≤1000000000
  rotate_left
  · rw[if_neg hs] at h;cases h
  rw[if_pos hs] at h
  have hb:=both_f b a c hs.1 hs.2.1 hs.2.2 5000000 (Nat.le_refl _)
  have L1:=Aside0.mk (yvb_ b a)
  have L2:=Aside0.mk (yvb_ b c)
  by_cases h1:(editsR b a).2≠0
  · rw[if_pos h1] at h hb
    have HB:=Aside0.mk (yEb_.calls 5000000 b a c _ _ _ w hb)
    have h':=Option.some.inj h
    have hr:r1=⟨#[]⟩∧r2=(editsR b a).2:=⟨(congrArg Prod.fst h').symm,(congrArg Prod.snd h').symm⟩
    obtain⟨rfl,rfl⟩:=hr
    clear h h' hb hs
    have b1:((editsR b a).2 != 0)=true:=by simpa using h1
    have b2:((editsR b a).2 == 0)=false:=by simpa using h1
    generalize (editsR b a).2=fe at *
    clear h1
    go_enter Try.func6,Try.ntmps6
    go_wp2_with (go_at_call 23;refine HB.out.mono ?_;rintro e w2 ⟨v1,v2,rfl,-,-,hb⟩;have HB2:=Aside0.mk hb;clear hb HB)
    go_ret2
    exact⟨rfl,HB2.out⟩
  rw[if_neg h1] at h hb
  by_cases h2:(editsR b c).2≠0
  · rw[if_pos h2] at h hb
    have HB:=Aside0.mk (yEb_.calls 5000000 b a c _ _ _ w hb)
    have h':=Option.some.inj h
    have hr:r1=⟨#[]⟩∧r2=(editsR b c).2:=⟨(congrArg Prod.fst h').symm,(congrArg Prod.snd h').symm⟩
    obtain⟨rfl,rfl⟩:=hr
    clear h h' hb hs h1
    have b1:((editsR b c).2 != 0)=true:=by simpa using h2
    have b2:((editsR b c).2 == 0)=false:=by simpa using h2
    generalize (editsR b c).2=fe at *
    clear h2
    go_enter Try.func6,Try.ntmps6
    go_wp2_with (go_at_call 23;refine HB.out.mono ?_;rintro e w2 ⟨v1,v2,rfl,-,-,hb⟩;have HB2:=Aside0.mk hb;clear hb HB)
    go_ret2
    exact⟨rfl,HB2.out⟩
  rw[if_neg h2] at h hb
  have HB:=Aside0.mk (yEb_.calls 5000000 b a c _ _ _ w hb)
  have HBS:=Aside0.mk hs
  clear hb h1 h2 hs
  generalize (editsR b a).1=x at *
  generalize (editsR b c).1=y at *
  have HH:=Aside0.mk h
  clear h
  go_enter Try.func6,Try.ntmps6
  go_wp2_with (go_at_call 23;refine HB.out.mono ?_;rintro e w1 ⟨v1,v2,rfl,ho1,ho2,hb⟩;obtain⟨A1,c1,rfl⟩:=Kd.yC_ ho1;obtain⟨A2,c2,rfl⟩:=Kd.yC_ ho2;have HC1:=Aside0.mk (Kd.ys_ ho1).2.2;have HL1:=Aside0.mk (Kd.ys_ ho1).2.1;have HC2:=Aside0.mk (Kd.ys_ ho2).2.2;have HL2:=Aside0.mk (Kd.ys_ ho2).2.1;have HB2:=Aside0.mk hb;clear hb ho1 ho2 HB)
  go_loopg [28] (x.length+1) (fun kq v28 w'=>∃ i:Nat,v28=.int .i64 (i:Int)∧Aside0 (x.length - i < kq∧i≤x.length)∧Aside0 (Below w1.heap.size w1 w')∧Aside0 (∀ j,∀ hj:j < x.length,j < i→y.any (meetE x[j])=false))
  case atStart=>exact⟨0,rfl,⟨by omega,by omega⟩,⟨Below.refl _ _⟩,⟨fun j hj h0=>by omega⟩⟩
  case round =>
    obtain⟨i,rfl,HI,HBe,HN⟩:=hrel
    obtain⟨k1,rfl⟩:∃ k1,gk=k1+1:=⟨gk - 1,by have:=HI.out.1;omega⟩
    by_cases hlt:i < x.length
    · have hb:decide ((i:Int) < (x.length:Int))=true:=by simp;omega
      have hb2:decide ((0:Int)≤(i:Int))=true:=by simp
      have p0:(0:Int)≤(i:Int):=by omega
      have q0:(i:Int) < (x.length:Int):=by omega
      obtain⟨ad,e0,hx0,hx1,hx2⟩:=at_T59 (Kd.ynb_ HC1.out HBe.out) (i:Int) p0 q0
      cases e0
      rw[Int.toNat_natCast] at hx0 hx1 hx2
      rw[yxb_ x i hlt] at hx0 hx1 hx2
      have HM:Aside0 (x.any (fun i=>y.any (meetE i))=true∨y.any (meetE x[i])=false):=⟨by
        cases hq:y.any (meetE x[i]) with
        | true=>exact Or.inl (List.any_eq_true.2 ⟨x[i],List.getElem_mem hlt,hq⟩)
        | false=>exact Or.inr rfl⟩
      have HN2:Aside0 (y.any (meetE x[i])=false→∀ j,∀ hj:j < x.length,j < i+1→y.any (meetE x[j])=false):=⟨fun hq j hj h0=>by
        by_cases e:j=i
        · subst e;exact hq
        · exact HN.out j hj (by omega)⟩
      have H24:=Aside0.mk (fun (w':World) (h1:Below w1.heap.size w1 w') (B:Nat) (h2:B < w'.heap.size) (h3:w'.cell? ⟨B,0,none⟩=some (.int .i64 x[i].f0)) (h4:w'.cell? ⟨B,1,none⟩=some (.int .i64 x[i].f1)) (h5:w'.cell? ⟨B,2,none⟩=some (.string x[i].f2)) =>
        contains_meet x[i] A2 c2 B y w' (Kd.ynb_ HC2.out h1) h2 h3 h4 h5 (by have:=L2.out;omega))
      generalize x[i]=xi at *
      cases hq:y.any (meetE xi) with
      | true =>
        rw[hq] at H24
        have HR:=HH.out
        rw[if_pos (by rcases HM.out with q|q;exact q;rw[hq] at q;cases q)] at HR
        have h':=Option.some.inj HR
        have hr:r1=⟨#[]⟩∧r2=250:=⟨(congrArg Prod.fst h').symm,(congrArg Prod.snd h').symm⟩
        obtain⟨rfl,rfl⟩:=hr
        clear HR h' HH HM HN2 hq
        go_wp2_with (go_at_call 24;refine (H24.out _ ?za _ ?zb ?zc ?zd ?ze).mono ?_;(case za=>exact HBe.out.alloc HBe.out.size _);(case zb=>simp);(case zc=>simp);(case zd=>simp);(case ze=>simp);rintro e w5 ⟨rfl,hb⟩;have HB5:=Aside0.mk ((HBe.out.alloc HBe.out.size (.cells #[.int .i64 xi.f0,.int .i64 xi.f1,.string xi.f2] 59)).trans (hb.mono (by have:=HBe.out.size;simp;omega)));clear hb)
        go_ret2
        exact⟨rfl,HB2.out.trans (HB5.out.mono HB2.out.size)⟩
      | false =>
        rw[hq] at H24
        have HN3:=Aside0.mk (HN2.out hq)
        clear HM HN2 hq
        go_wp2_with (go_at_call 24;refine (H24.out _ ?za _ ?zb ?zc ?zd ?ze).mono ?_;(case za=>exact HBe.out.alloc HBe.out.size _);(case zb=>simp);(case zc=>simp);(case zd=>simp);(case ze=>simp);rintro e w5 ⟨rfl,hb⟩;have HB5:=Aside0.mk ((HBe.out.alloc HBe.out.size (.cells #[.int .i64 xi.f0,.int .i64 xi.f1,.string xi.f2] 59)).trans (hb.mono (by have:=HBe.out.size;simp;omega)));clear hb)
        go_roundg k1
        case measure=>have:=HI.out.1;omega
        case rel=>exact⟨i+1,congrArg (Value.int .i64) (nx i (by have:=L1.out;omega)),⟨by have:=HI.out.1;omega,by omega⟩,HB5,HN3⟩
    have hb:decide ((i:Int) < (x.length:Int))=false:=by simp;omega
    have hany:x.any (fun i=>y.any (meetE i))=false:=by
      rw[List.any_eq_false]
      intro z hz
      obtain⟨j,hj,rfl⟩:=List.mem_iff_getElem.1 hz
      rw[HN.out j hj (by omega)];decide
    have HR:=HH.out
    rw[if_neg (by rw[hany];decide)] at HR
    have HWB:=Aside0.mk (HB2.out.trans (HBe.out.mono HB2.out.size))
    have H27:=Aside0.mk (y8b_.calls b A1 c1 x A2 c2 y (mergeR b.size x y).1 (mergeR b.size x y).2 wr (Kd.ynb_ HC1.out HBe.out) HL1.out (Kd.ynb_ HC2.out HBe.out) HL2.out (by unfold y8b_.f;rw[if_pos (by have:=L1.out;have:=L2.out;omega)]))
    clear HH HN hany
    by_cases hm:(mergeR b.size x y).2≠0
    · rw[if_pos hm] at HR
      have h':=Option.some.inj HR
      have hr:r1=⟨#[]⟩∧r2=250:=⟨(congrArg Prod.fst h').symm,(congrArg Prod.snd h').symm⟩
      obtain⟨rfl,rfl⟩:=hr
      clear HR h'
      have b1:((mergeR b.size x y).2 != 0)=true:=by simpa using hm
      have b2:((mergeR b.size x y).2 == 0)=false:=by simpa using hm
      generalize (mergeR b.size x y).2=fe at *
      generalize (mergeR b.size x y).1=ml at *
      clear hm
      go_wp2_with (go_at_call 27;refine H27.out.mono ?_;rintro e w5 ⟨v5,rfl,-,hb⟩;have HB5:=Aside0.mk (HWB.out.trans (hb.mono HWB.out.size));clear hb H27)
      go_ret2
      exact⟨rfl,HB5.out⟩
    rw[if_neg hm] at HR
    have hm0:(mergeR b.size x y).2=0:=Classical.not_not.1 hm
    rw[hm0] at H27
    generalize (mergeR b.size x y).1=ml at *
    clear hm hm0
    obtain⟨q,hq1,hq2⟩:=Option.bind_eq_some_iff.1 HR
    obtain⟨s,e⟩:=q
    have H28:=Aside0.mk (fun A c w5 (h3:Kd.C k59 w5 A ml.length ml) (h4:ml.length≤c)=>yNb_.calls b A c ml s e w5 h3 h4 hq1)
    have h':=Option.some.inj hq2
    clear HR hq1 hq2
    by_cases he:e=0
    · subst he
      rw[if_pos rfl] at h'
      have hr:r1=s∧r2=0:=⟨(congrArg Prod.fst h').symm,(congrArg Prod.snd h').symm⟩
      obtain⟨rfl,rfl⟩:=hr
      clear h'
      go_wp2_with (first
        | (go_at_call 27;refine H27.out.mono ?_;rintro e w5 ⟨v5,rfl,ho,hb⟩;obtain⟨A5,c5,rfl⟩:=Kd.yC_ ho;have HC5:=Aside0.mk (Kd.ys_ ho).2.2;have HL5:=Aside0.mk (Kd.ys_ ho).2.1;have HB5:=Aside0.mk (HWB.out.trans (hb.mono HWB.out.size));clear hb H27 ho)
        | (go_at_call 28;refine (H28.out _ _ _ HC5.out HL5.out).mono ?_;rintro e w6 ⟨rfl,hb⟩;have HB6:=Aside0.mk (HB5.out.trans (hb.mono HB5.out.size));clear hb H28))
      go_ret2
      exact⟨rfl,HB6.out⟩
    have he':¬ ((s,e):ByteArray × Int).2=0:=he
    rw[if_neg he'] at h'
    have hr:r1=⟨#[]⟩∧r2=e:=⟨(congrArg Prod.fst h').symm,(congrArg Prod.snd h').symm⟩
    obtain⟨rfl,rfl⟩:=hr
    clear h'
    have b1:(r2 != 0)=true:=by simpa using he
    have b2:(r2 == 0)=false:=by simpa using he
    clear he he'
    go_wp2_with (first
      | (go_at_call 27;refine H27.out.mono ?_;rintro e w5 ⟨v5,rfl,ho,hb⟩;obtain⟨A5,c5,rfl⟩:=Kd.yC_ ho;have HC5:=Aside0.mk (Kd.ys_ ho).2.2;have HL5:=Aside0.mk (Kd.ys_ ho).2.1;have HB5:=Aside0.mk (HWB.out.trans (hb.mono HWB.out.size));clear hb H27 ho)
      | (go_at_call 28;refine (H28.out _ _ _ HC5.out HL5.out).mono ?_;rintro e w6 ⟨rfl,hb⟩;have HB6:=Aside0.mk (HB5.out.trans (hb.mono HB5.out.size));clear hb H28))
    go_ret2
    exact⟨rfl,HB6.out⟩
end Go.Proofs.Ythimblhfjfngiaa.PText

namespace Go.Proofs.Ythimblhfjfngiaa.PText
open Go.RowKit Go.Lib Go.Sort Go.Proofs.YthimblhfjfngiaaW.PrintWords Go.Proofs.YthimblhfjfngiaaW.PrintLast Go.Proofs.YthimblhfjfngiaaW.PrintMore
set_option linter.unusedVariables false
set_option linter.unusedSimpArgs false
theorem edits_k (a b:ByteArray) (r:List S59 × Int) (k:Nat) (hk:k≤5000000) (h:yv_.f k a b=some r):yv_.f 5000000 a b=some r:=at_rounds (yv_.mono a b) hk h
theorem editsR_k (a b:ByteArray) (r:List S59 × Int) (k:Nat) (hk:k≤5000000) (ha:a.size≤1000000000) (hb:b.size≤1000000000) (h:yv_.f k a b=some r):editsR a b=r :=
  Option.some.inj ((edits_f a b ha hb 5000000 (Nat.le_refl _)).symm.trans (edits_k a b r k hk h))
def awA:ByteArray:=⟨#[97,10,98,10,99,10]⟩
def awB:ByteArray:=⟨#[120,10,98,10,99,10]⟩
def awC:ByteArray:=⟨#[97,10,98,10,121,10]⟩
def awR:ByteArray:=⟨#[120,10,98,10,121,10]⟩
theorem aw_e1:yv_.f 60 awA awB=some ([⟨0,2,⟨#[120,10]⟩⟩],0):=by kernel_rfl
theorem aw_e2:yv_.f 60 awA awC=some ([⟨4,6,⟨#[121,10]⟩⟩],0):=by kernel_rfl
theorem aw_e0:yv_.f 60 ⟨#[]⟩ ⟨#[97,10]⟩=some ([⟨0,0,⟨#[97,10]⟩⟩],0):=by kernel_rfl
theorem aw_mg:mergeR 6 [⟨0,2,⟨#[120,10]⟩⟩] [⟨4,6,⟨#[121,10]⟩⟩]=([⟨0,2,⟨#[120,10]⟩⟩,⟨4,6,⟨#[121,10]⟩⟩],0):=by kernel_rfl
theorem aw_ap:yNb_.f awA [⟨0,2,⟨#[120,10]⟩⟩,⟨4,6,⟨#[121,10]⟩⟩]=some (awR,0):=by kernel_rfl
theorem aw_three:ylb_.f awA awB awC=some (awR,0):=by
  have s1:awA.size=6:=rfl
  have s2:awB.size=6:=rfl
  have s3:awC.size=6:=rfl
  have h1:=editsR_k awA awB _ 60 (by omega) (by omega) (by omega) aw_e1
  have h2:=editsR_k awA awC _ 60 (by omega) (by omega) (by omega) aw_e2
  unfold ylb_.f
  rw[if_pos ⟨by omega,by omega,by omega⟩,h1,h2,s1,aw_mg]
  rw[if_neg (by decide),if_neg (by decide),if_neg (by decide),if_neg (by decide),aw_ap,Option.bind_some]
  rfl
theorem aw_put:putL [⟨0,0,⟨#[97,10]⟩⟩] 0=[0]:=by kernel_rfl
def awF:S53:=⟨⟨#[102]⟩,⟨#[97,10]⟩⟩
theorem aw_commit:commitR [] ⟨#[111,110,101]⟩ [awF]=(0,0,[⟨⟨#[111,110,101]⟩,[awF]⟩]):=by
  have h:srtF [awF]=[awF]:=by kernel_rfl
  unfold commitR
  rw[if_neg (by decide),if_neg (fun q=>q (show ([_]:List _).Nodup by simp)),if_neg (by rintro ⟨x,hx,e⟩;rcases List.mem_cons.1 hx with rfl|h;exact absurd e (by rw[show awF.f0.toList=[102] by kernel_rfl];decide);cases h),h]
  rfl
theorem aw_find:findR [awF] ⟨#[102]⟩=(⟨#[97,10]⟩,true):=by kernel_rfl
def yY_.f:Option Bool:=some true
theorem file_row (w:World):Kd.C k53 (w.alloc (.cells #[.string ⟨#[102]⟩,.string ⟨#[97,10]⟩] 53)) (some ⟨w.heap.size,0,none⟩) 1 [awF]:=by
  refine⟨rfl,by simp,fun _=>⟨⟨w.heap.size,0,none⟩,rfl,fun j t hj=>?_⟩⟩
  have hj0:j=0:=by
    rcases Nat.eq_zero_or_pos j with h|h
    · exact h
    · rw[List.getElem?_eq_none (by simp;omega)] at hj;cases hj
  subst hj0
  cases Option.some.inj hj
  refine⟨[.string ⟨#[102]⟩,.string ⟨#[97,10]⟩],rfl,k53_mk _ _,fun i u hu=>?_⟩
  have hi:(w.alloc (.cells #[.string ⟨#[102]⟩,.string ⟨#[97,10]⟩] 53)).cell? ⟨w.heap.size,i,none⟩=some u:=by
    unfold World.cell?
    simp only[heap_nw]
    match i,hu with
    | 0,hu=>exact hu
    | 1,hu=>exact hu
    | i+2,hu=>simp at hu
  have e:(Addr.add ⟨w.heap.size,0,none⟩ (0 * k53.sz+i))=(⟨w.heap.size,i,none⟩:Addr):=by unfold Addr.add;simp;exact fun q=>q.symm
  rw[e]
  exact hi
theorem int_row (w:World) (k:Int):Kd.C (Kd.int .i64) (w.alloc (.cells #[.int .i64 k] 3)) (some ⟨w.heap.size,0,none⟩) 1 [k]:=by
  refine⟨rfl,by simp,fun _=>⟨⟨w.heap.size,0,none⟩,rfl,fun j t hj=>?_⟩⟩
  have hj0:j=0:=by
    rcases Nat.eq_zero_or_pos j with h|h
    · exact h
    · rw[List.getElem?_eq_none (by simp;omega)] at hj;cases hj
  subst hj0
  cases Option.some.inj hj
  refine⟨[.int .i64 k],rfl,rfl,fun i u hu=>?_⟩
  have hi:(w.alloc (.cells #[.int .i64 k] 3)).cell? ⟨w.heap.size,i,none⟩=some u:=by
    unfold World.cell?
    simp only[heap_nw]
    match i,hu with
    | 0,hu=>exact hu
    | i+1,hu=>simp at hu
  have e:(Addr.add ⟨w.heap.size,0,none⟩ (0 * (Kd.int .i64).sz+i))=(⟨w.heap.size,i,none⟩:Addr):=by unfold Addr.add;simp;exact fun q=>q.symm
  rw[e]
  exact hi
theorem aw_ints:yub_.f 10 [0] [0]=some true:=by kernel_rfl
set_option maxRecDepth 100000 in
set_option maxHeartbeats 4000000 in
theorem yY_.calls (r:Bool) (w:World) (h:yY_.f=some r):Calls Try.prog 11 #[] w fun e w'=>e=.returned (.bool r)∧Below w.heap.size w w':=by
  cases Option.some.inj h
  have H3:=Aside0.mk (fun w=>ylb_.calls awA awB awC _ _ w aw_three)
  have HBL:=Aside0.mk (fun base p w hP=>blame_one base p ⟨⟨#[111,110,101]⟩,[awF]⟩ ⟨#[102]⟩ _ _ w hP (by simp) aw_find (edits_k _ _ _ 60 (by omega) aw_e0) (by
    intro x hx
    rcases List.mem_cons.1 hx with rfl|h
    · exact⟨rfl,rfl,by show 2≤1000000000;omega⟩
    · cases h) (by simp) (by rw[aw_put];simp))
  unfold awA awB awC awR at H3
  go_enter Try.func11,Try.ntmps11
  go_wp2_with (first
    | (go_at_call 6;refine (H3.out _).mono ?_;rintro e w1 ⟨rfl,hb⟩;have HB1:=Aside0.mk hb;clear hb H3)
    | (go_at_call 32;refine (new_calls _).mono ?_;rintro e w2 ⟨rfl,hp,hb,hk⟩;have HP2:=Aside0.mk hp;have HB2:=Aside0.mk (yp_ HB1.out hb);have HBB:=Aside0.mk hb.size;clear hp hb hk)
    | (go_at_call 21;refine (commit_calls w1.heap.size w1.heap.size [] ⟨#[111,110,101]⟩ (some ⟨w2.heap.size,0,none⟩) 1 [awF] _ (HP2.out.below (Below.alloc (Below.refl _ w2) (Nat.le_refl _) _)) (file_row w2) (by simp) (by simp) (by have:=HBB.out;simp;omega)).mono ?_;rintro e w3 ⟨rfl,hp,hb,hk⟩;rw[aw_commit] at hp;have HP3:=Aside0.mk hp;have HB3:=Aside0.mk ((HB2.out.alloc HB2.out.size _).trans (hb.mono HB1.out.size));clear hp hb hk;rw[aw_commit])
    | (go_at_call 19;refine (HBL.out w1.heap.size w1.heap.size w3 HP3.out).mono ?_;rintro e w4 ⟨v4,rfl,ho,hb⟩;rw[aw_put] at ho;obtain⟨A4,c4,rfl⟩:=Kd.yC_ ho;have HO4:=Aside0.mk (Kd.ys_ ho);have HB4:=Aside0.mk (yp_ HB3.out hb);clear ho hb)
    | (go_at_call 22;refine (yub_.calls 10 A4 c4 [0] (some ⟨w4.heap.size,0,none⟩) 1 [0] true _ (Kd.yK_ HO4.out.2.2 _) HO4.out.2.1 (int_row w4 0) (by simp) aw_ints).mono ?_;rintro e w5 ⟨rfl,hd⟩;have HD5:=Aside0.mk hd;clear hd))
  go_ret
  exact⟨rfl,(HB4.out.alloc HB4.out.size _).trans (HD5.out.below.mono (by have:=HB4.out.size;simp;omega))⟩
end Go.Proofs.Ythimblhfjfngiaa.PText

namespace Go.Proofs.Ythimblhfjfngiaa.PText
open Go.RowKit Go.Proofs.YthimblhfjfngiaaW.PrintWords Go.Proofs.YthimblhfjfngiaaW.PrintLast Go.Proofs.YthimblhfjfngiaaW.PrintMore
attribute [local go_sem] y2_ y3_ yfb_ ygb_ yS_ yT_ y4_ y5_   -- for this text's walks alone
set_option linter.unusedVariables false
set_option linter.unusedSimpArgs false

def yB_.j0:Nat→ByteArray→ByteArray→ByteArray→Bool→Option (Bool)
 | 0,_,_,_,_=>none
 | k+1,x0,x1,x2,x27=>if x27=true then (some true) else ((ylb_.f x0 x1 x2).bind fun bt406=>((yN_.f k x0 x1 x2).bind fun bt408=>((yu_.f k x0 x1 x2).bind fun bt410=>((yj_.f k x0 x1 x2).bind fun bt414=>(if bt406.1.toList=bt408.1.toList then (if bt406.2=bt408.2 then (if bt410.2=bt414.2 then ((y6_.f k bt410.1 bt414.1).bind fun t418=>(if t418=true then ((yY_.f).bind fun t419=>(some t419)) else (some false))) else (some false)) else (some false)) else (some false))))))
def yB_.f (k:Nat) (a0:ByteArray) (a1:ByteArray) (a2:ByteArray):Option (Bool):=if (a0.size:Int) > 3000 then (yB_.j0 k a0 a1 a2 true) else (if (a1.size:Int) > 3000 then (yB_.j0 k a0 a1 a2 true) else (yB_.j0 k a0 a1 a2 (decide ((a2.size:Int) > 3000))))
set_option maxHeartbeats 8000000 in
set_option maxRecDepth 100000 in
theorem yB_.calls (k:Nat) (a0:ByteArray) (a1:ByteArray) (a2:ByteArray) (r:Bool) (w:World) (h:yB_.f k a0 a1 a2=some r) :
  Calls Try.prog 3 #[.string a0,.string a1,.string a2] w fun e w'=>e=.returned (.bool r)∧Below w.heap.size w w':=by
 have HB:=Aside0.mk (Below.refl w.heap.size w)
 have H:(if (a0.size:Int) > 3000 then (yB_.j0 k a0 a1 a2 true) else (if (a1.size:Int) > 3000 then (yB_.j0 k a0 a1 a2 true) else (yB_.j0 k a0 a1 a2 (decide ((a2.size:Int) > 3000)))))=some r:=h
 clear h
 have HC4:=Aside0.mk H
 clear H
 go_enter Try.func3,Try.ntmps3
 go_upto_region 1 with (fail)
 go_cut [27] (fun v27 wc=>∃ (kq:Nat) (x27_3:Bool),v27=.bool x27_3∧Aside0 (yB_.j0 kq a0 a1 a2 x27_3=some r)∧Aside0 (kq≤k)∧Aside0 (Below w.heap.size w wc))
 case first =>
  have H:=HC4.out
  clear HC4
  by_cases c5:(a0.size:Int) > 3000
  ·rw[if_pos c5] at H
   have c5b0:decide (3000 < (a0.size:Int))=true:=decide_eq_true c5
   have c5b1:decide (3000 < a0.size)=true:=decide_eq_true (by omega)
   clear c5
   (first|rw[c5b0]|(simp only[i64_w,i32_w];rw[c5b0])|skip)
   have H':=Aside0.mk H
   clear H
   go_wp2
   go_meet
   case rel=>exact⟨_,(true),(by first|rfl|(simp;done)|(simp [*];done)),H',⟨by first|omega|exact Nat.le_refl _⟩,⟨by repeat (with_reducible first|exact HB.out|apply yc_|apply ya_|apply yb_)⟩⟩
  rw[if_neg c5] at H
  have c5b0:decide (3000 < (a0.size:Int))=false:=decide_eq_false c5
  have c5b1:decide (3000 < a0.size)=false:=decide_eq_false (by omega)
  clear c5
  (first|rw[c5b0]|(simp only[i64_w,i32_w];rw[c5b0])|skip)
  by_cases c6:(a1.size:Int) > 3000
  ·rw[if_pos c6] at H
   have c6b0:decide (3000 < (a1.size:Int))=true:=decide_eq_true c6
   have c6b1:decide (3000 < a1.size)=true:=decide_eq_true (by omega)
   clear c6
   have H':=Aside0.mk H
   clear H
   go_wp2
   go_meet
   case rel=>exact⟨_,(true),(by first|rfl|(simp;done)|(simp [*];done)),H',⟨by first|omega|exact Nat.le_refl _⟩,⟨by repeat (with_reducible first|exact HB.out|apply yc_|apply ya_|apply yb_)⟩⟩
  rw[if_neg c6] at H
  have c6b0:decide (3000 < (a1.size:Int))=false:=decide_eq_false c6
  have c6b1:decide (3000 < a1.size)=false:=decide_eq_false (by omega)
  clear c6
  have H':=Aside0.mk H
  clear H
  go_wp2
  go_meet
  case rel=>exact⟨_,(decide ((a2.size:Int) > 3000)),(by first|rfl|(simp;done)|(simp [*];done)),H',⟨by first|omega|exact Nat.le_refl _⟩,⟨by repeat (with_reducible first|exact HB.out|apply yc_|apply ya_|apply yb_)⟩⟩
 case rest =>
  clear HC4
  try clear p2
  try clear c3
  try clear c5
  try clear c5b0
  try clear c5b1
  try clear c6
  try clear c6b0
  try clear c6b1
  obtain⟨kq,x27_3,rfl,HA,HJ3,HB⟩:=hcut
  cases kq with
  | zero=>exact absurd HA.out (by simp [yB_.j0])
  | succ kj3 =>
   have H:=HA.out
   clear HA
   simp only[yB_.j0] at H
   by_cases c7:x27_3=true
   ·subst c7
    have H1:(some true)=some r:=by rw[if_pos rfl] at H;exact H
    clear H
    have H:=H1
    clear H1
    obtain rfl:=Option.some.inj H
    go_wp2
    go_ret
    exact⟨by first|rfl|(simp [yq_,yr_] <;> rfl)|(simp [*,yq_,yr_] <;> rfl),by repeat (with_reducible first|exact HB.out|apply yc_|apply ya_|apply yb_)⟩
   replace c7:=Bool.eq_false_iff.mpr c7
   subst c7
   have H1:((ylb_.f a0 a1 a2).bind fun bt406=>((yN_.f kj3 a0 a1 a2).bind fun bt408=>((yu_.f kj3 a0 a1 a2).bind fun bt410=>((yj_.f kj3 a0 a1 a2).bind fun bt414=>(if bt406.1.toList=bt408.1.toList then (if bt406.2=bt408.2 then (if bt410.2=bt414.2 then ((y6_.f kj3 bt410.1 bt414.1).bind fun t418=>(if t418=true then ((yY_.f).bind fun t419=>(some t419)) else (some false))) else (some false)) else (some false)) else (some false))))))=some r:=by rw[if_neg (show ¬ (false=true) by decide)] at H;exact H
   clear H
   have H:=H1
   clear H1
   replace H:=Option.bind_eq_some_iff.mp H
   obtain⟨⟨t406,t407⟩,A80,H⟩:=H
   replace H:((yN_.f kj3 a0 a1 a2).bind fun bt408=>((yu_.f kj3 a0 a1 a2).bind fun bt410=>((yj_.f kj3 a0 a1 a2).bind fun bt414=>(if t406.toList=bt408.1.toList then (if t407=bt408.2 then (if bt410.2=bt414.2 then ((y6_.f kj3 bt410.1 bt414.1).bind fun t418=>(if t418=true then ((yY_.f).bind fun t419=>(some t419)) else (some false))) else (some false)) else (some false)) else (some false)))))=some r:=H
   have A8:=Aside0.mk A80
   clear A80
   replace H:=Option.bind_eq_some_iff.mp H
   obtain⟨⟨t408,t409⟩,A90,H⟩:=H
   replace H:((yu_.f kj3 a0 a1 a2).bind fun bt410=>((yj_.f kj3 a0 a1 a2).bind fun bt414=>(if t406.toList=t408.toList then (if t407=t409 then (if bt410.2=bt414.2 then ((y6_.f kj3 bt410.1 bt414.1).bind fun t418=>(if t418=true then ((yY_.f).bind fun t419=>(some t419)) else (some false))) else (some false)) else (some false)) else (some false))))=some r:=H
   have A9:=Aside0.mk A90
   clear A90
   replace H:=Option.bind_eq_some_iff.mp H
   obtain⟨⟨t410,t411⟩,A100,H⟩:=H
   replace H:((yj_.f kj3 a0 a1 a2).bind fun bt414=>(if t406.toList=t408.toList then (if t407=t409 then (if t411=bt414.2 then ((y6_.f kj3 t410 bt414.1).bind fun t418=>(if t418=true then ((yY_.f).bind fun t419=>(some t419)) else (some false))) else (some false)) else (some false)) else (some false)))=some r:=H
   have A10:=Aside0.mk A100
   clear A100
   replace H:=Option.bind_eq_some_iff.mp H
   obtain⟨⟨t414,t415⟩,A110,H⟩:=H
   replace H:(if t406.toList=t408.toList then (if t407=t409 then (if t411=t415 then ((y6_.f kj3 t410 t414).bind fun t418=>(if t418=true then ((yY_.f).bind fun t419=>(some t419)) else (some false))) else (some false)) else (some false)) else (some false))=some r:=H
   have A11:=Aside0.mk A110
   clear A110
   by_cases c12:t406.toList=t408.toList
   rotate_left
   ·rw[if_neg c12] at H
    have c12b0:(t406.toList == t408.toList)=false:=beq_eq_false_iff_ne.mpr c12
    have c12b1:(t406.toList != t408.toList)=true:=bne_iff_ne.mpr c12
    obtain rfl:=Option.some.inj H
    go_wp2_with (first|((with_reducible refine yt_ (f:=6) rfl ?_);refine goesL_ (some 32) rfl rfl Try.func6 (by kernel_rfl) rfl #[.string a0,.string a1,.string a2] rfl (by (try simp only[List.map_toArray,List.map_cons,List.map_nil]);first|done|rfl|(simp only[List.length_drop,List.length_take];rfl)) ?_;(with_reducible refine (ylb_.calls a0 a1 a2 t406 t407 _ A8.out).mono ?_);rintro e w39 ⟨rfl,hb⟩;refine⟨_,rfl,?_⟩;have n0_:=Aside0.mk (yp_ (by repeat (with_reducible first|exact HB.out|apply yc_|apply ya_|apply yb_)) hb);clear HB;have HB:=n0_;clear n0_;(try clear hb);(try clear hb2);(try clear hk);(try clear hi))|((with_reducible refine yt_ (f:=7) rfl ?_);refine goesL_ (some 39) rfl rfl Try.func7 (by kernel_rfl) rfl #[.string a0,.string a1,.string a2] rfl (by (try simp only[List.map_toArray,List.map_cons,List.map_nil]);first|done|rfl|(simp only[List.length_drop,List.length_take];rfl)) ?_;(with_reducible refine (yN_.calls kj3 a0 a1 a2 t408 t409 _ A9.out).mono ?_);rintro e w40 ⟨rfl,hb⟩;refine⟨_,rfl,?_⟩;have n0_:=Aside0.mk (yp_ (by repeat (with_reducible first|exact HB.out|apply yc_|apply ya_|apply yb_)) hb);clear HB;have HB:=n0_;clear n0_;(try clear hb);(try clear hb2);(try clear hk);(try clear hi))|((with_reducible refine yt_ (f:=8) rfl ?_);refine goesL_ (some 46) rfl rfl Try.func8 (by kernel_rfl) rfl #[.string a0,.string a1,.string a2] rfl (by (try simp only[List.map_toArray,List.map_cons,List.map_nil]);first|done|rfl|(simp only[List.length_drop,List.length_take];rfl)) ?_;(with_reducible refine (yu_.calls kj3 a0 a1 a2 t410 t411 _ A10.out).mono ?_);rintro e w41 ⟨v412,rfl,ho0,hb⟩;refine⟨_,rfl,?_⟩;have n0_:=Aside0.mk (Kd.yJ_ ho0 (yn_ (by repeat (with_reducible first|exact HB.out|apply yc_|apply ya_|apply yb_))));have n1_:=Aside0.mk (yp_ (by repeat (with_reducible first|exact HB.out|apply yc_|apply ya_|apply yb_)) hb);clear HB;have HO413:=n0_;have HB:=n1_;clear n0_ n1_;(try clear hb);(try clear hb2);(try clear hk);(try clear hi);(try clear ho0))|((with_reducible refine yt_ (f:=9) rfl ?_);refine goesL_ (some 53) rfl rfl Try.func9 (by kernel_rfl) rfl #[.string a0,.string a1,.string a2] rfl (by (try simp only[List.map_toArray,List.map_cons,List.map_nil]);first|done|rfl|(simp only[List.length_drop,List.length_take];rfl)) ?_;(with_reducible refine (yj_.calls kj3 a0 a1 a2 t414 t415 _ A11.out).mono ?_);rintro e w42 ⟨v416,rfl,ho0,hb⟩;refine⟨_,rfl,?_⟩;have n0_:=Aside0.mk (Kd.yFb_ (by (with_reducible repeat (first|apply Kd.yg_|apply Kd.yh_|apply Kd.R_drew));exact HO413.out) (Kd.R_base ho0) hb);have n1_:=Aside0.mk (Kd.yJ_ (Kd.R_new' ho0 (Kd.R_lt (by (with_reducible repeat (first|apply Kd.yg_|apply Kd.yh_|apply Kd.R_drew));exact HO413.out))) (yn_ (by repeat (with_reducible first|exact HB.out|apply yc_|apply ya_|apply yb_))));have n2_:=Aside0.mk (yp_ (by repeat (with_reducible first|exact HB.out|apply yc_|apply ya_|apply yb_)) hb);clear HO413;clear HB;have HO413:=n0_;have HO417:=n1_;have HB:=n2_;clear n0_ n1_ n2_;(try clear hb);(try clear hb2);(try clear hk);(try clear hi);(try clear ho0)))
    go_ret
    exact⟨by first|rfl|(simp [yq_,yr_] <;> rfl)|(simp [*,yq_,yr_] <;> rfl),by repeat (with_reducible first|exact HB.out|apply yc_|apply ya_|apply yb_)⟩
   rw[if_pos c12] at H
   have c12b0:(t406.toList == t408.toList)=true:=beq_iff_eq.mpr c12
   have c12b1:(t406.toList != t408.toList)=false:=bne_eq_false_iff_eq.mpr c12
   clear c12
   by_cases c13:t407=t409
   rotate_left
   ·rw[if_neg c13] at H
    have c13b0:(t407 == t409)=false:=beq_eq_false_iff_ne.mpr c13
    have c13b1:(t407 != t409)=true:=bne_iff_ne.mpr c13
    obtain rfl:=Option.some.inj H
    go_wp2_with (first|((with_reducible refine yt_ (f:=6) rfl ?_);refine goesL_ (some 32) rfl rfl Try.func6 (by kernel_rfl) rfl #[.string a0,.string a1,.string a2] rfl (by (try simp only[List.map_toArray,List.map_cons,List.map_nil]);first|done|rfl|(simp only[List.length_drop,List.length_take];rfl)) ?_;(with_reducible refine (ylb_.calls a0 a1 a2 t406 t407 _ A8.out).mono ?_);rintro e w35 ⟨rfl,hb⟩;refine⟨_,rfl,?_⟩;have n0_:=Aside0.mk (yp_ (by repeat (with_reducible first|exact HB.out|apply yc_|apply ya_|apply yb_)) hb);clear HB;have HB:=n0_;clear n0_;(try clear hb);(try clear hb2);(try clear hk);(try clear hi))|((with_reducible refine yt_ (f:=7) rfl ?_);refine goesL_ (some 39) rfl rfl Try.func7 (by kernel_rfl) rfl #[.string a0,.string a1,.string a2] rfl (by (try simp only[List.map_toArray,List.map_cons,List.map_nil]);first|done|rfl|(simp only[List.length_drop,List.length_take];rfl)) ?_;(with_reducible refine (yN_.calls kj3 a0 a1 a2 t408 t409 _ A9.out).mono ?_);rintro e w36 ⟨rfl,hb⟩;refine⟨_,rfl,?_⟩;have n0_:=Aside0.mk (yp_ (by repeat (with_reducible first|exact HB.out|apply yc_|apply ya_|apply yb_)) hb);clear HB;have HB:=n0_;clear n0_;(try clear hb);(try clear hb2);(try clear hk);(try clear hi))|((with_reducible refine yt_ (f:=8) rfl ?_);refine goesL_ (some 46) rfl rfl Try.func8 (by kernel_rfl) rfl #[.string a0,.string a1,.string a2] rfl (by (try simp only[List.map_toArray,List.map_cons,List.map_nil]);first|done|rfl|(simp only[List.length_drop,List.length_take];rfl)) ?_;(with_reducible refine (yu_.calls kj3 a0 a1 a2 t410 t411 _ A10.out).mono ?_);rintro e w37 ⟨v412,rfl,ho0,hb⟩;refine⟨_,rfl,?_⟩;have n0_:=Aside0.mk (Kd.yJ_ ho0 (yn_ (by repeat (with_reducible first|exact HB.out|apply yc_|apply ya_|apply yb_))));have n1_:=Aside0.mk (yp_ (by repeat (with_reducible first|exact HB.out|apply yc_|apply ya_|apply yb_)) hb);clear HB;have HO413:=n0_;have HB:=n1_;clear n0_ n1_;(try clear hb);(try clear hb2);(try clear hk);(try clear hi);(try clear ho0))|((with_reducible refine yt_ (f:=9) rfl ?_);refine goesL_ (some 53) rfl rfl Try.func9 (by kernel_rfl) rfl #[.string a0,.string a1,.string a2] rfl (by (try simp only[List.map_toArray,List.map_cons,List.map_nil]);first|done|rfl|(simp only[List.length_drop,List.length_take];rfl)) ?_;(with_reducible refine (yj_.calls kj3 a0 a1 a2 t414 t415 _ A11.out).mono ?_);rintro e w38 ⟨v416,rfl,ho0,hb⟩;refine⟨_,rfl,?_⟩;have n0_:=Aside0.mk (Kd.yFb_ (by (with_reducible repeat (first|apply Kd.yg_|apply Kd.yh_|apply Kd.R_drew));exact HO413.out) (Kd.R_base ho0) hb);have n1_:=Aside0.mk (Kd.yJ_ (Kd.R_new' ho0 (Kd.R_lt (by (with_reducible repeat (first|apply Kd.yg_|apply Kd.yh_|apply Kd.R_drew));exact HO413.out))) (yn_ (by repeat (with_reducible first|exact HB.out|apply yc_|apply ya_|apply yb_))));have n2_:=Aside0.mk (yp_ (by repeat (with_reducible first|exact HB.out|apply yc_|apply ya_|apply yb_)) hb);clear HO413;clear HB;have HO413:=n0_;have HO417:=n1_;have HB:=n2_;clear n0_ n1_ n2_;(try clear hb);(try clear hb2);(try clear hk);(try clear hi);(try clear ho0)))
    go_ret
    exact⟨by first|rfl|(simp [yq_,yr_] <;> rfl)|(simp [*,yq_,yr_] <;> rfl),by repeat (with_reducible first|exact HB.out|apply yc_|apply ya_|apply yb_)⟩
   rw[if_pos c13] at H
   have c13b0:(t407 == t409)=true:=beq_iff_eq.mpr c13
   have c13b1:(t407 != t409)=false:=bne_eq_false_iff_eq.mpr c13
   clear c13
   by_cases c14:t411=t415
   rotate_left
   ·rw[if_neg c14] at H
    have c14b0:(t411 == t415)=false:=beq_eq_false_iff_ne.mpr c14
    have c14b1:(t411 != t415)=true:=bne_iff_ne.mpr c14
    obtain rfl:=Option.some.inj H
    go_wp2_with (first|((with_reducible refine yt_ (f:=6) rfl ?_);refine goesL_ (some 32) rfl rfl Try.func6 (by kernel_rfl) rfl #[.string a0,.string a1,.string a2] rfl (by (try simp only[List.map_toArray,List.map_cons,List.map_nil]);first|done|rfl|(simp only[List.length_drop,List.length_take];rfl)) ?_;(with_reducible refine (ylb_.calls a0 a1 a2 t406 t407 _ A8.out).mono ?_);rintro e w31 ⟨rfl,hb⟩;refine⟨_,rfl,?_⟩;have n0_:=Aside0.mk (yp_ (by repeat (with_reducible first|exact HB.out|apply yc_|apply ya_|apply yb_)) hb);clear HB;have HB:=n0_;clear n0_;(try clear hb);(try clear hb2);(try clear hk);(try clear hi))|((with_reducible refine yt_ (f:=7) rfl ?_);refine goesL_ (some 39) rfl rfl Try.func7 (by kernel_rfl) rfl #[.string a0,.string a1,.string a2] rfl (by (try simp only[List.map_toArray,List.map_cons,List.map_nil]);first|done|rfl|(simp only[List.length_drop,List.length_take];rfl)) ?_;(with_reducible refine (yN_.calls kj3 a0 a1 a2 t408 t409 _ A9.out).mono ?_);rintro e w32 ⟨rfl,hb⟩;refine⟨_,rfl,?_⟩;have n0_:=Aside0.mk (yp_ (by repeat (with_reducible first|exact HB.out|apply yc_|apply ya_|apply yb_)) hb);clear HB;have HB:=n0_;clear n0_;(try clear hb);(try clear hb2);(try clear hk);(try clear hi))|((with_reducible refine yt_ (f:=8) rfl ?_);refine goesL_ (some 46) rfl rfl Try.func8 (by kernel_rfl) rfl #[.string a0,.string a1,.string a2] rfl (by (try simp only[List.map_toArray,List.map_cons,List.map_nil]);first|done|rfl|(simp only[List.length_drop,List.length_take];rfl)) ?_;(with_reducible refine (yu_.calls kj3 a0 a1 a2 t410 t411 _ A10.out).mono ?_);rintro e w33 ⟨v412,rfl,ho0,hb⟩;refine⟨_,rfl,?_⟩;have n0_:=Aside0.mk (Kd.yJ_ ho0 (yn_ (by repeat (with_reducible first|exact HB.out|apply yc_|apply ya_|apply yb_))));have n1_:=Aside0.mk (yp_ (by repeat (with_reducible first|exact HB.out|apply yc_|apply ya_|apply yb_)) hb);clear HB;have HO413:=n0_;have HB:=n1_;clear n0_ n1_;(try clear hb);(try clear hb2);(try clear hk);(try clear hi);(try clear ho0))|((with_reducible refine yt_ (f:=9) rfl ?_);refine goesL_ (some 53) rfl rfl Try.func9 (by kernel_rfl) rfl #[.string a0,.string a1,.string a2] rfl (by (try simp only[List.map_toArray,List.map_cons,List.map_nil]);first|done|rfl|(simp only[List.length_drop,List.length_take];rfl)) ?_;(with_reducible refine (yj_.calls kj3 a0 a1 a2 t414 t415 _ A11.out).mono ?_);rintro e w34 ⟨v416,rfl,ho0,hb⟩;refine⟨_,rfl,?_⟩;have n0_:=Aside0.mk (Kd.yFb_ (by (with_reducible repeat (first|apply Kd.yg_|apply Kd.yh_|apply Kd.R_drew));exact HO413.out) (Kd.R_base ho0) hb);have n1_:=Aside0.mk (Kd.yJ_ (Kd.R_new' ho0 (Kd.R_lt (by (with_reducible repeat (first|apply Kd.yg_|apply Kd.yh_|apply Kd.R_drew));exact HO413.out))) (yn_ (by repeat (with_reducible first|exact HB.out|apply yc_|apply ya_|apply yb_))));have n2_:=Aside0.mk (yp_ (by repeat (with_reducible first|exact HB.out|apply yc_|apply ya_|apply yb_)) hb);clear HO413;clear HB;have HO413:=n0_;have HO417:=n1_;have HB:=n2_;clear n0_ n1_ n2_;(try clear hb);(try clear hb2);(try clear hk);(try clear hi);(try clear ho0)))
    go_ret
    exact⟨by first|rfl|(simp [yq_,yr_] <;> rfl)|(simp [*,yq_,yr_] <;> rfl),by repeat (with_reducible first|exact HB.out|apply yc_|apply ya_|apply yb_)⟩
   rw[if_pos c14] at H
   have c14b0:(t411 == t415)=true:=beq_iff_eq.mpr c14
   have c14b1:(t411 != t415)=false:=bne_eq_false_iff_eq.mpr c14
   clear c14
   replace H:=Option.bind_eq_some_iff.mp H
   obtain⟨t418,A150,H⟩:=H
   replace H:(if t418=true then ((yY_.f).bind fun t419=>(some t419)) else (some false))=some r:=H
   have A15:=Aside0.mk A150
   clear A150
   by_cases c16:t418=true
   rotate_left
   ·replace c16:=Bool.eq_false_iff.mpr c16
    subst c16
    have H1:(some false)=some r:=by rw[if_neg (show ¬ (false=true) by decide)] at H;exact H
    clear H
    have H:=H1
    clear H1
    obtain rfl:=Option.some.inj H
    go_wp2_with (first|((with_reducible refine yt_ (f:=6) rfl ?_);refine goesL_ (some 32) rfl rfl Try.func6 (by kernel_rfl) rfl #[.string a0,.string a1,.string a2] rfl (by (try simp only[List.map_toArray,List.map_cons,List.map_nil]);first|done|rfl|(simp only[List.length_drop,List.length_take];rfl)) ?_;(with_reducible refine (ylb_.calls a0 a1 a2 t406 t407 _ A8.out).mono ?_);rintro e w25 ⟨rfl,hb⟩;refine⟨_,rfl,?_⟩;have n0_:=Aside0.mk (yp_ (by repeat (with_reducible first|exact HB.out|apply yc_|apply ya_|apply yb_)) hb);clear HB;have HB:=n0_;clear n0_;(try clear hb);(try clear hb2);(try clear hk);(try clear hi))|((with_reducible refine yt_ (f:=7) rfl ?_);refine goesL_ (some 39) rfl rfl Try.func7 (by kernel_rfl) rfl #[.string a0,.string a1,.string a2] rfl (by (try simp only[List.map_toArray,List.map_cons,List.map_nil]);first|done|rfl|(simp only[List.length_drop,List.length_take];rfl)) ?_;(with_reducible refine (yN_.calls kj3 a0 a1 a2 t408 t409 _ A9.out).mono ?_);rintro e w26 ⟨rfl,hb⟩;refine⟨_,rfl,?_⟩;have n0_:=Aside0.mk (yp_ (by repeat (with_reducible first|exact HB.out|apply yc_|apply ya_|apply yb_)) hb);clear HB;have HB:=n0_;clear n0_;(try clear hb);(try clear hb2);(try clear hk);(try clear hi))|((with_reducible refine yt_ (f:=8) rfl ?_);refine goesL_ (some 46) rfl rfl Try.func8 (by kernel_rfl) rfl #[.string a0,.string a1,.string a2] rfl (by (try simp only[List.map_toArray,List.map_cons,List.map_nil]);first|done|rfl|(simp only[List.length_drop,List.length_take];rfl)) ?_;(with_reducible refine (yu_.calls kj3 a0 a1 a2 t410 t411 _ A10.out).mono ?_);rintro e w27 ⟨v412,rfl,ho0,hb⟩;refine⟨_,rfl,?_⟩;have n0_:=Aside0.mk (Kd.yJ_ ho0 (yn_ (by repeat (with_reducible first|exact HB.out|apply yc_|apply ya_|apply yb_))));have n1_:=Aside0.mk (yp_ (by repeat (with_reducible first|exact HB.out|apply yc_|apply ya_|apply yb_)) hb);clear HB;have HO413:=n0_;have HB:=n1_;clear n0_ n1_;(try clear hb);(try clear hb2);(try clear hk);(try clear hi);(try clear ho0))|((with_reducible refine yt_ (f:=9) rfl ?_);refine goesL_ (some 53) rfl rfl Try.func9 (by kernel_rfl) rfl #[.string a0,.string a1,.string a2] rfl (by (try simp only[List.map_toArray,List.map_cons,List.map_nil]);first|done|rfl|(simp only[List.length_drop,List.length_take];rfl)) ?_;(with_reducible refine (yj_.calls kj3 a0 a1 a2 t414 t415 _ A11.out).mono ?_);rintro e w28 ⟨v416,rfl,ho0,hb⟩;refine⟨_,rfl,?_⟩;have n0_:=Aside0.mk (Kd.yFb_ (by (with_reducible repeat (first|apply Kd.yg_|apply Kd.yh_|apply Kd.R_drew));exact HO413.out) (Kd.R_base ho0) hb);have n1_:=Aside0.mk (Kd.yJ_ (Kd.R_new' ho0 (Kd.R_lt (by (with_reducible repeat (first|apply Kd.yg_|apply Kd.yh_|apply Kd.R_drew));exact HO413.out))) (yn_ (by repeat (with_reducible first|exact HB.out|apply yc_|apply ya_|apply yb_))));have n2_:=Aside0.mk (yp_ (by repeat (with_reducible first|exact HB.out|apply yc_|apply ya_|apply yb_)) hb);clear HO413;clear HB;have HO413:=n0_;have HO417:=n1_;have HB:=n2_;clear n0_ n1_ n2_;(try clear hb);(try clear hb2);(try clear hk);(try clear hi);(try clear ho0);obtain⟨Ao29,co29,eo29⟩:=Kd.yC_ HO413.out;subst eo29;obtain⟨Ao30,co30,eo30⟩:=Kd.yC_ HO417.out;subst eo30)|(go_at_call 10;(with_reducible refine (y6_.calls kj3 _ _ t410 _ _ t414 false _ ?side1 ?side2 ?side3 ?side4 A15.out).mono ?_);(case side1=>repeat (first|exact (Kd.ys_ HO413.out).2.2|(with_reducible refine Kd.yK_ ?_ _)|(with_reducible refine Kd.y1_ ?_ _)|(with_reducible refine Kd.C_drew ?_)));(case side2=>exact (Kd.ys_ HO413.out).2.1);(case side3=>repeat (first|exact (Kd.ys_ HO417.out).2.2|(with_reducible refine Kd.yK_ ?_ _)|(with_reducible refine Kd.y1_ ?_ _)|(with_reducible refine Kd.C_drew ?_)));(case side4=>exact (Kd.ys_ HO417.out).2.1);rintro e w' ⟨rfl,⟨nd,rfl⟩⟩))
    go_ret
    exact⟨by first|rfl|(simp [yq_,yr_] <;> rfl)|(simp [*,yq_,yr_] <;> rfl),by repeat (with_reducible first|exact HB.out|apply yc_|apply ya_|apply yb_)⟩
   subst c16
   have H1:((yY_.f).bind fun t419=>(some t419))=some r:=by rw[if_pos rfl] at H;exact H
   clear H
   have H:=H1
   clear H1
   replace H:=Option.bind_eq_some_iff.mp H
   obtain⟨t419,A170,H⟩:=H
   replace H:(some t419)=some r:=H
   have A17:=Aside0.mk A170
   clear A170
   obtain rfl:=Option.some.inj H
   go_wp2_with (first|((with_reducible refine yt_ (f:=6) rfl ?_);refine goesL_ (some 32) rfl rfl Try.func6 (by kernel_rfl) rfl #[.string a0,.string a1,.string a2] rfl (by (try simp only[List.map_toArray,List.map_cons,List.map_nil]);first|done|rfl|(simp only[List.length_drop,List.length_take];rfl)) ?_;(with_reducible refine (ylb_.calls a0 a1 a2 t406 t407 _ A8.out).mono ?_);rintro e w18 ⟨rfl,hb⟩;refine⟨_,rfl,?_⟩;have n0_:=Aside0.mk (yp_ (by repeat (with_reducible first|exact HB.out|apply yc_|apply ya_|apply yb_)) hb);clear HB;have HB:=n0_;clear n0_;(try clear hb);(try clear hb2);(try clear hk);(try clear hi))|((with_reducible refine yt_ (f:=7) rfl ?_);refine goesL_ (some 39) rfl rfl Try.func7 (by kernel_rfl) rfl #[.string a0,.string a1,.string a2] rfl (by (try simp only[List.map_toArray,List.map_cons,List.map_nil]);first|done|rfl|(simp only[List.length_drop,List.length_take];rfl)) ?_;(with_reducible refine (yN_.calls kj3 a0 a1 a2 t408 t409 _ A9.out).mono ?_);rintro e w19 ⟨rfl,hb⟩;refine⟨_,rfl,?_⟩;have n0_:=Aside0.mk (yp_ (by repeat (with_reducible first|exact HB.out|apply yc_|apply ya_|apply yb_)) hb);clear HB;have HB:=n0_;clear n0_;(try clear hb);(try clear hb2);(try clear hk);(try clear hi))|((with_reducible refine yt_ (f:=8) rfl ?_);refine goesL_ (some 46) rfl rfl Try.func8 (by kernel_rfl) rfl #[.string a0,.string a1,.string a2] rfl (by (try simp only[List.map_toArray,List.map_cons,List.map_nil]);first|done|rfl|(simp only[List.length_drop,List.length_take];rfl)) ?_;(with_reducible refine (yu_.calls kj3 a0 a1 a2 t410 t411 _ A10.out).mono ?_);rintro e w20 ⟨v412,rfl,ho0,hb⟩;refine⟨_,rfl,?_⟩;have n0_:=Aside0.mk (Kd.yJ_ ho0 (yn_ (by repeat (with_reducible first|exact HB.out|apply yc_|apply ya_|apply yb_))));have n1_:=Aside0.mk (yp_ (by repeat (with_reducible first|exact HB.out|apply yc_|apply ya_|apply yb_)) hb);clear HB;have HO413:=n0_;have HB:=n1_;clear n0_ n1_;(try clear hb);(try clear hb2);(try clear hk);(try clear hi);(try clear ho0))|((with_reducible refine yt_ (f:=9) rfl ?_);refine goesL_ (some 53) rfl rfl Try.func9 (by kernel_rfl) rfl #[.string a0,.string a1,.string a2] rfl (by (try simp only[List.map_toArray,List.map_cons,List.map_nil]);first|done|rfl|(simp only[List.length_drop,List.length_take];rfl)) ?_;(with_reducible refine (yj_.calls kj3 a0 a1 a2 t414 t415 _ A11.out).mono ?_);rintro e w21 ⟨v416,rfl,ho0,hb⟩;refine⟨_,rfl,?_⟩;have n0_:=Aside0.mk (Kd.yFb_ (by (with_reducible repeat (first|apply Kd.yg_|apply Kd.yh_|apply Kd.R_drew));exact HO413.out) (Kd.R_base ho0) hb);have n1_:=Aside0.mk (Kd.yJ_ (Kd.R_new' ho0 (Kd.R_lt (by (with_reducible repeat (first|apply Kd.yg_|apply Kd.yh_|apply Kd.R_drew));exact HO413.out))) (yn_ (by repeat (with_reducible first|exact HB.out|apply yc_|apply ya_|apply yb_))));have n2_:=Aside0.mk (yp_ (by repeat (with_reducible first|exact HB.out|apply yc_|apply ya_|apply yb_)) hb);clear HO413;clear HB;have HO413:=n0_;have HO417:=n1_;have HB:=n2_;clear n0_ n1_ n2_;(try clear hb);(try clear hb2);(try clear hk);(try clear hi);(try clear ho0);obtain⟨Ao22,co22,eo22⟩:=Kd.yC_ HO413.out;subst eo22;obtain⟨Ao23,co23,eo23⟩:=Kd.yC_ HO417.out;subst eo23)|(go_at_call 10;(with_reducible refine (y6_.calls kj3 _ _ t410 _ _ t414 true _ ?side1 ?side2 ?side3 ?side4 A15.out).mono ?_);(case side1=>repeat (first|exact (Kd.ys_ HO413.out).2.2|(with_reducible refine Kd.yK_ ?_ _)|(with_reducible refine Kd.y1_ ?_ _)|(with_reducible refine Kd.C_drew ?_)));(case side2=>exact (Kd.ys_ HO413.out).2.1);(case side3=>repeat (first|exact (Kd.ys_ HO417.out).2.2|(with_reducible refine Kd.yK_ ?_ _)|(with_reducible refine Kd.y1_ ?_ _)|(with_reducible refine Kd.C_drew ?_)));(case side4=>exact (Kd.ys_ HO417.out).2.1);rintro e w' ⟨rfl,⟨nd,rfl⟩⟩)|(go_at_call 11;(with_reducible refine (yY_.calls  t419 _ A17.out).mono ?_);rintro e w24 ⟨rfl,hb⟩;have n0_:=Aside0.mk (Kd.yV_ (by (with_reducible repeat (first|apply Kd.yg_|apply Kd.yh_|apply Kd.R_drew));exact HO413.out) hb);have n1_:=Aside0.mk (Kd.yV_ (by (with_reducible repeat (first|apply Kd.yg_|apply Kd.yh_|apply Kd.R_drew));exact HO417.out) hb);have n2_:=Aside0.mk (yp_ (by repeat (with_reducible first|exact HB.out|apply yc_|apply ya_|apply yb_)) hb);clear HO413;clear HO417;clear HB;have HO413:=n0_;have HO417:=n1_;have HB:=n2_;clear n0_ n1_ n2_;(try clear hb);(try clear hb2);(try clear hk);(try clear hi)))
   go_ret
   exact⟨by first|rfl|(simp [yq_,yr_] <;> rfl)|(simp [*,yq_,yr_] <;> rfl),by repeat (with_reducible first|exact HB.out|apply yc_|apply ya_|apply yb_)⟩

end Go.Proofs.Ythimblhfjfngiaa.PText

namespace Go.Proofs.Ythimblhfjfngiaa.PText
open Go.RowKit Go.Lib Go.Proofs.YthimblhfjfngiaaW.PrintWords Go.Proofs.YthimblhfjfngiaaW.PrintLast Go.Proofs.YthimblhfjfngiaaW.PrintMore
set_option linter.unusedVariables false
set_option linter.unusedSimpArgs false
def rowC (a:S59) (i:Nat):Nat→List S59→List S67
  | _,[]=>[]
  | j,b :: y=>(if meetE a b=true then [⟨(i:Int),(j:Int)⟩] else [])++rowC a i (j+1) y
def conC (y:List S59):Nat→List S59→List S67
  | _,[]=>[]
  | i,a :: x=>rowC a i 0 y++conC y (i+1) x
theorem conC_cons (y:List S59) (i:Nat) (a:S59) (x:List S59):conC y i (a :: x)=rowC a i 0 y++conC y (i+1) x:=rfl
theorem rowC_len (a:S59) (i:Nat):∀ (y:List S59) (j:Nat),(rowC a i j y).length≤y.length
  | [],j=>Nat.le_refl _
  | b :: y,j=>by
    have:=rowC_len a i y (j+1)
    unfold rowC
    rw[List.length_append,List.length_cons]
    split <;> simp <;> omega
theorem rowC_nil (a:S59) (i:Nat):∀ (y:List S59) (j:Nat),rowC a i j y=[]↔y.any (meetE a)=false
  | [],j=>by simp [rowC]
  | b :: y,j=>by
    have:=rowC_nil a i y (j+1)
    unfold rowC
    rw[List.any_cons]
    cases h:meetE a b <;> simp [this]
theorem conC_nil (y:List S59):∀ (x:List S59) (i:Nat),conC y i x=[]↔x.any (fun a=>y.any (meetE a))=false
  | [],i=>by simp [conC]
  | a :: x,i=>by
    have h1:=conC_nil y x (i+1)
    have h2:=rowC_nil a i y 0
    unfold conC
    rw[List.any_cons,List.append_eq_nil_iff,h1,h2]
    cases y.any (meetE a) <;> simp
theorem conC_len (y:List S59):∀ (x:List S59) (i:Nat),(conC y i x).length≤x.length * y.length
  | [],i=>by simp [conC]
  | a :: x,i=>by
    have h1:=conC_len y x (i+1)
    have h2:=rowC_len a i y 0
    unfold conC
    rw[List.length_append,List.length_cons,Nat.succ_mul]
    omega
theorem nx2 (i:Nat) (h:i≤1000000):wrap64 ((i:Int)+1)=((i+1:Nat):Int):=by rw[w64 (by omega) (by omega)];omega
theorem pconf_l1 (x y:List S59) (i:Nat) (hi:i < x.length) (n:Int) (hx:i≤1000000) (hy:y.length≤1000000):∀ (m j:Nat),j+m=y.length→∀ (k:Nat) (D:List S67),D.length+m≤1000000000 →
    yu_.l1 (k+m+1) x y D (i:Int) n (i:Int) (y.length:Int) (j:Int)=yu_.l0 k x y (D++rowC x[i] i j (y.drop j)) n ((i+1:Nat):Int)
  | 0,j,hj,k,D,hD=>by
    have e:y.drop j=[]:=List.drop_eq_nil_of_le (by omega)
    rw[e,show k+0+1=k+1 from rfl,yu_.l1,if_neg (by omega),nx2 i hx]
    unfold rowC
    rw[List.append_nil]
  | m+1,j,hj,k,D,hD=>by
    have hjl:j < y.length:=by omega
    have e:y.drop j=y[j] :: y.drop (j+1):=List.drop_eq_getElem_cons hjl
    rw[e,show k+(m+1)+1=(k+m+1)+1 from by omega,yu_.l1,if_pos (by omega),if_pos (by omega),if_pos (by omega),if_pos (by omega),if_pos (by omega),yxb_ x i hi,yxb_ y j hjl,meet_f,Option.bind_some,nx2 j (by omega)]
    unfold rowC
    cases h:meetE x[i] y[j] with
    | true =>
      rw[if_pos rfl,if_pos (by omega),pconf_l1 x y i hi n hx hy m (j+1) (by omega) k _ (by rw[List.length_append,List.length_singleton];omega),if_pos rfl,List.append_assoc]
    | false =>
      rw[if_neg (by decide),pconf_l1 x y i hi n hx hy m (j+1) (by omega) k D (by omega),if_neg (by decide),List.nil_append]
theorem pconf_l0 (x y:List S59) (C F:Nat) (hx:x.length≤1000000) (hy:y.length≤C) (hF:y.length+2≤F) (hC:C≤1000000) (hB:x.length * C+C≤1000000000):∀ (m i:Nat),i+m=x.length→∀ (k:Nat) (D:List S67),D.length≤i * C→m * F+1≤k →
    yu_.l0 k x y D (x.length:Int) (i:Int)=some (D++conC y i (x.drop i),0)
  | 0,i,hi,k,D,hD,hk=>by
    obtain⟨k,rfl⟩:∃ q,k=q+1:=⟨k - 1,by omega⟩
    have e:x.drop i=[]:=List.drop_eq_nil_of_le (by omega)
    rw[e,yu_.l0,if_neg (by omega)]
    unfold conC
    rw[List.append_nil]
  | m+1,i,hi,k,D,hD,hk=>by
    have hil:i < x.length:=by omega
    rw[Nat.succ_mul] at hk
    obtain⟨q,rfl⟩:∃ q,k=(q+y.length+1)+1:=⟨k - y.length - 2,by omega⟩
    have e:x.drop i=x[i] :: x.drop (i+1):=List.drop_eq_getElem_cons hil
    have hr:=rowC_len x[i] i y 0
    have hm:i * C≤x.length * C:=Nat.mul_le_mul_right C (by omega)
    have hs:(i+1) * C=i * C+C:=Nat.succ_mul i C
    have h1:=pconf_l1 x y i hil (x.length:Int) (by omega) (by omega) y.length 0 (by omega) q D (by omega)
    rw[List.drop_zero] at h1
    rw[e,yu_.l0,if_pos (by omega)]
    rw[show yu_.l1 (q+y.length+1) x y D (i:Int) (x.length:Int) (i:Int) (y.length:Int) 0=_ from h1,pconf_l0 x y C F hx hy hF hC hB m (i+1) (by omega) q _ (by rw[List.length_append];omega) (by omega),conC_cons,List.append_assoc]
theorem rmeet_f (x y:S59):yob_.f x.f0 x.f1 x.f2 y.f0 y.f1 y.f2=some (meetE x y):=meet_f x y
theorem rconf_l1 (x y:List S59) (i:Nat) (hi:i < x.length) (hx:i≤1000000) (hy:y.length≤1000000):∀ (m j:Nat),j+m=y.length→∀ (k:Nat) (D:List S67),D.length+m≤1000000000 →
    yj_.l1 (k+m+1) x y D (i:Int) (j:Int)=yj_.l0 k x y (D++rowC x[i] i j (y.drop j)) ((i+1:Nat):Int)
  | 0,j,hj,k,D,hD=>by
    have e:y.drop j=[]:=List.drop_eq_nil_of_le (by omega)
    rw[e,show k+0+1=k+1 from rfl,yj_.l1,if_neg (by omega),nx2 i hx]
    unfold rowC
    rw[List.append_nil]
  | m+1,j,hj,k,D,hD=>by
    have hjl:j < y.length:=by omega
    have e:y.drop j=y[j] :: y.drop (j+1):=List.drop_eq_getElem_cons hjl
    rw[e,show k+(m+1)+1=(k+m+1)+1 from by omega,yj_.l1,if_pos (by omega),if_pos (by omega),if_pos (by omega),if_pos (by omega),yxb_ x i hi,yxb_ y j hjl,rmeet_f,Option.bind_some,nx2 j (by omega)]
    unfold rowC
    cases h:meetE x[i] y[j] with
    | true =>
      rw[if_pos rfl,if_pos (by omega),rconf_l1 x y i hi hx hy m (j+1) (by omega) k _ (by rw[List.length_append,List.length_singleton];omega),if_pos rfl,List.append_assoc]
    | false =>
      rw[if_neg (by decide),rconf_l1 x y i hi hx hy m (j+1) (by omega) k D (by omega),if_neg (by decide),List.nil_append]
theorem rconf_l0 (x y:List S59) (C F:Nat) (hx:x.length≤1000000) (hy:y.length≤C) (hF:y.length+2≤F) (hC:C≤1000000) (hB:x.length * C+C≤1000000000):∀ (m i:Nat),i+m=x.length→∀ (k:Nat) (D:List S67),D.length≤i * C→m * F+1≤k →
    yj_.l0 k x y D (i:Int)=some (D++conC y i (x.drop i),0)
  | 0,i,hi,k,D,hD,hk=>by
    obtain⟨k,rfl⟩:∃ q,k=q+1:=⟨k - 1,by omega⟩
    have e:x.drop i=[]:=List.drop_eq_nil_of_le (by omega)
    rw[e,yj_.l0,if_neg (by omega)]
    unfold conC
    rw[List.append_nil]
  | m+1,i,hi,k,D,hD,hk=>by
    have hil:i < x.length:=by omega
    rw[Nat.succ_mul] at hk
    obtain⟨q,rfl⟩:∃ q,k=(q+y.length+1)+1:=⟨k - y.length - 2,by omega⟩
    have e:x.drop i=x[i] :: x.drop (i+1):=List.drop_eq_getElem_cons hil
    have hr:=rowC_len x[i] i y 0
    have hm:i * C≤x.length * C:=Nat.mul_le_mul_right C (by omega)
    have hs:(i+1) * C=i * C+C:=Nat.succ_mul i C
    have h1:=rconf_l1 x y i hil (by omega) (by omega) y.length 0 (by omega) q D (by omega)
    rw[List.drop_zero] at h1
    rw[e,yj_.l0,if_pos (by omega)]
    rw[show yj_.l1 (q+y.length+1) x y D (i:Int) 0=_ from h1,rconf_l0 x y C F hx hy hF hC hB m (i+1) (by omega) q _ (by rw[List.length_append];omega) (by omega),conC_cons,List.append_assoc]
/-- where two sides meet -/
def confR (b a c:ByteArray):List S67 × Int:=if (editsR b a).2≠0 then ([],(editsR b a).2) else if (editsR b c).2≠0 then ([],(editsR b c).2) else (conC (editsR b c).1 0 (editsR b a).1,0)
theorem pconf_f (b a c:ByteArray) (hb:b.size≤1000000000) (ha:a.size≤1000000000) (hc:c.size≤1000000000) (k:Nat) (hk:40000000≤k):yu_.f k b a c=some (confR b a c):=by
  have l1:=yvb_ b a
  have l2:=yvb_ b c
  unfold yu_.f confR
  rw[both_f b a c hb ha hc k (by omega),Option.bind_some]
  by_cases h1:(editsR b a).2≠0
  · rw[if_pos h1,if_pos h1,if_neg h1]
  rw[if_neg h1,if_neg h1]
  by_cases h2:(editsR b c).2≠0
  · rw[if_pos h2,if_pos h2,if_neg h2]
  rw[if_neg h2,if_neg h2,if_pos rfl]
  generalize (editsR b a).1=x at *
  generalize (editsR b c).1=y at *
  obtain⟨C,hC⟩:∃ C:Nat,C=4000:=⟨_,rfl⟩
  obtain⟨F,hF⟩:∃ F:Nat,F=4002:=⟨_,rfl⟩
  have hB:x.length * C+C≤1000000000:=by have q1:=Nat.mul_le_mul_right C (show x.length≤C by omega);have q2:C * C=16000000:=(by rw[hC]);omega
  have hK:x.length * F+1≤k:=by have q1:=Nat.mul_le_mul_right F (show x.length≤F by omega);have q2:F * F=16016004:=(by rw[hF]);omega
  have h:=pconf_l0 x y C F (by omega) (by omega) (by omega) (by omega) hB x.length 0 (by omega) k [] (Nat.zero_le _) hK
  rw[List.drop_zero,List.nil_append] at h
  exact h
theorem rconf_f (b a c:ByteArray) (hE1:∀ k,20000000≤k→ye_.f k b a=some (editsR b a)) (hE2:∀ k,20000000≤k→ye_.f k b c=some (editsR b c)) (k:Nat) (hk:40000000≤k):yj_.f k b a c=some (confR b a c):=by
  have l1:=yvb_ b a
  have l2:=yvb_ b c
  unfold yj_.f confR
  rw[hE1 k (by omega),Option.bind_some]
  by_cases h1:(editsR b a).2≠0
  · rw[if_pos h1,if_neg h1]
  rw[if_neg h1,if_pos (Decidable.of_not_not h1),hE2 k (by omega),Option.bind_some]
  by_cases h2:(editsR b c).2≠0
  · rw[if_pos h2,if_neg h2]
  rw[if_neg h2,if_pos (Decidable.of_not_not h2)]
  generalize (editsR b a).1=x at *
  generalize (editsR b c).1=y at *
  obtain⟨C,hC⟩:∃ C:Nat,C=4000:=⟨_,rfl⟩
  obtain⟨F,hF⟩:∃ F:Nat,F=4002:=⟨_,rfl⟩
  have hB:x.length * C+C≤1000000000:=by have q1:=Nat.mul_le_mul_right C (show x.length≤C by omega);have q2:C * C=16000000:=(by rw[hC]);omega
  have hK:x.length * F+1≤k:=by have q1:=Nat.mul_le_mul_right F (show x.length≤F by omega);have q2:F * F=16016004:=(by rw[hF]);omega
  have h:=rconf_l0 x y C F (by omega) (by omega) (by omega) (by omega) hB x.length 0 (by omega) k [] (Nat.zero_le _) hK
  rw[List.drop_zero,List.nil_append] at h
  exact h
end Go.Proofs.Ythimblhfjfngiaa.PText

