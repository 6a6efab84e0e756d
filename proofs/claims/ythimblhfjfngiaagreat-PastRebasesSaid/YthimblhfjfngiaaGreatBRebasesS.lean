/- PastRebases holds: for all steps, every number and all results the statement answers true. Part 19 of 24. -/
import Derived.Test.YthimblhfjfngiaaGreatBRebasesR
import Derived.Lib.OthersKept
import Derived.BigCall
import Derived.Lib.Hide
import Derived.Shelf.Abstract
import Derived.OwnWalkIn
import Derived.TacticsInMore
import Derived.LoopNIn
import Derived.LoopIn
import Derived.Lib.IndexLaws
namespace Go.Proofs.YthimblhfjfngiaaGreat.PText
open Go.RowKit Go.Lib Go.Proofs.YthimblhfjfngiaaGreatW.PrintWords Go.Proofs.YthimblhfjfngiaaGreatW.PrintLast Go.Proofs.YthimblhfjfngiaaGreatW.PrintMore
def nums (l:List UInt8):List Int:=l.map fun b=>(b.toNat:Int)
theorem nums_bytesOf (s:ByteArray):Go.Proofs.YthimblhfjfngiaaGreatW.PrintWords.bytesOf s=nums s.data.toList:=rfl
theorem nums_app (a b:List UInt8):nums a++nums b=nums (a++b):=(List.map_append ..).symm
theorem nums_len (a:List UInt8):(nums a).length=a.length:=List.length_map ..
theorem str_nums (l:List UInt8):strOfNums (nums l)=⟨l.toArray⟩:=by
  unfold strOfNums nums
  rw[List.map_map]
  have:(fun n:Int=>UInt8.ofNat n.toNat) ∘ (fun b:UInt8=>(b.toNat:Int))=id:=by
    funext b
    simp
  rw[this,List.map_id]
theorem yib_ (s:ByteArray):s.size=s.data.toList.length:=by rw[Array.length_toList];rfl
theorem ext_sl (s:ByteArray) (a b:Int):(s.extract a.toNat b.toNat).data.toList=Tx.sl s.data.toList a b:=by
  rw[ByteArray.data_extract,Array.toList_extract,List.extract_eq_take_drop];rfl
theorem ext_end (s:ByteArray) (a:Int):(s.extract a.toNat s.size).data.toList=s.data.toList.drop a.toNat:=by
  rw[ByteArray.data_extract,Array.toList_extract,List.extract_eq_take_drop]
  exact List.take_of_length_le (by rw[List.length_drop,yib_];exact Nat.le_refl _)
def sumS (l:List S91):Nat:=(l.map fun x=>x.f2.size).sum
theorem y3b_ (x:S91) (l:List S91):sumS (x :: l)=x.f2.size+sumS l:=by simp [sumS]
theorem sumS_app (l m:List S91):sumS (l++m)=sumS l+sumS m:=by simp [sumS]
theorem sumS_ins (x:S91):∀ l:List S91,sumS (Tx.ord.ins eltS x l)≤x.f2.size+sumS l
  | []=>by unfold Tx.ord.ins;rw[y3b_];exact Nat.le_refl _
  | y :: l=>by
    have:=sumS_ins x l
    unfold Tx.ord.ins
    split
    · simp only[y3b_];omega
    · split
      · simp only[y3b_];omega
      · simp only[y3b_];omega
theorem sumS_ord:∀ l:List S91,sumS (Tx.ord eltS l)≤sumS l
  | []=>Nat.le_refl _
  | x :: l=>by
    have h1:=sumS_ins x (Tx.ord eltS l)
    have h2:=sumS_ord l
    have e:Tx.ord eltS (x :: l)=Tx.ord.ins eltS x (Tx.ord eltS l):=rfl
    rw[e,y3b_]
    omega
def invS (s:ByteArray):Int→List S91→List S91
  | _,[]=>[]
  | sh,x :: l=>⟨x.f0+sh,x.f0+sh+(x.f2.size:Int),s.extract x.f0.toNat x.f1.toNat⟩ :: invS s (sh+((x.f2.size:Int) - (x.f1 - x.f0))) l
theorem toE_x (x:S91):(toE x).x=x.f2.data.toList:=Lib.toList_data x.f2
end Go.Proofs.YthimblhfjfngiaaGreat.PText

namespace Go.Proofs.YthimblhfjfngiaaGreat.PText
open Go.RowKit Go.Lib Go.Proofs.YthimblhfjfngiaaGreatW.PrintWords Go.Proofs.YthimblhfjfngiaaGreatW.PrintLast Go.Proofs.YthimblhfjfngiaaGreatW.PrintMore
theorem gains_le {n:Int}:∀ {l:List S91} {p:Int},Tx.Ch n p (l.map toE)→Tx.gains (l.map toE)≤(sumS l:Int)
  | [],_,_=>by simp [Tx.gains,sumS]
  | x :: l,p,h=>by
    have h1:(toE x).f≤(toE x).t:=h.2.1
    have h2:=gains_le (l:=l) h.2.2
    have e:Tx.gains ((x :: l).map toE)=Tx.gain (toE x)+Tx.gains (l.map toE):=rfl
    have e2:Tx.gain (toE x)=((toE x).x.length:Int) - ((toE x).t - (toE x).f):=rfl
    rw[e,e2,y3b_,toE_x,← yib_]
    omega
theorem made_len {s:ByteArray} {l:List S91} (h:fineE s.size l=0):(madeE s l).length≤s.size+sumS l:=by
  have hc:=(fine_chain s.size l h).2.2
  rw[yib_] at hc
  have h1:=Tx.ap_len (s:=s.data.toList) (Int.le_refl 0) hc
  have h2:=gains_le hc
  have h3:=sumS_ord l
  unfold madeE
  rw[yib_]
  omega
/-- what making edits answers -/
def applyR (s:ByteArray) (l:List S91):ByteArray × Int:=if fineE s.size l≠0 then (⟨#[]⟩,fineE s.size l) else if 200000 < (madeE s l).length then (⟨#[]⟩,2) else (⟨(madeE s l).toArray⟩,0)
theorem apply_f (s:ByteArray) (l:List S91) (h:s.size+sumS l≤100000000000):yIb_.f s l=some (applyR s l):=by
  unfold yIb_.f applyR
  by_cases hf:fineE s.size l=0
  rotate_left
  · rw[if_pos hf,if_pos hf]
  have:=made_len hf
  rw[if_neg (show ¬ (fineE s.size l≠0) from fun q=>q hf),if_neg (show ¬ (fineE s.size l≠0) from fun q=>q hf),if_pos (by omega)]
  by_cases hb:200000 < (madeE s l).length
  rotate_left
  · rw[if_neg hb,if_neg hb]
  rw[if_pos hb,if_pos hb]
theorem made_l0 (s:ByteArray) (l:List S91) (hl:l.length≤1000000):∀ (m i k:Nat) (P:List UInt8) (back:List S91) (p sh:Int),l.length - i=m→i≤l.length→m+1≤k→0≤p →
    Tx.Ch (s.size:Int) p ((l.drop i).map toE)→(P.length:Int)=p+sh→(P++Tx.ap s.data.toList p ((l.drop i).map toE)).length≤100000000000000→back.length≤i →
    yy_.l0 k s l (nums P) back p (i:Int)=some (⟨(P++Tx.ap s.data.toList p ((l.drop i).map toE)).toArray⟩,back++invS s sh (l.drop i)):=by
  intro m
  induction m with
  | zero =>
    intro i k P back p sh hm hi hk hp hc hP hlen hb
    obtain⟨k,rfl⟩:∃ q,k=q+1:=⟨k - 1,by omega⟩
    have hd:l.drop i=[]:=List.drop_of_length_le (by omega)
    rw[hd] at hc hlen ⊢
    have hc':p≤(s.size:Int):=hc
    have e1:Tx.ap s.data.toList p (([]:List S91).map toE)=s.data.toList.drop p.toNat:=rfl
    rw[e1] at hlen ⊢
    have e2:(s.extract p.toNat s.size).size=(s.data.toList.drop p.toNat).length:=by rw[yib_,ext_end]
    rw[List.length_append] at hlen
    rw[yy_.l0,if_neg (by omega),if_pos hp,if_pos hc',if_pos (by rw[nums_len,e2];omega),nums_bytesOf,ext_end,nums_app,str_nums]
    simp [invS]
  | succ m ih =>
    intro i k P back p sh hm hi hk hp hc hP hlen hb
    obtain⟨k,rfl⟩:∃ q,k=q+1:=⟨k - 1,by omega⟩
    have hlt:i < l.length:=by omega
    have hd:l.drop i=l[i] :: l.drop (i+1):=List.drop_eq_getElem_cons hlt
    rw[hd] at hc hlen ⊢
    obtain⟨hc1,hc2,hc3⟩:=hc
    replace hc1:p≤l[i].f0:=hc1
    replace hc2:l[i].f0≤l[i].f1:=hc2
    replace hc3:Tx.Ch (s.size:Int) l[i].f1 ((l.drop (i+1)).map toE):=hc3
    have hc4:=Tx.ch_le hc3
    have e0:Tx.ap s.data.toList p ((l[i] :: l.drop (i+1)).map toE)=Tx.sl s.data.toList p l[i].f0++l[i].f2.data.toList++Tx.ap s.data.toList l[i].f1 ((l.drop (i+1)).map toE):=by
      rw[← toE_x];rfl
    rw[e0] at hlen ⊢
    have hsl:((Tx.sl s.data.toList p l[i].f0).length:Int)=l[i].f0 - p:=Tx.sl_len hp hc1 (by rw[← yib_];omega)
    have e1:P++(Tx.sl s.data.toList p l[i].f0++l[i].f2.data.toList++Tx.ap s.data.toList l[i].f1 ((l.drop (i+1)).map toE))=(P++Tx.sl s.data.toList p l[i].f0++l[i].f2.data.toList)++Tx.ap s.data.toList l[i].f1 ((l.drop (i+1)).map toE):=by simp
    rw[e1] at hlen ⊢
    have hlen':=hlen
    rw[List.length_append,List.length_append,List.length_append,← yib_] at hlen
    have g1:(s.extract p.toNat l[i].f0.toNat).size=(Tx.sl s.data.toList p l[i].f0).length:=by rw[yib_,ext_sl]
    have ih1:=ih (i+1) k (P++Tx.sl s.data.toList p l[i].f0++l[i].f2.data.toList) (back++[(⟨l[i].f0+sh,l[i].f0+sh+(l[i].f2.size:Int),s.extract l[i].f0.toNat l[i].f1.toNat⟩:S91)]) l[i].f1 (sh+((l[i].f2.size:Int) - (l[i].f1 - l[i].f0))) (by omega) (by omega) (by omega) (by omega) hc3
      (by rw[List.length_append,List.length_append,← yib_];omega) hlen' (by rw[List.length_append,List.length_singleton];omega)
    rw[yy_.l0,if_pos (by omega),if_pos (by omega),if_pos hp,yzb_ l i hlt,if_pos hc1,if_pos (by omega),if_pos (by rw[nums_len,g1];omega),Option.bind_some,nums_bytesOf,ext_sl,nums_app,
      if_pos (by rw[nums_len,List.length_append];omega),Option.bind_some,nums_bytesOf,nums_app,if_pos (by omega),if_pos hc2,if_pos hc4,if_pos (by omega),nx i (by omega)]
    have n1:((nums (P++Tx.sl s.data.toList p l[i].f0)).length:Int)=l[i].f0+sh:=by rw[nums_len,List.length_append];omega
    have n2:((nums (P++Tx.sl s.data.toList p l[i].f0++l[i].f2.data.toList)).length:Int)=l[i].f0+sh+(l[i].f2.size:Int):=by rw[nums_len,List.length_append,List.length_append,← yib_];omega
    rw[n1,n2,ih1]
    have e4:invS s sh (l[i] :: l.drop (i+1))=(⟨l[i].f0+sh,l[i].f0+sh+(l[i].f2.size:Int),s.extract l[i].f0.toNat l[i].f1.toNat⟩:S91) :: invS s (sh+((l[i].f2.size:Int) - (l[i].f1 - l[i].f0))) (l.drop (i+1)):=rfl
    rw[e4,List.append_assoc back,List.singleton_append]
theorem made_f (s:ByteArray) (l:List S91) (N:Nat) (hN:l.length≤N) (hN2:N≤10000) (h:s.size+sumS l≤100000000000) (hf:fineE s.size l=0) (k:Nat) (hk:N * (2 * N+5)+N+2≤k) :
    yy_.f k s l=some (⟨(madeE s l).toArray⟩,invS s 0 (Tx.ord eltS l)):=by
  have hc:=(fine_chain s.size l hf).2.2
  have hl:=made_len hf
  have ho:(Tx.ord eltS l).length≤N:=Nat.le_trans (Tx.ord_len l) hN
  unfold yy_.f
  rw[ordered_f l N hN (by omega) k (by omega),Option.bind_some]
  have h:=made_l0 s (Tx.ord eltS l) (by omega) (Tx.ord eltS l).length 0 k [] [] 0 0 (by omega) (by omega) (by omega) (Int.le_refl 0) (by rw[List.drop_zero];exact hc) (by simp) (by rw[List.drop_zero,List.nil_append];exact Nat.le_trans hl (by omega)) (Nat.le_refl _)
  rw[List.drop_zero,List.nil_append,List.nil_append] at h
  exact h
theorem rapply_f (s:ByteArray) (l:List S91) (N:Nat) (hN:l.length≤N) (hN2:N≤10000) (h:s.size+sumS l≤100000000000) (k:Nat) (hk:N * (2 * N+5)+5 * N+10≤k) :
    yN_.f k s l=some (applyR s l):=by
  have hm:N * (N+4)≤N * (2 * N+5):=Nat.mul_le_mul_left _ (by omega)
  unfold yN_.f applyR
  rw[fine_f s l N hN (by omega) k (by omega),Option.bind_some]
  by_cases hf:fineE s.size l=0
  rotate_left
  · rw[if_neg hf,if_pos hf]
  rw[if_pos hf,made_f s l N hN hN2 h hf k (by omega),Option.bind_some,if_neg (show ¬ (fineE s.size l≠0) from fun q=>q hf)]
  have e:(((⟨(madeE s l).toArray⟩:ByteArray),invS s 0 (Tx.ord eltS l)).1).size=(madeE s l).length:=by
    show (madeE s l).toArray.size=_
    simp
  rw[e]
  by_cases hb:200000 < (madeE s l).length
  rotate_left
  · rw[if_neg (by omega),if_neg hb]
  rw[if_pos (by omega),if_pos hb]
end Go.Proofs.YthimblhfjfngiaaGreat.PText

namespace Go.Proofs.YthimblhfjfngiaaGreat.PText
open Go.RowKit Go.Lib Go.Sort Go.Proofs.YthimblhfjfngiaaGreatW.PrintWords Go.Proofs.YthimblhfjfngiaaGreatW.PrintLast Go.Proofs.YthimblhfjfngiaaGreatW.PrintMore
set_option linter.unusedVariables false
set_option linter.unusedSimpArgs false
/-- whatever lies in blocks of other types than the past's own two (the past itself, its row of commits) stands -/
def PKept (w w':World):Prop:=∀ (k:Nat) (o:Obj),w.heap[k]?=some o→(∀ c fz,o≠.cells c 61 fz)→(∀ c fz,o≠.cells c 63 fz)→w'.heap[k]?=some o
theorem PKept.refl (w:World):PKept w w:=fun _ _ h _ _=>h
theorem PKept.trans {a b c:World} (h:PKept a b) (k:PKept b c):PKept a c:=fun i o hi h1 h2=>k i o (h i o hi h1 h2) h1 h2
theorem PKept.of_below {w w':World} (h:Below w.heap.size w w'):PKept w w':=fun k o hk _ _=>(h.block k (Array.getElem?_eq_some_iff.1 hk).1).trans hk
/-- a row of files that stands: it lies in a block of files' cells, or there are none -/
structure FRow (w:World) (A:Option Addr) (cap:Nat) (l:List S41):Prop where
  cap:l.length≤cap
  reads:Kd.C k41 w A l.length l
  lies:l=[]∨∃ b cs,A=some ⟨b,0,none⟩∧w.heap[b]?=some (.cells cs 41 (0,0))
theorem C_kept53 {w w':World} {A:Option Addr} {l:List S41} {b:Nat} (h:Kd.C k41 w A l.length l) (hA:A=some ⟨b,0,none⟩) (hk:w'.heap[b]?=w.heap[b]?):Kd.C k41 w' A l.length l:=by
  obtain⟨h1,h2,h3⟩:=h
  refine⟨h1,h2,fun hl=>?_⟩
  obtain⟨ad,e,h4⟩:=h3 hl
  refine⟨ad,e,fun j t hj=>?_⟩
  obtain⟨cs,e1,e2,e3⟩:=h4 j t hj
  rw[hA] at e;cases e
  refine⟨cs,e1,?_,fun i u hu=>?_⟩
  · obtain rfl:=k41_open e2;exact k41_mk _ _
  · have:=e3 i u hu
    rw[← this]
    unfold World.cell?
    have:(Addr.add (⟨b,0,none⟩:Addr) (j * k41.sz+i)).block=b:=by unfold Addr.add;split <;> rfl
    simp only[this,hk]
theorem FRow.keep {w w':World} {A:Option Addr} {cap:Nat} {l:List S41} (h:FRow w A cap l) (hk:PKept w w'):FRow w' A cap l:=by
  rcases h.lies with e|⟨b,cs,e,hb⟩
  · subst e
    exact⟨h.cap,⟨rfl,by simp,fun q=>absurd q (by simp)⟩,.inl rfl⟩
  · have hb':=hk b _ hb (fun c fz q=>by cases q) (fun c fz q=>by cases q)
    exact⟨h.cap,C_kept53 h.reads e (by rw[hb,hb']),.inr ⟨b,cs,e,hb'⟩⟩
theorem FRow.of_R {w:World} {base:Nat} {A:Option Addr} {cap:Nat} {l:List S41} (h:Kd.R k41 41 w base (fun _=>True) (.slice A l.length cap) l):FRow w A cap l:=by
  have hR:=Kd.yt_ h
  refine⟨hR.2.1,hR.2.2,?_⟩
  by_cases hl:l=[]
  · exact .inl hl
  obtain⟨g,cap',hv,hb,_,cs,hc⟩:=Kd.R_form h (List.length_pos_iff.2 hl)
  cases hv
  exact .inr ⟨g,cs,rfl,hc⟩
/-- a commit -/
structure Com where
  name:ByteArray
  files:List S41
/-- a commit in a block -/
def ComAt (w:World) (c:Nat) (x:Com):Prop:=∃ A cap,w.heap[c]?=some (.cells #[.string x.name,.slice A x.files.length cap] 81 (0,0))∧FRow w A cap x.files
theorem ComAt.keep {w w':World} {c:Nat} {x:Com} (h:ComAt w c x) (hk:PKept w w'):ComAt w' c x:=by
  obtain⟨A,cap,h1,h2⟩:=h
  exact⟨A,cap,hk c _ h1 (fun c fz q=>by cases q) (fun c fz q=>by cases q),h2.keep hk⟩
def nameP (name:ByteArray) (x:S41):Bool:=x.f0.toList == name.toList
/-- a file's text, and whether it is there -/
def findR (l:List S41) (name:ByteArray):ByteArray × Bool:=match l.find? (nameP name) with
  | some x=>(x.f1,true)
  | none=>(⟨#[]⟩,false)
theorem find_split (name:ByteArray):∀ l:List S41,(∃ k,∃ hk:k < l.length,nameP name l[k]=true∧(∀ j,∀ hj:j < l.length,j < k→nameP name l[j]=false)∧findR l name=(l[k].f1,true))∨((∀ j,∀ hj:j < l.length,nameP name l[j]=false)∧findR l name=(⟨#[]⟩,false))
  | []=>.inr ⟨fun j hj=>absurd hj (Nat.not_lt_zero _),rfl⟩
  | x :: l=>by
    cases q:nameP name x with
    | true =>
      refine .inl ⟨0,by simp,q,fun j _ h0=>absurd h0 (Nat.not_lt_zero _),?_⟩
      unfold findR
      rw[List.find?_cons,q];rfl
    | false =>
      have e:findR (x :: l) name=findR l name:=by unfold findR;rw[List.find?_cons,q]
      rw[e]
      rcases find_split name l with ⟨k,hk,h1,h2,h3⟩|⟨h1,h2⟩
      · refine .inl ⟨k+1,by simp;omega,h1,fun j hj h0=>?_,h3⟩
        cases j with
        | zero=>exact q
        | succ j=>exact h2 j (by simp at hj;omega) (by omega)
      · refine .inr ⟨fun j hj=>?_,h2⟩
        cases j with
        | zero=>exact q
        | succ j=>exact h1 j (by simp at hj;omega)
set_option maxRecDepth 100000 in
set_option maxHeartbeats 1000000 in
theorem find_pred (name:ByteArray) (B:Nat) (w:World) (hB:B < w.heap.size) (hcell:w.cell? ⟨B,0,none⟩=some (.string name)) :
    PredBelow Tryz.prog 49 #[.pointer (some ⟨B,0,none⟩)] (fun x=>.agg (enc53 x).toArray) (nameP name) w:=fun W x hb=>by
  have hc:W.cell? ⟨B,0,none⟩=some (.string name):=(hb.cell (p:=⟨B,0,none⟩) hB).trans hcell
  have hBW:B < W.heap.size:=Nat.lt_of_lt_of_le hB hb.size
  have hne:B≠W.heap.size:=by omega
  have hu:=Tryz.underlying41
  show Calls Tryz.prog 49 #[.agg #[.string x.f0,.string x.f1],.pointer (some ⟨B,0,none⟩)] W _
  go_enter Tryz.func49,Tryz.ntmps49
  go_wp2
  go_ret
  exact⟨rfl,hb.alloc hb.size _⟩
theorem C_addr53 {w:World} {A:Option Addr} {l:List S41} (h:Kd.C k41 w A l.length l) (hp:0 < l.length) :
    ∃ b o,A=some ⟨b,o,none⟩∧b < w.heap.size∧∀ j,j < l.length→∀ i v,(enc53 l[j]!)[i]?=some v→w.cell? ⟨b,o+j * 2+i,none⟩=some v:=by
  obtain⟨⟨b,o,sp⟩,rfl,h0,_⟩:=at_T41 h 0 (by omega) (by omega)
  have hsp:sp=none:=by
    cases sp with
    | none=>rfl
    | some q =>
      unfold World.cell? at h0
      simp only[Addr.add] at h0
      split at h0 <;> simp at h0
  subst hsp
  have hb:b < w.heap.size:=World.block_lt_of_cell? w _ h0
  refine⟨b,o,rfl,hb,fun j hj i v hv=>?_⟩
  obtain⟨ad,e,h1,h2⟩:=at_T41 h (j:Int) (by omega) (by omega)
  cases e
  have hr:rd_T41 l (j:Int)=l[j]:=by unfold rd_T41;rw[Int.toNat_natCast,List.getD_eq_getElem?_getD,List.getElem?_eq_getElem hj];rfl
  rw[hr] at h1 h2
  rw[getElem!_pos l j hj] at hv
  simp only[Int.toNat_natCast,Addr.add_lit] at h1 h2
  match i,hv with
  | 0,hv=>simp [enc53] at hv;subst hv;exact h1
  | 1,hv=>simp [enc53] at hv;subst hv;exact h2
  | i+2,hv=>simp [enc53] at hv
set_option maxRecDepth 100000 in
set_option maxHeartbeats 1000000 in
theorem index53_empty (p:Option Addr) (c g:Nat) (lb:Array Value) (w:World):Calls Tryz.prog 48 #[.slice p 0 c,.func (.func g) #[] lb] w fun e w'=>e=.returned (.int .i64 (-1))∧Below w.heap.size w w':=by
  go_enter Tryz.func48,Tryz.ntmps48
  go_wp2
  go_loopg [5,8] 0 (fun _ _ s8 wr=>s8=.int .i64 0∧wr=w)
  case atStart=>exact⟨rfl,rfl⟩
  case round =>
    obtain⟨rfl,rfl⟩:=hrel
    go_wp2
    go_ret
    exact⟨rfl,Below.refl _ _⟩
theorem index53_calls (name:ByteArray) (A:Option Addr) (cap B:Nat) (l:List S41) (w:World) (hC:Kd.C k41 w A l.length l) (hB:B < w.heap.size) (hcell:w.cell? ⟨B,0,none⟩=some (.string name)) (hl:l.length≤10000) (r:Int)
    (hr:(∃ k:Nat,∃ hk:k < l.length,r=(k:Int)∧nameP name l[k]=true∧∀ j,∀ hj:j < l.length,j < k→nameP name l[j]=false)∨(r=-1∧∀ j,∀ hj:j < l.length,nameP name l[j]=false)) :
    Calls Tryz.prog 48 #[.slice A l.length cap,.func (.func 49) #[] #[.pointer (some ⟨B,0,none⟩)]] w fun e w'=>e=.returned (.int .i64 r)∧Below w.heap.size w w':=by
  by_cases hp:l.length=0
  · obtain rfl:=List.eq_nil_of_length_eq_zero hp
    rcases hr with ⟨k,hk,_⟩|⟨rfl,_⟩
    · exact absurd hk (Nat.not_lt_zero _)
    · exact index53_empty A cap 49 _ w
  obtain⟨b,o,rfl,hb,hc⟩:=C_addr53 hC (by omega)
  have eg:∀ args w,(callFunc 49 args).run Tryz.prog w=.ok (.enter 49 args) w:=enters_of Tryz.func49 ze_ rfl
  have h:=AnyQ.slices_IndexFunc Tryz.indexFi 2 isAgg53 sizeOf53 enc53 enc53_len (nameP name) 49 #[.pointer (some ⟨B,0,none⟩)] eg b o l.length cap l w (find_pred name B w hB hcell) (Nat.le_refl _) (by omega) hb hc
  refine h.mono ?_
  rintro e w' ⟨rfl,hb'⟩
  refine⟨?_,hb'⟩
  rcases hr with ⟨k,hk,rfl,h1,h2⟩|⟨rfl,h1⟩
  · rw[Lib.idxBy_hit (fun _ y=>nameP name y) l l.length k default hk (Nat.le_refl _) (by rw[getElem!_pos l k hk];exact h1) (fun j hj=>by rw[getElem!_pos l j (by omega)];exact h2 j (by omega) hj)]
  · rw[Lib.idxBy_miss (fun _ y=>nameP name y) l l.length default (fun j hj=>by rw[getElem!_pos l j hj];exact h1 j hj)]
set_option maxRecDepth 100000 in
set_option maxHeartbeats 2000000 in
theorem find_calls (c:Nat) (x:Com) (name:ByteArray) (w:World) (h:ComAt w c x) (hl:x.files.length≤10000) :
    Calls Tryz.prog 28 #[.pointer (some ⟨c,0,none⟩),.string name] w fun e w'=>e=.returned (.tuple #[.string (findR x.files name).1,.bool (findR x.files name).2])∧Below w.heap.size w w':=by
  obtain⟨A,cap,hc,hF⟩:=h
  have hlt:c < w.heap.size:=(Array.getElem?_eq_some_iff.1 hc).1
  have h1:w.cell? ⟨c,1,none⟩=some (.slice A x.files.length cap):=by unfold World.cell?;rw[hc];rfl
  have hne:c≠w.heap.size:=by omega
  have HF:=Aside0.mk hF
  have HLT:=Aside0.mk hlt
  have HX:=Aside0.mk (fun (r:Int) hr=>index53_calls name A cap w.heap.size x.files (w.alloc (.cells #[.string name] 9)) (Kd.yM_ hF.reads _) (by simp) (by simp) hl r hr)
  have hcap:=hF.cap
  have H1:=Aside0.mk h1
  clear hc hF h1
  rcases find_split name x.files with ⟨k,hk,q1,q2,q3⟩|⟨q1,q2⟩
  · have H:=Aside0.mk (HX.out (k:Int) (.inl ⟨k,hk,rfl,q1,q2⟩))
    have Q3:=Aside0.mk q3
    have h1:=H1.out
    have hkc:(k:Int) < (x.files.length:Int):=by omega
    have hk0:(0:Int)≤(k:Int):=by omega
    clear q1 q2 q3 HX
    go_enter Tryz.func28,Tryz.ntmps28
    have hdk:decide ((k:Int) < 0)=false:=decide_eq_false (by omega)
    go_wp2_with (go_at_call 48;refine H.out.mono ?_;rintro e w2 ⟨rfl,hb⟩;have HB:=Aside0.mk (((Below.refl _ w).alloc (Nat.le_refl _) (.cells #[.string name] 9)).trans (hb.mono (by simp)));clear hb H;have h1':=(HB.out.cell (p:=⟨c,1,none⟩) HLT.out).trans H1.out;obtain⟨ad,e0,hx0,hx1⟩:=at_T41 (Kd.yR_ HF.out.reads HB.out) (k:Int) hk0 hkc;cases e0;rw[Int.toNat_natCast] at hx0 hx1;rw[show rd_T41 x.files (k:Int)=x.files[k] by unfold rd_T41;rw[Int.toNat_natCast,List.getD_eq_getElem?_getD,List.getElem?_eq_getElem hk];rfl] at hx0 hx1)
    go_ret2
    exact⟨by rw[Q3.out];rfl,HB.out⟩
  · have H:=Aside0.mk (HX.out (-1) (.inr ⟨rfl,q1⟩))
    have Q3:=Aside0.mk q2
    have h1:=H1.out
    clear q1 q2 HX
    go_enter Tryz.func28,Tryz.ntmps28
    go_wp2_with (go_at_call 48;refine H.out.mono ?_;rintro e w2 ⟨rfl,hb⟩;have HB:=Aside0.mk hb;clear hb H)
    go_ret2
    refine⟨by rw[Q3.out];rfl,?_⟩
    exact ((Below.refl _ w).alloc (Nat.le_refl _) _).trans (HB.out.mono (by simp))
end Go.Proofs.YthimblhfjfngiaaGreat.PText

namespace Go.Proofs.YthimblhfjfngiaaGreat.PText
open Go.RowKit Go.Lib Go.Sort Go.Proofs.YthimblhfjfngiaaGreatW.PrintWords Go.Proofs.YthimblhfjfngiaaGreatW.PrintLast Go.Proofs.YthimblhfjfngiaaGreatW.PrintMore
set_option linter.unusedVariables false
set_option linter.unusedSimpArgs false
/-- a commit's pointer, in a row -/
def kP:Kd Nat:=Kd.scalar (fun c:Nat=>Value.pointer (some ⟨c,0,none⟩)) (fun _=>rfl)
theorem info77:(Tryz.prog.info? 63).map (fun i=>(i.zero,i.size,i.bytes))=some (some (.pointer none),1,8):=by kernel_rfl
/-- a past: its commits, in their order -/
def PastIs (w:World) (base p:Nat) (L:List Com):Prop :=
  ∃ (A:Option Addr) (cap:Nat) (ps:List Nat),ps.length=L.length∧base≤p∧w.heap[p]?=some (.cells #[.slice A L.length cap] 61 (0,0))∧Kd.R kP 63 w base (fun _=>True) (.slice A L.length cap) ps ∧
    ∀ i,∀ h:i < L.length,∀ h':i < ps.length,ComAt w ps[i] L[i]
theorem PastIs.below {w w':World} {base p:Nat} {L:List Com} (h:PastIs w base p L) (hb:Below w.heap.size w w'):PastIs w' base p L:=by
  obtain⟨A,cap,ps,h1,h2,h3,h4,h5⟩:=h
  exact⟨A,cap,ps,h1,h2,(hb.block p (Array.getElem?_eq_some_iff.1 h3).1).trans h3,Kd.yH_ h4 hb,fun i a b=>(h5 i a b).keep (PKept.of_below hb)⟩
theorem PastIs.lt {w:World} {base p:Nat} {L:List Com} (h:PastIs w base p L):p < w.heap.size:=by
  obtain⟨A,cap,ps,h1,h2,h3,h4,h5⟩:=h
  exact (Array.getElem?_eq_some_iff.1 h3).1
theorem yAb_ (w:World) (o:Obj):(w.alloc o).heap[w.heap.size]?=some o:=by
  show (w.heap.push o)[w.heap.size]?=some o
  exact Array.getElem?_push_size
theorem yBb_ (l:List S41) (i:Nat) (h:i < l.length):rd_T41 l (i:Int)=l[i]:=by
  unfold rd_T41
  rw[Int.toNat_natCast,List.getD_eq_getElem?_getD,List.getElem?_eq_getElem h];rfl
theorem new_calls (w:World):Calls Tryz.prog 26 #[] w fun e w'=>e=.returned (.pointer (some ⟨w.heap.size,0,none⟩))∧PastIs w' w.heap.size w.heap.size []∧Below w.heap.size w w'∧PKept w w':=by
  go_enter Tryz.func26,Tryz.ntmps26
  go_wp2
  go_ret
  refine⟨rfl,⟨none,0,[],rfl,Nat.le_refl _,yAb_ _ _,Kd.R_nil _ _ _ _ _,fun i h=>absurd h (Nat.not_lt_zero _)⟩,(Below.refl _ w).alloc (Nat.le_refl _) _,PKept.of_below ((Below.refl _ w).alloc (Nat.le_refl _) _)⟩
theorem own_ne {w:World} {base p n cap:Nat} {A:Option Addr} {ps:List Nat} {cs:Array Value} {fz:Nat × Nat} (h:Kd.R kP 63 w base (fun _=>True) (.slice A n cap) ps) (hp:w.heap[p]?=some (.cells cs 61 fz)):some p≠(Value.slice A n cap).ownBlock:=fun e=>by
  obtain⟨inner,ho⟩:=Kd.R_own h
  obtain⟨cells,hc⟩:=ymb_ ho p e.symm
  rw[hp] at hc
  cases hc
theorem heap_pushed {wr w5 W:World} {p:Nat} {o o1:Obj} {row:Option Nat} (hp:wr.heap[p]?=some o) (hW:W=wr.alloc o1) (hg:W.grownBy w5 row) (hne:some p≠row):w5.heap[p]?=some o:=by
  subst hW
  have hlt:=(Array.getElem?_eq_some_iff.1 hp).1
  rw[hg.block p (by simp;omega) hne]
  show (wr.heap.push o1)[p]?=_
  rw[Array.getElem?_push,if_neg (by omega),hp]
/-- a past behind an append to its row and the store of the row -/
theorem past_pushed {wr w5 W:World} {base p cap cap' n5 c5:Nat} {A A' A5:Option Addr} {L:List Com} {ps:List Nat} {x:Com}
    (hps:ps.length=L.length) (hbp:base≤p) (hbw:base≤wr.heap.size) (h3:wr.heap[p]?=some (.cells #[.slice A L.length cap] 61 (0,0))) (h4:Kd.R kP 63 wr base (fun _=>True) (.slice A ps.length cap) ps) (h5:∀ i,∀ h:i < L.length,∀ h':i < ps.length,ComAt wr ps[i] L[i])
    (hW:W=wr.alloc (.cells #[.string x.name,.slice A' x.files.length cap'] 81)) (hF:FRow wr A' cap' x.files)
    (ho:Kd.R kP 63 w5 base (fun _=>True) (.slice A5 n5 c5) (ps++[wr.heap.size])) (hb:Below base wr w5) (hg:W.grownBy w5 (Value.slice A ps.length cap).ownBlock) :
    PastIs (w5.setCell ⟨p,0,none⟩ (.slice A5 n5 c5)) base p (L++[x])∧Below base wr (w5.setCell ⟨p,0,none⟩ (.slice A5 n5 c5))∧PKept wr (w5.setCell ⟨p,0,none⟩ (.slice A5 n5 c5)):=by
  have hp5:=heap_pushed h3 hW hg (own_ne h4 h3)
  have hn5:n5=L.length+1:=by
    have:=(Kd.yt_ ho).1
    rw[List.length_append,List.length_singleton,hps] at this
    exact this
  have hother:∀ k,k≠p→(w5.setCell ⟨p,0,none⟩ (.slice A5 n5 c5)).heap[k]?=w5.heap[k]?:=fun k hk=>Below.heap_setCell _ _ _ _ (fun e=>hk e)
  have hself:(w5.setCell ⟨p,0,none⟩ (.slice A5 n5 c5)).heap[p]?=some (.cells #[.slice A5 n5 c5] 61 (0,0)):=by
    unfold World.setCell
    simp only
    rw[Array.getElem?_modify,if_pos rfl,hp5]
    rfl
  have hk:PKept wr (w5.setCell ⟨p,0,none⟩ (.slice A5 n5 c5)):=by
    intro k o hko h76 h77
    have hkp:k≠p:=by
      intro e;subst e
      rw[h3] at hko
      cases hko
      exact h76 _ _ rfl
    rw[hother k hkp]
    refine heap_pushed hko hW hg ?_
    intro e
    obtain⟨inner,hown⟩:=Kd.R_own h4
    obtain⟨cells,hc⟩:=ymb_ hown k e.symm
    rw[hko] at hc
    cases hc
    exact h77 _ _ rfl
  have hbel:Below base wr (w5.setCell ⟨p,0,none⟩ (.slice A5 n5 c5)):=by
    refine⟨hb.os,hb.tape,hb.output,?_,fun k hkb=>?_⟩
    · have:(w5.setCell ⟨p,0,none⟩ (.slice A5 n5 c5)).heap.size=w5.heap.size:=by unfold World.setCell;simp
      rw[this];exact hb.size
    · rw[hother k (by omega)];exact hb.block k hkb
  refine⟨⟨A5,c5,ps++[wr.heap.size],by rw[List.length_append,List.length_append,hps];rfl,hbp,?_,?_,?_⟩,hbel,hk⟩
  · rw[hself,hn5,List.length_append];rfl
  · rw[List.length_append,List.length_singleton,← hn5]
    exact Kd.R_set ho hp5 (fun q hq=>by rcases List.mem_cons.1 hq with h|h;subst h;decide;cases h) 0 _
  · intro i h h'
    by_cases hi:i < L.length
    · rw[List.getElem_append_left (by omega),List.getElem_append_left hi]
      exact (h5 i hi (by omega)).keep hk
    have e1:i=L.length:=by rw[List.length_append,List.length_singleton] at h;omega
    subst e1
    rw[List.getElem_append_right (by omega),List.getElem_append_right (Nat.le_refl _)]
    simp only[hps,Nat.sub_self,List.getElem_cons_zero]
    refine⟨A',cap',?_,hF.keep hk⟩
    have hne:wr.heap.size≠p:=by have:=(Array.getElem?_eq_some_iff.1 h3).1;omega
    rw[hother _ hne]
    subst hW
    rw[hg.block wr.heap.size (by simp) ?_]
    · exact yAb_ _ _
    · intro e
      obtain⟨inner,hown⟩:=Kd.R_own h4
      obtain⟨cells,hc⟩:=ymb_ hown _ e.symm
      have:=(Array.getElem?_eq_some_iff.1 hc).1
      omega
/-- what a commit comes to: its number, the error, the commits behind it -/
def commitR (L:List Com) (name:ByteArray) (fs:List S41):Int × Int × List Com :=
  if L.length=200∨60 < fs.length then (0,2,L) else if ¬ (fnames fs).Nodup then (0,5,L) else if ∃ x∈fs,x.f0.toList=[] then (0,3,L) else ((L.length:Int),0,L++[⟨name,srtF fs⟩])
set_option maxHeartbeats 8000000 in
set_option maxRecDepth 100000 in
theorem commit_calls (base p:Nat) (L:List Com) (name:ByteArray) (A1:Option Addr) (c1:Nat) (fs:List S41) (w:World) (hP:PastIs w base p L) (hC:Kd.C k41 w A1 fs.length fs) (hc:fs.length≤c1) (hL:L.length≤200) (hbase:base≤w.heap.size) :
    Calls Tryz.prog 25 #[.pointer (some ⟨p,0,none⟩),.string name,.slice A1 fs.length c1] w fun e w'=>e=.returned (.tuple #[.int .i64 (commitR L name fs).1,.int .i64 (commitR L name fs).2.1])∧PastIs w' base p (commitR L name fs).2.2∧Below base w w'∧PKept w w':=by
  have HP:=Aside0.mk hP
  have HC:=Aside0.mk hC
  have HCC:=Aside0.mk hc
  have HBS:=Aside0.mk hbase
  obtain⟨A,cap,ps,hps,hbp,h3,h4,h5⟩:=hP
  have hx0:w.cell? ⟨p,0,none⟩=some (.slice A L.length cap):=by unfold World.cell?;rw[h3];rfl
  have HX0:=Aside0.mk hx0
  have HPL:=Aside0.mk (HP.out.lt)
  have HLL:=Aside0.mk hL
  clear hC hc hbase h4 h5 hps h3 hbp
  by_cases g1:L.length=200
  · have e:commitR L name fs=(0,2,L):=by unfold commitR;rw[if_pos (Or.inl g1)]
    rw[e]
    rw[g1] at hx0
    go_enter Tryz.func25,Tryz.ntmps25
    go_wp2
    go_ret2
    exact⟨rfl,HP.out,Below.refl _ _,PKept.refl _⟩
  by_cases g2:60 < fs.length
  · have e:commitR L name fs=(0,2,L):=by unfold commitR;rw[if_pos (Or.inr g2)]
    have d1:((L.length:Int) == 200)=false:=beq_eq_false_iff_ne.mpr (by omega)
    have d2:decide ((60:Int) < (fs.length:Int))=true:=by simp;omega
    rw[e]
    go_enter Tryz.func25,Tryz.ntmps25
    go_wp2
    go_ret2
    exact⟨rfl,HP.out,Below.refl _ _,PKept.refl _⟩
  have d1:((L.length:Int) == 200)=false:=beq_eq_false_iff_ne.mpr (by omega)
  have d2:decide ((60:Int) < (fs.length:Int))=false:=by simp;omega
  have H37:=Aside0.mk (clone53_calls A1 c1 fs w HC.out (by omega))
  have H38:=Aside0.mk (fun (A:Option Addr) (cap:Nat) (w2:World) (h:Kd.R k41 41 w2 w.heap.size (fun _=>True) (.slice A fs.length cap) fs)=>sort53_row A cap fs w2 w.heap.size h (by omega))
  have HG1:=Aside0.mk g1
  have HG2:=Aside0.mk g2
  clear g1 g2
  go_enter Tryz.func25,Tryz.ntmps25
  go_wp2_with (first
    | (go_at_call 40;refine H37.out.mono ?_;rintro e w1 ⟨v1,rfl,ho,hb⟩;obtain⟨A2,c2,rfl⟩:=Kd.yE_ ho;have HO1:=Aside0.mk ho;have HB1:=Aside0.mk hb;clear ho hb H37)
    | (go_at_call 44;refine (H38.out _ _ _ HO1.out).mono ?_;rintro e w2 ⟨rfl,d,hdl,hdp,hds,ho,hb⟩;have HO:=Aside0.mk ho;have HB:=Aside0.mk (HB1.out.trans hb);have HDP:=Aside0.mk hdp;have HDS:=Aside0.mk hds;have HDL:=Aside0.mk hdl;clear ho hb hdp hds hdl H38))
  have HB2:=Aside0.mk (Below.refl w2.heap.size w2)
  rw[← HDL.out]
  have HL60:=Aside0.mk (show d.length≤60 by have:=HG2.out;have:=HDL.out;omega)
  go_loopg [30] (d.length+1) (fun kq v30 w'=>∃ i:Nat,v30=.int .i64 (i:Int)∧Aside0 (d.length - i < kq∧i≤d.length)∧Aside0 (Below w2.heap.size w2 w')∧Aside0 (∀ j,∀ h:j+1 < d.length,j+1 < i→d[j+1].f0.toList≠d[j].f0.toList))
  case atStart=>exact⟨0,rfl,⟨by omega,by omega⟩,HB2,⟨fun j h h0=>absurd h0 (by omega)⟩⟩
  case round =>
    obtain⟨i,rfl,HI,HBe,HN⟩:=hrel
    obtain⟨k1,rfl⟩:∃ k1,gk=k1+1:=⟨gk - 1,by have:=HI.out.1;omega⟩
    have HCd:Aside0 (Kd.C k41 wr A2 d.length d):=⟨Kd.yR_ (by have:=(Kd.yt_ HO.out);rw[← HDL.out] at this;exact this.2.2) HBe.out⟩
    by_cases hlt:i < d.length
    · have hb:decide ((i:Int) < (d.length:Int))=true:=by simp;omega
      have hb2:decide ((0:Int)≤(i:Int))=true:=by simp
      have p0:(0:Int)≤(i:Int):=by omega
      have q0:(i:Int) < (d.length:Int):=by omega
      obtain⟨ad,e0,hx,hy⟩:=at_T41 HCd.out (i:Int) p0 q0
      cases e0
      rw[Int.toNat_natCast,yBb_ d i hlt] at hx hy
      by_cases hi0:i=0
      · have hd0:decide ((0:Int) < (i:Int))=false:=by simp;omega
        have hd1:(0 < i)=False:=eq_false (by omega)
        have hd2:decide (0 < i)=false:=decide_eq_false (by omega)
        have HN0:Aside0 (∀ j,∀ h:j+1 < d.length,j+1 < i+1→d[j+1].f0.toList≠d[j].f0.toList):=⟨fun j h h0=>absurd h0 (by omega)⟩
        generalize d[i]=x at *
        clear hi0
        go_wp2_with fail
        go_big_quiet (fail)
        go_wp2_with fail
        go_roundg k1
        case measure=>have:=HI.out.1;omega
        case rel=>exact⟨i+1,congrArg (Value.int .i64) (nx i (by have:=HL60.out;omega)),⟨by have:=HI.out.1;omega,by omega⟩,⟨ya_ (HBe.out.alloc HBe.out.size _) _⟩,HN0⟩
      obtain⟨j,hj⟩:∃ j:Nat,j+1=i:=⟨i - 1,by omega⟩
      have hd0:decide ((0:Int) < (i:Int))=true:=by simp;omega
      have hd1:(0 < i)=True:=eq_true (by omega)
      have hd2:decide (0 < i)=true:=decide_eq_true (by omega)
      have hjn:j < d.length:=by omega
      have hi60:i≤60:=by have:=HL60.out;omega
      have hw:wrap64 ((i:Int) - 1)=(j:Int):=by rw[w64 (by omega) (by omega)];omega
      obtain⟨ad',e0,hz,-⟩:=at_T41 HCd.out (j:Int) (by omega) (by omega)
      cases e0
      rw[Int.toNat_natCast,yBb_ d j hjn] at hz
      have HNS:Aside0 (d[i].f0.toList≠d[j].f0.toList→∀ j,∀ h:j+1 < d.length,j+1 < i+1→d[j+1].f0.toList≠d[j].f0.toList):=⟨fun q j' h h0=>by
        by_cases e:j'+1=i
        · subst e
          have e2:j=j':=by omega
          subst e2
          exact q
        · exact HN.out j' h (by omega)⟩
      have HDU:Aside0 (d[i].f0.toList=d[j].f0.toList→¬ NoNext d):=⟨fun q hn=>by subst hj;exact hn j (by omega) q⟩
      generalize d[i]=x at *
      generalize d[j]=y at *
      have hw2:IntKind.i64.wrap ((i:Int) - 1)=(j:Int):=(i64_w _).trans hw
      have hz':(wr.alloc (.cells #[.string x.f0,.string x.f1] 41)).cell? (ad.add (j * 2))=some (.string y.f0):=(World.cell?_alloc_some wr _ _ (by rw[hz];rfl)).trans hz
      have hj0:(0:Int)≤(j:Int):=by omega
      have hj1:(j:Int) < (d.length:Int):=by omega
      by_cases heq:x.f0.toList=y.f0.toList
      rotate_left
      · have hbq:(x.f0.toList == y.f0.toList)=false:=beq_eq_false_iff_ne.2 heq
        have HN2:=Aside0.mk (HNS.out heq)
        clear heq
        go_wp2_with fail
        go_big_quiet (fail)
        go_wp2_with fail
        go_roundg k1
        case measure=>have:=HI.out.1;omega
        case rel=>exact⟨i+1,congrArg (Value.int .i64) (by first|exact nx i (by omega)|omega),⟨by have:=HI.out.1;omega,by omega⟩,⟨ya_ (HBe.out.alloc HBe.out.size _) _⟩,HN2⟩
      have hbq:(x.f0.toList == y.f0.toList)=true:=beq_iff_eq.2 heq
      have hND:¬ (fnames fs).Nodup:=fun q=>HDU.out heq (noNext_of ((perm_names HDP.out).nodup_iff.2 q))
      have e:commitR L name fs=(0,5,L):=by unfold commitR;rw[if_neg (by have:=HG1.out;have:=HG2.out;omega),if_pos hND]
      have HE:=Aside0.mk e
      clear heq hND e
      go_wp2_with fail
      go_big_quiet (fail)
      have HBZ:=Aside0.mk (HB.out.trans ((ya_ (HBe.out.alloc HBe.out.size (.cells #[.string x.f0,.string x.f1] 41)) nq).mono HB.out.size))
      go_wp2_with fail
      go_ret2
      exact⟨by rw[HE.out];rfl,by rw[HE.out];exact HP.out.below HBZ.out,HBZ.out.mono HBS.out,PKept.of_below HBZ.out⟩
    have hb:decide ((i:Int) < (d.length:Int))=false:=by simp;omega
    have HBZ:=Aside0.mk (HB.out.trans (HBe.out.mono HB.out.size))
    have hND:(fnames fs).Nodup:=(perm_names HDP.out).nodup_iff.1 (nodup_of HDS.out (fun j h=>HN.out j h (by omega)))
    have HND:=Aside0.mk hND
    have hsrt:d=srtF fs:=srt_eq HDP.out HDS.out hND
    have hfe:=first_empty HDP.out HDS.out
    have hx0':=(HBZ.out.cell (p:=⟨p,0,none⟩) HPL.out).trans HX0.out
    have HSR:=Aside0.mk hsrt
    clear hND hsrt HN
    by_cases hd0:d.length=0
    · have hd1:decide ((0:Int) < (d.length:Int))=false:=decide_eq_false (by omega)
      have hd2:(0 < d.length)=False:=eq_false (by omega)
      have hd3:decide (0 < d.length)=false:=decide_eq_false (by omega)
      have hne:¬ ∃ hd:0 < d.length,d[0].f0.toList=[]:=fun ⟨q1,_⟩=>by omega
      have e:commitR L name fs=((L.length:Int),0,L++[⟨name,srtF fs⟩]):=by unfold commitR;rw[if_neg (by have:=HG1.out;have:=HG2.out;omega),if_neg (fun q=>q HND.out),if_neg (fun q=>hne (hfe.2 q))]
      have HE:=Aside0.mk e
      have HD0:=Aside0.mk hd0
      clear e hfe hne hd0
      have HPR:=Aside0.mk (HP.out.below HBZ.out)
      obtain⟨A3,cap3,ps,q1,q2,q3,q4,q5⟩:=HPR.out
      have hA3:Value.slice A3 L.length cap3=Value.slice A L.length cap:=by
        have:=hx0'
        unfold World.cell? at this
        rw[q3] at this
        exact Option.some.inj this
      cases hA3
      have HQ1:=Aside0.mk q1
      have HQ4:=Aside0.mk q4
      have HQ:=Aside0.mk (⟨q2,q3,q5⟩:base≤p∧wr.heap[p]?=some (.cells #[.slice A L.length cap] 61 (0,0))∧∀ i,∀ h:i < L.length,∀ h':i < ps.length,ComAt wr ps[i] L[i])
      have hplt:p < wr.heap.size:=by have:=HBZ.out.size;have:=HPL.out;omega
      have HPW:=Aside0.mk hplt
      have HBR:Aside0 (Below base w wr):=⟨HBZ.out.mono HBS.out⟩
      have HBW:=Aside0.mk (show base≤wr.heap.size by have:=HBZ.out.size;have:=HBS.out;omega)
      rw[← q1] at hx0'
      clear q1 q2 q3 q4 q5
      go_wp2_with (at_builtin;go_loud (refine Kd.ydb_ kP (w0:=wr) base rfl (.tmp 63) (.tmp 68) 59 63 (.pointer none) 8 rfl Tryz.underlying59 info77 rfl (by decide) (by omega) _ ps wr.heap.size [.pointer (some ⟨wr.heap.size,0,none⟩)] (fun _=>True) (fun _=>False) rfl (by first|rfl|(simp;done)|(go_simp;done)) rfl (fun _ hk=>hk.elim) (fun _ _=>trivial) (Kd.yj_ (by rw[HQ1.out];exact HQ4.out) _) ((Below.refl base wr).alloc HBW.out _) (by have:=HBW.out;simp;omega) (by have:=HQ1.out;have:=HLL.out;omega) ?_);intro v1 w5 ho hb hg hat;go_loud (obtain⟨A5,c5,rfl⟩:=Kd.yE_ ho;have hg':(wr.alloc (.cells #[.string name,.slice A2 d.length c2] 81)).grownBy w5 (Value.slice A ps.length cap).ownBlock:=hg;have hp5:=heap_pushed HQ.out.2.1 rfl hg' (own_ne (by rw[HQ1.out];exact HQ4.out) HQ.out.2.1);have hc5:w5.cell? ⟨p,0,none⟩=some (.slice A L.length cap):=(by unfold World.cell?;rw[hp5];rfl);have hf5:w5.frozen? ⟨p,0,none⟩=false:=(by simp [World.frozen?,hp5]));have HO5:=Aside0.mk ho;have HB5:=Aside0.mk hb;have HG5:=Aside0.mk hg';clear ho hb hg hg' hat hp5)
      have HF:Aside0 (FRow wr A2 c2 (srtF fs)):=⟨by rw[← HSR.out];exact (FRow.of_R (by have:=HO.out;rw[← HDL.out] at this;exact this)).keep (PKept.of_below HBe.out)⟩
      have HFIN:=Aside0.mk (past_pushed (x:=⟨name,srtF fs⟩) (A':=A2) (cap':=c2) HQ1.out HQ.out.1 HBW.out HQ.out.2.1 (by rw[HQ1.out];exact HQ4.out) HQ.out.2.2 (by rw[show (⟨name,srtF fs⟩:Com).files.length=d.length by rw[HSR.out]]) HF.out HO5.out HB5.out HG5.out)
      have hlen5:(ps++[wr.heap.size]).length=L.length+1:=by rw[List.length_append,HQ1.out];rfl
      go_ret2
      have HF2:=HFIN.out
      rw[show (ps++[wr.heap.size]).length=ps.length+1 by rw[List.length_append];rfl] at HF2
      refine⟨?_,by rw[HE.out];exact HF2.1,HBR.out.trans HF2.2.1,(PKept.of_below HBZ.out).trans HF2.2.2⟩
      rw[HE.out]
      have hw:wrap64 (ps.length:Int)=(L.length:Int):=by rw[HQ1.out,w64 (by omega) (by have:=HLL.out;omega)]
      show Ending.returned (.tuple #[.int .i64 (wrap64 (ps.length:Int)),.int .i64 0])=_
      rw[hw]
    obtain⟨bb,oo,e0,hbl,hcell⟩:=C_addr53 HCd.out (by omega)
    have hx:wr.cell? ⟨bb,oo,none⟩=some (.string (d[0]'(by omega)).f0):=by
      have:=hcell 0 (by omega) 0 (.string (d[0]'(by omega)).f0) (by rw[getElem!_pos d 0 (by omega)];rfl)
      simpa using this
    clear hcell
    cases e0
    have hd1:(0:Int) < (d.length:Int):=by omega
    have hd2:decide ((0:Int) < (d.length:Int))=true:=decide_eq_true hd1
    by_cases hem:(d[0]'(by omega)).f0.toList=[]
    · have e:commitR L name fs=(0,3,L):=by unfold commitR;rw[if_neg (by have:=HG1.out;have:=HG2.out;omega),if_neg (fun q=>q HND.out),if_pos (hfe.1 ⟨by omega,hem⟩)]
      have HE:=Aside0.mk e
      have hbq:((d[0]'(by omega)).f0.toList == [])=true:=beq_iff_eq.2 hem
      generalize d[0]'(by omega)=x at *
      clear e hem hfe
      go_wp2_with fail
      go_ret2
      exact⟨by rw[HE.out];rfl,by rw[HE.out];exact HP.out.below HBZ.out,HBZ.out.mono HBS.out,PKept.of_below HBZ.out⟩
    have e:commitR L name fs=((L.length:Int),0,L++[⟨name,srtF fs⟩]):=by unfold commitR;rw[if_neg (by have:=HG1.out;have:=HG2.out;omega),if_neg (fun q=>q HND.out),if_neg (fun q=>hem (by obtain⟨_,q2⟩:=hfe.2 q;exact q2))]
    have HE:=Aside0.mk e
    have hbq:((d[0]'(by omega)).f0.toList == [])=false:=beq_eq_false_iff_ne.2 hem
    generalize d[0]'(by omega)=x at *
    clear e hem hfe
    have HPR:=Aside0.mk (HP.out.below HBZ.out)
    obtain⟨A3,cap3,ps,q1,q2,q3,q4,q5⟩:=HPR.out
    have hA3:Value.slice A3 L.length cap3=Value.slice A L.length cap:=by
      have:=hx0'
      unfold World.cell? at this
      rw[q3] at this
      exact Option.some.inj this
    cases hA3
    have HQ1:=Aside0.mk q1
    have HQ4:=Aside0.mk q4
    have HQ:=Aside0.mk (⟨q2,q3,q5⟩:base≤p∧wr.heap[p]?=some (.cells #[.slice A L.length cap] 61 (0,0))∧∀ i,∀ h:i < L.length,∀ h':i < ps.length,ComAt wr ps[i] L[i])
    have hplt:p < wr.heap.size:=by have:=HBZ.out.size;have:=HPL.out;omega
    have HPW:=Aside0.mk hplt
    have HBR:Aside0 (Below base w wr):=⟨HBZ.out.mono HBS.out⟩
    have HBW:=Aside0.mk (show base≤wr.heap.size by have:=HBZ.out.size;have:=HBS.out;omega)
    rw[← q1] at hx0'
    clear q1 q2 q3 q4 q5
    go_wp2_with (at_builtin;go_loud (refine Kd.ydb_ kP (w0:=wr) base rfl (.tmp 63) (.tmp 68) 59 63 (.pointer none) 8 rfl Tryz.underlying59 info77 rfl (by decide) (by omega) _ ps wr.heap.size [.pointer (some ⟨wr.heap.size,0,none⟩)] (fun _=>True) (fun _=>False) rfl (by first|rfl|(simp;done)|(go_simp;done)) rfl (fun _ hk=>hk.elim) (fun _ _=>trivial) (Kd.yj_ (by rw[HQ1.out];exact HQ4.out) _) ((Below.refl base wr).alloc HBW.out _) (by have:=HBW.out;simp;omega) (by have:=HQ1.out;have:=HLL.out;omega) ?_);intro v1 w5 ho hb hg hat;go_loud (obtain⟨A5,c5,rfl⟩:=Kd.yE_ ho;have hg':(wr.alloc (.cells #[.string name,.slice (some ⟨bb,oo,none⟩) d.length c2] 81)).grownBy w5 (Value.slice A ps.length cap).ownBlock:=hg;have hp5:=heap_pushed HQ.out.2.1 rfl hg' (own_ne (by rw[HQ1.out];exact HQ4.out) HQ.out.2.1);have hc5:w5.cell? ⟨p,0,none⟩=some (.slice A L.length cap):=(by unfold World.cell?;rw[hp5];rfl);have hf5:w5.frozen? ⟨p,0,none⟩=false:=(by simp [World.frozen?,hp5]));have HO5:=Aside0.mk ho;have HB5:=Aside0.mk hb;have HG5:=Aside0.mk hg';clear ho hb hg hg' hat hp5)
    have HF:Aside0 (FRow wr (some ⟨bb,oo,none⟩) c2 (srtF fs)):=⟨by rw[← HSR.out];exact (FRow.of_R (by have:=HO.out;rw[← HDL.out] at this;exact this)).keep (PKept.of_below HBe.out)⟩
    have HFIN:=Aside0.mk (past_pushed (x:=⟨name,srtF fs⟩) (A':=some ⟨bb,oo,none⟩) (cap':=c2) HQ1.out HQ.out.1 HBW.out HQ.out.2.1 (by rw[HQ1.out];exact HQ4.out) HQ.out.2.2 (by rw[show (⟨name,srtF fs⟩:Com).files.length=d.length by rw[HSR.out]]) HF.out HO5.out HB5.out HG5.out)
    have hlen5:(ps++[wr.heap.size]).length=L.length+1:=by rw[List.length_append,HQ1.out];rfl
    go_ret2
    have HF2:=HFIN.out
    rw[show (ps++[wr.heap.size]).length=ps.length+1 by rw[List.length_append];rfl] at HF2
    refine⟨?_,by rw[HE.out];exact HF2.1,HBR.out.trans HF2.2.1,(PKept.of_below HBZ.out).trans HF2.2.2⟩
    rw[HE.out]
    have hw:wrap64 (ps.length:Int)=(L.length:Int):=by rw[HQ1.out,w64 (by omega) (by have:=HLL.out;omega)]
    show Ending.returned (.tuple #[.int .i64 (wrap64 (ps.length:Int)),.int .i64 0])=_
    rw[hw]
end Go.Proofs.YthimblhfjfngiaaGreat.PText

namespace Go.Proofs.YthimblhfjfngiaaGreat.PText
open Go.RowKit Go.Lib Go.Sort Go.Proofs.YthimblhfjfngiaaGreatW.PrintWords Go.Proofs.YthimblhfjfngiaaGreatW.PrintLast Go.Proofs.YthimblhfjfngiaaGreatW.PrintMore
set_option linter.unusedVariables false
set_option linter.unusedSimpArgs false
/-- a file put among others: behind the last one that is not behind it -/
def bub (x:S41):List S41→List S41→List S41
  | [],S=>x :: S
  | p :: Pr,S=>if ltF x p=true then bub x Pr (p :: S) else (p :: Pr).reverse++x :: S
theorem bub_perm (x:S41):∀ (Pr S:List S41),(bub x Pr S).Perm (x :: (Pr.reverse++S))
  | [],S=>List.Perm.refl _
  | p :: Pr,S=>by
    unfold bub
    have e:(p :: Pr).reverse++S=Pr.reverse++p :: S:=by simp
    split
    · rw[e];exact bub_perm x Pr (p :: S)
    · exact List.perm_middle
def QF (l:List S41):Prop:=l.Pairwise fun a b=>ltF b a=false
theorem ltF_asym {a b:S41} (h:ltF a b=true):ltF b a=false:=by
  cases q:ltF b a with
  | false=>rfl
  | true=>have:=ltF_swo.trans a b a h q;rw[ltF_swo.irrefl] at this;cases this
theorem bub_sorted (x:S41):∀ (Pr S:List S41),QF (Pr.reverse++S)→(∀ s∈S,ltF x s=true)→QF (bub x Pr S)
  | [],S,h,hs=>List.pairwise_cons.2 ⟨fun s m=>ltF_asym (hs s m),h⟩
  | p :: Pr,S,h,hs=>by
    have e:(p :: Pr).reverse++S=Pr.reverse++p :: S:=by simp
    unfold bub
    by_cases c:ltF x p=true
    · rw[if_pos c]
      rw[e] at h
      refine bub_sorted x Pr (p :: S) h fun s m=>?_
      rcases List.mem_cons.1 m with rfl|m
      · exact c
      · exact hs s m
    rw[if_neg c]
    obtain⟨h1,h2,h3⟩:=List.pairwise_append.1 h
    have hxp:ltF x p=false:=by simpa using c
    refine List.pairwise_append.2 ⟨h1,List.pairwise_cons.2 ⟨fun s m=>ltF_asym (hs s m),h2⟩,fun a ha b hb=>?_⟩
    rcases List.mem_cons.1 hb with rfl|hb
    · rw[List.reverse_cons,List.mem_append,List.mem_singleton] at ha
      rcases ha with ha|rfl
      · rw[List.reverse_cons] at h1
        have:=(List.pairwise_append.1 h1).2.2 a ha p (by simp)
        exact ltF_swo.ntrans b p a hxp this
      · exact hxp
    · exact h3 a ha b hb
theorem sorted_l1 (fs:List S41) (i:Nat) (x:S41):∀ (Pr S:List S41) (k:Nat),Pr.length+S.length≤100000→Pr.length+1≤k→∃ k',k≤k'+Pr.length+1∧yx_.l1 k fs (Pr.reverse++x :: S) (i:Int) (Pr.length:Int)=yx_.l0 k' fs (bub x Pr S) (wrap64 ((i:Int)+1))
  | [],S,k,hl,hk=>by
    obtain⟨k,rfl⟩:∃ q,k=q+1:=⟨k - 1,by omega⟩
    refine⟨k,by simp,?_⟩
    rw[yx_.l1,if_neg (by simp)]
    rfl
  | p :: Pr,S,k,hl,hk=>by
    obtain⟨k,rfl⟩:∃ q,k=q+1:=⟨k - 1,by omega⟩
    have e:(p :: Pr).reverse++x :: S=Pr.reverse++p :: x :: S:=by simp
    have hw:wrap64 ((((p :: Pr).length:Nat):Int) - 1)=(Pr.length:Int):=by
      rw[List.length_cons] at hl ⊢
      rw[w64 (by omega) (by omega)];omega
    have hr1:rd_T41 ((p :: Pr).reverse++x :: S) ((p :: Pr).length:Int)=x:=by
      unfold rd_T41
      rw[Int.toNat_natCast,List.getD_eq_getElem?_getD,List.getElem?_append_right (by simp)]
      simp
    have hr2:rd_T41 ((p :: Pr).reverse++x :: S) (Pr.length:Int)=p:=by
      rw[e]
      unfold rd_T41
      rw[Int.toNat_natCast,List.getD_eq_getElem?_getD,List.getElem?_append_right (by simp)]
      simp
    have hset:(((p :: Pr).reverse++x :: S).set (((p :: Pr).length:Nat):Int).toNat (⟨p.f0,p.f1⟩:S41)).set ((Pr.length:Nat):Int).toNat (⟨x.f0,x.f1⟩:S41)=Pr.reverse++x :: p :: S:=by
      rw[e,Int.toNat_natCast,Int.toNat_natCast,List.set_append_right _ _ (by simp),List.length_cons,List.length_reverse,show Pr.length+1 - Pr.length=0+1 by omega,List.set_cons_succ,List.set_cons_zero,List.set_append_right _ _ (by simp),List.length_reverse,Nat.sub_self,List.set_cons_zero]
    have hlen:(((p :: Pr).reverse++x :: S).length:Int)=(Pr.length:Int)+(S.length:Int)+2:=by simp;omega
    rw[yx_.l1,if_pos (by rw[List.length_cons];omega),if_pos (by omega),if_pos (by rw[hlen,List.length_cons];omega),hw,if_pos (by omega),if_pos (by rw[hlen];omega),hr1,hr2,bl_lt]
    unfold bub
    by_cases c:ltF x p=true
    rotate_left
    · rw[if_neg c,if_neg (show ¬ decide (x.f0.toList < p.f0.toList)=true from c)]
      exact⟨k,by rw[List.length_cons];omega,rfl⟩
    rw[if_pos c,if_pos (show decide (x.f0.toList < p.f0.toList)=true from c),hset]
    rw[List.length_cons] at hl hk
    obtain⟨k',h1,h2⟩:=sorted_l1 fs i x Pr (p :: S) k (by rw[List.length_cons];omega) (by omega)
    exact⟨k',by rw[List.length_cons];omega,h2⟩
theorem sorted_l0 (fs:List S41) (hf:fs.length≤10000) (B:Nat) (hB:fs.length+3≤B):∀ (m i k:Nat) (out:List S41),fs.length - i=m→i≤fs.length→m * B+1≤k→out.Perm (fs.take i)→QF out→∃ d,yx_.l0 k fs out (i:Int)=some d∧d.Perm fs∧QF d
  | 0,i,k,out,hm,hi,hk,hp,hq=>by
    obtain⟨k,rfl⟩:∃ q,k=q+1:=⟨k - 1,by omega⟩
    rw[yx_.l0,if_neg (by omega)]
    rw[List.take_of_length_le (by omega)] at hp
    exact⟨out,rfl,hp,hq⟩
  | m+1,i,k,out,hm,hi,hk,hp,hq=>by
    obtain⟨k,rfl⟩:∃ q,k=q+1:=⟨k - 1,by omega⟩
    rw[Nat.succ_mul] at hk
    have hil:i < fs.length:=by omega
    have hol:out.length=i:=by rw[hp.length_eq,List.length_take];omega
    have hw:wrap64 (((out++[fs[i]]).length:Int) - 1)=(out.reverse.length:Int):=by
      rw[List.length_append,List.length_singleton,List.length_reverse,w64 (by omega) (by omega)];omega
    have he:(⟨(rd_T41 fs (i:Int)).f0,(rd_T41 fs (i:Int)).f1⟩:S41)=fs[i]:=by rw[yBb_ fs i hil]
    obtain⟨k',h1,h2⟩:=sorted_l1 fs i fs[i] out.reverse [] k (by rw[List.length_reverse];simp;omega) (by rw[List.length_reverse];omega)
    rw[List.reverse_reverse] at h2
    rw[yx_.l0,if_pos (by omega),if_pos (by omega),if_pos (by omega),Option.bind_some,he,hw,h2,nx i (by omega)]
    rw[List.length_reverse] at h1
    refine sorted_l0 fs hf B hB m (i+1) k' _ (by omega) (by omega) (by omega) ?_ (bub_sorted _ _ _ (by rw[List.reverse_reverse,List.append_nil];exact hq) (fun s m=>by cases m))
    refine (bub_perm _ _ _).trans ?_
    rw[List.reverse_reverse,List.append_nil,List.take_succ_eq_append_getElem hil]
    exact (hp.cons _).trans (List.perm_append_comm (l₁:=[fs[i]]) (l₂:=fs.take i))
theorem sortedF_of {d:List S41} (h:QF d):SortedF d:=fun i j hij hj hi=>List.pairwise_iff_getElem.1 h i j hi hj hij
theorem rsorted_f (fs:List S41) (hf:fs.length≤10000) (hn:(fnames fs).Nodup) (k:Nat) (hk:fs.length * (fs.length+3)+1≤k):yx_.f k fs=some (srtF fs):=by
  obtain⟨d,h1,h2,h3⟩:=sorted_l0 fs hf (fs.length+3) (Nat.le_refl _) fs.length 0 k [] (by omega) (by omega) hk (by rw[List.take_zero]) List.Pairwise.nil
  have:=srt_eq h2 (sortedF_of h3) hn
  rw[← this]
  exact h1
end Go.Proofs.YthimblhfjfngiaaGreat.PText

namespace Go.Proofs.YthimblhfjfngiaaGreat.PText
open Go.RowKit Go.Proofs.YthimblhfjfngiaaGreatW.PrintWords Go.Proofs.YthimblhfjfngiaaGreatW.PrintLast Go.Proofs.YthimblhfjfngiaaGreatW.PrintMore
set_option linter.unusedVariables false
set_option linter.unusedSimpArgs false
/-- a builder stays where all that lay stays -/
theorem builder_kept {T e:TypeId} {B b:Nat} {bs:List Value} {W W':World} (h:Lib.IsBuilderF T e B b bs W) (hb:Below W.heap.size W W'):Lib.IsBuilderF T e B b bs W':=by
  have one:∀ p,Lib.BuilderAtF T e B b p bs W→Lib.BuilderAtF T e B b p bs W':=by
    rintro p ⟨hB,v,hv,hown,hne⟩
    have hlt:b < W.heap.size:=(Array.getElem?_eq_some_iff.1 hv).1
    exact⟨hB,v,(hb.block b hlt).trans hv,hown.kept (row:=none) ⟨hb.os,hb.tape,hb.output,hb.size,fun k hk _=>hb.block k hk⟩ (Classical.em _),hne⟩
  rcases h with h|h
  · exact .inl (one _ h)
  · exact .inr (one _ h)
theorem heap_new (w:World) (o:Obj):(w.alloc o).heap[w.heap.size]?=some o:=by
  show (w.heap.push o)[w.heap.size]?=some o
  exact Array.getElem?_push_size
theorem heap_old {w:World} {k:Nat} {o:Obj} (h:w.heap[k]?=some o) (o':Obj):(w.alloc o').heap[k]?=some o:=by
  have hk:k < w.heap.size:=(Array.getElem?_eq_some_iff.1 h).1
  show (w.heap.push o')[k]?=some o
  rw[Array.getElem?_push,if_neg (by omega),h]
theorem add_block (a:Addr) (n:Nat):(a.add n).block=a.block:=by unfold Addr.add;split <;> rfl
theorem cell_same {w w':World} {p:Addr} (h:w'.heap[p.block]?=w.heap[p.block]?):w'.cell? p=w.cell? p:=by unfold World.cell?;rw[h]
/-- where the row of some edits lies: a block of cells of their type, or there are none -/
theorem row_block {w:World} {B:Nat} {A:Option Addr} {c:Nat} {l:List S91} (h:Kd.R k91 91 w B (fun _=>True) (.slice A l.length c) l) :
    ∃ (g:Nat) (cs:Array Value),(l≠[]→A=some ⟨g,0,none⟩)∧(l=[]∨(B≤g∧w.heap[g]?=some (.cells cs 91 (0,0)))):=by
  by_cases hl:l=[]
  · exact⟨0,#[],fun q=>absurd hl q,.inl hl⟩
  obtain⟨g,cap,hv,hb,_,cs,hc⟩:=Kd.R_form h (List.length_pos_iff.2 hl)
  cases hv
  exact⟨g,cs,fun _=>rfl,.inr ⟨hb,hc⟩⟩
set_option maxHeartbeats 8000000 in
set_option maxRecDepth 100000 in
theorem yIb_.calls (a0:ByteArray) (A1:Option Addr) (c1:Nat) (l1:List S91) (r1:ByteArray) (r2:Int) (w:World) (hr1:Kd.C k91 w A1 l1.length l1) (hc1:l1.length≤c1) (h:yIb_.f a0 l1=some (r1,r2)) :
    Calls Tryz.prog 62 #[.string a0,.slice A1 l1.length c1] w fun e w'=>e=.returned (.tuple #[.string r1,.int .i64 r2])∧Below w.heap.size w w':=by
  have H12:=Aside0.mk (ysb_.calls a0 A1 c1 l1 (fineE a0.size l1) w hr1 hc1 rfl)
  have HC:=Aside0.mk hr1
  have HL:=Aside0.mk hc1
  clear hr1 hc1
  unfold yIb_.f at h
  by_cases hf:fineE a0.size l1=0
  rotate_left
  · rw[if_pos hf] at h
    have h':=Option.some.inj h
    have hr:r1=⟨#[]⟩∧r2=fineE a0.size l1:=⟨(congrArg Prod.fst h').symm,(congrArg Prod.snd h').symm⟩
    clear h h'
    obtain⟨rfl,rfl⟩:=hr
    have b1:(fineE a0.size l1 != 0)=true:=by simpa using hf
    have b2:(fineE a0.size l1 == 0)=false:=by simpa using hf
    generalize fineE a0.size l1=fe at *
    clear hf
    go_enter Tryz.func62,Tryz.ntmps62
    go_wp2_with (go_at_call 74;refine H12.out.mono ?_;rintro e w2 ⟨rfl,hb⟩;have HB:=Aside0.mk hb;clear hb H12)
    go_ret2
    exact⟨rfl,HB.out⟩
  rw[if_neg (by rw[hf];decide)] at h
  rw[hf] at H12
  have CHN:=Aside0.mk (fine_chain a0.size l1 hf)
  have HF:=Aside0.mk hf
  clear hf
  have H32:=Aside0.mk (fun w2 (h2:Kd.C k91 w2 A1 l1.length l1)=>yqb_.calls A1 c1 l1 (Tx.ord eltS l1) w2 h2 HL.out (by unfold yqb_.f;rw[if_pos CHN.out.1]))
  have HH:=Aside0.mk h
  clear h
  have HME:=Aside0.mk (show madeE a0 l1=Tx.ap a0.data.toList 0 ((Tx.ord eltS l1).map toE) from rfl)
  have CH:=Aside0.mk CHN.out.2.2
  have HRL:=Aside0.mk (Nat.le_trans (Tx.ord_len (lt:=eltS) l1) CHN.out.1)
  clear CHN
  generalize Tx.ord eltS l1=row at H32 CH HME HRL
  generalize madeE a0 l1=M at HH HME
  have hu34:=Tryz.underlying91
  go_enter Tryz.func62,Tryz.ntmps62
  go_wp2_with (first
    | (go_at_call 74;refine H12.out.mono ?_;rintro e w2 ⟨rfl,hb⟩;have HB:=Aside0.mk hb;clear hb H12)
    | (go_at_call 75;refine (H32.out _ (Kd.yM_ (Kd.yR_ HC.out HB.out) _)).mono ?_;rintro e w3 ⟨v3,rfl,ho,hb⟩;obtain⟨A3,c3,rfl⟩:=Kd.yE_ ho;have HO:=Aside0.mk ho;have HB3:=Aside0.mk hb;clear ho hb H32))
  have h0:Lib.IsBuilderF 131 5 w2.heap.size w2.heap.size [] (w2.alloc (.cells #[.pointer none,.slice none 0 0] 131)):=Lib.IsBuilderF.of (Lib.fresh_isBuilder 131 5 w2)
  have hR:=Kd.yt_ HO.out
  obtain⟨g,cs,hA,hg⟩:=row_block HO.out
  have hC:=Aside0.mk hR.2.2
  have H1:=Aside0.mk (builder_kept h0 HB3.out)
  have HB4:Aside0 (Below w.heap.size w w3):=⟨((HB.out.alloc HB.out.size _).trans (HB3.out.mono (by have:=HB.out.size;simp;omega)))⟩
  have HG:Aside0 (row=[]∨(w2.heap.size < g∧w3.heap[g]?=some (.cells cs 91 (0,0)))):=⟨hg.imp id (fun q=>⟨by have:=q.1;simp at this;omega,q.2⟩)⟩
  have HA:=Aside0.mk hA
  have HSZ:=Aside0.mk HB3.out.size
  have HW:=Aside0.mk HB.out.size
  clear h0 HB HB3 hR hg hA HO
  go_loopg [8,20] (row.length+1) (fun kq v8 v20 w'=>∃ (i:Nat) (p:Int) (P:List UInt8),v8=.int .i64 p∧v20=.int .i64 (i:Int)∧Aside0 (row.length - i < kq∧i≤row.length∧0≤p)∧Aside0 (Tx.Ch (a0.size:Int) p ((row.drop i).map toE))∧Aside0 (P++Tx.ap a0.data.toList p ((row.drop i).map toE)=M)∧Aside0 (Lib.IsBuilderF 131 5 w2.heap.size w2.heap.size (Lib.byteCells P) w')∧Aside0 (Below w.heap.size w w')∧Aside0 (row=[]∨(w2.heap.size < g∧w'.heap[g]?=some (.cells cs 91 (0,0))))∧Aside0 (w2.heap.size < w'.heap.size))
  case atStart=>exact⟨0,0,[],rfl,rfl,⟨by omega,by omega,by omega⟩,CH,⟨by rw[HME.out];rfl⟩,H1,HB4,HG,⟨by have:=HSZ.out;simp at this;omega⟩⟩
  case round =>
    obtain⟨i,p,P,rfl,rfl,HI,HC2,HP,HBu,HBe,HGe,HS⟩:=hrel
    obtain⟨k1,rfl⟩:∃ k1,gk=k1+1:=⟨gk - 1,by have:=HI.out.1;omega⟩
    by_cases hlt:i < row.length
    rotate_left
    · have hb:decide ((i:Int) < (row.length:Int))=false:=by simp;omega
      have hp0:0≤p:=HI.out.2.2
      have hd:row.drop i=[]:=List.drop_of_length_le (by omega)
      have hc:=HC2.out
      rw[hd] at hc
      have hp1:p≤(a0.size:Int):=hc
      have hPM:P++a0.data.toList.drop p.toNat=M:=by
        have:=HP.out
        rw[hd] at this
        exact this
      have HPM:=Aside0.mk hPM
      clear hd hc hPM
      have hML:M.length≤140737488351232:=by
        have:=HH.out
        by_cases q:M.length≤140737488351232
        · exact q
        rw[if_neg q] at this;cases this
      have HML:=Aside0.mk hML
      clear hML
      go_wp2_with fail
      refine (Tryz.Builder_WriteString_k w2.heap.size w2.heap.size (Lib.byteCells P) (a0.extract p.toNat a0.size) _ HBu.out ?_ (Nat.le_of_lt HS.out)).mono ?_
      · rw[Lib.byteCells_length,yib_,ext_end]
        have h1:=congrArg List.length HPM.out
        rw[List.length_append] at h1
        have:=HML.out
        omega
      rintro e w4 ⟨rfl,hbu,hbel,-⟩
      have HB5:Aside0 (Below w.heap.size w w4):=⟨HBe.out.trans (hbel.mono HW.out)⟩
      have HS5:Aside0 (w2.heap.size < w4.heap.size):=⟨by have:=hbel.size;have:=HS.out;omega⟩
      have HBu5:Aside0 (Lib.IsBuilderF 131 5 w2.heap.size w2.heap.size (Lib.byteCells M) w4):=⟨by
        rw[← HPM.out,Lib.byteCells_append,← ext_end,← Lib.strCells_eq]
        exact Or.inr hbu⟩
      have HF:=HH.out
      rw[if_pos HML.out] at HF
      clear hbu hbel HBu HBe
      have hlenB:(Lib.byteCells M).length=M.length:=Lib.byteCells_length M
      by_cases hbig:200000 < M.length
      · rw[if_pos hbig] at HF
        have h':=Option.some.inj HF
        have e1:r1=⟨#[]⟩:=(congrArg Prod.fst h').symm
        have e2:r2=2:=(congrArg Prod.snd h').symm
        clear HF h' HH
        subst e1 e2
        have hbg:decide (200000 < (M.length:Int))=true:=by simp;omega
        go_wp2_with (go_at_call 77;refine (Tryz.Builder_Len_f _ _ _ _ HBu5.out).mono ?_;rintro e w5 ⟨rfl,rfl⟩;rw[hlenB])
        go_ret2
        exact⟨rfl,HB5.out⟩
      rw[if_neg hbig] at HF
      have h':=Option.some.inj HF
      have e1:r1=⟨M.toArray⟩:=(congrArg Prod.fst h').symm
      have e2:r2=0:=(congrArg Prod.snd h').symm
      clear HF h' HH
      subst e1 e2
      have hbg:decide (200000 < (M.length:Int))=false:=by simp;omega
      go_wp2_with (first
        | (go_at_call 77;refine (Tryz.Builder_Len_f _ _ _ _ HBu5.out).mono ?_;rintro e w5 ⟨rfl,rfl⟩;rw[hlenB])
        | (go_at_call 78;refine (Tryz.Builder_String_any_k w2.heap.size w2.heap.size M _ HBu5.out (Nat.le_of_lt HS5.out)).mono ?_;rintro e w5 ⟨rfl,-,hbel,-⟩;have HB6:=Aside0.mk (HB5.out.trans (hbel.mono HW.out));clear hbel))
      go_ret2
      exact⟨rfl,HB6.out⟩
    have hb:decide ((i:Int) < (row.length:Int))=true:=by simp;omega
    have hb2:decide ((0:Int)≤(i:Int))=true:=by simp
    have p0:(0:Int)≤(i:Int):=by omega
    have q0:(i:Int) < (row.length:Int):=by omega
    obtain⟨ad,e0,hx0,hx1,hx2⟩:=at_T91 hC.out (i:Int) p0 q0
    have hblk:ad.block=g:=by
      have:=HA.out (fun e=>by rw[e] at hlt;cases hlt)
      rw[e0] at this;cases this;rfl
    have hgw:wr.heap[g]?=w3.heap[g]?:=by
      rcases HG.out with q|q
      · rw[q] at hlt;cases hlt
      · rcases HGe.out with q2|q2
        · rw[q2] at hlt;cases hlt
        · rw[q.2,q2.2]
    cases e0
    replace hx0:=(cell_same (w':=wr) (p:=ad.add ((i:Int).toNat * 3)) (by simp only[add_block];rw[hblk,hgw])).trans hx0
    replace hx1:=(cell_same (w':=wr) (p:=⟨(ad.add ((i:Int).toNat * 3)).block,(ad.add ((i:Int).toNat * 3)).off+1,none⟩) (by simp only[add_block];rw[hblk,hgw])).trans hx1
    replace hx2:=(cell_same (w':=wr) (p:=⟨(ad.add ((i:Int).toNat * 3)).block,(ad.add ((i:Int).toNat * 3)).off+2,none⟩) (by simp only[add_block];rw[hblk,hgw])).trans hx2
    rw[Int.toNat_natCast] at hx0 hx1 hx2
    rw[yzb_ row i hlt] at hx0 hx1 hx2
    have hd:row.drop i=row[i] :: row.drop (i+1):=List.drop_eq_getElem_cons hlt
    have HD:=Aside0.mk hd
    clear hd hgw
    generalize row[i]=x at *
    have hc:=HC2.out
    rw[HD.out] at hc
    obtain⟨hc1,hc2,hc3⟩:=hc
    replace hc1:p≤x.f0:=hc1
    replace hc2:x.f0≤x.f1:=hc2
    have hc4:x.f1≤(a0.size:Int):=Tx.ch_le hc3
    have HC3:=Aside0.mk hc3
    clear hc3
    have hp0:0≤p:=HI.out.2.2
    have hf0:x.f0≤(a0.size:Int):=by omega
    have hap:P++(Tx.sl a0.data.toList p x.f0++(toE x).x++Tx.ap a0.data.toList x.f1 ((row.drop (i+1)).map toE))=M:=by
      have:=HP.out
      rw[HD.out] at this
      exact this
    have HP2:=Aside0.mk hap
    have hML:M.length≤140737488351232:=by
      have:=HH.out
      by_cases q:M.length≤140737488351232
      · exact q
      rw[if_neg q] at this;cases this
    have hsz:P.length+((a0.extract p.toNat x.f0.toNat).size+x.f2.size)≤140737488351232:=by
      have h1:=congrArg List.length hap
      rw[List.length_append,List.length_append,List.length_append,← ext_sl,← yib_,toE_x,← yib_] at h1
      omega
    have HML:=Aside0.mk hML
    obtain⟨E,hE⟩:∃ E,a0.extract p.toNat x.f0.toNat=E:=⟨_,rfl⟩
    rw[hE] at hsz
    have hcat:(E.size+x.f2.size≤9223372036854775807)=True:=eq_true (by omega)
    have hcat2:decide (E.size+x.f2.size≤9223372036854775807)=true:=decide_eq_true (by omega)
    have hcat3:(9223372036854775807 < E.size+x.f2.size)=False:=eq_false (by omega)
    have HSZ2:=Aside0.mk hsz
    clear hap hsz hML hblk
    go_wp2_with fail
    go_region_held3 (fun w'=>w'.cell? ⟨wr.heap.size,0,none⟩=some (.int .i64 x.f0)∧w'.cell? ⟨wr.heap.size,1,none⟩=some (.int .i64 x.f1)∧w'.cell? ⟨wr.heap.size,2,none⟩=some (.string x.f2))
      (first
        | go_keep
        | (refine⟨?_,?_,?_⟩ <;> simp [World.cell?,HK]))
      (first|(go_at_call 76;refine (Tryz.Builder_WriteString_k w2.heap.size w2.heap.size (Lib.byteCells P) (E++x.f2) _ ?zb ?zl ?zs).mono ?_;(case zb=>exact HBu.out.alloc _);(case zl=>(rw[Lib.byteCells_length,ByteArray.size_append];have:=HSZ2.out;omega));(case zs=>(have:=HS.out;simp;omega));rintro e w4 ⟨rfl,hbu,hbel,hok⟩;have HK:=hok wr.heap.size (.cells #[.int .i64 x.f0,.int .i64 x.f1,.string x.f2] 91 (0,0)) (heap_new wr _) (by have:=HS.out;intro e;have:=Option.some.inj e;omega) (by intro c fz e;cases e)))
    have HB5:Aside0 (Below w.heap.size w w4):=⟨(HBe.out.alloc HBe.out.size _).drew.trans (hbel.mono HW.out)⟩
    have HS5:Aside0 (w2.heap.size < w4.heap.size):=⟨by have:=hbel.size;have:=HS.out;simp at *;omega⟩
    have HG5:Aside0 (row=[]∨(w2.heap.size < g∧w4.heap[g]?=some (.cells cs 91 (0,0)))):=⟨HGe.out.imp id (fun q=>⟨q.1,hok g _ (heap_old q.2 _) (by intro e;have:=Option.some.inj e;have:=q.1;omega) (by intro c fz e;cases e)⟩)⟩
    have HBu5:Aside0 (Lib.IsBuilderF 131 5 w2.heap.size w2.heap.size (Lib.byteCells (P++(E++x.f2).data.toList)) w4):=⟨by
      rw[Lib.byteCells_append,← Lib.strCells_eq]
      exact Or.inr hbu⟩
    have HP5:Aside0 ((P++(E++x.f2).data.toList)++Tx.ap a0.data.toList x.f1 ((row.drop (i+1)).map toE)=M):=⟨by
      rw[ByteArray.data_append,Array.toList_append,← hE,ext_sl,← toE_x,List.append_assoc,HP2.out]⟩
    have hc1:=cell_same (w':=w4) (w:=w4) (p:=⟨wr.heap.size,1,none⟩) rfl
    have hx1':w4.cell? ⟨wr.heap.size,1,none⟩=some (.int .i64 x.f1):=by simp [World.cell?,HK]
    clear hbu hbel hok HK hc1
    go_wp2_with fail
    go_roundg k1
    case measure=>have:=HI.out.1;omega
    case rel=>exact⟨i+1,x.f1,P++(E++x.f2).data.toList,rfl,congrArg (Value.int .i64) (nx i (by have:=HRL.out;omega)),⟨by have:=HI.out.1;omega,by omega,by omega⟩,HC3,HP5,HBu5,HB5,HG5,HS5⟩
end Go.Proofs.YthimblhfjfngiaaGreat.PText

namespace Go.Proofs.YthimblhfjfngiaaGreat.PText
open Go.RowKit Go.Shelf Go.Proofs.YthimblhfjfngiaaGreatW.PrintWords Go.Proofs.YthimblhfjfngiaaGreatW.PrintLast Go.Proofs.YthimblhfjfngiaaGreatW.PrintMore
set_option linter.unusedVariables false
set_option linter.unusedSimpArgs false
attribute [local go_sem] Oper.semAt_some
def linesB (s:ByteArray):List ByteArray:=(Tx.lines s.data.toList).map fun l=>⟨l.toArray⟩
def y4_.f (s:ByteArray):Option (List ByteArray):=if s.size≤1000000000 then some (linesB s) else none
/-- where the first line of a text ends -/
def lineEnd (s:ByteArray):Nat:=if Lib.indexByte s.data.toList 10+1=0 then s.size else (Lib.indexByte s.data.toList 10+1).toNat
theorem bytes_list {l:List UInt8} {i:Nat} (h:l[i]?=some 10) (k:∀ j,j < i→l[j]?≠some 10):∃ a r,l=a++10 :: r∧a.length=i∧(10:UInt8) ∉ a:=by
  have hlt:i < l.length:=by
    rcases Nat.lt_or_ge i l.length with q|q
    · exact q
    · rw[List.getElem?_eq_none q] at h;cases h
  refine⟨l.take i,l.drop (i+1),?_,by rw[List.length_take];omega,?_⟩
  · have e:l[i]=10:=by rw[List.getElem?_eq_getElem hlt] at h;exact Option.some.inj h
    rw[← e,← List.drop_eq_getElem_cons hlt,List.take_append_drop]
  · intro m
    obtain⟨j,hj,e⟩:=List.mem_iff_getElem.1 m
    rw[List.length_take] at hj
    rw[List.getElem_take] at e
    exact k j (by omega) (by rw[List.getElem?_eq_getElem (by omega),e])
theorem ba_ext {a b:ByteArray} (h:a.data.toList=b.data.toList):a=b:=by
  have:a.data=b.data:=Array.toList_inj.1 h
  cases a;cases b;simp_all
theorem lgo_all:∀ (s cur:List UInt8),(∀ x∈s,x≠10)→cur++s≠[]→Tx.lgo cur s=[cur++s]
  | [],cur,_,h=>by
    unfold Tx.lgo
    rw[List.append_nil] at h ⊢
    rw[if_neg h]
  | c :: r,cur,h,_=>by
    unfold Tx.lgo
    rw[if_neg (h c List.mem_cons_self),lgo_all r (cur++[c]) (fun x m=>h x (List.mem_cons_of_mem _ m)) (by simp)]
    simp
theorem linesB_step (s:ByteArray) (h:s≠⟨#[]⟩):0 < lineEnd s∧lineEnd s≤s.size∧linesB s=s.extract 0 (lineEnd s) :: linesB (s.extract (lineEnd s) s.size):=by
  have hne:s.data.toList≠[]:=fun e=>h (ba_ext e)
  have hsz:s.size=s.data.toList.length:=by rw[Array.length_toList];rfl
  unfold lineEnd
  have hge:=Lib.indexByte_ge s.data.toList 10
  by_cases hi:Lib.indexByte s.data.toList 10+1=0
  · rw[if_pos hi]
    have hn:Lib.indexByte s.data.toList 10=-1:=by omega
    have hno:=Lib.indexByte_none hn
    have hpos:0 < s.data.toList.length:=List.length_pos_iff.2 hne
    refine⟨by omega,Nat.le_refl _,?_⟩
    have e1:s.extract 0 s.size=s:=by apply ba_ext;rw[ByteArray.data_extract,Array.toList_extract,List.extract_eq_take_drop,List.drop_zero,Nat.sub_zero,hsz,List.take_length]
    have e2:linesB (s.extract s.size s.size)=[]:=by
      have:(s.extract s.size s.size).data.toList=[]:=by rw[ByteArray.data_extract,Array.toList_extract,List.extract_eq_take_drop,Nat.sub_self,List.take_zero]
      unfold linesB;rw[this];rfl
    rw[e1,e2]
    unfold linesB Tx.lines
    rw[lgo_all _ _ (fun x m e=>by subst e;obtain⟨j,hj,e⟩:=List.mem_iff_getElem.1 m;exact hno j (by rw[List.getElem?_eq_getElem hj,e])) (by simpa using hne)]
    simp
  rw[if_neg hi]
  obtain⟨i,hi'⟩:∃ i:Nat,Lib.indexByte s.data.toList 10=(i:Int):=⟨(Lib.indexByte s.data.toList 10).toNat,by omega⟩
  obtain⟨hs,hk⟩:=Lib.indexByte_some hi'
  obtain⟨a,r,e,hl,hm⟩:=bytes_list hs hk
  have ei:(Lib.indexByte s.data.toList 10+1).toNat=i+1:=by omega
  rw[ei]
  have hlen:s.data.toList.length=i+1+r.length:=by rw[e];simp;omega
  refine⟨by omega,by omega,?_⟩
  have e1:(s.extract 0 (i+1)).data.toList=a++[10]:=by
    rw[ByteArray.data_extract,Array.toList_extract,List.extract_eq_take_drop,List.drop_zero,Nat.sub_zero,e,← hl]
    have:a++10 :: r=(a++[10])++r:=by simp
    rw[this,List.take_left' (by simp)]
  have e2:(s.extract (i+1) s.size).data.toList=r:=by
    rw[ByteArray.data_extract,Array.toList_extract,hsz,hlen,e,← hl]
    have:a++10 :: r=(a++[10])++r:=by simp
    rw[this,List.extract_eq_take_drop,show a.length+1=(a++[10]).length by simp,List.drop_left]
    simp
  have e3:s.extract 0 (i+1)=⟨(a++[10]).toArray⟩:=ba_ext (by rw[e1])
  unfold linesB Tx.lines
  rw[e3,e2,e,Tx.lgo_line _ _ _ hm]
  simp
theorem linesB_nil:linesB ⟨#[]⟩=[]:=rfl
theorem idx_calls (s:ByteArray) (w:World):Calls Tryz.prog 71 #[.string s,.int .u8 10] w fun e w'=>e=.returned (.int .i64 (Lib.indexByte s.data.toList 10))∧w'=w:=Tryz.strings_IndexByte s 10 w
theorem lineEnd_none {s:ByteArray} (h:Lib.indexByte s.data.toList 10+1=0):lineEnd s=s.size:=by unfold lineEnd;rw[if_pos h]
theorem lineEnd_some {s:ByteArray} (h:¬ Lib.indexByte s.data.toList 10+1=0):((lineEnd s:Nat):Int)=Lib.indexByte s.data.toList 10+1:=by
  unfold lineEnd;rw[if_neg h]
  have:=Lib.indexByte_ge s.data.toList 10
  omega
set_option maxRecDepth 100000 in
set_option maxHeartbeats 4000000 in
theorem each_in (l Bc:Nat) (s:ByteArray) (xs:List ByteArray) (hxs:xs=linesB s) (hsz:s.size≤1000000000) (J:List ByteArray→World→Prop)
    (hJs:∀ pre W v,J pre W→J pre (W.setCell ⟨Bc,0,none⟩ v))
    (hY:∀ pre x W,(∃ post,pre++x :: post=xs)→J pre W→YieldAt Fence.wide 2 Tryz.prog l #[.string x] W fun e W'=>e=.returned (.bool true)∧J (pre++[x]) W'∧yEb_ Bc 9 W W')
    (W:World) (hB:Boxed W Bc 9 (.string s)) (h0:J [] W) :
    CallsIn Fence.wide 3 Tryz.prog 70 #[.func (.yield l) #[] #[],.pointer (some ⟨Bc,0,none⟩)] W fun e W'=>(∃ v,e=.returned v)∧J xs W':=by
  refine callsIn_of_wp Tryz.func70 rfl trivial ?_ rfl
  simp only[Tryz.ntmps70,List.size_toArray,List.length_cons,List.length_nil,Nat.reduceAdd,Nat.reduceSub,Array.replicate_succ,Array.replicate_zero,List.push_toArray,List.append_toArray,List.nil_append,List.cons_append]
  gi_wp2
  gi_loopw [] (fun wr=>∃ (pre:List ByteArray) (rest:ByteArray),xs=pre++linesB rest∧rest.size≤1000000000∧Boxed wr Bc 9 (.string rest)∧J pre wr)
    (fun wr=>match wr.cell? ⟨Bc,0,none⟩ with|some (.string r)=>r.size|_=>0)
  case atStart=>exact⟨[],s,hxs,hsz,hB,h0⟩
  case round =>
    obtain⟨pre,rest,hx,hr,hb,hJ⟩:=hrel
    have hc:=hb.cell
    have hf:=hb.frozen
    by_cases he:rest=⟨#[]⟩
    · subst he
      gi_wp2
      go_end0
      exact⟨⟨_,rfl⟩,by rw[hx,linesB_nil,List.append_nil];exact hJ⟩
    obtain⟨h1,h2,h3⟩:=linesB_step rest he
    have hbe:rest.toList.isEmpty=false:=by
      cases q:rest.toList.isEmpty with
      | false=>rfl
      | true=>exact absurd (ba_ext (by rw[← Lib.toList_data rest];exact List.isEmpty_iff.1 q)) he
    have hge:=Lib.indexByte_ge rest.data.toList 10
    by_cases hi:Lib.indexByte rest.data.toList 10+1=0
    rotate_left
    · have hle:=lineEnd_some hi
      obtain⟨i,hi1⟩:∃ i:Nat,Lib.indexByte rest.data.toList 10=(i:Int):=⟨(Lib.indexByte rest.data.toList 10).toNat,by omega⟩
      have hle2:lineEnd rest=i+1:=by omega
      rw[hle2] at h1 h2 h3
      obtain⟨fn,tmps,assign,body,hy,hR⟩:=hY pre (rest.extract 0 (i+1)) wr ⟨_,by rw[hx,h3]⟩ hJ
      gi_wp2_with (refine⟨trivial,?_⟩;gi_at_call 71;refine (callsIn_wide.2 (idx_calls rest _)).mono ?_;rintro e w' ⟨rfl,rfl⟩)
      refine hR.mono ?_
      rintro e W3 ⟨rfl,hJ3,hk3⟩
      have hb3:=hk3 _ hb
      have hc3:=hb3.cell
      have hf3:=hb3.frozen
      gi_wp2
      go_roundw
      case rel=>exact⟨pre++[rest.extract 0 (i+1)],rest.extract (i+1) rest.size,by rw[hx,h3];simp,by rw[ByteArray.size_extract];omega,hb3.set _,hJs _ _ _ hJ3⟩
      case measure =>
        rw[(hb3.set _).cell,hb.cell]
        show (rest.extract (i+1) rest.size).size < rest.size
        rw[ByteArray.size_extract]
        omega
    have hle:=lineEnd_none hi
    have hi':Lib.indexByte rest.data.toList 10=-1:=by omega
    have hx1:rest.extract 0 (lineEnd rest)=rest:=by
      apply ba_ext;rw[hle,ByteArray.data_extract,Array.toList_extract,List.extract_eq_take_drop,List.drop_zero,Nat.sub_zero]
      exact List.take_of_length_le (by rw[Array.length_toList];exact Nat.le_refl _)
    have hx2:rest.extract (lineEnd rest) rest.size=⟨#[]⟩:=by
      apply ba_ext;rw[hle,ByteArray.data_extract,Array.toList_extract,List.extract_eq_take_drop,Nat.sub_self,List.take_zero]
    obtain⟨fn,tmps,assign,body,hy,hR⟩:=hY pre rest wr ⟨linesB ⟨#[]⟩,by rw[hx,h3,hx1,hx2]⟩ hJ
    gi_wp2_with (refine⟨trivial,?_⟩;gi_at_call 71;refine (callsIn_wide.2 (idx_calls rest _)).mono ?_;rintro e w' ⟨rfl,rfl⟩)
    refine hR.mono ?_
    rintro e W3 ⟨rfl,hJ3,hk3⟩
    have hb3:=hk3 _ hb
    have hc3:=hb3.cell
    have hf3:=hb3.frozen
    gi_wp2
    go_roundw
    case rel=>exact⟨pre++[rest],⟨#[]⟩,by rw[hx,h3,hx1,hx2];simp,Nat.zero_le _,hb3.set _,hJs _ _ _ hJ3⟩
    case measure =>
      rw[(hb3.set _).cell,hb.cell]
      show 0 < rest.size
      omega
theorem each_calls (s:ByteArray) (w:World):Calls Tryz.prog 55 #[.string s] w fun e w'=>e=.returned (.func (.func 70) #[] #[.pointer (some ⟨w.heap.size,0,none⟩)])∧w'=w.alloc (.cells #[.string s] 9):=by
  go_enter Tryz.func55,Tryz.ntmps55
  go_wp2
  go_ret
  exact⟨rfl,rfl⟩
theorem info9L:(Tryz.prog.info? 9).map (fun i=>(i.zero,i.size,i.bytes))=some (some (.string ⟨#[]⟩),1,16):=by kernel_rfl
theorem flat_len:∀ (L:List (List UInt8)),(∀ x∈L,x≠[])→L.length≤L.flatten.length
  | [],_=>Nat.le_refl _
  | x :: L,h=>by
    have h1:0 < x.length:=List.length_pos_iff.2 (h x List.mem_cons_self)
    have h2:=flat_len L (fun y m=>h y (List.mem_cons_of_mem _ m))
    rw[List.flatten_cons,List.length_append,List.length_cons]
    omega
theorem linesB_len (s:ByteArray):(linesB s).length≤s.size:=by
  have h:=flat_len (Tx.lines s.data.toList) (Tx.lines_ne _)
  rw[Tx.yRb_,Array.length_toList] at h
  unfold linesB
  rw[List.length_map]
  exact h
set_option maxRecDepth 100000 in
set_option maxHeartbeats 4000000 in
theorem y4_.calls (a0:ByteArray) (r:List ByteArray) (w:World) (h:y4_.f a0=some r) :
    Calls Tryz.prog 36 #[.string a0] w fun e w'=>∃ v0_:Value,e=.returned (v0_)∧Kd.R Kd.string 9 w' w.heap.size (fun _=>True) v0_ r∧Below w.heap.size w w':=by
  unfold y4_.f at h
  by_cases hsz:a0.size≤1000000000
  rotate_left
  · rw[if_neg hsz] at h;cases h
  rw[if_pos hsz] at h
  have hr:=Option.some.inj h
  clear h
  refine (callsIn_wide (n:=4)).1 ?_
  obtain⟨i0,hi,hz0,hz1,hz2⟩:=info_parts info9L
  refine callsIn_of_wp_marks Tryz.func36 rfl trivial ?_ rfl
  simp only[Tryz.ntmps36,List.size_toArray,List.length_cons,List.length_nil,Nat.reduceAdd,Nat.reduceSub,Array.replicate_succ,Array.replicate_zero,List.push_toArray,List.append_toArray,List.nil_append,List.cons_append]
  gi_wp2_with (refine⟨trivial,?_⟩;gi_at_call 55;refine (callsIn_wide.2 (each_calls a0 _)).mono ?_;rintro e w' ⟨rfl,rfl⟩)
  have bO:=Boxed.new w 47 (.slice none 0 0)
  have bS:=Boxed.new (w.alloc (.cells #[.slice none 0 0] 47)) 9 (.string a0)
  simp only[World.size_alloc] at bS ⊢
  have hB0:Below w.heap.size w ((w.alloc (.cells #[.slice none 0 0] 47)).alloc (.cells #[.string a0] 9)):=((Below.refl _ w).alloc (Nat.le_refl _) _).alloc (by simp) _
  refine wpIn_rangeFunc_cell rfl (by omega) (gf:=70) (lb:=#[.pointer (some ⟨w.heap.size+1,0,none⟩)]) rfl trivial (enters_of Tryz.func70 ze_ rfl)
    (encs:=fun x:ByteArray=>#[Value.string x]) (Bc:=w.heap.size+1) (t:=9) (v0:=.string a0) (xs:=linesB a0) (fun l J W hJ hJs hY hB h0=>each_in l _ a0 _ rfl hsz J hJs hY W hB h0) bS (fun _=>rfl)
    (fun pre W=>(∃ v,Boxed W w.heap.size 47 v∧W.ownsRow (w.heap.size+2) 9 1 v pre.length (pre.map Value.string))∧Below w.heap.size w W∧w.heap.size+2≤W.heap.size)
    ?own ?cell ⟨⟨_,bO.alloc _,World.ownsRow_nil _ _ _ _⟩,hB0,by simp⟩
    (fun x=>{ tmps:=#[.string a0,undef,.slice none 0 0,.pointer (some ⟨w.heap.size,0,none⟩),.string x,.string a0,.func (.func 70) #[] #[.pointer (some ⟨w.heap.size+1,0,none⟩)],.string x,undef,undef,undef,undef,undef],defers:=[] }) ?assign ?body ?done
  case own =>
    rintro s A B row ⟨⟨v,hv,hrow⟩,hb,hs⟩ hg hr
    have hne:∀ (b:Nat) (cs:Array Value) (t:TypeId) (fz:Nat × Nat),A.heap[b]?=some (.cells cs t fz)→some b≠row:=fun b cs t fz hb' e=>by
      obtain⟨_,o,ho,hc⟩:=hr b e.symm
      rw[hb'] at ho;cases ho;cases hc
    refine⟨⟨v,hv.kept hg (hne _ _ _ _ hv),hrow.kept hg ?_⟩,hb.grown hg hb.size (fun k e=>?_),Nat.le_trans hs hg.size⟩
    · rcases hrow.2 with ⟨rfl,_⟩|⟨g,cap,cur,rfl,_,hgb,_⟩
      · exact .inl rfl
      · exact .inr (hne _ _ _ _ hgb)
    · have:=(hr k e).1
      simp at this
      omega
  case cell =>
    rintro s W v ⟨⟨u,hu,hr⟩,hb,hs⟩
    refine⟨⟨u,hu.other (by omega) _,hr.kept (grownBy_setCell' _ _ _) (.inr fun e=>?_)⟩,hb.setCell (p:=⟨w.heap.size+1,0,none⟩) (by show _≤w.heap.size+1;omega) _,by simpa using hs⟩
    have:=(hr.lt _ e).1
    omega
  case assign =>
    intro l x W K hK
    gi_wp2
    exact hK
  case body =>
    rintro l pre x W ⟨post,hp⟩ ⟨⟨v,hv,hrow⟩,hB,hS⟩
    have hc:=hv.cell
    have hlen:pre.length+1≤1000000000:=by
      have h1:=linesB_len a0
      rw[← hp,List.length_append,List.length_cons] at h1
      omega
    gi_wp2_with (gi_at_builtin;refine wpListIn_append_own _ rfl _ _ 47 rfl (w.heap.size+2) 9 i0 (.string ⟨#[]⟩) 1 16 Tryz.underlying47 hi hz0 hz1 hz2 rfl (by decide) _ _ _ rfl (hrow.alloc _) ⟨W.heap.size,0,none⟩ 1 1 [.string x] rfl rfl (cell_one_new _ _ _) (by simp [Value.oneCell']) (by simp only[maxLen];omega) (by omega) (by simp;omega) ?_;intro v' w1 hown' hgrow _;obtain⟨g',cap',rfl⟩:=ownsRow_succ hown';obtain⟨hv1,hv2,hr2,hk2,hb2⟩:=hv.appended (by decide) (own_weaken hrow (show w.heap.size≤w.heap.size+2 by omega)) hB.size (Nat.le_refl _) (own_weaken hown' (show w.heap.size≤w.heap.size+2 by omega)) hgrow;have hc1:=hv1.cell;have hf1:=hv1.frozen)
    refine⟨hk2,?_,⟨_,hv2,?_⟩,hB.trans hb2,?_⟩
    · intro u hu
      exact ((hu.alloc _).kept hgrow (fun e=>by have:=(hrow.lt _ e.symm).1;omega)).other (by omega) _
    · rw[List.length_append,List.map_append]
      exact hown'.kept (grownBy_setCell' _ _ _) (.inr fun e=>by have:=(hown'.lt _ e).1;omega)
    · have:=hgrow.size
      simp at this ⊢
      omega
  case done =>
    rintro D W hD ⟨⟨v,hv,hrow⟩,hB,hS⟩ hK
    have hc:=hv.cell
    gi_wp2
    refine⟨by simp,.inl ⟨_,_,rfl,run_takeDeferred hK,?_⟩⟩
    refine⟨_,results_tmp rfl _ _ _,v,rfl,?_,hB.trans (belowK_b (w:=w) (Nat.le_refl _) W D _ _ (by simp at hD;omega) hK rfl rfl)⟩
    have hr3:=ownsRow_putObj hrow (.deferred none) hK rfl
    rw[← hr]
    exact Kd.R_of_own (own_weaken hr3 (by omega)) (fun _ _=>trivial)
end Go.Proofs.YthimblhfjfngiaaGreat.PText

