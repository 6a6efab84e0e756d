/- PastThree holds: for every three texts the statement answers true. Part 16 of 25. -/
import Derived.Test.YthimblhfjfngiaaBThreeO
import Derived.Lib.Strings
namespace Go.Proofs.Ythimblhfjfngiaa.PText
open Go.RowKit Go.Lib Go.Proofs.YthimblhfjfngiaaW.PrintWords Go.Proofs.YthimblhfjfngiaaW.PrintLast Go.Proofs.YthimblhfjfngiaaW.PrintMore
theorem w64 {x:Int} (h0:-9223372036854775808≤x) (h1:x≤9223372036854775807):wrap64 x=x:=by unfold wrap64;omega
theorem nx (i:Nat) (h:i≤1000000):wrap64 ((i:Int)+1)=((i+1:Nat):Int):=by rw[w64 (by omega) (by omega)];omega
theorem mx_max (a b:Int):mx a b=max a b:=by
  unfold mx;split <;> omega
theorem rdB (l:List ByteArray) (i:Nat) (h:i < l.length):rdOf ByteArray.empty l (i:Int)=l[i]:=by
  unfold rdOf
  rw[Int.toNat_natCast,List.getD_eq_getElem?_getD,List.getElem?_eq_getElem h];rfl
theorem rdI (x:List Int) (i:Nat) (h:i < x.length):rd x (i:Int)=x[i]:=by
  unfold rd
  rw[Int.toNat_natCast,List.getD_eq_getElem?_getD,List.getElem?_eq_getElem h];rfl
def bL (x:ByteArray):List UInt8:=x.data.toList
theorem bL_eta (x:ByteArray):(⟨(bL x).toArray⟩:ByteArray)=x:=by cases x;simp [bL]
theorem bL_mk (l:List UInt8):bL ⟨l.toArray⟩=l:=rfl
theorem bL_inj {x y:ByteArray}:x.toList=y.toList↔bL x=bL y:=by rw[Lib.toList_data,Lib.toList_data];exact Iff.rfl
theorem bL_size (x:ByteArray):x.size=(bL x).length:=by unfold bL;rw[Array.length_toList];rfl
theorem bL_ext {x y:ByteArray} (h:bL x=bL y):x=y:=by rw[← bL_eta x,← bL_eta y,h]
theorem bL_append (x y:ByteArray):bL (x++y)=bL x++bL y:=by unfold bL;rw[ByteArray.data_append,Array.toList_append]
end Go.Proofs.Ythimblhfjfngiaa.PText

namespace Go.Proofs.Ythimblhfjfngiaa.PText
open Go.RowKit Go.Lib Go.Proofs.YthimblhfjfngiaaW.PrintWords Go.Proofs.YthimblhfjfngiaaW.PrintLast Go.Proofs.YthimblhfjfngiaaW.PrintMore
theorem yxb_ (l:List S59) (i:Nat) (h:i < l.length):rd_T59 l (i:Int)=l[i]:=by
  unfold rd_T59
  rw[Int.toNat_natCast,List.getD_eq_getElem?_getD,List.getElem?_eq_getElem h];rfl
theorem clash_l0 (l:List S59) (hl:l.length≤1000000):∀ (m i k:Nat) (e last:Int),l.length - i=m→i≤l.length→2 * m+1≤k →
    yR_.l0 k e last l (l.length:Int) (i:Int)=some (Tx.clash e last ((l.drop i).map toE)):=by
  intro m
  induction m with
  | zero =>
    intro i k e last hm hi hk
    obtain⟨k,rfl⟩:∃ j,k=j+1:=⟨k - 1,by omega⟩
    rw[yR_.l0,if_neg (by omega),List.drop_of_length_le (by omega)]
    rfl
  | succ m ih =>
    intro i k e last hm hi hk
    obtain⟨k,rfl⟩:∃ j,k=j+2:=⟨k - 2,by omega⟩
    have hlt:i < l.length:=by omega
    have hd:(l.drop i).map toE=toE l[i] :: (l.drop (i+1)).map toE:=by rw[List.drop_eq_getElem_cons hlt];rfl
    have hn:wrap64 ((i:Int)+1)=((i+1:Nat):Int):=by rw[w64 (by omega) (by omega)];omega
    have ih1:=fun e last=>ih (i+1) k e last (by omega) (by omega) (by omega)
    rw[yR_.l0,if_pos (by omega),if_pos (by omega),if_pos (by omega),yxb_ l i hlt,hd]
    generalize l[i]=x
    have step:∀ b:Bool,yR_.j1 (k+1) e last l (l.length:Int) (i:Int) b x.f0 x.f1 x.f2=some (if b=true then true else Tx.clash (max e x.f1) (if x.f0=x.f1 then x.f0 else last) ((l.drop (i+1)).map toE)):=by
      intro b
      rw[yR_.j1]
      cases b with
      | true=>rfl
      | false =>
        rw[if_neg (show ¬ (false=true) by decide),if_neg (show ¬ (false=true) by decide),hn]
        by_cases h:x.f0=x.f1
        rotate_left
        · rw[if_neg h,if_neg h,ih1,mx_max]
        rw[if_pos h,if_pos h,ih1,mx_max]
    rw[step,step,step]
    show _=some (if x.f0 < e∨(x.f0=x.f1∧x.f0=last) then true else Tx.clash (max e x.f1) (if x.f0=x.f1 then x.f0 else last) ((l.drop (i+1)).map toE))
    by_cases h1:x.f0 < e
    · rw[if_pos h1,if_pos (Or.inl h1)];rfl
    rw[if_neg h1]
    by_cases h2:x.f0=x.f1
    rotate_left
    · rw[if_neg h2,if_neg (show ¬ (false=true) by decide)]
      congr 1
      rw[if_neg (show ¬ (x.f0 < e∨(x.f0=x.f1∧x.f0=last)) by rintro (q|⟨q,_⟩);exact h1 q;exact h2 q)]
    rw[if_pos h2]
    by_cases h3:x.f0=last
    · have hb:(x.f0 == last)=true:=beq_iff_eq.2 h3
      rw[hb,if_pos rfl,if_pos (Or.inr ⟨h2,h3⟩)]
    have hb:(x.f0 == last)=false:=beq_eq_false_iff_ne.2 h3
    rw[hb,if_neg (show ¬ (false=true) by decide)]
    congr 1
    rw[if_neg (show ¬ (x.f0 < e∨(x.f0=x.f1∧x.f0=last)) by rintro (q|⟨_,q⟩);exact h1 q;exact h3 q)]
theorem clash_f (l:List S59) (hl:l.length≤10000):yR_.f 20001 l=some (Tx.clash 0 (-1) (l.map toE)):=by
  have h:=clash_l0 l (by omega) l.length 0 20001 0 (-1) (by omega) (by omega) (by omega)
  rw[List.drop_zero] at h
  exact h
end Go.Proofs.Ythimblhfjfngiaa.PText

namespace Go.Proofs.Ythimblhfjfngiaa.PText
open Go.RowKit Go.Lib Go.Proofs.YthimblhfjfngiaaW.PrintWords Go.Proofs.YthimblhfjfngiaaW.PrintLast Go.Proofs.YthimblhfjfngiaaW.PrintMore
set_option linter.unusedVariables false
def toSt (x:UInt8 × List UInt8):S120:=⟨(x.1.toNat:Int),⟨x.2.toArray⟩⟩
theorem rd78_at (l:List S120) (i:Nat) (h:i < l.length):rd_T120 l (i:Int)=l[i]:=by
  unfold rd_T120
  rw[Int.toNat_natCast,List.getD_eq_getElem?_getD,List.getElem?_eq_getElem h];rfl
theorem ix (p q m:Nat) (hp:p≤10000) (hm:m≤10000) (hq:q≤10000):wrap64 (wrap64 ((p:Int) * ((m+1:Nat):Int))+(q:Int))=((p * (m+1)+q:Nat):Int):=by
  have h1:p * (m+1)≤10000 * 10001:=Nat.mul_le_mul hp (by omega)
  have h2:(p:Int) * ((m+1:Nat):Int)=((p * (m+1):Nat):Int):=by push_cast;rfl
  rw[h2,w64 (x:=((p * (m+1):Nat):Int)) (by omega) (by omega),w64 (by omega) (by omega)]
  omega
theorem ix_inj {m p q i j:Nat} (hq:q≤m) (hj:j≤m) (h:p * (m+1)+q=i * (m+1)+j):p=i∧q=j:=by
  have h1:(p * (m+1)+q) / (m+1)=p:=by rw[Nat.mul_comm,Nat.mul_add_div (by omega),Nat.div_eq_of_lt (by omega)];omega
  have h2:(i * (m+1)+j) / (m+1)=i:=by rw[Nat.mul_comm,Nat.mul_add_div (by omega),Nat.div_eq_of_lt (by omega)];omega
  have:p=i:=by rw[← h1,h,h2]
  subst this
  exact⟨rfl,by omega⟩
theorem ix_lt {n m p q:Nat} (hp:p≤n) (hq:q≤m):p * (m+1)+q < (n+1) * (m+1):=by
  have:(p+1) * (m+1)≤(n+1) * (m+1):=Nat.mul_le_mul_right _ (by omega)
  rw[Nat.add_mul,Nat.one_mul] at this
  omega
/-- the table's entries behind a place -/
def Tab (a b:List (List UInt8)) (i j:Nat) (t:List Int):Prop :=
  t.length=(a.length+1) * (b.length+1)∧∀ p q,p≤a.length→q≤b.length→(i < p∨(p=i∧j≤q)∨q=b.length)→t[p * (b.length+1)+q]?=some (Tx.lcs (a.drop p) (b.drop q):Int)
theorem Tab.get {a b:List (List UInt8)} {i j:Nat} {t:List Int} (h:Tab a b i j t) {p q:Nat} (hp:p≤a.length) (hq:q≤b.length) (hs:i < p∨(p=i∧j≤q)∨q=b.length):rd t ((p * (b.length+1)+q:Nat):Int)=(Tx.lcs (a.drop p) (b.drop q):Int):=by
  have h1:=h.2 p q hp hq hs
  unfold rd
  rw[Int.toNat_natCast,List.getD_eq_getElem?_getD,h1];rfl
theorem Tab.put {a b:List (List UInt8)} {i j:Nat} {t:List Int} (h:Tab a b i (j+1) t) (hi:i < a.length) (hj:j < b.length) :
    Tab a b i j (t.set (((i * (b.length+1)+j:Nat):Int)).toNat (Tx.lcs (a.drop i) (b.drop j):Int)):=by
  refine⟨by rw[List.length_set];exact h.1,fun p q hp hq hs=>?_⟩
  rw[Int.toNat_natCast]
  have hb:=ix_lt (n:=a.length) (m:=b.length) (p:=i) (q:=j) (by omega) (by omega)
  by_cases e:p=i∧q=j
  · obtain⟨rfl,rfl⟩:=e
    rw[List.getElem?_set_self (by rw[h.1];exact hb)]
  rw[List.getElem?_set_ne (fun q'=>e (by obtain⟨h1,h2⟩:=ix_inj (by omega) hq q';exact⟨h1.symm,h2.symm⟩))]
  refine h.2 p q hp hq ?_
  rcases hs with h1|⟨h1,h2⟩|h1
  · exact Or.inl h1
  · refine Or.inr (Or.inl ⟨h1,?_⟩)
    have:q≠j:=fun q'=>e ⟨h1,q'⟩
    omega
  · exact Or.inr (Or.inr h1)
theorem Tab.up {a b:List (List UInt8)} {i:Nat} {t:List Int} (h:Tab a b (i+1) 0 t):Tab a b i b.length t :=
  ⟨h.1,fun p q hp hq hs=>h.2 p q hp hq (by rcases hs with h1|⟨_,h2⟩|h1 <;> omega)⟩
theorem Tab.zero (a b:List (List UInt8)):Tab a b a.length 0 (List.replicate ((a.length+1) * (b.length+1)) 0):=by
  refine⟨List.length_replicate,fun p q hp hq hs=>?_⟩
  rw[List.getElem?_replicate,if_pos (ix_lt hp hq)]
  rcases hs with h1|⟨h1,_⟩|h1
  · omega
  · subst h1;rw[List.drop_length,Tx.y4b_];rfl
  · subst h1;rw[List.drop_length (l:=b),Tx.y7b_];rfl
theorem yTb_ (l:List ByteArray) (i:Nat) (h:i < l.length):(l.map bL).drop i=bL l[i] :: (l.map bL).drop (i+1):=by
  rw[List.drop_eq_getElem_cons (by rw[List.length_map];exact h),List.getElem_map]
theorem st_l1 (a b:List ByteArray) (ha:a.length≤5000) (hb:b.length≤5000) (i:Nat) (hi:i < a.length) (K:Nat):∀ (j:Nat) (t:List Int),j≤b.length→Tab (a.map bL) (b.map bL) i j t →
    ∃ t',Tab (a.map bL) (b.map bL) i 0 t'∧yl_.l1 (j+1+K) a b ((b.length+1:Nat):Int) t (i:Int) ((j:Int) - 1)=yl_.l0 K a b ((b.length+1:Nat):Int) t' ((i:Int) - 1):=by
  intro j
  induction j with
  | zero =>
    intro t hj hT
    refine⟨t,hT,?_⟩
    rw[show 0+1+K=K+1 by omega,yl_.l1,if_neg (by omega),w64 (by omega) (by omega)]
  | succ j ih =>
    intro t hj hT
    have hlA:(a.map bL).length=a.length:=List.length_map _
    have hlB:(b.map bL).length=b.length:=List.length_map _
    have hT':=hT.put (by omega) (by omega)
    obtain⟨t',g1,g2⟩:=ih _ (by omega) hT'
    refine⟨t',g1,?_⟩
    rw[← g2,show j+1+1+K=(j+1+K)+1 by omega,yl_.l1,show (((j+1:Nat):Int) - 1)=(j:Int) by omega,if_pos (by omega),if_pos (by omega),if_pos (by omega),if_pos (by omega),if_pos (by omega),rdB a i hi,rdB b j (by omega)]
    have hlen:=hT.1
    rw[hlA,hlB] at hlen
    have z1:=ix_lt (n:=a.length) (m:=b.length) (p:=i) (q:=j) (by omega) (by omega)
    have z2:=ix_lt (n:=a.length) (m:=b.length) (p:=i) (q:=j+1) (by omega) (by omega)
    have z3:=ix_lt (n:=a.length) (m:=b.length) (p:=i+1) (q:=j) (by omega) (by omega)
    have z4:=ix_lt (n:=a.length) (m:=b.length) (p:=i+1) (q:=j+1) (by omega) (by omega)
    have w1:Aside0 (wrap64 ((i:Int)+1)=((i+1:Nat):Int)):=⟨nx i (by omega)⟩
    have w2:=Aside0.mk (ix i j b.length (by omega) (by omega) (by omega))
    have w3:=Aside0.mk (ix (i+1) j b.length (by omega) (by omega) (by omega))
    have q1:i * (b.length+1)≤5000 * 5001:=Nat.mul_le_mul (by omega) (by omega)
    have q2:(i+1) * (b.length+1)≤5001 * 5001:=Nat.mul_le_mul (by omega) (by omega)
    have w4:Aside0 (wrap64 (((i * (b.length+1)+j:Nat):Int)+1)=((i * (b.length+1)+(j+1):Nat):Int)):=⟨by rw[w64 (by omega) (by omega)];omega⟩
    have w5:Aside0 (wrap64 ((((i+1) * (b.length+1)+j:Nat):Int)+1)=(((i+1) * (b.length+1)+(j+1):Nat):Int)):=⟨by rw[w64 (by omega) (by omega)];omega⟩
    have w6:Aside0 (wrap64 ((j:Int) - 1)=(j:Int) - 1):=⟨w64 (by omega) (by omega)⟩
    have e1:=hT.get (p:=i+1) (q:=j+1) (by omega) (by omega) (Or.inl (by omega))
    have e2:=hT.get (p:=i+1) (q:=j) (by omega) (by omega) (Or.inl (by omega))
    have e3:=hT.get (p:=i) (q:=j+1) (by omega) (by omega) (Or.inr (Or.inl ⟨rfl,Nat.le_refl _⟩))
    have dA:=yTb_ a i hi
    have dB:=yTb_ b j (by omega)
    rw[hlB] at e1 e2 e3
    rw[hlB]
    by_cases c:(a[i]'hi).toList=(b[j]'(by omega)).toList
    rotate_left
    · have hl:Tx.lcs ((a.map bL).drop i) ((b.map bL).drop j)=max (Tx.lcs ((a.map bL).drop (i+1)) ((b.map bL).drop j)) (Tx.lcs ((a.map bL).drop i) ((b.map bL).drop (j+1))):=by
        rw[dA,dB,Tx.lcs_cons,if_neg (fun q=>c (bL_inj.2 q))]
      rw[if_neg c,w1.out,w3.out,w2.out,w4.out,if_pos (by omega),if_pos (by omega),if_pos (by omega),if_pos (by omega),if_pos (by omega),if_pos (by omega),w6.out,e2,e3,hl,mx_max]
      rw[show max (Tx.lcs ((a.map bL).drop (i+1)) ((b.map bL).drop j):Int) (Tx.lcs ((a.map bL).drop i) ((b.map bL).drop (j+1)):Int)=((max (Tx.lcs ((a.map bL).drop (i+1)) ((b.map bL).drop j)) (Tx.lcs ((a.map bL).drop i) ((b.map bL).drop (j+1))):Nat):Int) by omega]
    have hl:Tx.lcs ((a.map bL).drop i) ((b.map bL).drop j)=Tx.lcs ((a.map bL).drop (i+1)) ((b.map bL).drop (j+1))+1:=by
      rw[dA,dB,Tx.lcs_cons,if_pos (bL_inj.1 c)]
    have hv:=Tx.lcs_len_l ((a.map bL).drop (i+1)) ((b.map bL).drop (j+1))
    have hv2:Tx.lcs ((a.map bL).drop (i+1)) ((b.map bL).drop (j+1))≤5000:=by rw[List.length_drop,hlA] at hv;omega
    rw[if_pos c,w1.out,w3.out,w2.out,w5.out,if_pos (by omega),if_pos (by omega),if_pos (by omega),if_pos (by omega),w6.out,e1,hl]
    rw[show wrap64 ((Tx.lcs ((a.map bL).drop (i+1)) ((b.map bL).drop (j+1)):Int)+1)=((Tx.lcs ((a.map bL).drop (i+1)) ((b.map bL).drop (j+1))+1:Nat):Int) by rw[w64 (by omega) (by omega)];omega]
theorem st_l0 (a b:List ByteArray) (ha:a.length≤5000) (hb:b.length≤5000) (K:Nat):∀ (i:Nat) (t:List Int),i≤a.length→Tab (a.map bL) (b.map bL) i 0 t →
    ∃ t',Tab (a.map bL) (b.map bL) 0 0 t'∧yl_.l0 (i * (b.length+2)+1+K) a b ((b.length+1:Nat):Int) t ((i:Int) - 1)=yl_.l2 K a b ((b.length+1:Nat):Int) t' [] 0 0:=by
  intro i
  induction i with
  | zero =>
    intro t hi hT
    refine⟨t,hT,?_⟩
    rw[show 0 * (b.length+2)+1+K=K+1 by omega,yl_.l0,if_neg (by omega)]
  | succ i ih =>
    intro t hi hT
    have hlB:(b.map bL).length=b.length:=List.length_map _
    have hup:=hT.up
    rw[hlB] at hup
    obtain⟨t1,g1,g2⟩:=st_l1 a b ha hb i (by omega) (i * (b.length+2)+1+K) b.length t (Nat.le_refl _) hup
    obtain⟨t2,g3,g4⟩:=ih t1 (by omega) g1
    refine⟨t2,g3,?_⟩
    rw[← g4,← g2,show (i+1) * (b.length+2)+1+K=(b.length+1+(i * (b.length+2)+1+K))+1 by rw[Nat.add_mul];omega,yl_.l0,show (((i+1:Nat):Int) - 1)=(i:Int) by omega,if_pos (by omega),w64 (x:=(b.length:Int) - 1) (by omega) (by omega)]
theorem st_l2 (a b:List ByteArray) (ha:a.length≤5000) (hb:b.length≤5000) (t:List Int) (hT:Tab (a.map bL) (b.map bL) 0 0 t):∀ (n i j k:Nat) (out:List S120),i≤a.length→j≤b.length→(a.length - i)+(b.length - j)=n→3 * n+3≤k→out.length≤i+j →
    yl_.l2 k a b ((b.length+1:Nat):Int) t out (i:Int) (j:Int)=some (out++(Tx.stp ((a.map bL).drop i) ((b.map bL).drop j)).map toSt):=by
  intro n
  have hlA:(a.map bL).length=a.length:=List.length_map _
  have hlB:(b.map bL).length=b.length:=List.length_map _
  induction n using Nat.strongRecOn with
  | ind n ih =>
  by_cases hn0:n=0
  · subst hn0
    intro i j k out hi hj hn hk ho
    obtain⟨k,rfl⟩:∃ q,k=q+3:=⟨k - 3,by omega⟩
    rw[yl_.l2,if_neg (by omega),decide_eq_false (by omega),yl_.j3,if_neg (by decide),List.drop_of_length_le (by omega),List.drop_of_length_le (by omega),Tx.stp]
    simp
  intro i j k out hi hj hn hk ho
  obtain⟨k,rfl⟩:∃ q,k=q+3:=⟨k - 3,by omega⟩
  have hin:yl_.l2 (k+3) a b ((b.length+1:Nat):Int) t out (i:Int) (j:Int)=yl_.j3 (k+2) a b ((b.length+1:Nat):Int) t out (i:Int) (j:Int) true:=by
    rw[yl_.l2]
    by_cases c:i < a.length
    · rw[if_pos (by omega)]
    rw[if_neg (by omega),decide_eq_true (by omega)]
  rw[hin,yl_.j3,if_pos rfl]
  have step:∀ (o:Int) (x:ByteArray) (l:List (UInt8 × List UInt8)),out++[(⟨o,x⟩:S120)]++l.map toSt=out++((⟨o,x⟩:S120) :: l.map toSt):=fun o x l=>by simp
  by_cases c1:i < a.length
  rotate_left
  · have c2:j < b.length:=by omega
    have dB:=yTb_ b j c2
    have nB:Aside0 (wrap64 ((j:Int)+1)=((j+1:Nat):Int)):=⟨nx j (by omega)⟩
    have hdA:(a.map bL).drop i=[]:=List.drop_of_length_le (by omega)
    rw[if_neg (by omega),yl_.j4,if_neg (by decide),if_neg (by omega),if_pos (by omega),if_pos (by omega),if_pos (by omega),rdB b j c2,nB.out,ih ((a.length - i)+(b.length - (j+1))) (by omega) i (j+1) k _ (by omega) (by omega) rfl (by omega) (by rw[List.length_append,List.length_singleton];omega),dB,hdA,Tx.stp,step,List.map_cons]
    rw[show toSt (43,bL b[j])=⟨43,b[j]⟩ from congrArg (S120.mk 43) (bL_eta _)]
  have dA:=yTb_ a i c1
  have nA:Aside0 (wrap64 ((i:Int)+1)=((i+1:Nat):Int)):=⟨nx i (by omega)⟩
  by_cases c2:j < b.length
  rotate_left
  · have hdB:(b.map bL).drop j=[]:=List.drop_of_length_le (by omega)
    rw[if_pos (by omega),if_neg (by omega),yl_.j4,if_neg (by decide),if_pos (by omega),if_pos (by omega),if_pos (by omega),if_pos (by omega),rdB a i c1,nA.out,ih ((a.length - (i+1))+(b.length - j)) (by omega) (i+1) j k _ (by omega) (by omega) rfl (by omega) (by rw[List.length_append,List.length_singleton];omega),dA,hdB,Tx.stp,step,List.map_cons]
    rw[show toSt (45,bL a[i])=⟨45,a[i]⟩ from congrArg (S120.mk 45) (bL_eta _)]
  have dB:=yTb_ b j c2
  have nB:Aside0 (wrap64 ((j:Int)+1)=((j+1:Nat):Int)):=⟨nx j (by omega)⟩
  rw[if_pos (by omega),if_pos (by omega),if_pos (by omega),if_pos (by omega),rdB a i c1,rdB b j c2,dA,dB,Tx.stp]
  by_cases e:a[i].toList=b[j].toList
  · rw[show (a[i].toList == b[j].toList)=true from beq_iff_eq.2 e,yl_.j4,if_pos rfl,if_pos (by omega),if_pos (by omega),if_pos (by omega),rdB a i c1,nA.out,nB.out,ih ((a.length - (i+1))+(b.length - (j+1))) (by omega) (i+1) (j+1) k _ (by omega) (by omega) rfl (by omega) (by rw[List.length_append,List.length_singleton];omega),if_pos (bL_inj.1 e),step,List.map_cons]
    rw[show toSt (32,bL a[i])=⟨32,a[i]⟩ from congrArg (S120.mk 32) (bL_eta _)]
  have z1:=ix_lt (n:=a.length) (m:=b.length) (p:=i) (q:=j+1) (by omega) (by omega)
  have z3:=ix_lt (n:=a.length) (m:=b.length) (p:=i+1) (q:=j) (by omega) (by omega)
  have w2:=Aside0.mk (ix i j b.length (by omega) (by omega) (by omega))
  have w3:=Aside0.mk (ix (i+1) j b.length (by omega) (by omega) (by omega))
  have q1:i * (b.length+1)≤5000 * 5001:=Nat.mul_le_mul (by omega) (by omega)
  have w4:Aside0 (wrap64 (((i * (b.length+1)+j:Nat):Int)+1)=((i * (b.length+1)+(j+1):Nat):Int)):=⟨by rw[w64 (by omega) (by omega)];omega⟩
  have hlen:=hT.1
  rw[hlA,hlB] at hlen
  have e2:=hT.get (p:=i+1) (q:=j) (by omega) (by omega) (Or.inl (by omega))
  have e3:=hT.get (p:=i) (q:=j+1) (by omega) (by omega) (by omega)
  rw[hlB] at e2 e3
  rw[show (a[i].toList == b[j].toList)=false from beq_eq_false_iff_ne.2 e,yl_.j4,if_neg (by decide),if_pos (by omega),if_neg (by omega),nA.out,w3.out,if_pos (by omega),if_pos (by omega),w2.out,w4.out,if_pos (by omega),if_pos (by omega),e2,e3,if_neg (fun q=>e (bL_inj.2 q)),← dA,← dB]
  by_cases g:Tx.lcs ((a.map bL).drop i) ((b.map bL).drop (j+1))≤Tx.lcs ((a.map bL).drop (i+1)) ((b.map bL).drop j)
  · rw[if_pos (by omega),if_pos (by omega),if_pos (by omega),rdB a i c1,ih ((a.length - (i+1))+(b.length - j)) (by omega) (i+1) j k _ (by omega) (by omega) rfl (by omega) (by rw[List.length_append,List.length_singleton];omega),if_pos g,step,List.map_cons]
    rw[show toSt (45,bL a[i])=⟨45,a[i]⟩ from congrArg (S120.mk 45) (bL_eta _)]
  rw[if_neg (by omega),if_pos (by omega),if_pos (by omega),if_pos (by omega),rdB b j c2,nB.out,ih ((a.length - i)+(b.length - (j+1))) (by omega) i (j+1) k _ (by omega) (by omega) rfl (by omega) (by rw[List.length_append,List.length_singleton];omega),if_neg g,step,List.map_cons]
  rw[show toSt (43,bL b[j])=⟨43,b[j]⟩ from congrArg (S120.mk 43) (bL_eta _)]
/-- the steps, as the program has them -/
def stS (a b:List ByteArray):List S120:=(Tx.stp (a.map bL) (b.map bL)).map toSt
theorem steps_f (a b:List ByteArray) (ha:a.length≤5000) (hb:b.length≤5000) (k:Nat) (hk:a.length * (b.length+2)+3 * (a.length+b.length)+4≤k):yl_.f k a b=some (stS a b):=by
  have hlA:(a.map bL).length=a.length:=List.length_map _
  have hlB:(b.map bL).length=b.length:=List.length_map _
  have q:(a.length+1) * (b.length+1)≤5001 * 5001:=Nat.mul_le_mul (by omega) (by omega)
  have w:Aside0 (wrap64 (((a.length+1:Nat):Int) * ((b.length+1:Nat):Int))=(((a.length+1) * (b.length+1):Nat):Int)):=Aside0.mk <| by
    have h2:((a.length+1:Nat):Int) * ((b.length+1:Nat):Int)=(((a.length+1) * (b.length+1):Nat):Int):=by push_cast;rfl
    rw[h2,w64 (by omega) (by omega)]
  unfold yl_.f
  rw[nx a.length (by omega),nx b.length (by omega),w.out,if_pos (by omega),Int.toNat_natCast,if_pos (by omega),w64 (x:=(a.length:Int) - 1) (by omega) (by omega)]
  have hZ:=Tab.zero (a.map bL) (b.map bL)
  rw[hlA,hlB] at hZ
  obtain⟨t,g1,g2⟩:=st_l0 a b ha hb (k - (a.length * (b.length+2)+1)) a.length _ (Nat.le_refl _) hZ
  rw[show a.length * (b.length+2)+1+(k - (a.length * (b.length+2)+1))=k by omega] at g2
  rw[g2]
  have:=st_l2 a b ha hb t g1 (a.length+b.length) 0 0 (k - (a.length * (b.length+2)+1)) [] (by omega) (by omega) (by omega) (by omega) (Nat.le_refl _)
  rw[List.nil_append,List.drop_zero,List.drop_zero] at this
  exact this
end Go.Proofs.Ythimblhfjfngiaa.PText

namespace Go.Proofs.Ythimblhfjfngiaa.PText
open Go.RowKit Go.Lib Go.Proofs.YthimblhfjfngiaaW.PrintWords Go.Proofs.YthimblhfjfngiaaW.PrintLast Go.Proofs.YthimblhfjfngiaaW.PrintMore
set_option linter.unusedVariables false
def toSr (x:UInt8 × List UInt8):S106:=⟨(x.1.toNat:Int),⟨x.2.toArray⟩⟩
theorem rdL5 {t:List (List Int)} {i:Nat} {R:List Int} (h:t[i]?=some R):rd_L6 t (i:Int)=R:=by
  unfold rd_L6
  rw[Int.toNat_natCast,List.getD_eq_getElem?_getD,h];rfl
theorem rdG {R:List Int} {q:Nat} {v:Int} (h:R[q]?=some v):rd R (q:Int)=v:=by
  unfold rd
  rw[Int.toNat_natCast,List.getD_eq_getElem?_getD,h];rfl
/-- a row of the table, done from a place on -/
structure Part (a b:List (List UInt8)) (p j:Nat) (R:List Int):Prop where
  len:R.length=b.length+1
  val:∀ q,q≤b.length→j≤q→R[q]?=some (Tx.lcs (a.drop p) (b.drop q):Int)
  zer:∀ q,q < j→q≤b.length→R[q]?=some 0
structure RT (a b:List (List UInt8)) (i:Nat) (t:List (List Int)):Prop where
  len:t.length=a.length+1
  row:∀ p,i≤p→p≤a.length→∃ R,t[p]?=some R∧Part a b p 0 R
theorem Part.put {a b:List (List UInt8)} {p j:Nat} {R:List Int} (h:Part a b p (j+1) R) (hj:j≤b.length):Part a b p j (R.set (j:Int).toNat (Tx.lcs (a.drop p) (b.drop j):Int)) where
  len:=by rw[List.length_set];exact h.len
  val q hq hs:=by
    rw[Int.toNat_natCast]
    by_cases e:q=j
    · subst e;rw[List.getElem?_set_self (by rw[h.len];omega)]
    rw[List.getElem?_set_ne (fun k=>e k.symm)];exact h.val q hq (by omega)
  zer q hq hs:=by
    rw[Int.toNat_natCast,List.getElem?_set_ne (by omega)];exact h.zer q (by omega) hs
theorem Part.skip {a b:List (List UInt8)} {p j:Nat} {R:List Int} (h:Part a b p (j+1) R) (hj:j≤b.length) (hz:Tx.lcs (a.drop p) (b.drop j)=0):Part a b p j R where
  len:=h.len
  val q hq hs:=by
    by_cases e:q=j
    rotate_left
    · exact h.val q hq (by omega)
    subst e;rw[hz];exact h.zer q (by omega) hq
  zer q hq hs:=h.zer q (by omega) hs
theorem rst_l1 (a b:List ByteArray) (ha:a.length≤5000) (hb:b.length≤5000) (i:Nat) (hi:i≤a.length) (K:Nat):∀ (j:Nat) (t:List (List Int)) (R:List Int),j≤b.length+1→RT (a.map bL) (b.map bL) (i+1) t→t[i]?=some R→Part (a.map bL) (b.map bL) i j R →
    ∃ t',RT (a.map bL) (b.map bL) i t'∧yd_.l1 (2 * j+1+K) a b (a.length:Int) (b.length:Int) t (i:Int) ((j:Int) - 1)=yd_.l0 K a b (a.length:Int) (b.length:Int) t' ((i:Int) - 1):=by
  have hlA:(a.map bL).length=a.length:=List.length_map _
  have hlB:(b.map bL).length=b.length:=List.length_map _
  intro j
  induction j with
  | zero =>
    intro t R hj hT hR hP
    refine⟨t,⟨hT.len,fun p h1 h2=>?_⟩,?_⟩
    · by_cases e:p=i
      · subst e;exact⟨R,hR,hP⟩
      · exact hT.row p (by omega) h2
    · rw[show 2 * 0+1+K=K+1 by omega,yd_.l1,if_neg (by omega),w64 (by omega) (by omega)]
  | succ j ih =>
    intro t R hj hT hR hP
    have w6:Aside0 (wrap64 ((j:Int) - 1)=(j:Int) - 1):=⟨w64 (by omega) (by omega)⟩
    have hil:i < t.length:=(List.getElem?_eq_some_iff.1 hR).1
    rw[show 2 * (j+1)+1+K=(2 * j+1+K)+2 by omega,yd_.l1,show (((j+1:Nat):Int) - 1)=(j:Int) by omega,if_pos (by omega)]
    by_cases c:i=a.length∨j=b.length
    · have hz:Tx.lcs ((a.map bL).drop i) ((b.map bL).drop j)=0:=by
        rcases c with c|c
        · rw[List.drop_of_length_le (l:=a.map bL) (by omega),Tx.y4b_]
        · rw[List.drop_of_length_le (l:=b.map bL) (by omega),Tx.y7b_]
      obtain⟨t',g1,g2⟩:=ih t R (by omega) hT hR (hP.skip (by omega) hz)
      refine⟨t',g1,?_⟩
      have e:(if (i:Int)=(a.length:Int) then yd_.j2 (2 * j+1+K+1) a b (a.length:Int) (b.length:Int) t (i:Int) (j:Int) true else yd_.j2 (2 * j+1+K+1) a b (a.length:Int) (b.length:Int) t (i:Int) (j:Int) ((j:Int) == (b.length:Int)))=yd_.j2 (2 * j+1+K+1) a b (a.length:Int) (b.length:Int) t (i:Int) (j:Int) true:=by
        rcases c with c|c
        · rw[if_pos (by omega)]
        · rw[show ((j:Int) == (b.length:Int))=true from beq_iff_eq.2 (by omega)];split <;> rfl
      rw[e,yd_.j2,if_pos rfl,w6.out,g2]
    have c1:i < a.length:=by omega
    have c2:j < b.length:=by omega
    obtain⟨R1,h1,hP1⟩:=hT.row (i+1) (Nat.le_refl _) (by omega)
    have hT':∀ R',Part (a.map bL) (b.map bL) i j R'→∃ t',RT (a.map bL) (b.map bL) i t'∧yd_.l1 (2 * j+1+K) a b (a.length:Int) (b.length:Int) (t.set (i:Int).toNat R') (i:Int) ((j:Int) - 1)=yd_.l0 K a b (a.length:Int) (b.length:Int) t' ((i:Int) - 1):=by
      intro R' hP'
      refine ih _ R' (by omega) ⟨by rw[List.length_set];exact hT.len,fun p h1 h2=>?_⟩ (by rw[Int.toNat_natCast,List.getElem?_set_self hil]) hP'
      rw[Int.toNat_natCast,List.getElem?_set_ne (by omega)]
      exact hT.row p h1 h2
    obtain⟨t',g1,g2⟩:=hT' _ (hP.put (by omega))
    refine⟨t',g1,?_⟩
    have hv1:=hP1.val j (by omega) (by omega)
    have hv2:=hP1.val (j+1) (by omega) (by omega)
    have hv3:=hP.val (j+1) (by omega) (by omega)
    have r1:=rdG hv1
    have r2:=rdG hv2
    have r3:=rdG hv3
    have wA:Aside0 (wrap64 ((i:Int)+1)=((i+1:Nat):Int)):=⟨nx i (by omega)⟩
    have wB:Aside0 (wrap64 ((j:Int)+1)=((j+1:Nat):Int)):=⟨nx j (by omega)⟩
    have l0:=hT.len
    have l1:=hP1.len
    have l2:=hP.len
    have dA:=yTb_ a i c1
    have dB:=yTb_ b j c2
    have k1:=Tx.lcs_kept (bL a[i]) ((a.map bL).drop (i+1)) ((b.map bL).drop (j+1))
    have kb:=Tx.lcs_len_l ((a.map bL).drop (i+1)) ((b.map bL).drop (j+1))
    rw[List.length_drop] at kb
    rw[if_neg (by omega),show ((j:Int) == (b.length:Int))=false from beq_eq_false_iff_ne.2 (by omega),yd_.j2,if_neg (by decide),wA.out,wB.out,rdL5 h1,rdL5 hR,r1,r2,r3,rdB a i c1,rdB b j c2,w6.out,if_pos (by omega),if_pos (by omega),if_pos (by omega),if_pos (by omega),if_pos (by omega),if_pos (by omega),if_pos (by omega),if_pos (by omega)]
    by_cases e:(a[i]'c1).toList=(b[j]'c2).toList
    rotate_left
    · have hl:Tx.lcs ((a.map bL).drop i) ((b.map bL).drop j)=max (Tx.lcs ((a.map bL).drop (i+1)) ((b.map bL).drop j)) (Tx.lcs ((a.map bL).drop i) ((b.map bL).drop (j+1))):=by
        rw[dA,dB,Tx.lcs_cons,if_neg (fun q=>e (bL_inj.2 q))]
      rw[hl] at g2
      generalize Tx.lcs ((a.map bL).drop (i+1)) ((b.map bL).drop j)=U at *
      generalize Tx.lcs ((a.map bL).drop i) ((b.map bL).drop (j+1))=V at *
      by_cases c3:(V:Int) > (U:Int)
      rotate_left
      · rw[if_neg c3,if_pos (by omega),if_pos (by omega),if_neg e,if_pos (by omega),show (U:Int)=((max U V:Nat):Int) by omega,g2]
      rw[if_pos c3,if_pos (by omega),if_pos (by omega),if_neg e,if_pos (by omega),show (V:Int)=((max U V:Nat):Int) by omega,g2]
    have hl:Tx.lcs ((a.map bL).drop i) ((b.map bL).drop j)=Tx.lcs ((a.map bL).drop (i+1)) ((b.map bL).drop (j+1))+1:=by
      rw[dA,dB,Tx.lcs_cons,if_pos (bL_inj.1 e)]
    have k2:Tx.lcs ((a.map bL).drop (i+1)) ((b.map bL).drop j)≤Tx.lcs ((a.map bL).drop (i+1)) ((b.map bL).drop (j+1))+1:=by rw[dB,← bL_inj.1 e];exact k1.1
    have k3:Tx.lcs ((a.map bL).drop i) ((b.map bL).drop (j+1))≤Tx.lcs ((a.map bL).drop (i+1)) ((b.map bL).drop (j+1))+1:=by rw[dA];exact k1.2
    rw[hl] at g2
    generalize Tx.lcs ((a.map bL).drop (i+1)) ((b.map bL).drop (j+1))=D at *
    generalize Tx.lcs ((a.map bL).drop (i+1)) ((b.map bL).drop j)=U at *
    generalize Tx.lcs ((a.map bL).drop i) ((b.map bL).drop (j+1))=V at *
    have wD:Aside0 (wrap64 ((D:Int)+1)=((D+1:Nat):Int)):=⟨nx D (by omega)⟩
    by_cases c3:(V:Int) > (U:Int)
    rotate_left
    · rw[if_neg c3,if_pos (by omega),if_pos (by omega),if_pos e,if_pos (by omega),wD.out]
      by_cases c4:((D+1:Nat):Int) > (U:Int)
      · rw[if_pos c4,if_pos (by omega),g2]
      rw[if_neg c4,if_pos (by omega),show (U:Int)=((D+1:Nat):Int) by omega,g2]
    rw[if_pos c3,if_pos (by omega),if_pos (by omega),if_pos e,if_pos (by omega),wD.out]
    by_cases c4:((D+1:Nat):Int) > (V:Int)
    · rw[if_pos c4,if_pos (by omega),g2]
    rw[if_neg c4,if_pos (by omega),show (V:Int)=((D+1:Nat):Int) by omega,g2]
theorem rst_l0 (a b:List ByteArray) (ha:a.length≤5000) (hb:b.length≤5000) (K:Nat):∀ (i:Nat) (t:List (List Int)),i≤a.length+1→RT (a.map bL) (b.map bL) i t →
    ∃ t',RT (a.map bL) (b.map bL) 0 t'∧yd_.l0 (i * (2 * b.length+4)+1+K) a b (a.length:Int) (b.length:Int) t ((i:Int) - 1)=yd_.l2 K a b (a.length:Int) (b.length:Int) t' [] 0 0:=by
  intro i
  induction i with
  | zero =>
    intro t hi hT
    refine⟨t,hT,?_⟩
    rw[show 0 * (2 * b.length+4)+1+K=K+1 by omega,yd_.l0,if_neg (by omega)]
  | succ i ih =>
    intro t hi hT
    have hlA:(a.map bL).length=a.length:=List.length_map _
    have hlB:(b.map bL).length=b.length:=List.length_map _
    have hlt:=hT.len
    rw[hlA] at hlt
    have hP:Part (a.map bL) (b.map bL) i (b.length+1) (List.replicate (b.length+1) 0) :=
      ⟨by rw[List.length_replicate,hlB],fun q hq hs=>by omega,fun q hq hs=>by rw[List.getElem?_replicate,if_pos hq]⟩
    obtain⟨t1,g1,g2⟩:=rst_l1 a b ha hb i (by omega) (i * (2 * b.length+4)+1+K) (b.length+1) (t.set i (List.replicate (b.length+1) 0)) _ (Nat.le_refl _)
      ⟨by rw[List.length_set];exact hT.len,fun p h1 h2=>by rw[List.getElem?_set_ne (by omega)];exact hT.row p h1 h2⟩ (by rw[List.getElem?_set_self (by omega)]) hP
    obtain⟨t2,g3,g4⟩:=ih t1 (by omega) g1
    refine⟨t2,g3,?_⟩
    rw[show ((b.length+1:Nat):Int) - 1=(b.length:Int) by omega] at g2
    rw[← g4,← g2,show (i+1) * (2 * b.length+4)+1+K=(2 * (b.length+1)+1+(i * (2 * b.length+4)+1+K))+1 by rw[Nat.add_mul];omega,yd_.l0,show (((i+1:Nat):Int) - 1)=(i:Int) by omega,if_pos (by omega),nx b.length (by omega),if_pos (by omega),Int.toNat_natCast,Int.toNat_natCast,if_pos (by omega),if_pos (by omega),if_pos (by omega)]
theorem rst_l2 (a b:List ByteArray) (ha:a.length≤5000) (hb:b.length≤5000) (t:List (List Int)) (hT:RT (a.map bL) (b.map bL) 0 t):∀ (n i j k:Nat) (out:List S106),i≤a.length→j≤b.length→(a.length - i)+(b.length - j)=n→3 * n+3≤k→out.length≤i+j →
    yd_.l2 k a b (a.length:Int) (b.length:Int) t out (i:Int) (j:Int)=some (out++(Tx.stp ((a.map bL).drop i) ((b.map bL).drop j)).map toSr):=by
  intro n
  have hlA:(a.map bL).length=a.length:=List.length_map _
  have hlB:(b.map bL).length=b.length:=List.length_map _
  induction n using Nat.strongRecOn with
  | ind n ih =>
  by_cases hn0:n=0
  · subst hn0
    intro i j k out hi hj hn hk ho
    obtain⟨k,rfl⟩:∃ q,k=q+3:=⟨k - 3,by omega⟩
    rw[yd_.l2,if_neg (by omega),decide_eq_false (by omega),yd_.j4,if_neg (by decide),List.drop_of_length_le (by omega),List.drop_of_length_le (by omega),Tx.stp]
    simp
  intro i j k out hi hj hn hk ho
  obtain⟨k,rfl⟩:∃ q,k=q+3:=⟨k - 3,by omega⟩
  have hin:yd_.l2 (k+3) a b (a.length:Int) (b.length:Int) t out (i:Int) (j:Int)=yd_.j4 (k+2) a b (a.length:Int) (b.length:Int) t out (i:Int) (j:Int) true:=by
    rw[yd_.l2]
    by_cases c:i < a.length
    · rw[if_pos (by omega)]
    rw[if_neg (by omega),decide_eq_true (by omega)]
  rw[hin,yd_.j4,if_pos rfl]
  have step:∀ (o:Int) (x:ByteArray) (l:List (UInt8 × List UInt8)),out++[(⟨o,x⟩:S106)]++l.map toSr=out++((⟨o,x⟩:S106) :: l.map toSr):=fun o x l=>by simp
  by_cases c1:i < a.length
  rotate_left
  · have c2:j < b.length:=by omega
    have dB:=yTb_ b j c2
    have nB:Aside0 (wrap64 ((j:Int)+1)=((j+1:Nat):Int)):=⟨nx j (by omega)⟩
    have hdA:(a.map bL).drop i=[]:=List.drop_of_length_le (by omega)
    rw[if_neg (by omega),yd_.j5,if_neg (by decide),if_neg (by omega),if_pos (by omega),if_pos (by omega),if_pos (by omega),rdB b j c2,nB.out,ih ((a.length - i)+(b.length - (j+1))) (by omega) i (j+1) k _ (by omega) (by omega) rfl (by omega) (by rw[List.length_append,List.length_singleton];omega),dB,hdA,Tx.stp,step,List.map_cons]
    rw[show toSr (43,bL b[j])=⟨43,b[j]⟩ from congrArg (S106.mk 43) (bL_eta _)]
  have dA:=yTb_ a i c1
  have nA:Aside0 (wrap64 ((i:Int)+1)=((i+1:Nat):Int)):=⟨nx i (by omega)⟩
  by_cases c2:j < b.length
  rotate_left
  · have hdB:(b.map bL).drop j=[]:=List.drop_of_length_le (by omega)
    rw[if_pos (by omega),if_neg (by omega),yd_.j5,if_neg (by decide),if_pos (by omega),if_pos (by omega),if_pos (by omega),if_pos (by omega),if_pos (by omega),rdB a i c1,nA.out,ih ((a.length - (i+1))+(b.length - j)) (by omega) (i+1) j k _ (by omega) (by omega) rfl (by omega) (by rw[List.length_append,List.length_singleton];omega),dA,hdB,Tx.stp,step,List.map_cons]
    rw[show toSr (45,bL a[i])=⟨45,a[i]⟩ from congrArg (S106.mk 45) (bL_eta _)]
  have dB:=yTb_ b j c2
  have nB:Aside0 (wrap64 ((j:Int)+1)=((j+1:Nat):Int)):=⟨nx j (by omega)⟩
  rw[if_pos (by omega),if_pos (by omega),if_pos (by omega),if_pos (by omega),if_pos (by omega),if_pos (by omega),rdB a i c1,rdB b j c2,dA,dB,Tx.stp]
  by_cases e:a[i].toList=b[j].toList
  · rw[show (a[i].toList == b[j].toList)=true from beq_iff_eq.2 e,yd_.j5,if_pos rfl,if_pos (by omega),if_pos (by omega),if_pos (by omega),rdB a i c1,nA.out,nB.out,ih ((a.length - (i+1))+(b.length - (j+1))) (by omega) (i+1) (j+1) k _ (by omega) (by omega) rfl (by omega) (by rw[List.length_append,List.length_singleton];omega),if_pos (bL_inj.1 e),step,List.map_cons]
    rw[show toSr (32,bL a[i])=⟨32,a[i]⟩ from congrArg (S106.mk 32) (bL_eta _)]
  obtain⟨R,hR,hP⟩:=hT.row i (by omega) (by omega)
  obtain⟨R1,h1,hP1⟩:=hT.row (i+1) (by omega) (by omega)
  have r1:=rdG (hP1.val j (by omega) (by omega))
  have r3:=rdG (hP.val (j+1) (by omega) (by omega))
  have l0:=hT.len
  have l1:=hP1.len
  have l2:=hP.len
  rw[show (a[i].toList == b[j].toList)=false from beq_eq_false_iff_ne.2 e,yd_.j5,if_neg (by decide),if_pos (by omega),if_neg (by omega),nA.out,nB.out,rdL5 h1,rdL5 hR,r1,r3,if_pos (by omega),if_pos (by omega),if_pos (by omega),if_pos (by omega),if_pos (by omega),if_pos (by omega),if_pos (by omega),if_pos (by omega),if_neg (fun q=>e (bL_inj.2 q)),← dA,← dB]
  by_cases g:Tx.lcs ((a.map bL).drop i) ((b.map bL).drop (j+1))≤Tx.lcs ((a.map bL).drop (i+1)) ((b.map bL).drop j)
  rotate_left
  · rw[if_neg (by omega),if_pos (by omega),if_pos (by omega),rdB b j c2,ih ((a.length - i)+(b.length - (j+1))) (by omega) i (j+1) k _ (by omega) (by omega) rfl (by omega) (by rw[List.length_append,List.length_singleton];omega),if_neg g,step,List.map_cons]
    rw[show toSr (43,bL b[j])=⟨43,b[j]⟩ from congrArg (S106.mk 43) (bL_eta _)]
  rw[if_pos (by omega),if_pos (by omega),if_pos (by omega),rdB a i c1,ih ((a.length - (i+1))+(b.length - j)) (by omega) (i+1) j k _ (by omega) (by omega) rfl (by omega) (by rw[List.length_append,List.length_singleton];omega),if_pos g,step,List.map_cons]
  rw[show toSr (45,bL a[i])=⟨45,a[i]⟩ from congrArg (S106.mk 45) (bL_eta _)]
/-- the steps, as the document has them -/
def stR (a b:List ByteArray):List S106:=(Tx.stp (a.map bL) (b.map bL)).map toSr
theorem rsteps_f (a b:List ByteArray) (ha:a.length≤5000) (hb:b.length≤5000) (k:Nat) (hk:(a.length+1) * (2 * b.length+4)+3 * (a.length+b.length)+4≤k):yd_.f k a b=some (stR a b):=by
  have hlA:(a.map bL).length=a.length:=List.length_map _
  unfold yd_.f
  rw[nx a.length (by omega),if_pos (by omega),Int.toNat_natCast,if_pos (by omega)]
  obtain⟨t,g1,g2⟩:=rst_l0 a b ha hb (k - ((a.length+1) * (2 * b.length+4)+1)) (a.length+1) (List.replicate (a.length+1) []) (Nat.le_refl _) ⟨by rw[List.length_replicate,hlA],fun p h1 h2=>by omega⟩
  rw[show (a.length+1) * (2 * b.length+4)+1+(k - ((a.length+1) * (2 * b.length+4)+1))=k by omega,show ((a.length+1:Nat):Int) - 1=(a.length:Int) by omega] at g2
  rw[g2]
  have:=rst_l2 a b ha hb t g1 (a.length+b.length) 0 0 (k - ((a.length+1) * (2 * b.length+4)+1)) [] (by omega) (by omega) (by omega) (by omega) (Nat.le_refl _)
  rw[List.nil_append,List.drop_zero,List.drop_zero] at this
  exact this
end Go.Proofs.Ythimblhfjfngiaa.PText

namespace Go.Proofs.Ythimblhfjfngiaa.PText
open Go.RowKit Go.Lib Go.Proofs.YthimblhfjfngiaaW.PrintWords Go.Proofs.YthimblhfjfngiaaW.PrintLast Go.Proofs.YthimblhfjfngiaaW.PrintMore
theorem eqS34 (x y:S59):(x.f0 == y.f0 && (x.f1 == y.f1 && (x.f2.toList == y.f2.toList)))=decide (x=y):=by
  rw[Bool.eq_iff_iff,decide_eq_true_iff]
  simp only[Bool.and_eq_true,beq_iff_eq]
  constructor
  · rintro ⟨h0,h1,h2⟩
    refine toE_inj ?_
    unfold toE
    rw[h0,h1,h2]
  · rintro rfl;exact⟨rfl,rfl,rfl⟩
theorem ordered_l1 (x0:List S59) (hx0:x0.length≤1000000) (i:Nat) (hi:i < x0.length) (x3:List S59) (hx:x3.length≤1000000):∀ (m j k B:Nat) (b:Bool),x3.length - j=m→j≤x3.length→m+1+B≤k →
    ∃ k',B≤k'∧yf_.l1 k x0 x3 (i:Int) b (j:Int)=if b=true∨x0[i]∈x3.drop j then yf_.l0 k' x0 x3 (((i+1:Nat)):Int) else yf_.l2 k' x0 (x3++[x0[i]]) (i:Int) (x3.length:Int):=by
  intro m
  induction m with
  | zero =>
    intro j k B b hm hj hk
    obtain⟨k,rfl⟩:∃ q,k=q+1:=⟨k - 1,by omega⟩
    refine⟨k,by omega,?_⟩
    rw[yf_.l1,if_neg (by omega),List.drop_of_length_le (by omega)]
    cases b with
    | true=>rw[if_pos rfl,if_pos (Or.inl rfl),nx i (by omega)]
    | false =>
      rw[if_neg (show ¬ (false=true) by decide),if_neg (show ¬ (false=true∨x0[i]∈[]) by rintro (q|q) <;> cases q),if_pos (by omega),if_pos (by omega),if_pos (by omega),Option.bind_some,yxb_ x0 i hi]
      have e:wrap64 (((x3++[(⟨x0[i].f0,x0[i].f1,x0[i].f2⟩:S59)]).length:Int) - 1)=(x3.length:Int):=by
        rw[List.length_append,List.length_singleton,w64 (by omega) (by omega)];omega
      rw[e]
  | succ m ih =>
    intro j k B b hm hj hk
    obtain⟨k,rfl⟩:∃ q,k=q+1:=⟨k - 1,by omega⟩
    have hlt:j < x3.length:=by omega
    have hd:x3.drop j=x3[j] :: x3.drop (j+1):=List.drop_eq_getElem_cons hlt
    rw[yf_.l1,if_pos (by omega),nx j (by omega)]
    cases b with
    | true =>
      obtain⟨k',h1,h2⟩:=ih (j+1) k B true (by omega) (by omega) (by omega)
      refine⟨k',h1,?_⟩
      rw[if_pos rfl,h2,if_pos (Or.inl rfl),if_pos (Or.inl rfl)]
    | false =>
      obtain⟨k',h1,h2⟩:=ih (j+1) k B (decide (x3[j]=x0[i])) (by omega) (by omega) (by omega)
      refine⟨k',h1,?_⟩
      rw[if_neg (show ¬ (false=true) by decide),if_pos (by omega),if_pos (by omega),if_pos (by omega),yxb_ x0 i hi,yxb_ x3 j hlt,eqS34,h2,hd]
      by_cases q:x3[j]=x0[i]
      · rw[if_pos (Or.inl (decide_eq_true q)),if_pos (Or.inr (by rw[q];exact List.mem_cons_self))]
      by_cases q2:x0[i]∈x3.drop (j+1)
      · rw[if_pos (Or.inr q2),if_pos (Or.inr (List.mem_cons_of_mem _ q2))]
      rw[if_neg (by rintro (c|c);exact q (of_decide_eq_true c);exact q2 c),if_neg (by
        rintro (c|c)
        · cases c
        · rcases List.mem_cons.1 c with c|c
          · exact q c.symm
          · exact q2 c)]
theorem swap_last (A:List S59) (y x:S59) (C:List S59) (p:Nat) (h:A.length=p):((A++[y]++x :: C).set (p+1) y).set p x=A++x :: y :: C:=by
  subst h
  rw[List.append_assoc,List.set_append_right _ _ (by omega),List.set_append_right _ _ (by omega)]
  simp
theorem ordered_l2 (x0:List S59) (i:Nat) (hi:i≤1000000):∀ (p k B:Nat) (A:List S59) (x:S59) (C:List S59),A.length=p→Tx.Asc eltS (A++C)→(∀ c∈C,eltS x c=true)→x ∉ A→A.length+C.length≤1000000→p+1+B≤k →
    ∃ k' L,B≤k'∧yf_.l2 k x0 (A++x :: C) (i:Int) (p:Int)=yf_.l0 k' x0 L ((i+1:Nat):Int)∧Tx.Asc eltS L∧(∀ a,a∈L↔a∈A++x :: C):=by
  intro p
  induction p with
  | zero =>
    intro k B A x C hA hs hc hx hl hk
    obtain⟨k,rfl⟩:∃ q,k=q+1:=⟨k - 1,by omega⟩
    obtain rfl:=List.eq_nil_of_length_eq_zero hA
    refine⟨k,x :: C,by omega,?_,Tx.yQb_.2 ⟨hc,hs⟩,fun a=>Iff.rfl⟩
    rw[yf_.l2,if_neg (by omega),nx i hi]
    rfl
  | succ p ih =>
    intro k B A x C hA hs hc hx hl hk
    obtain⟨k,rfl⟩:∃ q,k=q+1:=⟨k - 1,by omega⟩
    obtain⟨A',y,rfl⟩:∃ A' y,A=A'++[y]:=by
      rcases List.eq_nil_or_concat A with h|⟨A',y,h⟩
      · subst h;cases hA
      · exact⟨A',y,by rw[h,List.concat_eq_append]⟩
    have hA':A'.length=p:=by rw[List.length_append,List.length_singleton] at hA;omega
    have hlen:(A'++[y]++x :: C).length=p+1+(C.length+1):=by
      rw[List.length_append,List.length_append,List.length_singleton,List.length_cons,hA']
    have e1:rd_T59 (A'++[y]++x :: C) ((p+1:Nat):Int)=x:=by
      rw[yxb_ _ (p+1) (by omega),List.getElem_append_right (by rw[List.length_append,List.length_singleton];omega)]
      simp [hA']
    have e2:rd_T59 (A'++[y]++x :: C) (p:Int)=y:=by
      rw[yxb_ _ p (by omega),List.getElem_append_left (by rw[List.length_append,List.length_singleton];omega),List.getElem_append_right (by omega)]
      simp [hA']
    have e3:wrap64 (((p+1:Nat):Int) - 1)=(p:Int):=by
      rw[List.length_append,List.length_singleton] at hl
      rw[w64 (by omega) (by omega)];omega
    have hs':Tx.Asc eltS (A'++y :: C):=by rwa [List.append_assoc] at hs
    rw[yf_.l2,if_pos (by omega),if_pos (by omega),if_pos (by rw[hlen];omega),e3,if_pos (by omega),if_pos (by rw[hlen];omega),e1,e2,before_f,Option.bind_some]
    cases q:eltS x y with
    | true =>
      rw[if_pos rfl]
      obtain⟨k',L,h1,h2,h3,h4⟩:=ih k B A' x (y :: C) hA' hs' (fun c m=>by
        rcases List.mem_cons.1 m with m|m
        · rw[m];exact q
        · exact hc c m) (fun m=>hx (List.mem_append_left _ m)) (by rw[List.length_append,List.length_singleton] at hl;rw[List.length_cons];omega) (by omega)
      refine⟨k',L,h1,?_,h3,fun a=>?_⟩
      · rw[← h2,Int.toNat_natCast,Int.toNat_natCast]
        have:=swap_last A' y x C p hA'
        rw[show (⟨y.f0,y.f1,y.f2⟩:S59)=y from rfl,show (⟨x.f0,x.f1,x.f2⟩:S59)=x from rfl,this]
      · rw[h4 a]
        simp only[List.mem_append,List.mem_cons,List.not_mem_nil,or_false]
        constructor
        · rintro (m|m|m|m)
          · exact .inl (.inl m)
          · exact .inr (.inl m)
          · exact .inl (.inr m)
          · exact .inr (.inr m)
        · rintro ((m|m)|m|m)
          · exact .inl m
          · exact .inr (.inr (.inl m))
          · exact .inr (.inl m)
          · exact .inr (.inr (.inr m))
    | false =>
      rw[if_neg (show ¬ (false=true) by decide),nx i hi]
      refine⟨k,A'++[y]++x :: C,by omega,rfl,?_,fun a=>Iff.rfl⟩
      have hyx:eltS y x=true:=by
        cases q2:eltS y x with
        | true=>rfl
        | false=>exact absurd (yab_.tri q q2) (fun e=>hx (by rw[e];exact List.mem_append_right _ List.mem_cons_self))
      obtain⟨s1,s2,s3⟩:=Tx.ySb_.1 hs
      refine Tx.ySb_.2 ⟨s1,Tx.yQb_.2 ⟨hc,s2⟩,fun a ma b mb=>?_⟩
      rcases List.mem_cons.1 mb with mb|mb
      · rw[mb]
        rcases List.mem_append.1 ma with ma|ma
        · exact yab_.tr ((Tx.ySb_.1 s1).2.2 a ma y List.mem_cons_self) hyx
        · rw[List.mem_singleton.1 ma];exact hyx
      · exact s3 a ma b mb
theorem ordered_l0 (x0:List S59) (N:Nat) (hN:x0.length≤N) (hN2:N≤1000000):∀ (m i k:Nat),x0.length - i=m→i≤x0.length→m * (2 * N+5)+1≤k →
    yf_.l0 k x0 (Tx.ord eltS (x0.take i)) (i:Int)=some (Tx.ord eltS x0):=by
  intro m
  induction m with
  | zero =>
    intro i k hm hi hk
    obtain⟨k,rfl⟩:∃ q,k=q+1:=⟨k - 1,by omega⟩
    rw[yf_.l0,if_neg (by omega),List.take_of_length_le (by omega)]
  | succ m ih =>
    intro i k hm hi hk
    rw[Nat.succ_mul] at hk
    obtain⟨k,rfl⟩:∃ q,k=q+1:=⟨k - 1,by omega⟩
    have hlt:i < x0.length:=by omega
    have hlo:(Tx.ord eltS (x0.take i)).length≤N:=Nat.le_trans (Tx.ord_len _) (by rw[List.length_take];omega)
    have ht:x0.take (i+1)=x0.take i++[x0[i]]:=List.take_succ_eq_append_getElem hlt
    have ih1:=fun k=>ih (i+1) k (by omega) (by omega)
    rw[yf_.l0,if_pos (by omega)]
    obtain⟨k1,h1,h2⟩:=ordered_l1 x0 (by omega) i hlt (Tx.ord eltS (x0.take i)) (by omega) _ 0 k (m * (2 * N+5)+1+(N+2)) false rfl (by omega) (by omega)
    rw[show ((0:Nat):Int)=0 from rfl,List.drop_zero] at h2
    rw[h2]
    by_cases q:x0[i]∈Tx.ord eltS (x0.take i)
    · rw[if_pos (Or.inr q)]
      have:=ih1 k1 (by omega)
      rw[ht,Tx.ord_snoc_mem yab_ ((Tx.yGb_ yab_).1 q)] at this
      exact this
    rw[if_neg (by rintro (c|c);cases c;exact q c)]
    obtain⟨k2,L,g1,g2,g3,g4⟩:=ordered_l2 x0 i (by omega) (Tx.ord eltS (x0.take i)).length k1 (m * (2 * N+5)+1) (Tx.ord eltS (x0.take i)) x0[i] [] rfl (by rw[List.append_nil];exact Tx.ybc_ yab_) (fun c m=>by cases m) q (by rw[List.length_nil];omega) (by omega)
    rw[g2]
    have e:L=Tx.ord eltS (x0.take (i+1)):=Tx.yMb_ yab_ g3 (fun a=>by
      rw[g4 a,ht,List.mem_append,List.mem_append,Tx.yGb_ yab_])
    rw[e]
    exact ih1 k2 (by omega)
theorem ordered_f (x0:List S59) (N:Nat) (hN:x0.length≤N) (hN2:N≤1000000) (k:Nat) (hk:N * (2 * N+5)+1≤k):yf_.f k x0=some (Tx.ord eltS x0):=by
  have h:=ordered_l0 x0 N hN hN2 x0.length 0 k (by omega) (by omega) (Nat.le_trans (Nat.add_le_add_right (Nat.mul_le_mul_right _ hN) 1) hk)
  exact h
end Go.Proofs.Ythimblhfjfngiaa.PText

namespace Go.Proofs.Ythimblhfjfngiaa.PText
open Go.RowKit Go.Lib Go.Proofs.YthimblhfjfngiaaW.PrintWords Go.Proofs.YthimblhfjfngiaaW.PrintLast Go.Proofs.YthimblhfjfngiaaW.PrintMore
/-- two edits that do not go together -/
def clE (x y:S59):Bool:=decide (x≠y) && Tx.touch (toE x) (toE y)
theorem fine_l0 (s:ByteArray) (l:List S59) (hl:l.length≤1000000):∀ (m i k B:Nat),l.length - i=m→i≤l.length→m+1+B≤k →
    ∃ k',B≤k'∧yi_.l0 k s l (i:Int)=if (l.drop i).any (badE s.size)=true then some 1 else yi_.l1 k' l 0:=by
  intro m
  induction m with
  | zero =>
    intro i k B hm hi hk
    obtain⟨k,rfl⟩:∃ q,k=q+1:=⟨k - 1,by omega⟩
    refine⟨k,by omega,?_⟩
    rw[yi_.l0,if_neg (by omega),List.drop_of_length_le (by omega)]
    rfl
  | succ m ih =>
    intro i k B hm hi hk
    obtain⟨k,rfl⟩:∃ q,k=q+1:=⟨k - 1,by omega⟩
    have hlt:i < l.length:=by omega
    have hd:l.drop i=l[i] :: l.drop (i+1):=List.drop_eq_getElem_cons hlt
    obtain⟨k',h1,h2⟩:=ih (i+1) k B (by omega) (by omega) (by omega)
    refine⟨k',h1,?_⟩
    rw[yi_.l0,if_pos (by omega),if_pos (by omega),yxb_ l i hlt,nx i (by omega),h2,hd,List.any_cons]
    unfold badE
    by_cases c1:l[i].f0 < 0
    · rw[if_pos c1];simp [c1]
    rw[if_neg c1]
    by_cases c2:l[i].f1 > (s.size:Int)
    · rw[if_pos c2];simp [c2]
    rw[if_neg c2]
    by_cases c3:l[i].f0 > l[i].f1
    · rw[if_pos c3];simp [c3]
    rw[if_neg c3]
    have d1:decide (l[i].f0 < 0)=false:=decide_eq_false c1
    have d2:decide ((s.size:Int) < l[i].f1)=false:=decide_eq_false (by omega)
    have d3:decide (l[i].f1 < l[i].f0)=false:=decide_eq_false (by omega)
    rw[d1,d2,d3]
    rfl
theorem fine_l2 (l:List S59) (hl:l.length≤1000000) (i:Nat) (hi:i < l.length):∀ (m j k B:Nat),i - j=m→j≤i→m+2+B≤k →
    ((∃ q,∃ _:q < l.length,q < i∧clE l[i] l[q]=true)∧yi_.l2 k l (i:Int) (j:Int)=some 10) ∨
    ((∀ q,∀ _:q < l.length,j≤q→q < i→clE l[i] l[q]=false)∧∃ k',B≤k'∧yi_.l2 k l (i:Int) (j:Int)=yi_.l1 k' l ((i+1:Nat):Int)):=by
  intro m
  induction m with
  | zero =>
    intro j k B hm hj hk
    obtain⟨k,rfl⟩:∃ q,k=q+1:=⟨k - 1,by omega⟩
    refine .inr ⟨fun q _ h1 h2=>by omega,k,by omega,?_⟩
    rw[yi_.l2,if_neg (by omega),nx i (by omega)]
  | succ m ih =>
    intro j k B hm hj hk
    obtain⟨k,rfl⟩:∃ q,k=q+2:=⟨k - 2,by omega⟩
    have hlt:j < l.length:=by omega
    have hh:=ih (j+1) (k+1) B (by omega) (by omega) (by omega)
    rw[yi_.l2,if_pos (by omega),if_pos (by omega),if_pos (by omega),if_pos (by omega),if_pos (by omega),yxb_ l i hi,yxb_ l j hlt,neS34,nx j (by omega),touch_f,Option.bind_some]
    by_cases c1:l[i]≠l[j]
    rotate_left
    · rw[if_neg (show ¬ (decide (l[i]≠l[j])=true) by rw[decide_eq_false c1];decide)]
      have c3:clE l[i] l[j]=false:=by unfold clE;rw[decide_eq_false c1,Bool.false_and]
      rcases hh with ⟨h1,h2⟩|⟨h1,h2⟩
      · exact .inl ⟨h1,h2⟩
      · refine .inr ⟨fun q hq g1 g2=>?_,h2⟩
        rcases Nat.eq_or_lt_of_le g1 with e|e
        · subst e;exact c3
        · exact h1 q hq e g2
    rw[if_pos (decide_eq_true c1)]
    cases c2:Tx.touch (toE l[i]) (toE l[j]) with
    | true =>
      rw[if_pos rfl]
      exact .inl ⟨⟨j,hlt,by omega,by unfold clE;rw[c2,decide_eq_true c1];rfl⟩,rfl⟩
    | false =>
      rw[if_neg (show ¬ (false=true) by decide)]
      have c3:clE l[i] l[j]=false:=by unfold clE;rw[c2,Bool.and_false]
      rcases hh with ⟨h1,h2⟩|⟨h1,h2⟩
      · exact .inl ⟨h1,h2⟩
      · refine .inr ⟨fun q hq g1 g2=>?_,h2⟩
        rcases Nat.eq_or_lt_of_le g1 with e|e
        · subst e;exact c3
        · exact h1 q hq e g2
theorem fine_l1 (l:List S59) (N:Nat) (hN:l.length≤N) (hN2:N≤1000000):∀ (m i k:Nat),l.length - i=m→i≤l.length→m * (N+4)+1≤k →
    ((∃ p,∃ _:p < l.length,∃ q,∃ _:q < l.length,clE l[p] l[q]=true)∧yi_.l1 k l (i:Int)=some 10) ∨
    ((∀ p,∀ _:p < l.length,∀ q,∀ _:q < l.length,i≤p→q < p→clE l[p] l[q]=false)∧yi_.l1 k l (i:Int)=some 0):=by
  intro m
  induction m with
  | zero =>
    intro i k hm hi hk
    obtain⟨k,rfl⟩:∃ q,k=q+1:=⟨k - 1,by omega⟩
    refine .inr ⟨fun p _ q _ h1 h2=>by omega,?_⟩
    rw[yi_.l1,if_neg (by omega)]
  | succ m ih =>
    intro i k hm hi hk
    rw[Nat.succ_mul] at hk
    obtain⟨k,rfl⟩:∃ q,k=q+1:=⟨k - 1,by omega⟩
    have hlt:i < l.length:=by omega
    rw[yi_.l1,if_pos (by omega)]
    rcases fine_l2 l (by omega) i hlt i 0 k (m * (N+4)+1) (by omega) (by omega) (by omega) with ⟨⟨q,hq,h1,h2⟩,h3⟩|⟨h1,k',h2,h3⟩
    · exact .inl ⟨⟨i,hlt,q,hq,h2⟩,h3⟩
    · rw[show (0:Int)=((0:Nat):Int) from rfl,h3]
      rcases ih (i+1) k' (by omega) (by omega) h2 with ⟨g1,g2⟩|⟨g1,g2⟩
      · exact .inl ⟨g1,g2⟩
      · refine .inr ⟨fun p hp q hq e1 e2=>?_,g2⟩
        rcases Nat.eq_or_lt_of_le e1 with e|e
        · subst e;exact h1 q hq (Nat.zero_le _) e2
        · exact g1 p hp q hq e e2
theorem clE_symm (x y:S59):clE x y=clE y x:=by
  unfold clE
  rw[Tx.touch_symm,show decide (x≠y)=decide (y≠x) from decide_eq_decide.2 ⟨fun h e=>h e.symm,fun h e=>h e.symm⟩]
theorem fine_f (s:ByteArray) (l:List S59) (N:Nat) (hN:l.length≤N) (hN2:N≤1000000) (k:Nat) (hk:N * (N+4)+N+5≤k):yi_.f k s l=some (fineE s.size l):=by
  obtain⟨k,rfl⟩:∃ q,k=q+1:=⟨k - 1,by omega⟩
  have hmul:l.length * (N+4)≤N * (N+4):=Nat.mul_le_mul_right _ hN
  unfold yi_.f fineE
  by_cases c1:200000 < s.size
  · rw[if_pos (by omega),if_pos (Or.inl c1),yi_.j0,if_pos rfl]
  rw[if_neg (by omega)]
  by_cases c2:10000 < l.length
  · rw[if_pos (Or.inr c2),yi_.j0,if_pos (decide_eq_true (by omega))]
  rw[if_neg (show ¬ (200000 < s.size∨10000 < l.length) by rintro (q|q);exact c1 q;exact c2 q),yi_.j0,if_neg (show ¬ (decide ((l.length:Int) > 10000)=true) by rw[decide_eq_false (by omega)];decide)]
  obtain⟨k',h1,h2⟩:=fine_l0 s l (by omega) l.length 0 k (l.length * (N+4)+1) (by omega) (by omega) (by omega)
  rw[show ((0:Nat):Int)=0 from rfl,List.drop_zero] at h2
  rw[h2]
  by_cases c3:l.any (badE s.size)=true
  · rw[if_pos c3,if_pos c3]
  rw[if_neg c3,if_neg c3]
  have hok:Tx.Okay (s.size:Int) ((Tx.ord eltS l).map toE):=fun e he=>by
    obtain⟨x,hx,rfl⟩:=List.mem_map.1 he
    have hx':=(Tx.yGb_ yab_).1 hx
    have hb:badE s.size x=false:=by
      cases q:badE s.size x with
      | false=>rfl
      | true=>exact absurd (List.any_eq_true.2 ⟨x,hx',q⟩) c3
    unfold badE at hb
    simp only[Bool.or_eq_false_iff,decide_eq_false_iff_not] at hb
    show 0≤x.f0∧x.f0≤x.f1∧x.f1≤(s.size:Int)
    omega
  have hasc:Tx.Asc Tx.elt ((Tx.ord eltS l).map toE):=List.pairwise_map.2 (Tx.ybc_ yab_)
  have hci:=Tx.clash_iff hok hasc
  rcases fine_l1 l N hN hN2 l.length 0 k' (by omega) (by omega) h1 with ⟨⟨p,hp,q,hq,g1⟩,g2⟩|⟨g1,g2⟩
  · rw[show ((0:Nat):Int)=0 from rfl] at g2
    rw[g2,if_pos]
    unfold clE at g1
    rw[Bool.and_eq_true] at g1
    refine hci.2 ⟨_,List.mem_map.2 ⟨l[p],(Tx.yGb_ yab_).2 (List.getElem_mem hp),rfl⟩,_,List.mem_map.2 ⟨l[q],(Tx.yGb_ yab_).2 (List.getElem_mem hq),rfl⟩,fun e=>of_decide_eq_true g1.1 (toE_inj e),g1.2⟩
  · rw[show ((0:Nat):Int)=0 from rfl] at g2
    rw[g2,if_neg]
    intro hc
    obtain⟨a,ha,b,hb,hab,ht⟩:=hci.1 hc
    obtain⟨x,hx,rfl⟩:=List.mem_map.1 ha
    obtain⟨y,hy,rfl⟩:=List.mem_map.1 hb
    obtain⟨p,hp,rfl⟩:=List.mem_iff_getElem.1 ((Tx.yGb_ yab_).1 hx)
    obtain⟨q,hq,rfl⟩:=List.mem_iff_getElem.1 ((Tx.yGb_ yab_).1 hy)
    have hcl:clE l[p] l[q]=true:=by
      unfold clE
      rw[ht,Bool.and_true]
      exact decide_eq_true (fun e=>hab (by rw[e]))
    rcases Nat.lt_trichotomy p q with e|e|e
    · have:=g1 q hq p hp (Nat.zero_le _) e
      rw[clE_symm,hcl] at this;cases this
    · subst e;exact hab rfl
    · have:=g1 p hp q hq (Nat.zero_le _) e
      rw[hcl] at this;cases this
end Go.Proofs.Ythimblhfjfngiaa.PText

