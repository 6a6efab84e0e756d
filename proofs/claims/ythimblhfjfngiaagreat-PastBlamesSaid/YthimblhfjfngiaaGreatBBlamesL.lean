/- PastBlames holds: for all steps, every file and every line the statement answers true. Part 12 of 21. -/
import Derived.Test.YthimblhfjfngiaaGreatBBlamesK
import Derived.RangeFuncNested
import Derived.RangeFuncBound
import Derived.RangeFuncCalls
import Derived.RangeFuncLeaves
namespace Go.Proofs.YthimblhfjfngiaaGreat.PText
open Go.RowKit Go.Lib Go.Proofs.YthimblhfjfngiaaGreatW.PrintWords Go.Proofs.YthimblhfjfngiaaGreatW.PrintLast Go.Proofs.YthimblhfjfngiaaGreatW.PrintMore
theorem rd34_at (l:List S91) (i:Nat) (h:i < l.length):rd_T91 l (i:Int)=l[i]:=by
  unfold rd_T91
  rw[Int.toNat_natCast,List.getD_eq_getElem?_getD,List.getElem?_eq_getElem h];rfl
theorem clash_l0 (l:List S91) (hl:l.length≤1000000):∀ (m i k:Nat) (e last:Int),l.length - i=m→i≤l.length→2 * m+1≤k →
    yI_.l0 k e last l (l.length:Int) (i:Int)=some (Tx.clash e last ((l.drop i).map toE)):=by
  intro m
  induction m with
  | zero =>
    intro i k e last hm hi hk
    obtain⟨k,rfl⟩:∃ j,k=j+1:=⟨k - 1,by omega⟩
    rw[yI_.l0,if_neg (by omega),List.drop_of_length_le (by omega)]
    rfl
  | succ m ih =>
    intro i k e last hm hi hk
    obtain⟨k,rfl⟩:∃ j,k=j+2:=⟨k - 2,by omega⟩
    have hlt:i < l.length:=by omega
    have hd:(l.drop i).map toE=toE l[i] :: (l.drop (i+1)).map toE:=by rw[List.drop_eq_getElem_cons hlt];rfl
    have hn:wrap64 ((i:Int)+1)=((i+1:Nat):Int):=by rw[w64 (by omega) (by omega)];omega
    have ih1:=fun e last=>ih (i+1) k e last (by omega) (by omega) (by omega)
    rw[yI_.l0,if_pos (by omega),if_pos (by omega),if_pos (by omega),rd34_at l i hlt,hd]
    generalize l[i]=x
    have step:∀ b:Bool,yI_.j1 (k+1) e last l (l.length:Int) (i:Int) b x.f0 x.f1 x.f2=some (if b=true then true else Tx.clash (max e x.f1) (if x.f0=x.f1 then x.f0 else last) ((l.drop (i+1)).map toE)):=by
      intro b
      rw[yI_.j1]
      cases b with
      | true=>rfl
      | false =>
        rw[if_neg (show ¬ (false=true) by decide),if_neg (show ¬ (false=true) by decide),hn]
        by_cases h:x.f0=x.f1
        rotate_left
        · rw[if_neg h,if_neg h,ih1,mx_max]
        rw[if_pos h,if_pos h,ih1,mx_max]
    rw[step,step,step]
    show _=some (if x.f0 < e∨(x.f0=x.f1∧x.f0=last) then true else Tx.clash (max e x.f1) (if x.f0=x.f1 then x.f0 else last) ((l.drop (i+1)).map toE))
    by_cases h1:x.f0 < e
    · rw[if_pos h1,if_pos (Or.inl h1)];rfl
    rw[if_neg h1]
    by_cases h2:x.f0=x.f1
    rotate_left
    · rw[if_neg h2,if_neg (show ¬ (false=true) by decide)]
      congr 1
      rw[if_neg (show ¬ (x.f0 < e∨(x.f0=x.f1∧x.f0=last)) by rintro (q|⟨q,_⟩);exact h1 q;exact h2 q)]
    rw[if_pos h2]
    by_cases h3:x.f0=last
    · have hb:(x.f0 == last)=true:=beq_iff_eq.2 h3
      rw[hb,if_pos rfl,if_pos (Or.inr ⟨h2,h3⟩)]
    have hb:(x.f0 == last)=false:=beq_eq_false_iff_ne.2 h3
    rw[hb,if_neg (show ¬ (false=true) by decide)]
    congr 1
    rw[if_neg (show ¬ (x.f0 < e∨(x.f0=x.f1∧x.f0=last)) by rintro (q|⟨_,q⟩);exact h1 q;exact h3 q)]
theorem clash_f (l:List S91) (hl:l.length≤10000):yI_.f 20001 l=some (Tx.clash 0 (-1) (l.map toE)):=by
  have h:=clash_l0 l (by omega) l.length 0 20001 0 (-1) (by omega) (by omega) (by omega)
  rw[List.drop_zero] at h
  exact h
end Go.Proofs.YthimblhfjfngiaaGreat.PText

namespace Go.Proofs.YthimblhfjfngiaaGreat.PText
open Go.RowKit Go.Lib Go.Proofs.YthimblhfjfngiaaGreatW.PrintWords Go.Proofs.YthimblhfjfngiaaGreatW.PrintLast Go.Proofs.YthimblhfjfngiaaGreatW.PrintMore
set_option linter.unusedVariables false
def toSt (x:UInt8 × List UInt8):S119:=⟨(x.1.toNat:Int),⟨x.2.toArray⟩⟩
theorem rd78_at (l:List S119) (i:Nat) (h:i < l.length):rd_T119 l (i:Int)=l[i]:=by
  unfold rd_T119
  rw[Int.toNat_natCast,List.getD_eq_getElem?_getD,List.getElem?_eq_getElem h];rfl
theorem ix (p q m:Nat) (hp:p≤10000) (hm:m≤10000) (hq:q≤10000):wrap64 (wrap64 ((p:Int) * ((m+1:Nat):Int))+(q:Int))=((p * (m+1)+q:Nat):Int):=by
  have h1:p * (m+1)≤10000 * 10001:=Nat.mul_le_mul hp (by omega)
  have h2:(p:Int) * ((m+1:Nat):Int)=((p * (m+1):Nat):Int):=by push_cast;rfl
  rw[h2,w64 (x:=((p * (m+1):Nat):Int)) (by omega) (by omega),w64 (by omega) (by omega)]
  omega
theorem ix_inj {m p q i j:Nat} (hq:q≤m) (hj:j≤m) (h:p * (m+1)+q=i * (m+1)+j):p=i∧q=j:=by
  have h1:(p * (m+1)+q) / (m+1)=p:=by rw[Nat.mul_comm,Nat.mul_add_div (by omega),Nat.div_eq_of_lt (by omega)];omega
  have h2:(i * (m+1)+j) / (m+1)=i:=by rw[Nat.mul_comm,Nat.mul_add_div (by omega),Nat.div_eq_of_lt (by omega)];omega
  have:p=i:=by rw[← h1,h,h2]
  subst this
  exact⟨rfl,by omega⟩
theorem ix_lt {n m p q:Nat} (hp:p≤n) (hq:q≤m):p * (m+1)+q < (n+1) * (m+1):=by
  have:(p+1) * (m+1)≤(n+1) * (m+1):=Nat.mul_le_mul_right _ (by omega)
  rw[Nat.add_mul,Nat.one_mul] at this
  omega
/-- the table's entries behind a place -/
def Tab (a b:List (List UInt8)) (i j:Nat) (t:List Int):Prop :=
  t.length=(a.length+1) * (b.length+1)∧∀ p q,p≤a.length→q≤b.length→(i < p∨(p=i∧j≤q)∨q=b.length)→t[p * (b.length+1)+q]?=some (Tx.lcs (a.drop p) (b.drop q):Int)
theorem Tab.get {a b:List (List UInt8)} {i j:Nat} {t:List Int} (h:Tab a b i j t) {p q:Nat} (hp:p≤a.length) (hq:q≤b.length) (hs:i < p∨(p=i∧j≤q)∨q=b.length):rd t ((p * (b.length+1)+q:Nat):Int)=(Tx.lcs (a.drop p) (b.drop q):Int):=by
  have h1:=h.2 p q hp hq hs
  unfold rd
  rw[Int.toNat_natCast,List.getD_eq_getElem?_getD,h1];rfl
theorem Tab.put {a b:List (List UInt8)} {i j:Nat} {t:List Int} (h:Tab a b i (j+1) t) (hi:i < a.length) (hj:j < b.length) :
    Tab a b i j (t.set (((i * (b.length+1)+j:Nat):Int)).toNat (Tx.lcs (a.drop i) (b.drop j):Int)):=by
  refine⟨by rw[List.length_set];exact h.1,fun p q hp hq hs=>?_⟩
  rw[Int.toNat_natCast]
  have hb:=ix_lt (n:=a.length) (m:=b.length) (p:=i) (q:=j) (by omega) (by omega)
  by_cases e:p=i∧q=j
  · obtain⟨rfl,rfl⟩:=e
    rw[List.getElem?_set_self (by rw[h.1];exact hb)]
  rw[List.getElem?_set_ne (fun q'=>e (by obtain⟨h1,h2⟩:=ix_inj (by omega) hq q';exact⟨h1.symm,h2.symm⟩))]
  refine h.2 p q hp hq ?_
  rcases hs with h1|⟨h1,h2⟩|h1
  · exact Or.inl h1
  · refine Or.inr (Or.inl ⟨h1,?_⟩)
    have:q≠j:=fun q'=>e ⟨h1,q'⟩
    omega
  · exact Or.inr (Or.inr h1)
theorem Tab.up {a b:List (List UInt8)} {i:Nat} {t:List Int} (h:Tab a b (i+1) 0 t):Tab a b i b.length t :=
  ⟨h.1,fun p q hp hq hs=>h.2 p q hp hq (by rcases hs with h1|⟨_,h2⟩|h1 <;> omega)⟩
theorem Tab.zero (a b:List (List UInt8)):Tab a b a.length 0 (List.replicate ((a.length+1) * (b.length+1)) 0):=by
  refine⟨List.length_replicate,fun p q hp hq hs=>?_⟩
  rw[List.getElem?_replicate,if_pos (ix_lt hp hq)]
  rcases hs with h1|⟨h1,_⟩|h1
  · omega
  · subst h1;rw[List.drop_length,Tx.yUb_];rfl
  · subst h1;rw[List.drop_length (l:=b),Tx.y0b_];rfl
theorem yLb_ (l:List ByteArray) (i:Nat) (h:i < l.length):(l.map bL).drop i=bL l[i] :: (l.map bL).drop (i+1):=by
  rw[List.drop_eq_getElem_cons (by rw[List.length_map];exact h),List.getElem_map]
theorem st_l1 (a b:List ByteArray) (ha:a.length≤5000) (hb:b.length≤5000) (i:Nat) (hi:i < a.length) (K:Nat):∀ (j:Nat) (t:List Int),j≤b.length→Tab (a.map bL) (b.map bL) i j t →
    ∃ t',Tab (a.map bL) (b.map bL) i 0 t'∧yf_.l1 (j+1+K) a b ((b.length+1:Nat):Int) t (i:Int) ((j:Int) - 1)=yf_.l0 K a b ((b.length+1:Nat):Int) t' ((i:Int) - 1):=by
  intro j
  induction j with
  | zero =>
    intro t hj hT
    refine⟨t,hT,?_⟩
    rw[show 0+1+K=K+1 by omega,yf_.l1,if_neg (by omega),w64 (by omega) (by omega)]
  | succ j ih =>
    intro t hj hT
    have hlA:(a.map bL).length=a.length:=List.length_map _
    have hlB:(b.map bL).length=b.length:=List.length_map _
    have hT':=hT.put (by omega) (by omega)
    obtain⟨t',g1,g2⟩:=ih _ (by omega) hT'
    refine⟨t',g1,?_⟩
    rw[← g2,show j+1+1+K=(j+1+K)+1 by omega,yf_.l1,show (((j+1:Nat):Int) - 1)=(j:Int) by omega,if_pos (by omega),if_pos (by omega),if_pos (by omega),if_pos (by omega),if_pos (by omega),rdB a i hi,rdB b j (by omega)]
    have hlen:=hT.1
    rw[hlA,hlB] at hlen
    have z1:=ix_lt (n:=a.length) (m:=b.length) (p:=i) (q:=j) (by omega) (by omega)
    have z2:=ix_lt (n:=a.length) (m:=b.length) (p:=i) (q:=j+1) (by omega) (by omega)
    have z3:=ix_lt (n:=a.length) (m:=b.length) (p:=i+1) (q:=j) (by omega) (by omega)
    have z4:=ix_lt (n:=a.length) (m:=b.length) (p:=i+1) (q:=j+1) (by omega) (by omega)
    have w1:Aside0 (wrap64 ((i:Int)+1)=((i+1:Nat):Int)):=⟨nx i (by omega)⟩
    have w2:=Aside0.mk (ix i j b.length (by omega) (by omega) (by omega))
    have w3:=Aside0.mk (ix (i+1) j b.length (by omega) (by omega) (by omega))
    have q1:i * (b.length+1)≤5000 * 5001:=Nat.mul_le_mul (by omega) (by omega)
    have q2:(i+1) * (b.length+1)≤5001 * 5001:=Nat.mul_le_mul (by omega) (by omega)
    have w4:Aside0 (wrap64 (((i * (b.length+1)+j:Nat):Int)+1)=((i * (b.length+1)+(j+1):Nat):Int)):=⟨by rw[w64 (by omega) (by omega)];omega⟩
    have w5:Aside0 (wrap64 ((((i+1) * (b.length+1)+j:Nat):Int)+1)=(((i+1) * (b.length+1)+(j+1):Nat):Int)):=⟨by rw[w64 (by omega) (by omega)];omega⟩
    have w6:Aside0 (wrap64 ((j:Int) - 1)=(j:Int) - 1):=⟨w64 (by omega) (by omega)⟩
    have e1:=hT.get (p:=i+1) (q:=j+1) (by omega) (by omega) (Or.inl (by omega))
    have e2:=hT.get (p:=i+1) (q:=j) (by omega) (by omega) (Or.inl (by omega))
    have e3:=hT.get (p:=i) (q:=j+1) (by omega) (by omega) (Or.inr (Or.inl ⟨rfl,Nat.le_refl _⟩))
    have dA:=yLb_ a i hi
    have dB:=yLb_ b j (by omega)
    rw[hlB] at e1 e2 e3
    rw[hlB]
    by_cases c:(a[i]'hi).toList=(b[j]'(by omega)).toList
    rotate_left
    · have hl:Tx.lcs ((a.map bL).drop i) ((b.map bL).drop j)=max (Tx.lcs ((a.map bL).drop (i+1)) ((b.map bL).drop j)) (Tx.lcs ((a.map bL).drop i) ((b.map bL).drop (j+1))):=by
        rw[dA,dB,Tx.lcs_cons,if_neg (fun q=>c (bL_inj.2 q))]
      rw[if_neg c,w1.out,w3.out,w2.out,w4.out,if_pos (by omega),if_pos (by omega),if_pos (by omega),if_pos (by omega),if_pos (by omega),if_pos (by omega),w6.out,e2,e3,hl,mx_max]
      rw[show max (Tx.lcs ((a.map bL).drop (i+1)) ((b.map bL).drop j):Int) (Tx.lcs ((a.map bL).drop i) ((b.map bL).drop (j+1)):Int)=((max (Tx.lcs ((a.map bL).drop (i+1)) ((b.map bL).drop j)) (Tx.lcs ((a.map bL).drop i) ((b.map bL).drop (j+1))):Nat):Int) by omega]
    have hl:Tx.lcs ((a.map bL).drop i) ((b.map bL).drop j)=Tx.lcs ((a.map bL).drop (i+1)) ((b.map bL).drop (j+1))+1:=by
      rw[dA,dB,Tx.lcs_cons,if_pos (bL_inj.1 c)]
    have hv:=Tx.lcs_len_l ((a.map bL).drop (i+1)) ((b.map bL).drop (j+1))
    have hv2:Tx.lcs ((a.map bL).drop (i+1)) ((b.map bL).drop (j+1))≤5000:=by rw[List.length_drop,hlA] at hv;omega
    rw[if_pos c,w1.out,w3.out,w2.out,w5.out,if_pos (by omega),if_pos (by omega),if_pos (by omega),if_pos (by omega),w6.out,e1,hl]
    rw[show wrap64 ((Tx.lcs ((a.map bL).drop (i+1)) ((b.map bL).drop (j+1)):Int)+1)=((Tx.lcs ((a.map bL).drop (i+1)) ((b.map bL).drop (j+1))+1:Nat):Int) by rw[w64 (by omega) (by omega)];omega]
theorem st_l0 (a b:List ByteArray) (ha:a.length≤5000) (hb:b.length≤5000) (K:Nat):∀ (i:Nat) (t:List Int),i≤a.length→Tab (a.map bL) (b.map bL) i 0 t →
    ∃ t',Tab (a.map bL) (b.map bL) 0 0 t'∧yf_.l0 (i * (b.length+2)+1+K) a b ((b.length+1:Nat):Int) t ((i:Int) - 1)=yf_.l2 K a b ((b.length+1:Nat):Int) t' [] 0 0:=by
  intro i
  induction i with
  | zero =>
    intro t hi hT
    refine⟨t,hT,?_⟩
    rw[show 0 * (b.length+2)+1+K=K+1 by omega,yf_.l0,if_neg (by omega)]
  | succ i ih =>
    intro t hi hT
    have hlB:(b.map bL).length=b.length:=List.length_map _
    have hup:=hT.up
    rw[hlB] at hup
    obtain⟨t1,g1,g2⟩:=st_l1 a b ha hb i (by omega) (i * (b.length+2)+1+K) b.length t (Nat.le_refl _) hup
    obtain⟨t2,g3,g4⟩:=ih t1 (by omega) g1
    refine⟨t2,g3,?_⟩
    rw[← g4,← g2,show (i+1) * (b.length+2)+1+K=(b.length+1+(i * (b.length+2)+1+K))+1 by rw[Nat.add_mul];omega,yf_.l0,show (((i+1:Nat):Int) - 1)=(i:Int) by omega,if_pos (by omega),w64 (x:=(b.length:Int) - 1) (by omega) (by omega)]
theorem st_l2 (a b:List ByteArray) (ha:a.length≤5000) (hb:b.length≤5000) (t:List Int) (hT:Tab (a.map bL) (b.map bL) 0 0 t):∀ (n i j k:Nat) (out:List S119),i≤a.length→j≤b.length→(a.length - i)+(b.length - j)=n→3 * n+3≤k→out.length≤i+j →
    yf_.l2 k a b ((b.length+1:Nat):Int) t out (i:Int) (j:Int)=some (out++(Tx.stp ((a.map bL).drop i) ((b.map bL).drop j)).map toSt):=by
  intro n
  have hlA:(a.map bL).length=a.length:=List.length_map _
  have hlB:(b.map bL).length=b.length:=List.length_map _
  induction n using Nat.strongRecOn with
  | ind n ih =>
  by_cases hn0:n=0
  · subst hn0
    intro i j k out hi hj hn hk ho
    obtain⟨k,rfl⟩:∃ q,k=q+3:=⟨k - 3,by omega⟩
    rw[yf_.l2,if_neg (by omega),decide_eq_false (by omega),yf_.j3,if_neg (by decide),List.drop_of_length_le (by omega),List.drop_of_length_le (by omega),Tx.stp]
    simp
  intro i j k out hi hj hn hk ho
  obtain⟨k,rfl⟩:∃ q,k=q+3:=⟨k - 3,by omega⟩
  have hin:yf_.l2 (k+3) a b ((b.length+1:Nat):Int) t out (i:Int) (j:Int)=yf_.j3 (k+2) a b ((b.length+1:Nat):Int) t out (i:Int) (j:Int) true:=by
    rw[yf_.l2]
    by_cases c:i < a.length
    · rw[if_pos (by omega)]
    rw[if_neg (by omega),decide_eq_true (by omega)]
  rw[hin,yf_.j3,if_pos rfl]
  have step:∀ (o:Int) (x:ByteArray) (l:List (UInt8 × List UInt8)),out++[(⟨o,x⟩:S119)]++l.map toSt=out++((⟨o,x⟩:S119) :: l.map toSt):=fun o x l=>by simp
  by_cases c1:i < a.length
  rotate_left
  · have c2:j < b.length:=by omega
    have dB:=yLb_ b j c2
    have nB:Aside0 (wrap64 ((j:Int)+1)=((j+1:Nat):Int)):=⟨nx j (by omega)⟩
    have hdA:(a.map bL).drop i=[]:=List.drop_of_length_le (by omega)
    rw[if_neg (by omega),yf_.j4,if_neg (by decide),if_neg (by omega),if_pos (by omega),if_pos (by omega),if_pos (by omega),rdB b j c2,nB.out,ih ((a.length - i)+(b.length - (j+1))) (by omega) i (j+1) k _ (by omega) (by omega) rfl (by omega) (by rw[List.length_append,List.length_singleton];omega),dB,hdA,Tx.stp,step,List.map_cons]
    rw[show toSt (43,bL b[j])=⟨43,b[j]⟩ from congrArg (S119.mk 43) (bL_eta _)]
  have dA:=yLb_ a i c1
  have nA:Aside0 (wrap64 ((i:Int)+1)=((i+1:Nat):Int)):=⟨nx i (by omega)⟩
  by_cases c2:j < b.length
  rotate_left
  · have hdB:(b.map bL).drop j=[]:=List.drop_of_length_le (by omega)
    rw[if_pos (by omega),if_neg (by omega),yf_.j4,if_neg (by decide),if_pos (by omega),if_pos (by omega),if_pos (by omega),if_pos (by omega),rdB a i c1,nA.out,ih ((a.length - (i+1))+(b.length - j)) (by omega) (i+1) j k _ (by omega) (by omega) rfl (by omega) (by rw[List.length_append,List.length_singleton];omega),dA,hdB,Tx.stp,step,List.map_cons]
    rw[show toSt (45,bL a[i])=⟨45,a[i]⟩ from congrArg (S119.mk 45) (bL_eta _)]
  have dB:=yLb_ b j c2
  have nB:Aside0 (wrap64 ((j:Int)+1)=((j+1:Nat):Int)):=⟨nx j (by omega)⟩
  rw[if_pos (by omega),if_pos (by omega),if_pos (by omega),if_pos (by omega),rdB a i c1,rdB b j c2,dA,dB,Tx.stp]
  by_cases e:a[i].toList=b[j].toList
  · rw[show (a[i].toList == b[j].toList)=true from beq_iff_eq.2 e,yf_.j4,if_pos rfl,if_pos (by omega),if_pos (by omega),if_pos (by omega),rdB a i c1,nA.out,nB.out,ih ((a.length - (i+1))+(b.length - (j+1))) (by omega) (i+1) (j+1) k _ (by omega) (by omega) rfl (by omega) (by rw[List.length_append,List.length_singleton];omega),if_pos (bL_inj.1 e),step,List.map_cons]
    rw[show toSt (32,bL a[i])=⟨32,a[i]⟩ from congrArg (S119.mk 32) (bL_eta _)]
  have z1:=ix_lt (n:=a.length) (m:=b.length) (p:=i) (q:=j+1) (by omega) (by omega)
  have z3:=ix_lt (n:=a.length) (m:=b.length) (p:=i+1) (q:=j) (by omega) (by omega)
  have w2:=Aside0.mk (ix i j b.length (by omega) (by omega) (by omega))
  have w3:=Aside0.mk (ix (i+1) j b.length (by omega) (by omega) (by omega))
  have q1:i * (b.length+1)≤5000 * 5001:=Nat.mul_le_mul (by omega) (by omega)
  have w4:Aside0 (wrap64 (((i * (b.length+1)+j:Nat):Int)+1)=((i * (b.length+1)+(j+1):Nat):Int)):=⟨by rw[w64 (by omega) (by omega)];omega⟩
  have hlen:=hT.1
  rw[hlA,hlB] at hlen
  have e2:=hT.get (p:=i+1) (q:=j) (by omega) (by omega) (Or.inl (by omega))
  have e3:=hT.get (p:=i) (q:=j+1) (by omega) (by omega) (by omega)
  rw[hlB] at e2 e3
  rw[show (a[i].toList == b[j].toList)=false from beq_eq_false_iff_ne.2 e,yf_.j4,if_neg (by decide),if_pos (by omega),if_neg (by omega),nA.out,w3.out,if_pos (by omega),if_pos (by omega),w2.out,w4.out,if_pos (by omega),if_pos (by omega),e2,e3,if_neg (fun q=>e (bL_inj.2 q)),← dA,← dB]
  by_cases g:Tx.lcs ((a.map bL).drop i) ((b.map bL).drop (j+1))≤Tx.lcs ((a.map bL).drop (i+1)) ((b.map bL).drop j)
  · rw[if_pos (by omega),if_pos (by omega),if_pos (by omega),rdB a i c1,ih ((a.length - (i+1))+(b.length - j)) (by omega) (i+1) j k _ (by omega) (by omega) rfl (by omega) (by rw[List.length_append,List.length_singleton];omega),if_pos g,step,List.map_cons]
    rw[show toSt (45,bL a[i])=⟨45,a[i]⟩ from congrArg (S119.mk 45) (bL_eta _)]
  rw[if_neg (by omega),if_pos (by omega),if_pos (by omega),if_pos (by omega),rdB b j c2,nB.out,ih ((a.length - i)+(b.length - (j+1))) (by omega) i (j+1) k _ (by omega) (by omega) rfl (by omega) (by rw[List.length_append,List.length_singleton];omega),if_neg g,step,List.map_cons]
  rw[show toSt (43,bL b[j])=⟨43,b[j]⟩ from congrArg (S119.mk 43) (bL_eta _)]
/-- the steps, as the program has them -/
def stS (a b:List ByteArray):List S119:=(Tx.stp (a.map bL) (b.map bL)).map toSt
theorem steps_f (a b:List ByteArray) (ha:a.length≤5000) (hb:b.length≤5000) (k:Nat) (hk:a.length * (b.length+2)+3 * (a.length+b.length)+4≤k):yf_.f k a b=some (stS a b):=by
  have hlA:(a.map bL).length=a.length:=List.length_map _
  have hlB:(b.map bL).length=b.length:=List.length_map _
  have q:(a.length+1) * (b.length+1)≤5001 * 5001:=Nat.mul_le_mul (by omega) (by omega)
  have w:Aside0 (wrap64 (((a.length+1:Nat):Int) * ((b.length+1:Nat):Int))=(((a.length+1) * (b.length+1):Nat):Int)):=Aside0.mk <| by
    have h2:((a.length+1:Nat):Int) * ((b.length+1:Nat):Int)=(((a.length+1) * (b.length+1):Nat):Int):=by push_cast;rfl
    rw[h2,w64 (by omega) (by omega)]
  unfold yf_.f
  rw[nx a.length (by omega),nx b.length (by omega),w.out,if_pos (by omega),Int.toNat_natCast,if_pos (by omega),w64 (x:=(a.length:Int) - 1) (by omega) (by omega)]
  have hZ:=Tab.zero (a.map bL) (b.map bL)
  rw[hlA,hlB] at hZ
  obtain⟨t,g1,g2⟩:=st_l0 a b ha hb (k - (a.length * (b.length+2)+1)) a.length _ (Nat.le_refl _) hZ
  rw[show a.length * (b.length+2)+1+(k - (a.length * (b.length+2)+1))=k by omega] at g2
  rw[g2]
  have:=st_l2 a b ha hb t g1 (a.length+b.length) 0 0 (k - (a.length * (b.length+2)+1)) [] (by omega) (by omega) (by omega) (by omega) (Nat.le_refl _)
  rw[List.nil_append,List.drop_zero,List.drop_zero] at this
  exact this
end Go.Proofs.YthimblhfjfngiaaGreat.PText

namespace Go.Proofs.YthimblhfjfngiaaGreat.PText
open Go.RowKit Go.Lib Go.Proofs.YthimblhfjfngiaaGreatW.PrintWords Go.Proofs.YthimblhfjfngiaaGreatW.PrintLast Go.Proofs.YthimblhfjfngiaaGreatW.PrintMore
set_option linter.unusedVariables false
def toSr (x:UInt8 × List UInt8):S95:=⟨(x.1.toNat:Int),⟨x.2.toArray⟩⟩
theorem rdL5 {t:List (List Int)} {i:Nat} {R:List Int} (h:t[i]?=some R):rd_L8 t (i:Int)=R:=by
  unfold rd_L8
  rw[Int.toNat_natCast,List.getD_eq_getElem?_getD,h];rfl
theorem rdG {R:List Int} {q:Nat} {v:Int} (h:R[q]?=some v):rd R (q:Int)=v:=by
  unfold rd
  rw[Int.toNat_natCast,List.getD_eq_getElem?_getD,h];rfl
/-- a row of the table, done from a place on -/
structure Part (a b:List (List UInt8)) (p j:Nat) (R:List Int):Prop where
  len:R.length=b.length+1
  val:∀ q,q≤b.length→j≤q→R[q]?=some (Tx.lcs (a.drop p) (b.drop q):Int)
  zer:∀ q,q < j→q≤b.length→R[q]?=some 0
structure RT (a b:List (List UInt8)) (i:Nat) (t:List (List Int)):Prop where
  len:t.length=a.length+1
  row:∀ p,i≤p→p≤a.length→∃ R,t[p]?=some R∧Part a b p 0 R
theorem Part.put {a b:List (List UInt8)} {p j:Nat} {R:List Int} (h:Part a b p (j+1) R) (hj:j≤b.length):Part a b p j (R.set (j:Int).toNat (Tx.lcs (a.drop p) (b.drop j):Int)) where
  len:=by rw[List.length_set];exact h.len
  val q hq hs:=by
    rw[Int.toNat_natCast]
    by_cases e:q=j
    · subst e;rw[List.getElem?_set_self (by rw[h.len];omega)]
    rw[List.getElem?_set_ne (fun k=>e k.symm)];exact h.val q hq (by omega)
  zer q hq hs:=by
    rw[Int.toNat_natCast,List.getElem?_set_ne (by omega)];exact h.zer q (by omega) hs
theorem Part.skip {a b:List (List UInt8)} {p j:Nat} {R:List Int} (h:Part a b p (j+1) R) (hj:j≤b.length) (hz:Tx.lcs (a.drop p) (b.drop j)=0):Part a b p j R where
  len:=h.len
  val q hq hs:=by
    by_cases e:q=j
    rotate_left
    · exact h.val q hq (by omega)
    subst e;rw[hz];exact h.zer q (by omega) hq
  zer q hq hs:=h.zer q (by omega) hs
theorem rst_l1 (a b:List ByteArray) (ha:a.length≤5000) (hb:b.length≤5000) (i:Nat) (hi:i≤a.length) (K:Nat):∀ (j:Nat) (t:List (List Int)) (R:List Int),j≤b.length+1→RT (a.map bL) (b.map bL) (i+1) t→t[i]?=some R→Part (a.map bL) (b.map bL) i j R →
    ∃ t',RT (a.map bL) (b.map bL) i t'∧yd_.l1 (2 * j+1+K) a b (a.length:Int) (b.length:Int) t (i:Int) ((j:Int) - 1)=yd_.l0 K a b (a.length:Int) (b.length:Int) t' ((i:Int) - 1):=by
  have hlA:(a.map bL).length=a.length:=List.length_map _
  have hlB:(b.map bL).length=b.length:=List.length_map _
  intro j
  induction j with
  | zero =>
    intro t R hj hT hR hP
    refine⟨t,⟨hT.len,fun p h1 h2=>?_⟩,?_⟩
    · by_cases e:p=i
      · subst e;exact⟨R,hR,hP⟩
      · exact hT.row p (by omega) h2
    · rw[show 2 * 0+1+K=K+1 by omega,yd_.l1,if_neg (by omega),w64 (by omega) (by omega)]
  | succ j ih =>
    intro t R hj hT hR hP
    have w6:Aside0 (wrap64 ((j:Int) - 1)=(j:Int) - 1):=⟨w64 (by omega) (by omega)⟩
    have hil:i < t.length:=(List.getElem?_eq_some_iff.1 hR).1
    rw[show 2 * (j+1)+1+K=(2 * j+1+K)+2 by omega,yd_.l1,show (((j+1:Nat):Int) - 1)=(j:Int) by omega,if_pos (by omega)]
    by_cases c:i=a.length∨j=b.length
    · have hz:Tx.lcs ((a.map bL).drop i) ((b.map bL).drop j)=0:=by
        rcases c with c|c
        · rw[List.drop_of_length_le (l:=a.map bL) (by omega),Tx.yUb_]
        · rw[List.drop_of_length_le (l:=b.map bL) (by omega),Tx.y0b_]
      obtain⟨t',g1,g2⟩:=ih t R (by omega) hT hR (hP.skip (by omega) hz)
      refine⟨t',g1,?_⟩
      have e:(if (i:Int)=(a.length:Int) then yd_.j2 (2 * j+1+K+1) a b (a.length:Int) (b.length:Int) t (i:Int) (j:Int) true else yd_.j2 (2 * j+1+K+1) a b (a.length:Int) (b.length:Int) t (i:Int) (j:Int) ((j:Int) == (b.length:Int)))=yd_.j2 (2 * j+1+K+1) a b (a.length:Int) (b.length:Int) t (i:Int) (j:Int) true:=by
        rcases c with c|c
        · rw[if_pos (by omega)]
        · rw[show ((j:Int) == (b.length:Int))=true from beq_iff_eq.2 (by omega)];split <;> rfl
      rw[e,yd_.j2,if_pos rfl,w6.out,g2]
    have c1:i < a.length:=by omega
    have c2:j < b.length:=by omega
    obtain⟨R1,h1,hP1⟩:=hT.row (i+1) (Nat.le_refl _) (by omega)
    have hT':∀ R',Part (a.map bL) (b.map bL) i j R'→∃ t',RT (a.map bL) (b.map bL) i t'∧yd_.l1 (2 * j+1+K) a b (a.length:Int) (b.length:Int) (t.set (i:Int).toNat R') (i:Int) ((j:Int) - 1)=yd_.l0 K a b (a.length:Int) (b.length:Int) t' ((i:Int) - 1):=by
      intro R' hP'
      refine ih _ R' (by omega) ⟨by rw[List.length_set];exact hT.len,fun p h1 h2=>?_⟩ (by rw[Int.toNat_natCast,List.getElem?_set_self hil]) hP'
      rw[Int.toNat_natCast,List.getElem?_set_ne (by omega)]
      exact hT.row p h1 h2
    obtain⟨t',g1,g2⟩:=hT' _ (hP.put (by omega))
    refine⟨t',g1,?_⟩
    have hv1:=hP1.val j (by omega) (by omega)
    have hv2:=hP1.val (j+1) (by omega) (by omega)
    have hv3:=hP.val (j+1) (by omega) (by omega)
    have r1:=rdG hv1
    have r2:=rdG hv2
    have r3:=rdG hv3
    have wA:Aside0 (wrap64 ((i:Int)+1)=((i+1:Nat):Int)):=⟨nx i (by omega)⟩
    have wB:Aside0 (wrap64 ((j:Int)+1)=((j+1:Nat):Int)):=⟨nx j (by omega)⟩
    have l0:=hT.len
    have l1:=hP1.len
    have l2:=hP.len
    have dA:=yLb_ a i c1
    have dB:=yLb_ b j c2
    have k1:=Tx.lcs_kept (bL a[i]) ((a.map bL).drop (i+1)) ((b.map bL).drop (j+1))
    have kb:=Tx.lcs_len_l ((a.map bL).drop (i+1)) ((b.map bL).drop (j+1))
    rw[List.length_drop] at kb
    rw[if_neg (by omega),show ((j:Int) == (b.length:Int))=false from beq_eq_false_iff_ne.2 (by omega),yd_.j2,if_neg (by decide),wA.out,wB.out,rdL5 h1,rdL5 hR,r1,r2,r3,rdB a i c1,rdB b j c2,w6.out,if_pos (by omega),if_pos (by omega),if_pos (by omega),if_pos (by omega),if_pos (by omega),if_pos (by omega),if_pos (by omega),if_pos (by omega)]
    by_cases e:(a[i]'c1).toList=(b[j]'c2).toList
    rotate_left
    · have hl:Tx.lcs ((a.map bL).drop i) ((b.map bL).drop j)=max (Tx.lcs ((a.map bL).drop (i+1)) ((b.map bL).drop j)) (Tx.lcs ((a.map bL).drop i) ((b.map bL).drop (j+1))):=by
        rw[dA,dB,Tx.lcs_cons,if_neg (fun q=>e (bL_inj.2 q))]
      rw[hl] at g2
      generalize Tx.lcs ((a.map bL).drop (i+1)) ((b.map bL).drop j)=U at *
      generalize Tx.lcs ((a.map bL).drop i) ((b.map bL).drop (j+1))=V at *
      by_cases c3:(V:Int) > (U:Int)
      rotate_left
      · rw[if_neg c3,if_pos (by omega),if_pos (by omega),if_neg e,if_pos (by omega),show (U:Int)=((max U V:Nat):Int) by omega,g2]
      rw[if_pos c3,if_pos (by omega),if_pos (by omega),if_neg e,if_pos (by omega),show (V:Int)=((max U V:Nat):Int) by omega,g2]
    have hl:Tx.lcs ((a.map bL).drop i) ((b.map bL).drop j)=Tx.lcs ((a.map bL).drop (i+1)) ((b.map bL).drop (j+1))+1:=by
      rw[dA,dB,Tx.lcs_cons,if_pos (bL_inj.1 e)]
    have k2:Tx.lcs ((a.map bL).drop (i+1)) ((b.map bL).drop j)≤Tx.lcs ((a.map bL).drop (i+1)) ((b.map bL).drop (j+1))+1:=by rw[dB,← bL_inj.1 e];exact k1.1
    have k3:Tx.lcs ((a.map bL).drop i) ((b.map bL).drop (j+1))≤Tx.lcs ((a.map bL).drop (i+1)) ((b.map bL).drop (j+1))+1:=by rw[dA];exact k1.2
    rw[hl] at g2
    generalize Tx.lcs ((a.map bL).drop (i+1)) ((b.map bL).drop (j+1))=D at *
    generalize Tx.lcs ((a.map bL).drop (i+1)) ((b.map bL).drop j)=U at *
    generalize Tx.lcs ((a.map bL).drop i) ((b.map bL).drop (j+1))=V at *
    have wD:Aside0 (wrap64 ((D:Int)+1)=((D+1:Nat):Int)):=⟨nx D (by omega)⟩
    by_cases c3:(V:Int) > (U:Int)
    rotate_left
    · rw[if_neg c3,if_pos (by omega),if_pos (by omega),if_pos e,if_pos (by omega),wD.out]
      by_cases c4:((D+1:Nat):Int) > (U:Int)
      · rw[if_pos c4,if_pos (by omega),g2]
      rw[if_neg c4,if_pos (by omega),show (U:Int)=((D+1:Nat):Int) by omega,g2]
    rw[if_pos c3,if_pos (by omega),if_pos (by omega),if_pos e,if_pos (by omega),wD.out]
    by_cases c4:((D+1:Nat):Int) > (V:Int)
    · rw[if_pos c4,if_pos (by omega),g2]
    rw[if_neg c4,if_pos (by omega),show (V:Int)=((D+1:Nat):Int) by omega,g2]
theorem rst_l0 (a b:List ByteArray) (ha:a.length≤5000) (hb:b.length≤5000) (K:Nat):∀ (i:Nat) (t:List (List Int)),i≤a.length+1→RT (a.map bL) (b.map bL) i t →
    ∃ t',RT (a.map bL) (b.map bL) 0 t'∧yd_.l0 (i * (2 * b.length+4)+1+K) a b (a.length:Int) (b.length:Int) t ((i:Int) - 1)=yd_.l2 K a b (a.length:Int) (b.length:Int) t' [] 0 0:=by
  intro i
  induction i with
  | zero =>
    intro t hi hT
    refine⟨t,hT,?_⟩
    rw[show 0 * (2 * b.length+4)+1+K=K+1 by omega,yd_.l0,if_neg (by omega)]
  | succ i ih =>
    intro t hi hT
    have hlA:(a.map bL).length=a.length:=List.length_map _
    have hlB:(b.map bL).length=b.length:=List.length_map _
    have hlt:=hT.len
    rw[hlA] at hlt
    have hP:Part (a.map bL) (b.map bL) i (b.length+1) (List.replicate (b.length+1) 0) :=
      ⟨by rw[List.length_replicate,hlB],fun q hq hs=>by omega,fun q hq hs=>by rw[List.getElem?_replicate,if_pos hq]⟩
    obtain⟨t1,g1,g2⟩:=rst_l1 a b ha hb i (by omega) (i * (2 * b.length+4)+1+K) (b.length+1) (t.set i (List.replicate (b.length+1) 0)) _ (Nat.le_refl _)
      ⟨by rw[List.length_set];exact hT.len,fun p h1 h2=>by rw[List.getElem?_set_ne (by omega)];exact hT.row p h1 h2⟩ (by rw[List.getElem?_set_self (by omega)]) hP
    obtain⟨t2,g3,g4⟩:=ih t1 (by omega) g1
    refine⟨t2,g3,?_⟩
    rw[show ((b.length+1:Nat):Int) - 1=(b.length:Int) by omega] at g2
    rw[← g4,← g2,show (i+1) * (2 * b.length+4)+1+K=(2 * (b.length+1)+1+(i * (2 * b.length+4)+1+K))+1 by rw[Nat.add_mul];omega,yd_.l0,show (((i+1:Nat):Int) - 1)=(i:Int) by omega,if_pos (by omega),nx b.length (by omega),if_pos (by omega),Int.toNat_natCast,Int.toNat_natCast,if_pos (by omega),if_pos (by omega),if_pos (by omega)]
theorem rst_l2 (a b:List ByteArray) (ha:a.length≤5000) (hb:b.length≤5000) (t:List (List Int)) (hT:RT (a.map bL) (b.map bL) 0 t):∀ (n i j k:Nat) (out:List S95),i≤a.length→j≤b.length→(a.length - i)+(b.length - j)=n→3 * n+3≤k→out.length≤i+j →
    yd_.l2 k a b (a.length:Int) (b.length:Int) t out (i:Int) (j:Int)=some (out++(Tx.stp ((a.map bL).drop i) ((b.map bL).drop j)).map toSr):=by
  intro n
  have hlA:(a.map bL).length=a.length:=List.length_map _
  have hlB:(b.map bL).length=b.length:=List.length_map _
  induction n using Nat.strongRecOn with
  | ind n ih =>
  by_cases hn0:n=0
  · subst hn0
    intro i j k out hi hj hn hk ho
    obtain⟨k,rfl⟩:∃ q,k=q+3:=⟨k - 3,by omega⟩
    rw[yd_.l2,if_neg (by omega),decide_eq_false (by omega),yd_.j4,if_neg (by decide),List.drop_of_length_le (by omega),List.drop_of_length_le (by omega),Tx.stp]
    simp
  intro i j k out hi hj hn hk ho
  obtain⟨k,rfl⟩:∃ q,k=q+3:=⟨k - 3,by omega⟩
  have hin:yd_.l2 (k+3) a b (a.length:Int) (b.length:Int) t out (i:Int) (j:Int)=yd_.j4 (k+2) a b (a.length:Int) (b.length:Int) t out (i:Int) (j:Int) true:=by
    rw[yd_.l2]
    by_cases c:i < a.length
    · rw[if_pos (by omega)]
    rw[if_neg (by omega),decide_eq_true (by omega)]
  rw[hin,yd_.j4,if_pos rfl]
  have step:∀ (o:Int) (x:ByteArray) (l:List (UInt8 × List UInt8)),out++[(⟨o,x⟩:S95)]++l.map toSr=out++((⟨o,x⟩:S95) :: l.map toSr):=fun o x l=>by simp
  by_cases c1:i < a.length
  rotate_left
  · have c2:j < b.length:=by omega
    have dB:=yLb_ b j c2
    have nB:Aside0 (wrap64 ((j:Int)+1)=((j+1:Nat):Int)):=⟨nx j (by omega)⟩
    have hdA:(a.map bL).drop i=[]:=List.drop_of_length_le (by omega)
    rw[if_neg (by omega),yd_.j5,if_neg (by decide),if_neg (by omega),if_pos (by omega),if_pos (by omega),if_pos (by omega),rdB b j c2,nB.out,ih ((a.length - i)+(b.length - (j+1))) (by omega) i (j+1) k _ (by omega) (by omega) rfl (by omega) (by rw[List.length_append,List.length_singleton];omega),dB,hdA,Tx.stp,step,List.map_cons]
    rw[show toSr (43,bL b[j])=⟨43,b[j]⟩ from congrArg (S95.mk 43) (bL_eta _)]
  have dA:=yLb_ a i c1
  have nA:Aside0 (wrap64 ((i:Int)+1)=((i+1:Nat):Int)):=⟨nx i (by omega)⟩
  by_cases c2:j < b.length
  rotate_left
  · have hdB:(b.map bL).drop j=[]:=List.drop_of_length_le (by omega)
    rw[if_pos (by omega),if_neg (by omega),yd_.j5,if_neg (by decide),if_pos (by omega),if_pos (by omega),if_pos (by omega),if_pos (by omega),if_pos (by omega),rdB a i c1,nA.out,ih ((a.length - (i+1))+(b.length - j)) (by omega) (i+1) j k _ (by omega) (by omega) rfl (by omega) (by rw[List.length_append,List.length_singleton];omega),dA,hdB,Tx.stp,step,List.map_cons]
    rw[show toSr (45,bL a[i])=⟨45,a[i]⟩ from congrArg (S95.mk 45) (bL_eta _)]
  have dB:=yLb_ b j c2
  have nB:Aside0 (wrap64 ((j:Int)+1)=((j+1:Nat):Int)):=⟨nx j (by omega)⟩
  rw[if_pos (by omega),if_pos (by omega),if_pos (by omega),if_pos (by omega),if_pos (by omega),if_pos (by omega),rdB a i c1,rdB b j c2,dA,dB,Tx.stp]
  by_cases e:a[i].toList=b[j].toList
  · rw[show (a[i].toList == b[j].toList)=true from beq_iff_eq.2 e,yd_.j5,if_pos rfl,if_pos (by omega),if_pos (by omega),if_pos (by omega),rdB a i c1,nA.out,nB.out,ih ((a.length - (i+1))+(b.length - (j+1))) (by omega) (i+1) (j+1) k _ (by omega) (by omega) rfl (by omega) (by rw[List.length_append,List.length_singleton];omega),if_pos (bL_inj.1 e),step,List.map_cons]
    rw[show toSr (32,bL a[i])=⟨32,a[i]⟩ from congrArg (S95.mk 32) (bL_eta _)]
  obtain⟨R,hR,hP⟩:=hT.row i (by omega) (by omega)
  obtain⟨R1,h1,hP1⟩:=hT.row (i+1) (by omega) (by omega)
  have r1:=rdG (hP1.val j (by omega) (by omega))
  have r3:=rdG (hP.val (j+1) (by omega) (by omega))
  have l0:=hT.len
  have l1:=hP1.len
  have l2:=hP.len
  rw[show (a[i].toList == b[j].toList)=false from beq_eq_false_iff_ne.2 e,yd_.j5,if_neg (by decide),if_pos (by omega),if_neg (by omega),nA.out,nB.out,rdL5 h1,rdL5 hR,r1,r3,if_pos (by omega),if_pos (by omega),if_pos (by omega),if_pos (by omega),if_pos (by omega),if_pos (by omega),if_pos (by omega),if_pos (by omega),if_neg (fun q=>e (bL_inj.2 q)),← dA,← dB]
  by_cases g:Tx.lcs ((a.map bL).drop i) ((b.map bL).drop (j+1))≤Tx.lcs ((a.map bL).drop (i+1)) ((b.map bL).drop j)
  rotate_left
  · rw[if_neg (by omega),if_pos (by omega),if_pos (by omega),rdB b j c2,ih ((a.length - i)+(b.length - (j+1))) (by omega) i (j+1) k _ (by omega) (by omega) rfl (by omega) (by rw[List.length_append,List.length_singleton];omega),if_neg g,step,List.map_cons]
    rw[show toSr (43,bL b[j])=⟨43,b[j]⟩ from congrArg (S95.mk 43) (bL_eta _)]
  rw[if_pos (by omega),if_pos (by omega),if_pos (by omega),rdB a i c1,ih ((a.length - (i+1))+(b.length - j)) (by omega) (i+1) j k _ (by omega) (by omega) rfl (by omega) (by rw[List.length_append,List.length_singleton];omega),if_pos g,step,List.map_cons]
  rw[show toSr (45,bL a[i])=⟨45,a[i]⟩ from congrArg (S95.mk 45) (bL_eta _)]
/-- the steps, as the document has them -/
def stR (a b:List ByteArray):List S95:=(Tx.stp (a.map bL) (b.map bL)).map toSr
theorem rsteps_f (a b:List ByteArray) (ha:a.length≤5000) (hb:b.length≤5000) (k:Nat) (hk:(a.length+1) * (2 * b.length+4)+3 * (a.length+b.length)+4≤k):yd_.f k a b=some (stR a b):=by
  have hlA:(a.map bL).length=a.length:=List.length_map _
  unfold yd_.f
  rw[nx a.length (by omega),if_pos (by omega),Int.toNat_natCast,if_pos (by omega)]
  obtain⟨t,g1,g2⟩:=rst_l0 a b ha hb (k - ((a.length+1) * (2 * b.length+4)+1)) (a.length+1) (List.replicate (a.length+1) []) (Nat.le_refl _) ⟨by rw[List.length_replicate,hlA],fun p h1 h2=>by omega⟩
  rw[show (a.length+1) * (2 * b.length+4)+1+(k - ((a.length+1) * (2 * b.length+4)+1))=k by omega,show ((a.length+1:Nat):Int) - 1=(a.length:Int) by omega] at g2
  rw[g2]
  have:=rst_l2 a b ha hb t g1 (a.length+b.length) 0 0 (k - ((a.length+1) * (2 * b.length+4)+1)) [] (by omega) (by omega) (by omega) (by omega) (Nat.le_refl _)
  rw[List.nil_append,List.drop_zero,List.drop_zero] at this
  exact this
end Go.Proofs.YthimblhfjfngiaaGreat.PText

namespace Go.Proofs.YthimblhfjfngiaaGreat.PText
open Go.RowKit Go.Lib Go.Proofs.YthimblhfjfngiaaGreatW.PrintWords Go.Proofs.YthimblhfjfngiaaGreatW.PrintLast Go.Proofs.YthimblhfjfngiaaGreatW.PrintMore
end Go.Proofs.YthimblhfjfngiaaGreat.PText

namespace Go.Proofs.YthimblhfjfngiaaGreat.PText
open Go.RowKit Go.Lib Go.Proofs.YthimblhfjfngiaaGreatW.PrintWords Go.Proofs.YthimblhfjfngiaaGreatW.PrintLast Go.Proofs.YthimblhfjfngiaaGreatW.PrintMore
end Go.Proofs.YthimblhfjfngiaaGreat.PText

namespace Go.Proofs.YthimblhfjfngiaaGreat.PText
open Go Go.RowKit
/-- the box Bc is kept, whatever it holds -/
def yyb_ (Bc:Nat) (t:TypeId) (W W':World):Prop:=∀ v,Boxed W Bc t v→Boxed W' Bc t v
theorem yyb_.trans {Bc:Nat} {t:TypeId} {A B C:World} (h:yyb_ Bc t A B) (k:yyb_ Bc t B C):yyb_ Bc t A C:=fun v q=>k v (h v q)
theorem yyb_.putObj {Bc:Nat} {t:TypeId} (W:World) {l:Nat} {o:Obj} (o':Obj) (h:W.heap[l]?=some o) (hc:o.isCells=false):yyb_ Bc t W (W.putObj l o'):=fun v q =>
  q.kept (grownBy_putObj' W l o') (fun e=>by cases e;rw[show W.heap[Bc]?=_ from q] at h;cases h;cases hc)
/-- the contract of such an iterator: whatever J tells of the world and abides new blocks and stores into the box, each round adds an element, and J comes to hold of all of them -/
def SeqCell {α:Type} (F:Fence) (n:Nat) (P:Program) (g:Nat) (lb:Array Value) (encs:α→Array Value) (Bc:Nat) (t:TypeId) (v0:Value) (xs:List α):Prop :=
  ∀ (l:Nat) (J:List α→World→Prop) (W:World),AbidesFrom W.heap.size J→(∀ s W v,J s W→J s (W.setCell ⟨Bc,0,none⟩ v)) →
    (∀ pre x W1,(∃ post,pre++x :: post=xs)→J pre W1→YieldAt F (n - 1) P l (encs x) W1 fun e W'=>e=.returned (.bool true)∧J (pre++[x]) W'∧yyb_ Bc t W1 W') →
    Boxed W Bc t v0→J [] W →
    CallsIn F n P g (#[.func (.yield l) #[] #[]]++lb) W fun e W'=>(∃ v,e=.returned v)∧J xs W'
variable {F : Fence} {n : Nat} {P : Program}
def cellPost {α:Type} (Bc:Nat) (t:TypeId) (I:List α→World→Prop) (xs:List α) (W:World):Exit→Act→World→Prop
  | .normal,_,W'=>KeepsOthers W W'∧yyb_ Bc t W W'∧I xs W'
  | _,_,_=>False
theorem wpIn_rangeFunc_cell {α:Type} {g:Operand} {ps:Array Tmp} {assign body:Code} {Q:Exit→Act→World→Prop} {a:Act} {w:World}
    (hro:F.round=none) (h1:1≤n) {gf:Nat} {lb:Array Value} (hg:a.eval g=.func (.func gf) #[] lb) (hFg:F.fn gf) (eg:∀ args w,(callFunc gf args).run P w=.ok (.enter gf args) w)
    {encs:α→Array Value} {Bc:Nat} {t:TypeId} {v0:Value} {xs:List α} (hseq:SeqCell F (n - 1) P gf lb encs Bc t v0 xs) (hbox:Boxed w Bc t v0)
    (hps:∀ x,(encs x).size=ps.size)
    (I:List α→World→Prop) (hI:OwnFrom w.heap.size I) (hIc:∀ s W v,I s W→I s (W.setCell ⟨Bc,0,none⟩ v)) (h0:I [] w) (a₁:α→Act)
    (hassign:∀ (l:Nat) (x:α) (W:World) (K:Act→World→Prop),K (a₁ x) W →
      assign.wpIn (F.inRound l) (n - 1 - 1) P (Exit.then K (fun _ _ _=>False)) { tmps:=(ps.zip (encs x)).foldl (fun t (p,v)=>t.setIfInBounds p v) a.tmps,defers:=[] } W)
    (hbody:∀ (l:Nat) (pre:List α) (x:α) (W:World),(∃ post,pre++x :: post=xs)→I pre W→body.wpIn (F.inRound l) (n - 1 - 1) P (cellPost Bc t I (pre++[x]) W) (a₁ x) W)
    (hdone:∀ (D:Nat) (W:World),w.heap.size≤D→I xs W→W.heap[D]?=some (.deferred (some []))→Q .normal { a with defers:={ target:=.collected D,args:=#[] } :: a.defers } W) :
    (Code.rangeFunc g ps assign body).wpIn F n P Q a w:=by
  refine wpIn_rangeFunc ?_
  intro fn hfn
  rw[hro]
  obtain⟨rec,hrec⟩:∃ rec:LoopState→Option Code→Loop,rec=fun st pe=>{ state:=st,pending:=pe,fn,tmps:=a.tmps,params:=ps,assign,body,defers:=w.heap.size }:=⟨_,rfl⟩
  obtain⟨W1,hW1⟩:∃ W1,(w.alloc (.deferred (some []))).alloc (.loop (rec .ready none))=W1:=⟨_,rfl⟩
  have hL1:W1.heap[w.heap.size+1]?=some (.loop (rec .ready none)):=by
    rw[← hW1];have:=World.alloc_heap_new (w.alloc (.deferred (some []))) (.loop (rec .ready none));rwa [World.size_alloc] at this
  have hK1:W1.heap[w.heap.size]?=some (.deferred (some [])):=by
    rw[← hW1];exact (Below.heap_alloc _ _ _ (by simp)).trans (World.alloc_heap_new w _)
  have hI1:I [] W1:=by rw[← hW1];exact hI.alloc _ (hI.alloc _ h0)
  have hx1:Boxed W1 Bc t v0:=by rw[← hW1];exact (hbox.alloc _).alloc _
  have hBc:=hbox.lt
  refine⟨w.heap.size+1,[{ target:=.collected w.heap.size,args:=#[] }],W1,{ target:=.fn (.func gf) lb,args:=#[.func (.yield (w.heap.size+1)) #[] #[]] },W1,gf,
    #[.func (.yield (w.heap.size+1)) #[] #[]]++lb,W1,?_,?_,?_,?_,fun _=>h1,?_⟩
  · rw[← hW1,hrec];exact run_enterLoop_outer _ _ _ _ _
  · simp only[resolve,hg]
    simp [go_sem]
  · intro f' hf';simp [Target.leads] at hf';subst hf';exact hFg
  · simp [invoke,go_sem,eg]
  · have hnw:∀ {A B:World} {row:Option Nat},(∀ r,row=some r→W1.heap.size≤r∧∃ o:Obj,A.heap[r]?=some o∧o.isWalk=true)→(∀ r,row=some r→w.heap.size≤r∧∃ o:Obj,A.heap[r]?=some o∧o.isCells=false) :=
      fun hr r e=>by obtain⟨hB,o,ho,hw⟩:=hr r e;exact⟨by rw[← hW1] at hB;simp at hB;omega,o,ho,Obj.not_cells_of_walk hw⟩
    have hset:∀ (W:World) (v:Value) (k:Nat) (o:Obj),w.heap.size≤k→W.heap[k]?=some o→(W.setCell ⟨Bc,0,none⟩ v).heap[k]?=some o:=fun W v k o hk ho =>
      (Below.heap_setCell _ _ _ k (fun e=>by simp at e;omega)).trans ho
    refine (hseq (w.heap.size+1)
      (fun pre W=>I pre W∧W.heap[w.heap.size+1]?=some (.loop (rec .ready none))∧W.heap[w.heap.size]?=some (.deferred (some [])))
      W1
      (fun s A B row hs hg' hr=>⟨hI s A B row hs.1 hg' (hnw (B:=B) hr),(grownBy_keeps hg' (fun r e=>(hr r e).2) hs.2.1 rfl).trans hs.2.1,(grownBy_keeps hg' (fun r e=>(hr r e).2) hs.2.2 rfl).trans hs.2.2⟩)
      (fun s A v hs=>⟨hIc s A v hs.1,hset A v _ _ (by omega) hs.2.1,hset A v _ _ (Nat.le_refl _) hs.2.2⟩)
      ?_ hx1 ⟨hI1,hL1,hK1⟩).mono ?_
    · rintro pre x W hpost ⟨hi,hl,hk⟩
      have hlt:w.heap.size+1 < W.heap.size:=(Array.getElem?_eq_some_iff.1 hl).1
      have hy:=run_yield (P:=P) (args:=encs x) hl (by rw[hrec];exact hps x)
      rw[hrec] at hy
      refine⟨fn,_,assign,body,hy,roundIn_of_wpIn hfn (hassign _ x W _ ⟨_,run_beginRound hl (by rw[hrec]),?_⟩)⟩
      have hl2:(W.putObj (w.heap.size+1) (.loop { rec .ready none with state:=.busy })).heap[w.heap.size+1]?=some (.loop { rec .ready none with state:=.busy }):=World.putObj_heap_same hlt
      have hk2:(W.putObj (w.heap.size+1) (.loop { rec .ready none with state:=.busy })).heap[w.heap.size]?=some (.deferred (some [])):=(World.putObj_heap_other (by omega)).trans hk
      have hw2:yyb_ Bc t W (W.putObj (w.heap.size+1) (.loop { rec .ready none with state:=.busy })):=yyb_.putObj _ _ hl rfl
      refine wpIn_mono (hbody _ pre x _ hpost (hI.putObj _ hi (by omega) hl rfl)) ?_
      rintro e a3 W3 hp
      cases e with
      | normal =>
        obtain⟨hk3,hkp3,hi3⟩:=hp
        have hl3:=hk3.same _ _ hl2 rfl
        have hr:=run_endRound (P:=P) none hl3
        rw[hrec] at hr
        refine⟨_,_,hr,rfl,⟨hI.putObj _ hi3 (by omega) hl3 rfl,?_,(World.putObj_heap_other (by omega)).trans (hk3.same _ _ hk2 rfl)⟩,hw2.trans (hkp3.trans (yyb_.putObj _ _ hl3 rfl))⟩
        rw[hrec]
        exact World.putObj_heap_same (Array.getElem?_eq_some_iff.1 hl3).1
      | ret=>exact hp.elim
      | exit id=>exact hp.elim
      | goto t=>exact hp.elim
      | panic ch=>exact hp.elim
      | outgrown=>exact hp.elim
    · rintro e W2 ⟨⟨v,rfl⟩,hi,hl,hk⟩
      exact⟨none,_,by have:=run_endLoop (P:=P) hl (by rw[hrec];simp);rw[hrec] at this;exact this,hdone _ _ (Nat.le_refl _) (hI.putObj _ hi (by omega) hl rfl) ((World.putObj_heap_other (by omega)).trans hk)⟩
end Go.Proofs.YthimblhfjfngiaaGreat.PText

