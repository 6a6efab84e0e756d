/- PastThree holds: for every three texts the statement answers true. Part 24 of 25. -/
import Derived.Test.YthimblhfjfngiaaBThreeW
namespace Go.Proofs.Ythimblhfjfngiaa.PText
open Go.RowKit Go.Lib Go.Proofs.YthimblhfjfngiaaW.PrintWords Go.Proofs.YthimblhfjfngiaaW.PrintLast Go.Proofs.YthimblhfjfngiaaW.PrintMore
theorem bt_ten (s:ByteArray) (i:Nat):bt s (i:Int)=10↔s.data.toList[i]?=some 10:=by
  have hs:=yjb_ s
  unfold bt
  rw[Int.toNat_natCast]
  by_cases h:i < s.size
  rotate_left
  · rw[dif_neg h,List.getElem?_eq_none (by omega)]
    constructor
    · intro q;cases q
    · intro q;cases q
  rw[dif_pos h]
  have h2:i < s.data.toList.length:=by omega
  rw[List.getElem?_eq_getElem h2]
  have e:s.data.toList[i]=s[i]'h:=rfl
  rw[e]
  constructor
  · intro q
    have:(s[i]'h).toNat=10:=by omega
    rw[Option.some.injEq]
    exact UInt8.toNat_inj.1 this
  · intro q
    rw[Option.some.inj q]
    rfl
theorem rlines_l0 (s:ByteArray) (hs:s.size≤100000):∀ (m i k:Nat) (out:List ByteArray) (p:Nat),s.size - i=m→p≤i→i≤s.size→m+1≤k→out.length≤p →
    yD_.l0 k s out (p:Int) (i:Int)=some (out++(Tx.lgo (Tx.sl s.data.toList p i) (s.data.toList.drop i)).map fun l=>⟨l.toArray⟩):=by
  have hsl:=yjb_ s
  intro m
  induction m with
  | zero =>
    intro i k out p hm hp hi hk ho
    obtain⟨k,rfl⟩:∃ q,k=q+1:=⟨k - 1,by omega⟩
    have hd:s.data.toList.drop i=[]:=List.drop_of_length_le (by omega)
    have hslen:=Tx.sl_len (s:=s.data.toList) (a:=(p:Int)) (b:=(i:Int)) (by omega) (by omega) (by omega)
    have e0:Tx.lgo (Tx.sl s.data.toList p i) []=if Tx.sl s.data.toList p i=[] then [] else [Tx.sl s.data.toList p i]:=rfl
    rw[yD_.l0,if_neg (by omega),hd,e0]
    by_cases c:p < s.size
    rotate_left
    · rw[if_neg (by omega),if_pos (by apply List.eq_nil_of_length_eq_zero;omega)]
      simp
    rw[if_pos (by omega),if_pos (by omega),if_pos (by omega),if_pos (by omega),if_neg (by intro q;rw[q] at hslen;simp at hslen;omega)]
    have e:s.extract (p:Int).toNat s.size=⟨(Tx.sl s.data.toList p i).toArray⟩:=by
      apply ba_ext
      obtain rfl:i=s.size:=by omega
      have:=ext_sl s (p:Int) (s.size:Int)
      rw[Int.toNat_natCast s.size] at this
      rw[this]
    rw[e]
    rfl
  | succ m ih =>
    intro i k out p hm hp hi hk ho
    obtain⟨k,rfl⟩:∃ q,k=q+1:=⟨k - 1,by omega⟩
    have hlt:i < s.data.toList.length:=by omega
    have hd:s.data.toList.drop i=s.data.toList[i] :: s.data.toList.drop (i+1):=List.drop_eq_getElem_cons hlt
    have hsn:Tx.sl s.data.toList p ((i+1:Nat):Int)=Tx.sl s.data.toList p i++[s.data.toList[i]]:=by
      have h1:=Tx.sl_sl (s:=s.data.toList) (a:=(p:Int)) (b:=(i:Int)) (c:=((i+1:Nat):Int)) (by omega) (by omega)
      rw[← h1]
      congr 1
      unfold Tx.sl
      rw[Int.toNat_natCast,Int.toNat_natCast,hd,show i+1 - i=1 by omega]
      rfl
    have e0:∀ cur,Tx.lgo cur (s.data.toList[i] :: s.data.toList.drop (i+1))=if s.data.toList[i]=10 then (cur++[s.data.toList[i]]) :: Tx.lgo [] (s.data.toList.drop (i+1)) else Tx.lgo (cur++[s.data.toList[i]]) (s.data.toList.drop (i+1)):=fun _=>rfl
    have hb:=bt_ten s i
    rw[List.getElem?_eq_getElem hlt,Option.some.injEq] at hb
    rw[yD_.l0,if_pos (by omega),if_pos (by omega),nx i (by omega),hd,e0]
    by_cases q:s.data.toList[i]=10
    rotate_left
    · rw[if_neg (fun c=>q (hb.1 c)),if_neg q,ih (i+1) k out p (by omega) (by omega) (by omega) (by omega) ho,← hsn]
    rw[if_pos (hb.2 q),if_pos (by omega),if_pos (by omega),if_pos (by omega),if_pos (by omega),if_pos q,ih (i+1) k _ (i+1) (by omega) (by omega) (by omega) (by omega) (by rw[List.length_append,List.length_singleton];omega),Tx.sl_same,← hsn]
    have e:s.extract (p:Int).toNat ((i+1:Nat):Int).toNat=⟨(Tx.sl s.data.toList p ((i+1:Nat):Int)).toArray⟩:=ba_ext (by rw[ext_sl])
    rw[e,List.append_assoc out,List.singleton_append]
    rfl
theorem rlines_f (s:ByteArray) (hs:s.size≤100000) (k:Nat) (hk:s.size+1≤k):yD_.f k s=some (linesB s):=by
  have h:=rlines_l0 s hs s.size 0 k [] 0 (by omega) (by omega) (by omega) hk (Nat.le_refl _)
  rw[show ((0:Nat):Int)=0 from rfl,Tx.sl_same,List.drop_zero,List.nil_append] at h
  exact h
end Go.Proofs.Ythimblhfjfngiaa.PText

namespace Go.Proofs.Ythimblhfjfngiaa.PText
open Go.RowKit Go.Lib Go.Proofs.YthimblhfjfngiaaW.PrintWords Go.Proofs.YthimblhfjfngiaaW.PrintLast Go.Proofs.YthimblhfjfngiaaW.PrintMore
theorem redits_f (a b:ByteArray) (ha:a.size≤100000) (hb:b.size≤100000) (k:Nat) (hk:20000000≤k):ye_.f k a b=some (editsR a b):=by
  obtain⟨k,rfl⟩:∃ q,k=q+2:=⟨k - 2,by omega⟩
  unfold ye_.f editsR
  rw[rlines_f a (by omega) _ (by omega),Option.bind_some,rlines_f b (by omega) _ (by omega),Option.bind_some,if_neg (by omega),if_neg (by omega)]
  have hT:ye_.j0 (k+2) (linesB a) (linesB b) true=some ([],2):=by rw[ye_.j0,if_pos rfl]
  by_cases c3:2000 < (linesB a).length
  · have e:sizedR a b 0=([],2):=by unfold sizedR;rw[if_pos (Or.inr (Or.inr (Or.inl c3)))]
    rw[if_pos (by omega),hT,e,if_neg (by decide)]
  rw[if_neg (by omega)]
  by_cases c4:2000 < (linesB b).length
  · have e:sizedR a b 0=([],2):=by unfold sizedR;rw[if_pos (Or.inr (Or.inr (Or.inr c4)))]
    rw[decide_eq_true (by omega),hT,e,if_neg (by decide)]
  have big:¬ (200000 < a.size∨200000 < b.size∨2000 < (linesB a).length∨2000 < (linesB b).length):=by omega
  have e:sizedR a b 0=(stS (linesB a) (linesB b),0):=by unfold sizedR;rw[if_neg big,if_neg (by omega)]
  have hm:((linesB a).length+1) * (2 * (linesB b).length+4)≤2001 * 4004:=Nat.mul_le_mul (by omega) (by omega)
  have hl:=stT_len a b
  rw[decide_eq_false (by omega),ye_.j0,if_neg (by decide),rsteps_f _ _ (by omega) (by omega) (k+1) (by omega),Option.bind_some,e,if_pos rfl,stT_R]
  have:=(rEdits_l (stT a b) (by omega) (fun x hx=>by have:=(stT_ok a b x hx).2.2;omega) (stT a b).length 0 (by omega) (by omega)).1 (k+1) [] 0 (by omega) (by simp) (by omega) (by omega)
  rw[List.drop_zero,List.nil_append] at this
  exact this
end Go.Proofs.Ythimblhfjfngiaa.PText

namespace Go.Proofs.Ythimblhfjfngiaa.PText
open Go.RowKit Go.Lib Go.Proofs.YthimblhfjfngiaaW.PrintWords Go.Proofs.YthimblhfjfngiaaW.PrintLast Go.Proofs.YthimblhfjfngiaaW.PrintMore
set_option linter.unusedVariables false
set_option linter.unusedSimpArgs false
theorem eqTwos_l0 (l:List S67) (hl:l.length≤100000000):∀ (m i k:Nat),i+m=l.length→m+1≤k→y6_.l0 k l l (i:Int)=some true
  | 0,i,k,hi,hk=>by
    obtain⟨k,rfl⟩:∃ q,k=q+1:=⟨k - 1,by omega⟩
    rw[y6_.l0,if_neg (by omega)]
  | m+1,i,k,hi,hk=>by
    obtain⟨k,rfl⟩:∃ q,k=q+1:=⟨k - 1,by omega⟩
    have hw:wrap64 ((i:Int)+1)=((i+1:Nat):Int):=by rw[w64 (by omega) (by omega)];omega
    rw[y6_.l0,if_pos (by omega),if_pos (by omega),if_pos (by omega),if_neg (by simp),hw,eqTwos_l0 l hl m (i+1) k (by omega) (by omega)]
theorem eqTwos_f (l:List S67) (hl:l.length≤100000000) (k:Nat) (hk:l.length+1≤k):y6_.f k l l=some true:=by
  unfold y6_.f
  rw[if_pos rfl]
  exact eqTwos_l0 l hl l.length 0 k (by omega) hk
theorem apart_in {n:Int}:∀ {l:List Tx.Ed} {p:Int},Tx.Apart n p l→∀ e∈l,p≤e.f∧e.f≤e.t∧e.t≤n
  | [],_,_,e,he=>by cases he
  | d :: l,p,h,e,he=>by
    rcases List.mem_cons.1 he with rfl|he
    · exact⟨h.1,h.2.1,h.2.2.1⟩
    · have:=apart_in h.2.2.2 e he
      have:=h.1
      have:=h.2.1
      omega
theorem apart_touch {n:Int}:∀ {l:List Tx.Ed} {p:Int},Tx.Apart n p l→∀ a∈l,∀ b∈l,a≠b→Tx.touch a b=false
  | [],_,_,a,ha,_,_,_=>by cases ha
  | d :: l,p,h,a,ha,b,hb,hne=>by
    have far:∀ e∈l,Tx.touch d e=false:=fun e he=>by
      have h1:=apart_in h.2.2.2 e he
      have h2:=h.2.1
      rw[Bool.eq_false_iff,Ne,Tx.y3b_]
      omega
    rcases List.mem_cons.1 ha with ha1|ha1
    · rcases List.mem_cons.1 hb with hb1|hb1
      · exact absurd (ha1.trans hb1.symm) hne
      · rw[ha1];exact far b hb1
    · rcases List.mem_cons.1 hb with hb1|hb1
      · rw[hb1,Tx.touch_symm];exact far a ha1
      · exact apart_touch h.2.2.2 a ha1 b hb1 hne
/-- the edits of a side, sound and apart -/
structure Side (n:Nat) (x:List S59):Prop where
  okay:∀ e∈x,0≤e.f0∧e.f0≤e.f1∧e.f1≤(n:Int)
  far:∀ a∈x,∀ b∈x,a≠b→Tx.touch (toE a) (toE b)=false
  len:x.length≤4000
theorem toE_ofE (e:Tx.Ed):toE (ofE e)=e:=by
  cases e
  unfold toE ofE
  simp only
  rw[Lib.toList_data]
theorem side_of (b a:ByteArray) (h:(editsR b a).2=0):Side b.size (editsR b a).1:=by
  have hl:=yvb_ b a
  unfold editsR at h hl ⊢
  by_cases c:(sizedR b a 0).2=0
  rotate_left
  · rw[if_neg c] at h
    exact absurd h c
  rw[if_pos c] at hl ⊢
  have hap:Tx.Apart (b.data.toList.length:Int) 0 (Tx.eg 0 none (stT b a)):=Tx.edits_apart b.data.toList a.data.toList
  have hm:∀ e∈editsS b a,toE e∈Tx.eg 0 none (stT b a):=fun e he=>by
    obtain⟨d,hd,rfl⟩:=List.mem_map.1 he
    rw[toE_ofE];exact hd
  refine⟨fun e he=>?_,fun u hu v hv hne=>apart_touch hap _ (hm u hu) _ (hm v hv) (fun q=>hne (toE_inj q)),hl⟩
  have:=apart_in hap _ (hm e he)
  rw[yjb_]
  exact this
theorem fine_sides {n:Nat} {x y:List S59} (hn:n≤200000) (hx:Side n x) (hy:Side n y) (hm:x.any (fun a=>y.any (meetE a))=false):fineE n (x++y)=0:=by
  have hlx:=hx.len
  have hly:=hy.len
  have hok:∀ e∈x++y,0≤e.f0∧e.f0≤e.f1∧e.f1≤(n:Int):=fun e he=>by
    rcases List.mem_append.1 he with h|h
    · exact hx.okay e h
    · exact hy.okay e h
  have hxy:∀ a∈x,∀ b∈y,a≠b→Tx.touch (toE a) (toE b)=false:=fun a ha b hb hne=>by
    have q:meetE a b=false:=by
      cases q:meetE a b with
      | false=>rfl
      | true=>exact absurd (List.any_eq_true.2 ⟨a,ha,List.any_eq_true.2 ⟨b,hb,q⟩⟩) (by rw[hm];decide)
    unfold meetE at q
    rw[decide_eq_true hne,Bool.true_and,Bool.and_eq_false_iff,decide_eq_false_iff_not,decide_eq_false_iff_not] at q
    have h1:=hx.okay a ha
    have h2:=hy.okay b hb
    rw[Bool.eq_false_iff,Ne,Tx.y3b_]
    show ¬ ((a.f0=a.f1∧b.f0=b.f1∧a.f0=b.f0)∨(a.f0=a.f1∧b.f0≠b.f1∧b.f0 < a.f0∧a.f0 < b.f1)∨(a.f0≠a.f1∧b.f0=b.f1∧a.f0 < b.f0∧b.f0 < a.f1)∨(a.f0≠a.f1∧b.f0≠b.f1∧a.f0 < b.f1∧b.f0 < a.f1))
    omega
  unfold fineE
  rw[if_neg (by rw[List.length_append];omega),if_neg,if_neg]
  · intro hc
    obtain⟨a,ha,b,hb,hne,ht⟩:=(Tx.clash_iff (n:=(n:Int)) (fun e he=>by
      obtain⟨d,hd,rfl⟩:=List.mem_map.1 he
      exact hok d ((Tx.yGb_ yab_).1 hd)) (List.pairwise_map.2 (Tx.ybc_ yab_))).1 hc
    obtain⟨u,hu,rfl⟩:=List.mem_map.1 ha
    obtain⟨v,hv,rfl⟩:=List.mem_map.1 hb
    have huv:u≠v:=fun q=>hne (by rw[q])
    have hu':=(Tx.yGb_ yab_).1 hu
    have hv':=(Tx.yGb_ yab_).1 hv
    have hf:Tx.touch (toE u) (toE v)=false:=by
      rcases List.mem_append.1 hu' with h1|h1 <;> rcases List.mem_append.1 hv' with h2|h2
      · exact hx.far u h1 v h2 huv
      · exact hxy u h1 v h2 huv
      · rw[Tx.touch_symm];exact hxy v h2 u h1 (fun q=>huv q.symm)
      · exact hy.far u h1 v h2 huv
    rw[hf] at ht
    cases ht
  · intro hb
    obtain⟨e,he,q⟩:=List.any_eq_true.1 hb
    have:=hok e he
    unfold badE at q
    simp only[Bool.or_eq_true,decide_eq_true_eq] at q
    omega
theorem fine_side {n:Nat} {x:List S59} (hn:n≤200000) (hx:Side n x):fineE n x=0:=by
  have:=fine_sides (y:=[]) hn hx ⟨(fun e he=>absurd he (by simp)),(fun a ha=>absurd ha (by simp)),Nat.zero_le _⟩ (List.any_eq_false.2 (fun a _=>by simp))
  rwa [List.append_nil] at this
theorem fine_ord (n:Nat) (l:List S59) (h:fineE n l=0):fineE n (Tx.ord eltS l)=0:=by
  have hl:=Tx.ord_len (lt:=eltS) l
  have ho:Tx.ord eltS (Tx.ord eltS l)=Tx.ord eltS l:=Tx.ord_ord yab_ (Tx.ybc_ yab_)
  unfold fineE at h ⊢
  by_cases h1:200000 < n∨10000 < l.length
  · rw[if_pos h1] at h;cases h
  rw[if_neg h1] at h
  rw[if_neg (by omega)]
  by_cases h2:l.any (badE n)=true
  · rw[if_pos h2] at h;cases h
  rw[if_neg h2] at h
  rw[if_neg (fun q=>h2 (by
    obtain⟨e,he,q⟩:=List.any_eq_true.1 q
    exact List.any_eq_true.2 ⟨e,(Tx.yGb_ yab_).1 he,q⟩)),ho]
  exact h
theorem apply_ord (s:ByteArray) (l:List S59) (h:fineE s.size l=0):applyR s (Tx.ord eltS l)=applyR s l:=by
  have ho:Tx.ord eltS (Tx.ord eltS l)=Tx.ord eltS l:=Tx.ord_ord yab_ (Tx.ybc_ yab_)
  have hm:madeE s (Tx.ord eltS l)=madeE s l:=by unfold madeE;rw[ho]
  unfold applyR
  rw[fine_ord _ _ h,h,hm]
theorem sum_le {α:Type} (f:α→Nat) (C:Nat):∀ l:List α,(∀ x∈l,f x≤C)→(l.map f).sum≤l.length * C
  | [],_=>Nat.zero_le _
  | a :: l,h=>by
    have h1:=sum_le f C l (fun x hx=>h x (List.mem_cons_of_mem _ hx))
    have h2:=h a List.mem_cons_self
    rw[List.map_cons,List.sum_cons,List.length_cons,Nat.succ_mul]
    omega
theorem eg_sum:∀ (l:List Tx.St) (a:Int) (c:Option Tx.Ed),((Tx.eg a c l).map (fun e=>e.x.length)).sum≤(c.toList.map (fun e=>e.x.length)).sum+(l.map (fun x=>x.2.length)).sum
  | [],a,c=>Nat.le_add_right _ _
  | (o,x) :: l,a,c=>by
    have hd:(c.getD ⟨a,a,[]⟩).x.length=(c.toList.map (fun e=>e.x.length)).sum:=by cases c <;> simp
    rw[List.map_cons,List.sum_cons]
    show _≤(c.toList.map (fun e=>e.x.length)).sum+(x.length+(l.map (fun x=>x.2.length)).sum)
    by_cases c1:o=32
    · subst c1
      have h:=eg_sum l (a+x.length) none
      rw[Tx.eg_keep,List.map_append,List.sum_append]
      simp only[Option.toList_none,List.map_nil,List.sum_nil] at h
      omega
    by_cases c2:o=45
    · subst c2
      have h:=eg_sum l (a+x.length) (some ⟨(c.getD ⟨a,a,[]⟩).f,a+x.length,(c.getD ⟨a,a,[]⟩).x⟩)
      rw[Tx.eg_gone]
      simp only[Option.toList_some,List.map_cons,List.map_nil,List.sum_cons,List.sum_nil] at h
      omega
    have h:=eg_sum l a (some ⟨(c.getD ⟨a,a,[]⟩).f,(c.getD ⟨a,a,[]⟩).t,(c.getD ⟨a,a,[]⟩).x++x⟩)
    rw[Tx.eg_come a c o x l c1 c2]
    simp only[Option.toList_some,List.map_cons,List.map_nil,List.sum_cons,List.sum_nil,List.length_append] at h
    omega
theorem sumS_edits (b a:ByteArray) (hb:b.size≤3000) (ha:a.size≤3000):sumS (editsR b a).1≤12000000:=by
  unfold editsR
  by_cases c:(sizedR b a 0).2=0
  rotate_left
  · rw[if_neg c]
    exact Nat.zero_le _
  rw[if_pos c]
  obtain⟨-,-,-,n1,n2,-,-⟩:=sized_zero c
  have hl:=stT_len b a
  have h1:=sum_le (fun x:UInt8 × List UInt8=>x.2.length) 3000 (stT b a) (fun x hx=>by have:=(stT_ok b a x hx).2.2;omega)
  have h2:((Tx.eg 0 none (stT b a)).map (fun e=>e.x.length)).sum≤((stT b a).map (fun x:UInt8 × List UInt8=>x.2.length)).sum:=by
    have q:=eg_sum (stT b a) 0 none
    rw[show ((none:Option Tx.Ed).toList.map (fun e=>e.x.length)).sum=0 from rfl,Nat.zero_add] at q
    exact q
  have h3:sumS (editsS b a)=((Tx.eg 0 none (stT b a)).map (fun e=>e.x.length)).sum:=by
    unfold sumS editsS
    rw[List.map_map]
    rfl
  have h4:=Nat.mul_le_mul_right 3000 (show (stT b a).length≤4000 by omega)
  show sumS (editsS b a)≤_
  omega
/-- two sides merged -/
def threeR (b a c:ByteArray):ByteArray × Int :=
  if (editsR b a).2≠0 then (⟨#[]⟩,(editsR b a).2) else if (editsR b c).2≠0 then (⟨#[]⟩,(editsR b c).2)
  else if (editsR b a).1.any (fun i=>(editsR b c).1.any (meetE i))=true then (⟨#[]⟩,250)
  else applyR b ((editsR b a).1++(editsR b c).1)
theorem three_f (b a c:ByteArray) (hb:b.size≤3000) (ha:a.size≤3000) (hc:c.size≤3000):ylb_.f b a c=some (threeR b a c):=by
  have s1:=sumS_edits b a hb ha
  have s2:=sumS_edits b c hb hc
  unfold ylb_.f threeR
  rw[if_pos ⟨by omega,by omega,by omega⟩]
  by_cases h1:(editsR b a).2≠0
  · rw[if_pos h1,if_pos h1]
  rw[if_neg h1,if_neg h1]
  by_cases h2:(editsR b c).2≠0
  · rw[if_pos h2,if_pos h2]
  rw[if_neg h2,if_neg h2]
  have hx:=side_of b a (Decidable.of_not_not h1)
  have hy:=side_of b c (Decidable.of_not_not h2)
  generalize (editsR b a).1=x at *
  generalize (editsR b c).1=y at *
  by_cases h3:x.any (fun i=>y.any (meetE i))=true
  · rw[if_pos h3,if_pos h3]
  rw[if_neg h3,if_neg h3]
  have hf:=fine_sides (by omega) hx hy (by simpa using h3)
  have hfx:=fine_side (show b.size≤200000 by omega) hx
  have hfy:=fine_side (show b.size≤200000 by omega) hy
  have hm:mergeR b.size x y=(Tx.ord eltS (x++y),0):=by
    unfold mergeR
    rw[if_neg (fun q=>q hfx),if_neg (fun q=>q hfy),if_neg (fun q=>q hf)]
  have hs:b.size+sumS (Tx.ord eltS (x++y))≤100000000000:=by
    have:=sumS_ord (x++y)
    rw[sumS_app] at this
    omega
  rw[hm,if_neg (fun q=>q rfl),apply_f b _ hs,Option.bind_some,apply_ord b _ hf]
  by_cases hz:(applyR b (x++y)).2=0
  · rw[if_pos hz,← hz]
  rw[if_neg hz]
  unfold applyR at hz ⊢
  rw[if_neg (fun q=>q hf)] at hz ⊢
  by_cases hbig:200000 < (madeE b (x++y)).length
  · rw[if_pos hbig]
  rw[if_neg hbig] at hz;exact absurd rfl hz
theorem rthree_f (b a c:ByteArray) (hb:b.size≤3000) (ha:a.size≤3000) (hc:c.size≤3000) (k:Nat) (hk:400000000≤k):yN_.f k b a c=some (threeR b a c):=by
  have s1:=sumS_edits b a hb ha
  have s2:=sumS_edits b c hb hc
  have hE1:∀ k,20000000≤k→ye_.f k b a=some (editsR b a):=fun k hk=>redits_f b a (by omega) (by omega) k hk
  have hE2:∀ k,20000000≤k→ye_.f k b c=some (editsR b c):=fun k hk=>redits_f b c (by omega) (by omega) k hk
  have l1:=yvb_ b a
  have l2:=yvb_ b c
  unfold yN_.f threeR
  rw[rconf_f b a c hE1 hE2 k (by omega),Option.bind_some]
  unfold confR
  by_cases h1:(editsR b a).2≠0
  · rw[if_pos h1,if_pos h1,if_neg h1]
  rw[if_neg h1,if_neg h1]
  by_cases h2:(editsR b c).2≠0
  · rw[if_pos h2,if_pos h2,if_neg h2]
  rw[if_neg h2,if_neg h2,if_pos rfl]
  have hn:=conC_nil (editsR b c).1 (editsR b a).1 0
  by_cases h3:(editsR b a).1.any (fun i=>(editsR b c).1.any (meetE i))=true
  · have hp:conC (editsR b c).1 0 (editsR b a).1≠[]:=fun q=>by rw[hn.1 q] at h3;cases h3
    rw[if_pos (by show ((conC (editsR b c).1 0 (editsR b a).1).length:Int) > 0;have:=List.length_pos_iff.2 hp;omega),if_pos h3]
  have hp:=hn.2 (by simpa using h3)
  rw[hp,if_neg (by simp),if_neg h3,hE1 k (by omega),Option.bind_some,hE2 k (by omega),Option.bind_some,if_pos (by omega)]
  have hr:=rapply_f b ((editsR b a).1++(editsR b c).1) 8000 (by rw[List.length_append];omega) (by omega) (by rw[sumS_app];omega) k (by omega)
  rw[hr,Option.bind_some]
theorem pastThree_eq (b a c:ByteArray):∃ k,yB_.f k b a c=some true:=by
  refine⟨400000001,?_⟩
  generalize hk:(400000001:Nat)=k
  obtain⟨k,rfl⟩:∃ q,k=q+1:=⟨k - 1,by omega⟩
  have hk2:400000000≤k:=by omega
  clear hk
  have hT:yB_.j0 (k+1) b a c true=some true:=by rw[yB_.j0,if_pos rfl]
  unfold yB_.f
  by_cases h1:(b.size:Int) > 3000
  · rw[if_pos h1,hT]
  rw[if_neg h1]
  by_cases h2:(a.size:Int) > 3000
  · rw[if_pos h2,hT]
  rw[if_neg h2]
  by_cases h3:(c.size:Int) > 3000
  · rw[decide_eq_true h3,hT]
  rw[decide_eq_false h3,yB_.j0,if_neg (by decide)]
  have hE1:∀ k,20000000≤k→ye_.f k b a=some (editsR b a):=fun k hk=>redits_f b a (by omega) (by omega) k hk
  have hE2:∀ k,20000000≤k→ye_.f k b c=some (editsR b c):=fun k hk=>redits_f b c (by omega) (by omega) k hk
  rw[three_f b a c (by omega) (by omega) (by omega),Option.bind_some,rthree_f b a c (by omega) (by omega) (by omega) k hk2,Option.bind_some,pconf_f b a c (by omega) (by omega) (by omega) k (by omega),Option.bind_some,rconf_f b a c hE1 hE2 k (by omega),Option.bind_some]
  have hl:(confR b a c).1.length≤16000000:=by
    unfold confR
    have l1:=yvb_ b a
    have l2:=yvb_ b c
    have l3:=conC_len (editsR b c).1 (editsR b a).1 0
    have l4:=Nat.mul_le_mul l1 l2
    split
    · exact Nat.zero_le _
    · split
      · exact Nat.zero_le _
      · exact Nat.le_trans l3 l4
  rw[if_pos rfl,if_pos rfl,if_pos rfl,eqTwos_f _ (by omega) k (by omega),Option.bind_some,if_pos rfl]
  rfl
end Go.Proofs.Ythimblhfjfngiaa.PText

