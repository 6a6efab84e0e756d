/- PastRebases holds: for all steps, every number and all results the statement answers true. Part 15 of 24. -/
import Derived.Test.YthimblhfjfngiaaGreatBRebasesN
import Derived.RangeFuncNested
import Derived.RangeFuncBound
import Derived.RangeFuncCalls
import Derived.RangeFuncLeaves
import Derived.Shelf.SlGeneric
import Derived.Shelf.SlLaysF0
import Derived.Shelf.SlLaysH0
import Derived.Ground.SlsfProg
import Derived.Ground.SlgfProg
import Derived.Shelf.Strings.Builder1
import Derived.Shelf.Small.Bits
import Derived.Shelf.Small.Strs
import Derived.Shelf.Small.Wraps
import Derived.Shelf.Strings.BuilderF
import Derived.Shelf.Strings.BuilderK
import Derived.Shelf.Strconv.Itoa0
import Derived.Shelf.Strings.Search1
import Derived.Shelf.Sort.Plain
import Derived.Shelf.Slices.Turned
import Derived.Ground.Names2Prog
import Derived.Shelf.Slices.SearchI
import Derived.Shelf.Slices.In.SortNone
import Derived.Shelf.SlSortCmp.NoneTotal
import Derived.Shelf.SlicesQ.IndexFunc
namespace Go.Proofs.YthimblhfjfngiaaGreat.PText
open Go.RowKit Go.Lib Go.Proofs.YthimblhfjfngiaaGreatW.PrintWords Go.Proofs.YthimblhfjfngiaaGreatW.PrintLast Go.Proofs.YthimblhfjfngiaaGreatW.PrintMore
theorem neS34 (x y:S91):(!(x.f0 == y.f0) || (!(x.f1 == y.f1) || !(x.f2.toList == y.f2.toList)))=decide (x≠y):=by
  rw[show decide (x≠y)=!decide (x=y) by simp,← eqb34]
  simp only[Bool.not_and]
end Go.Proofs.YthimblhfjfngiaaGreat.PText

namespace Go.Proofs.YthimblhfjfngiaaGreat.PText
open Go.RowKit Go.Lib Go.Proofs.YthimblhfjfngiaaGreatW.PrintWords Go.Proofs.YthimblhfjfngiaaGreatW.PrintLast Go.Proofs.YthimblhfjfngiaaGreatW.PrintMore
theorem before_f (x y:S91):y1_.f x.f0 x.f1 x.f2 y.f0 y.f1 y.f2=some (eltS x y):=by
  unfold y1_.f eltS Tx.elt toE
  by_cases h0:x.f0=y.f0
  rotate_left
  · rw[if_neg h0]
    simp [h0]
  have n0:¬ x.f0 < y.f0:=by omega
  rw[if_pos h0]
  by_cases h1:x.f1=y.f1
  rotate_left
  · rw[if_neg h1]
    simp [h0,h1]
  have n1:¬ x.f1 < y.f1:=by omega
  rw[if_pos h1,bl_lt]
  simp [h0,h1]
theorem touch_f (k:Nat) (x y:S91):yF_.f (k+1) x.f0 x.f1 x.f2 y.f0 y.f1 y.f2=some (Tx.touch (toE x) (toE y)):=by
  unfold yF_.f Tx.touch toE
  simp only[yF_.j0]
  by_cases h1:x.f0=x.f1
  rotate_left
  · rw[if_neg h1,if_neg (show ¬ (false=true) by decide),if_neg h1,if_neg (show ¬ (x.f0=x.f1∧y.f0=y.f1) from fun q=>h1 q.1),if_neg h1]
    by_cases h2:y.f0=y.f1
    rotate_left
    · rw[if_neg h2,if_neg h2]
      by_cases h3:x.f0 < y.f1
      rotate_left
      · rw[if_neg h3];simp [h3]
      rw[if_pos h3];simp [h3]
    rw[if_pos h2,if_pos h2]
    by_cases h3:x.f0 < y.f0
    rotate_left
    · rw[if_neg h3];simp [h3]
    rw[if_pos h3];simp [h3]
  rw[if_pos h1]
  by_cases h2:y.f0=y.f1
  · have b:(y.f0 == y.f1)=true:=beq_iff_eq.2 h2
    rw[b,if_pos rfl,if_pos ⟨h1,h2⟩]
    rfl
  have b:(y.f0 == y.f1)=false:=beq_eq_false_iff_ne.2 h2
  rw[b,if_neg (show ¬ (false=true) by decide),if_pos h1,if_neg (show ¬ (x.f0=x.f1∧y.f0=y.f1) from fun q=>h2 q.2),if_pos h1]
  by_cases h3:y.f0 < x.f0
  rotate_left
  · rw[if_neg h3];simp [h3]
  rw[if_pos h3];simp [h3]
end Go.Proofs.YthimblhfjfngiaaGreat.PText

namespace Go.Proofs.YthimblhfjfngiaaGreat.PText
open Go.RowKit Go.Lib Go.Proofs.YthimblhfjfngiaaGreatW.PrintWords Go.Proofs.YthimblhfjfngiaaGreatW.PrintLast Go.Proofs.YthimblhfjfngiaaGreatW.PrintMore
theorem eqS34 (x y:S91):(x.f0 == y.f0 && (x.f1 == y.f1 && (x.f2.toList == y.f2.toList)))=decide (x=y):=by
  rw[Bool.eq_iff_iff,decide_eq_true_iff]
  simp only[Bool.and_eq_true,beq_iff_eq]
  constructor
  · rintro ⟨h0,h1,h2⟩
    refine toE_inj ?_
    unfold toE
    rw[h0,h1,h2]
  · rintro rfl;exact⟨rfl,rfl,rfl⟩
theorem ordered_l1 (x0:List S91) (hx0:x0.length≤1000000) (i:Nat) (hi:i < x0.length) (x3:List S91) (hx:x3.length≤1000000):∀ (m j k B:Nat) (b:Bool),x3.length - j=m→j≤x3.length→m+1+B≤k →
    ∃ k',B≤k'∧yf_.l1 k x0 x3 (i:Int) b (j:Int)=if b=true∨x0[i]∈x3.drop j then yf_.l0 k' x0 x3 (((i+1:Nat)):Int) else yf_.l2 k' x0 (x3++[x0[i]]) (i:Int) (x3.length:Int):=by
  intro m
  induction m with
  | zero =>
    intro j k B b hm hj hk
    obtain⟨k,rfl⟩:∃ q,k=q+1:=⟨k - 1,by omega⟩
    refine⟨k,by omega,?_⟩
    rw[yf_.l1,if_neg (by omega),List.drop_of_length_le (by omega)]
    cases b with
    | true=>rw[if_pos rfl,if_pos (Or.inl rfl),nx i (by omega)]
    | false =>
      rw[if_neg (show ¬ (false=true) by decide),if_neg (show ¬ (false=true∨x0[i]∈[]) by rintro (q|q) <;> cases q),if_pos (by omega),if_pos (by omega),if_pos (by omega),Option.bind_some,yzb_ x0 i hi]
      have e:wrap64 (((x3++[(⟨x0[i].f0,x0[i].f1,x0[i].f2⟩:S91)]).length:Int) - 1)=(x3.length:Int):=by
        rw[List.length_append,List.length_singleton,w64 (by omega) (by omega)];omega
      rw[e]
  | succ m ih =>
    intro j k B b hm hj hk
    obtain⟨k,rfl⟩:∃ q,k=q+1:=⟨k - 1,by omega⟩
    have hlt:j < x3.length:=by omega
    have hd:x3.drop j=x3[j] :: x3.drop (j+1):=List.drop_eq_getElem_cons hlt
    rw[yf_.l1,if_pos (by omega),nx j (by omega)]
    cases b with
    | true =>
      obtain⟨k',h1,h2⟩:=ih (j+1) k B true (by omega) (by omega) (by omega)
      refine⟨k',h1,?_⟩
      rw[if_pos rfl,h2,if_pos (Or.inl rfl),if_pos (Or.inl rfl)]
    | false =>
      obtain⟨k',h1,h2⟩:=ih (j+1) k B (decide (x3[j]=x0[i])) (by omega) (by omega) (by omega)
      refine⟨k',h1,?_⟩
      rw[if_neg (show ¬ (false=true) by decide),if_pos (by omega),if_pos (by omega),if_pos (by omega),yzb_ x0 i hi,yzb_ x3 j hlt,eqS34,h2,hd]
      by_cases q:x3[j]=x0[i]
      · rw[if_pos (Or.inl (decide_eq_true q)),if_pos (Or.inr (by rw[q];exact List.mem_cons_self))]
      by_cases q2:x0[i]∈x3.drop (j+1)
      · rw[if_pos (Or.inr q2),if_pos (Or.inr (List.mem_cons_of_mem _ q2))]
      rw[if_neg (by rintro (c|c);exact q (of_decide_eq_true c);exact q2 c),if_neg (by
        rintro (c|c)
        · cases c
        · rcases List.mem_cons.1 c with c|c
          · exact q c.symm
          · exact q2 c)]
theorem swap_last (A:List S91) (y x:S91) (C:List S91) (p:Nat) (h:A.length=p):((A++[y]++x :: C).set (p+1) y).set p x=A++x :: y :: C:=by
  subst h
  rw[List.append_assoc,List.set_append_right _ _ (by omega),List.set_append_right _ _ (by omega)]
  simp
theorem ordered_l2 (x0:List S91) (i:Nat) (hi:i≤1000000):∀ (p k B:Nat) (A:List S91) (x:S91) (C:List S91),A.length=p→Tx.Asc eltS (A++C)→(∀ c∈C,eltS x c=true)→x ∉ A→A.length+C.length≤1000000→p+1+B≤k →
    ∃ k' L,B≤k'∧yf_.l2 k x0 (A++x :: C) (i:Int) (p:Int)=yf_.l0 k' x0 L ((i+1:Nat):Int)∧Tx.Asc eltS L∧(∀ a,a∈L↔a∈A++x :: C):=by
  intro p
  induction p with
  | zero =>
    intro k B A x C hA hs hc hx hl hk
    obtain⟨k,rfl⟩:∃ q,k=q+1:=⟨k - 1,by omega⟩
    obtain rfl:=List.eq_nil_of_length_eq_zero hA
    refine⟨k,x :: C,by omega,?_,Tx.y5b_.2 ⟨hc,hs⟩,fun a=>Iff.rfl⟩
    rw[yf_.l2,if_neg (by omega),nx i hi]
    rfl
  | succ p ih =>
    intro k B A x C hA hs hc hx hl hk
    obtain⟨k,rfl⟩:∃ q,k=q+1:=⟨k - 1,by omega⟩
    obtain⟨A',y,rfl⟩:∃ A' y,A=A'++[y]:=by
      rcases List.eq_nil_or_concat A with h|⟨A',y,h⟩
      · subst h;cases hA
      · exact⟨A',y,by rw[h,List.concat_eq_append]⟩
    have hA':A'.length=p:=by rw[List.length_append,List.length_singleton] at hA;omega
    have hlen:(A'++[y]++x :: C).length=p+1+(C.length+1):=by
      rw[List.length_append,List.length_append,List.length_singleton,List.length_cons,hA']
    have e1:rd_T91 (A'++[y]++x :: C) ((p+1:Nat):Int)=x:=by
      rw[yzb_ _ (p+1) (by omega),List.getElem_append_right (by rw[List.length_append,List.length_singleton];omega)]
      simp [hA']
    have e2:rd_T91 (A'++[y]++x :: C) (p:Int)=y:=by
      rw[yzb_ _ p (by omega),List.getElem_append_left (by rw[List.length_append,List.length_singleton];omega),List.getElem_append_right (by omega)]
      simp [hA']
    have e3:wrap64 (((p+1:Nat):Int) - 1)=(p:Int):=by
      rw[List.length_append,List.length_singleton] at hl
      rw[w64 (by omega) (by omega)];omega
    have hs':Tx.Asc eltS (A'++y :: C):=by rwa [List.append_assoc] at hs
    rw[yf_.l2,if_pos (by omega),if_pos (by omega),if_pos (by rw[hlen];omega),e3,if_pos (by omega),if_pos (by rw[hlen];omega),e1,e2,before_f,Option.bind_some]
    cases q:eltS x y with
    | true =>
      rw[if_pos rfl]
      obtain⟨k',L,h1,h2,h3,h4⟩:=ih k B A' x (y :: C) hA' hs' (fun c m=>by
        rcases List.mem_cons.1 m with m|m
        · rw[m];exact q
        · exact hc c m) (fun m=>hx (List.mem_append_left _ m)) (by rw[List.length_append,List.length_singleton] at hl;rw[List.length_cons];omega) (by omega)
      refine⟨k',L,h1,?_,h3,fun a=>?_⟩
      · rw[← h2,Int.toNat_natCast,Int.toNat_natCast]
        have:=swap_last A' y x C p hA'
        rw[show (⟨y.f0,y.f1,y.f2⟩:S91)=y from rfl,show (⟨x.f0,x.f1,x.f2⟩:S91)=x from rfl,this]
      · rw[h4 a]
        simp only[List.mem_append,List.mem_cons,List.not_mem_nil,or_false]
        constructor
        · rintro (m|m|m|m)
          · exact .inl (.inl m)
          · exact .inr (.inl m)
          · exact .inl (.inr m)
          · exact .inr (.inr m)
        · rintro ((m|m)|m|m)
          · exact .inl m
          · exact .inr (.inr (.inl m))
          · exact .inr (.inl m)
          · exact .inr (.inr (.inr m))
    | false =>
      rw[if_neg (show ¬ (false=true) by decide),nx i hi]
      refine⟨k,A'++[y]++x :: C,by omega,rfl,?_,fun a=>Iff.rfl⟩
      have hyx:eltS y x=true:=by
        cases q2:eltS y x with
        | true=>rfl
        | false=>exact absurd (y3_.tri q q2) (fun e=>hx (by rw[e];exact List.mem_append_right _ List.mem_cons_self))
      obtain⟨s1,s2,s3⟩:=Tx.yZb_.1 hs
      refine Tx.yZb_.2 ⟨s1,Tx.y5b_.2 ⟨hc,s2⟩,fun a ma b mb=>?_⟩
      rcases List.mem_cons.1 mb with mb|mb
      · rw[mb]
        rcases List.mem_append.1 ma with ma|ma
        · exact y3_.tr ((Tx.yZb_.1 s1).2.2 a ma y List.mem_cons_self) hyx
        · rw[List.mem_singleton.1 ma];exact hyx
      · exact s3 a ma b mb
theorem ordered_l0 (x0:List S91) (N:Nat) (hN:x0.length≤N) (hN2:N≤1000000):∀ (m i k:Nat),x0.length - i=m→i≤x0.length→m * (2 * N+5)+1≤k →
    yf_.l0 k x0 (Tx.ord eltS (x0.take i)) (i:Int)=some (Tx.ord eltS x0):=by
  intro m
  induction m with
  | zero =>
    intro i k hm hi hk
    obtain⟨k,rfl⟩:∃ q,k=q+1:=⟨k - 1,by omega⟩
    rw[yf_.l0,if_neg (by omega),List.take_of_length_le (by omega)]
  | succ m ih =>
    intro i k hm hi hk
    rw[Nat.succ_mul] at hk
    obtain⟨k,rfl⟩:∃ q,k=q+1:=⟨k - 1,by omega⟩
    have hlt:i < x0.length:=by omega
    have hlo:(Tx.ord eltS (x0.take i)).length≤N:=Nat.le_trans (Tx.ord_len _) (by rw[List.length_take];omega)
    have ht:x0.take (i+1)=x0.take i++[x0[i]]:=List.take_succ_eq_append_getElem hlt
    have ih1:=fun k=>ih (i+1) k (by omega) (by omega)
    rw[yf_.l0,if_pos (by omega)]
    obtain⟨k1,h1,h2⟩:=ordered_l1 x0 (by omega) i hlt (Tx.ord eltS (x0.take i)) (by omega) _ 0 k (m * (2 * N+5)+1+(N+2)) false rfl (by omega) (by omega)
    rw[show ((0:Nat):Int)=0 from rfl,List.drop_zero] at h2
    rw[h2]
    by_cases q:x0[i]∈Tx.ord eltS (x0.take i)
    · rw[if_pos (Or.inr q)]
      have:=ih1 k1 (by omega)
      rw[ht,Tx.ord_snoc_mem y3_ ((Tx.yGb_ y3_).1 q)] at this
      exact this
    rw[if_neg (by rintro (c|c);cases c;exact q c)]
    obtain⟨k2,L,g1,g2,g3,g4⟩:=ordered_l2 x0 i (by omega) (Tx.ord eltS (x0.take i)).length k1 (m * (2 * N+5)+1) (Tx.ord eltS (x0.take i)) x0[i] [] rfl (by rw[List.append_nil];exact Tx.y6b_ y3_) (fun c m=>by cases m) q (by rw[List.length_nil];omega) (by omega)
    rw[g2]
    have e:L=Tx.ord eltS (x0.take (i+1)):=Tx.y0b_ y3_ g3 (fun a=>by
      rw[g4 a,ht,List.mem_append,List.mem_append,Tx.yGb_ y3_])
    rw[e]
    exact ih1 k2 (by omega)
theorem ordered_f (x0:List S91) (N:Nat) (hN:x0.length≤N) (hN2:N≤1000000) (k:Nat) (hk:N * (2 * N+5)+1≤k):yf_.f k x0=some (Tx.ord eltS x0):=by
  have h:=ordered_l0 x0 N hN hN2 x0.length 0 k (by omega) (by omega) (Nat.le_trans (Nat.add_le_add_right (Nat.mul_le_mul_right _ hN) 1) hk)
  exact h
end Go.Proofs.YthimblhfjfngiaaGreat.PText

namespace Go.Proofs.YthimblhfjfngiaaGreat.PText
open Go.RowKit Go.Lib Go.Proofs.YthimblhfjfngiaaGreatW.PrintWords Go.Proofs.YthimblhfjfngiaaGreatW.PrintLast Go.Proofs.YthimblhfjfngiaaGreatW.PrintMore
/-- two edits that do not go together -/
def clE (x y:S91):Bool:=decide (x≠y) && Tx.touch (toE x) (toE y)
theorem fine_l0 (s:ByteArray) (l:List S91) (hl:l.length≤1000000):∀ (m i k B:Nat),l.length - i=m→i≤l.length→m+1+B≤k →
    ∃ k',B≤k'∧yg_.l0 k s l (i:Int)=if (l.drop i).any (badE s.size)=true then some 1 else yg_.l1 k' l 0:=by
  intro m
  induction m with
  | zero =>
    intro i k B hm hi hk
    obtain⟨k,rfl⟩:∃ q,k=q+1:=⟨k - 1,by omega⟩
    refine⟨k,by omega,?_⟩
    rw[yg_.l0,if_neg (by omega),List.drop_of_length_le (by omega)]
    rfl
  | succ m ih =>
    intro i k B hm hi hk
    obtain⟨k,rfl⟩:∃ q,k=q+1:=⟨k - 1,by omega⟩
    have hlt:i < l.length:=by omega
    have hd:l.drop i=l[i] :: l.drop (i+1):=List.drop_eq_getElem_cons hlt
    obtain⟨k',h1,h2⟩:=ih (i+1) k B (by omega) (by omega) (by omega)
    refine⟨k',h1,?_⟩
    rw[yg_.l0,if_pos (by omega),if_pos (by omega),yzb_ l i hlt,nx i (by omega),h2,hd,List.any_cons]
    unfold badE
    by_cases c1:l[i].f0 < 0
    · rw[if_pos c1];simp [c1]
    rw[if_neg c1]
    by_cases c2:l[i].f1 > (s.size:Int)
    · rw[if_pos c2];simp [c2]
    rw[if_neg c2]
    by_cases c3:l[i].f0 > l[i].f1
    · rw[if_pos c3];simp [c3]
    rw[if_neg c3]
    have d1:decide (l[i].f0 < 0)=false:=decide_eq_false c1
    have d2:decide ((s.size:Int) < l[i].f1)=false:=decide_eq_false (by omega)
    have d3:decide (l[i].f1 < l[i].f0)=false:=decide_eq_false (by omega)
    rw[d1,d2,d3]
    rfl
theorem fine_l2 (l:List S91) (hl:l.length≤1000000) (i:Nat) (hi:i < l.length):∀ (m j k B:Nat),i - j=m→j≤i→m+2+B≤k →
    ((∃ q,∃ _:q < l.length,q < i∧clE l[i] l[q]=true)∧yg_.l2 k l (i:Int) (j:Int)=some 10) ∨
    ((∀ q,∀ _:q < l.length,j≤q→q < i→clE l[i] l[q]=false)∧∃ k',B≤k'∧yg_.l2 k l (i:Int) (j:Int)=yg_.l1 k' l ((i+1:Nat):Int)):=by
  intro m
  induction m with
  | zero =>
    intro j k B hm hj hk
    obtain⟨k,rfl⟩:∃ q,k=q+1:=⟨k - 1,by omega⟩
    refine .inr ⟨fun q _ h1 h2=>by omega,k,by omega,?_⟩
    rw[yg_.l2,if_neg (by omega),nx i (by omega)]
  | succ m ih =>
    intro j k B hm hj hk
    obtain⟨k,rfl⟩:∃ q,k=q+2:=⟨k - 2,by omega⟩
    have hlt:j < l.length:=by omega
    have hh:=ih (j+1) (k+1) B (by omega) (by omega) (by omega)
    rw[yg_.l2,if_pos (by omega),if_pos (by omega),if_pos (by omega),if_pos (by omega),if_pos (by omega),yzb_ l i hi,yzb_ l j hlt,neS34,nx j (by omega),touch_f,Option.bind_some]
    by_cases c1:l[i]≠l[j]
    rotate_left
    · rw[if_neg (show ¬ (decide (l[i]≠l[j])=true) by rw[decide_eq_false c1];decide)]
      have c3:clE l[i] l[j]=false:=by unfold clE;rw[decide_eq_false c1,Bool.false_and]
      rcases hh with ⟨h1,h2⟩|⟨h1,h2⟩
      · exact .inl ⟨h1,h2⟩
      · refine .inr ⟨fun q hq g1 g2=>?_,h2⟩
        rcases Nat.eq_or_lt_of_le g1 with e|e
        · subst e;exact c3
        · exact h1 q hq e g2
    rw[if_pos (decide_eq_true c1)]
    cases c2:Tx.touch (toE l[i]) (toE l[j]) with
    | true =>
      rw[if_pos rfl]
      exact .inl ⟨⟨j,hlt,by omega,by unfold clE;rw[c2,decide_eq_true c1];rfl⟩,rfl⟩
    | false =>
      rw[if_neg (show ¬ (false=true) by decide)]
      have c3:clE l[i] l[j]=false:=by unfold clE;rw[c2,Bool.and_false]
      rcases hh with ⟨h1,h2⟩|⟨h1,h2⟩
      · exact .inl ⟨h1,h2⟩
      · refine .inr ⟨fun q hq g1 g2=>?_,h2⟩
        rcases Nat.eq_or_lt_of_le g1 with e|e
        · subst e;exact c3
        · exact h1 q hq e g2
theorem fine_l1 (l:List S91) (N:Nat) (hN:l.length≤N) (hN2:N≤1000000):∀ (m i k:Nat),l.length - i=m→i≤l.length→m * (N+4)+1≤k →
    ((∃ p,∃ _:p < l.length,∃ q,∃ _:q < l.length,clE l[p] l[q]=true)∧yg_.l1 k l (i:Int)=some 10) ∨
    ((∀ p,∀ _:p < l.length,∀ q,∀ _:q < l.length,i≤p→q < p→clE l[p] l[q]=false)∧yg_.l1 k l (i:Int)=some 0):=by
  intro m
  induction m with
  | zero =>
    intro i k hm hi hk
    obtain⟨k,rfl⟩:∃ q,k=q+1:=⟨k - 1,by omega⟩
    refine .inr ⟨fun p _ q _ h1 h2=>by omega,?_⟩
    rw[yg_.l1,if_neg (by omega)]
  | succ m ih =>
    intro i k hm hi hk
    rw[Nat.succ_mul] at hk
    obtain⟨k,rfl⟩:∃ q,k=q+1:=⟨k - 1,by omega⟩
    have hlt:i < l.length:=by omega
    rw[yg_.l1,if_pos (by omega)]
    rcases fine_l2 l (by omega) i hlt i 0 k (m * (N+4)+1) (by omega) (by omega) (by omega) with ⟨⟨q,hq,h1,h2⟩,h3⟩|⟨h1,k',h2,h3⟩
    · exact .inl ⟨⟨i,hlt,q,hq,h2⟩,h3⟩
    · rw[show (0:Int)=((0:Nat):Int) from rfl,h3]
      rcases ih (i+1) k' (by omega) (by omega) h2 with ⟨g1,g2⟩|⟨g1,g2⟩
      · exact .inl ⟨g1,g2⟩
      · refine .inr ⟨fun p hp q hq e1 e2=>?_,g2⟩
        rcases Nat.eq_or_lt_of_le e1 with e|e
        · subst e;exact h1 q hq (Nat.zero_le _) e2
        · exact g1 p hp q hq e e2
theorem clE_symm (x y:S91):clE x y=clE y x:=by
  unfold clE
  rw[Tx.touch_symm,show decide (x≠y)=decide (y≠x) from decide_eq_decide.2 ⟨fun h e=>h e.symm,fun h e=>h e.symm⟩]
theorem fine_f (s:ByteArray) (l:List S91) (N:Nat) (hN:l.length≤N) (hN2:N≤1000000) (k:Nat) (hk:N * (N+4)+N+5≤k):yg_.f k s l=some (fineE s.size l):=by
  obtain⟨k,rfl⟩:∃ q,k=q+1:=⟨k - 1,by omega⟩
  have hmul:l.length * (N+4)≤N * (N+4):=Nat.mul_le_mul_right _ hN
  unfold yg_.f fineE
  by_cases c1:200000 < s.size
  · rw[if_pos (by omega),if_pos (Or.inl c1),yg_.j0,if_pos rfl]
  rw[if_neg (by omega)]
  by_cases c2:10000 < l.length
  · rw[if_pos (Or.inr c2),yg_.j0,if_pos (decide_eq_true (by omega))]
  rw[if_neg (show ¬ (200000 < s.size∨10000 < l.length) by rintro (q|q);exact c1 q;exact c2 q),yg_.j0,if_neg (show ¬ (decide ((l.length:Int) > 10000)=true) by rw[decide_eq_false (by omega)];decide)]
  obtain⟨k',h1,h2⟩:=fine_l0 s l (by omega) l.length 0 k (l.length * (N+4)+1) (by omega) (by omega) (by omega)
  rw[show ((0:Nat):Int)=0 from rfl,List.drop_zero] at h2
  rw[h2]
  by_cases c3:l.any (badE s.size)=true
  · rw[if_pos c3,if_pos c3]
  rw[if_neg c3,if_neg c3]
  have hok:Tx.Okay (s.size:Int) ((Tx.ord eltS l).map toE):=fun e he=>by
    obtain⟨x,hx,rfl⟩:=List.mem_map.1 he
    have hx':=(Tx.yGb_ y3_).1 hx
    have hb:badE s.size x=false:=by
      cases q:badE s.size x with
      | false=>rfl
      | true=>exact absurd (List.any_eq_true.2 ⟨x,hx',q⟩) c3
    unfold badE at hb
    simp only[Bool.or_eq_false_iff,decide_eq_false_iff_not] at hb
    show 0≤x.f0∧x.f0≤x.f1∧x.f1≤(s.size:Int)
    omega
  have hasc:Tx.Asc Tx.elt ((Tx.ord eltS l).map toE):=List.pairwise_map.2 (Tx.y6b_ y3_)
  have hci:=Tx.clash_iff hok hasc
  rcases fine_l1 l N hN hN2 l.length 0 k' (by omega) (by omega) h1 with ⟨⟨p,hp,q,hq,g1⟩,g2⟩|⟨g1,g2⟩
  · rw[show ((0:Nat):Int)=0 from rfl] at g2
    rw[g2,if_pos]
    unfold clE at g1
    rw[Bool.and_eq_true] at g1
    refine hci.2 ⟨_,List.mem_map.2 ⟨l[p],(Tx.yGb_ y3_).2 (List.getElem_mem hp),rfl⟩,_,List.mem_map.2 ⟨l[q],(Tx.yGb_ y3_).2 (List.getElem_mem hq),rfl⟩,fun e=>of_decide_eq_true g1.1 (toE_inj e),g1.2⟩
  · rw[show ((0:Nat):Int)=0 from rfl] at g2
    rw[g2,if_neg]
    intro hc
    obtain⟨a,ha,b,hb,hab,ht⟩:=hci.1 hc
    obtain⟨x,hx,rfl⟩:=List.mem_map.1 ha
    obtain⟨y,hy,rfl⟩:=List.mem_map.1 hb
    obtain⟨p,hp,rfl⟩:=List.mem_iff_getElem.1 ((Tx.yGb_ y3_).1 hx)
    obtain⟨q,hq,rfl⟩:=List.mem_iff_getElem.1 ((Tx.yGb_ y3_).1 hy)
    have hcl:clE l[p] l[q]=true:=by
      unfold clE
      rw[ht,Bool.and_true]
      exact decide_eq_true (fun e=>hab (by rw[e]))
    rcases Nat.lt_trichotomy p q with e|e|e
    · have:=g1 q hq p hp (Nat.zero_le _) e
      rw[clE_symm,hcl] at this;cases this
    · subst e;exact hab rfl
    · have:=g1 p hp q hq (Nat.zero_le _) e
      rw[hcl] at this;cases this
end Go.Proofs.YthimblhfjfngiaaGreat.PText

namespace Go.Proofs.YthimblhfjfngiaaGreat.PText
open Go Go.RowKit
/-- the box Bc is kept, whatever it holds -/
def yEb_ (Bc:Nat) (t:TypeId) (W W':World):Prop:=∀ v,Boxed W Bc t v→Boxed W' Bc t v
theorem yEb_.trans {Bc:Nat} {t:TypeId} {A B C:World} (h:yEb_ Bc t A B) (k:yEb_ Bc t B C):yEb_ Bc t A C:=fun v q=>k v (h v q)
theorem yEb_.putObj {Bc:Nat} {t:TypeId} (W:World) {l:Nat} {o:Obj} (o':Obj) (h:W.heap[l]?=some o) (hc:o.isCells=false):yEb_ Bc t W (W.putObj l o'):=fun v q =>
  q.kept (grownBy_putObj' W l o') (fun e=>by cases e;rw[show W.heap[Bc]?=_ from q] at h;cases h;cases hc)
/-- the contract of such an iterator: whatever J tells of the world and abides new blocks and stores into the box, each round adds an element, and J comes to hold of all of them -/
def SeqCell {α:Type} (F:Fence) (n:Nat) (P:Program) (g:Nat) (lb:Array Value) (encs:α→Array Value) (Bc:Nat) (t:TypeId) (v0:Value) (xs:List α):Prop :=
  ∀ (l:Nat) (J:List α→World→Prop) (W:World),AbidesFrom W.heap.size J→(∀ s W v,J s W→J s (W.setCell ⟨Bc,0,none⟩ v)) →
    (∀ pre x W1,(∃ post,pre++x :: post=xs)→J pre W1→YieldAt F (n - 1) P l (encs x) W1 fun e W'=>e=.returned (.bool true)∧J (pre++[x]) W'∧yEb_ Bc t W1 W') →
    Boxed W Bc t v0→J [] W →
    CallsIn F n P g (#[.func (.yield l) #[] #[]]++lb) W fun e W'=>(∃ v,e=.returned v)∧J xs W'
variable {F : Fence} {n : Nat} {P : Program}
def cellPost {α:Type} (Bc:Nat) (t:TypeId) (I:List α→World→Prop) (xs:List α) (W:World):Exit→Act→World→Prop
  | .normal,_,W'=>KeepsOthers W W'∧yEb_ Bc t W W'∧I xs W'
  | _,_,_=>False
theorem wpIn_rangeFunc_cell {α:Type} {g:Operand} {ps:Array Tmp} {assign body:Code} {Q:Exit→Act→World→Prop} {a:Act} {w:World}
    (hro:F.round=none) (h1:1≤n) {gf:Nat} {lb:Array Value} (hg:a.eval g=.func (.func gf) #[] lb) (hFg:F.fn gf) (eg:∀ args w,(callFunc gf args).run P w=.ok (.enter gf args) w)
    {encs:α→Array Value} {Bc:Nat} {t:TypeId} {v0:Value} {xs:List α} (hseq:SeqCell F (n - 1) P gf lb encs Bc t v0 xs) (hbox:Boxed w Bc t v0)
    (hps:∀ x,(encs x).size=ps.size)
    (I:List α→World→Prop) (hI:OwnFrom w.heap.size I) (hIc:∀ s W v,I s W→I s (W.setCell ⟨Bc,0,none⟩ v)) (h0:I [] w) (a₁:α→Act)
    (hassign:∀ (l:Nat) (x:α) (W:World) (K:Act→World→Prop),K (a₁ x) W →
      assign.wpIn (F.inRound l) (n - 1 - 1) P (Exit.then K (fun _ _ _=>False)) { tmps:=(ps.zip (encs x)).foldl (fun t (p,v)=>t.setIfInBounds p v) a.tmps,defers:=[] } W)
    (hbody:∀ (l:Nat) (pre:List α) (x:α) (W:World),(∃ post,pre++x :: post=xs)→I pre W→body.wpIn (F.inRound l) (n - 1 - 1) P (cellPost Bc t I (pre++[x]) W) (a₁ x) W)
    (hdone:∀ (D:Nat) (W:World),w.heap.size≤D→I xs W→W.heap[D]?=some (.deferred (some []))→Q .normal { a with defers:={ target:=.collected D,args:=#[] } :: a.defers } W) :
    (Code.rangeFunc g ps assign body).wpIn F n P Q a w:=by
  refine wpIn_rangeFunc ?_
  intro fn hfn
  rw[hro]
  obtain⟨rec,hrec⟩:∃ rec:LoopState→Option Code→Loop,rec=fun st pe=>{ state:=st,pending:=pe,fn,tmps:=a.tmps,params:=ps,assign,body,defers:=w.heap.size }:=⟨_,rfl⟩
  obtain⟨W1,hW1⟩:∃ W1,(w.alloc (.deferred (some []))).alloc (.loop (rec .ready none))=W1:=⟨_,rfl⟩
  have hL1:W1.heap[w.heap.size+1]?=some (.loop (rec .ready none)):=by
    rw[← hW1];have:=World.alloc_heap_new (w.alloc (.deferred (some []))) (.loop (rec .ready none));rwa [World.size_alloc] at this
  have hK1:W1.heap[w.heap.size]?=some (.deferred (some [])):=by
    rw[← hW1];exact (Below.heap_alloc _ _ _ (by simp)).trans (World.alloc_heap_new w _)
  have hI1:I [] W1:=by rw[← hW1];exact hI.alloc _ (hI.alloc _ h0)
  have hx1:Boxed W1 Bc t v0:=by rw[← hW1];exact (hbox.alloc _).alloc _
  have hBc:=hbox.lt
  refine⟨w.heap.size+1,[{ target:=.collected w.heap.size,args:=#[] }],W1,{ target:=.fn (.func gf) lb,args:=#[.func (.yield (w.heap.size+1)) #[] #[]] },W1,gf,
    #[.func (.yield (w.heap.size+1)) #[] #[]]++lb,W1,?_,?_,?_,?_,fun _=>h1,?_⟩
  · rw[← hW1,hrec];exact run_enterLoop_outer _ _ _ _ _
  · simp only[resolve,hg]
    simp [go_sem]
  · intro f' hf';simp [Target.leads] at hf';subst hf';exact hFg
  · simp [invoke,go_sem,eg]
  · have hnw:∀ {A B:World} {row:Option Nat},(∀ r,row=some r→W1.heap.size≤r∧∃ o:Obj,A.heap[r]?=some o∧o.isWalk=true)→(∀ r,row=some r→w.heap.size≤r∧∃ o:Obj,A.heap[r]?=some o∧o.isCells=false) :=
      fun hr r e=>by obtain⟨hB,o,ho,hw⟩:=hr r e;exact⟨by rw[← hW1] at hB;simp at hB;omega,o,ho,Obj.not_cells_of_walk hw⟩
    have hset:∀ (W:World) (v:Value) (k:Nat) (o:Obj),w.heap.size≤k→W.heap[k]?=some o→(W.setCell ⟨Bc,0,none⟩ v).heap[k]?=some o:=fun W v k o hk ho =>
      (Below.heap_setCell _ _ _ k (fun e=>by simp at e;omega)).trans ho
    refine (hseq (w.heap.size+1)
      (fun pre W=>I pre W∧W.heap[w.heap.size+1]?=some (.loop (rec .ready none))∧W.heap[w.heap.size]?=some (.deferred (some [])))
      W1
      (fun s A B row hs hg' hr=>⟨hI s A B row hs.1 hg' (hnw (B:=B) hr),(grownBy_keeps hg' (fun r e=>(hr r e).2) hs.2.1 rfl).trans hs.2.1,(grownBy_keeps hg' (fun r e=>(hr r e).2) hs.2.2 rfl).trans hs.2.2⟩)
      (fun s A v hs=>⟨hIc s A v hs.1,hset A v _ _ (by omega) hs.2.1,hset A v _ _ (Nat.le_refl _) hs.2.2⟩)
      ?_ hx1 ⟨hI1,hL1,hK1⟩).mono ?_
    · rintro pre x W hpost ⟨hi,hl,hk⟩
      have hlt:w.heap.size+1 < W.heap.size:=(Array.getElem?_eq_some_iff.1 hl).1
      have hy:=run_yield (P:=P) (args:=encs x) hl (by rw[hrec];exact hps x)
      rw[hrec] at hy
      refine⟨fn,_,assign,body,hy,roundIn_of_wpIn hfn (hassign _ x W _ ⟨_,run_beginRound hl (by rw[hrec]),?_⟩)⟩
      have hl2:(W.putObj (w.heap.size+1) (.loop { rec .ready none with state:=.busy })).heap[w.heap.size+1]?=some (.loop { rec .ready none with state:=.busy }):=World.putObj_heap_same hlt
      have hk2:(W.putObj (w.heap.size+1) (.loop { rec .ready none with state:=.busy })).heap[w.heap.size]?=some (.deferred (some [])):=(World.putObj_heap_other (by omega)).trans hk
      have hw2:yEb_ Bc t W (W.putObj (w.heap.size+1) (.loop { rec .ready none with state:=.busy })):=yEb_.putObj _ _ hl rfl
      refine wpIn_mono (hbody _ pre x _ hpost (hI.putObj _ hi (by omega) hl rfl)) ?_
      rintro e a3 W3 hp
      cases e with
      | normal =>
        obtain⟨hk3,hkp3,hi3⟩:=hp
        have hl3:=hk3.same _ _ hl2 rfl
        have hr:=run_endRound (P:=P) none hl3
        rw[hrec] at hr
        refine⟨_,_,hr,rfl,⟨hI.putObj _ hi3 (by omega) hl3 rfl,?_,(World.putObj_heap_other (by omega)).trans (hk3.same _ _ hk2 rfl)⟩,hw2.trans (hkp3.trans (yEb_.putObj _ _ hl3 rfl))⟩
        rw[hrec]
        exact World.putObj_heap_same (Array.getElem?_eq_some_iff.1 hl3).1
      | ret=>exact hp.elim
      | exit id=>exact hp.elim
      | goto t=>exact hp.elim
      | panic ch=>exact hp.elim
      | outgrown=>exact hp.elim
    · rintro e W2 ⟨⟨v,rfl⟩,hi,hl,hk⟩
      exact⟨none,_,by have:=run_endLoop (P:=P) hl (by rw[hrec];simp);rw[hrec] at this;exact this,hdone _ _ (Nat.le_refl _) (hI.putObj _ hi (by omega) hl rfl) ((World.putObj_heap_other (by omega)).trans hk)⟩
end Go.Proofs.YthimblhfjfngiaaGreat.PText

namespace Go.Proofs
open Go.Shelf
def Tryz.lays170_ren:Go.Shelf.Ren:=⟨fun|170=>77|n=>n,fun|70=>128|3=>3|0=>0|72=>131|37=>129|5=>5|n=>n,fun|n=>n⟩
theorem Tryz.lays170:Go.Proofs.Lays.n170 Tryz.prog Tryz.lays170_ren:={
  mixed:=by kernel_rfl
  f170:=Tryz.func77.trans (congrArg some ze_)
  t0:=Tryz.underlying0
  a0:=Tryz.isAgg0
  z0:=Tryz.sizeOf0
  v0:=Tryz.zeroValue0
  t3:=Tryz.underlying3
  a3:=Tryz.isAgg3
  z3:=Tryz.sizeOf3
  v3:=Tryz.zeroValue3
  t37:=Tryz.underlying129
  a37:=Tryz.isAgg129
  z37:=Tryz.sizeOf129
  v37:=Tryz.zeroValue129
  t70:=Tryz.underlying128
  a70:=Tryz.isAgg128
  z70:=Tryz.sizeOf128
  v70:=Tryz.zeroValue128
  t72:=Tryz.underlying131
  a72:=Tryz.isAgg131
  z72:=Tryz.sizeOf131
  v72:=Tryz.zeroValue131 }
def Tryz.lays169_ren:Go.Shelf.Ren:=⟨fun|169=>78|n=>n,fun|70=>128|9=>9|0=>0|72=>131|37=>129|127=>163|3=>3|5=>5|n=>n,fun|n=>n⟩
theorem Tryz.lays169:Go.Proofs.Lays.n169 Tryz.prog Tryz.lays169_ren:={
  mixed:=by kernel_rfl
  f169:=Tryz.func78.trans (congrArg some ze_)
  t0:=Tryz.underlying0
  a0:=Tryz.isAgg0
  z0:=Tryz.sizeOf0
  v0:=Tryz.zeroValue0
  t3:=Tryz.underlying3
  a3:=Tryz.isAgg3
  z3:=Tryz.sizeOf3
  v3:=Tryz.zeroValue3
  t9:=Tryz.underlying9
  a9:=Tryz.isAgg9
  z9:=Tryz.sizeOf9
  v9:=Tryz.zeroValue9
  t37:=Tryz.underlying129
  a37:=Tryz.isAgg129
  z37:=Tryz.sizeOf129
  v37:=Tryz.zeroValue129
  t70:=Tryz.underlying128
  a70:=Tryz.isAgg128
  z70:=Tryz.sizeOf128
  v70:=Tryz.zeroValue128
  t72:=Tryz.underlying131
  a72:=Tryz.isAgg131
  z72:=Tryz.sizeOf131
  v72:=Tryz.zeroValue131
  t127:=Tryz.underlying163
  a127:=Tryz.isAgg163
  z127:=Tryz.sizeOf163
  v127:=Tryz.zeroValue163 }
theorem Tryz.Builder_Extra_169:Builder.Extra Tryz.prog Tryz.lays169_ren:={
  sizeBuilder:=by kernel_rfl
  liesBuilder:=by kernel_rfl
  t5:=Tryz.underlying5
  a5:=Tryz.isAgg5
  z5:=Tryz.sizeOf5
  v5:=Tryz.zeroValue5
  infoByte:=by kernel_rfl
  cellsByte:=by kernel_rfl
  sizeByte:=by kernel_rfl
  neB5:=by decide }
def Tryz.lays137_ren:Go.Shelf.Ren:=⟨fun|137=>71|217=>102|266=>121|n=>n,fun|9=>9|5=>5|3=>3|n=>n,fun|n=>n⟩
theorem Tryz.lays137:Go.Proofs.Lays.n137 Tryz.prog Tryz.lays137_ren:={
  mixed:=by kernel_rfl
  f137:=Tryz.func71.trans (congrArg some ze_)
  f217:=Tryz.func102.trans (congrArg some ze_)
  f266:=Tryz.func121.trans (congrArg some ze_)
  t3:=Tryz.underlying3
  a3:=Tryz.isAgg3
  z3:=Tryz.sizeOf3
  v3:=Tryz.zeroValue3
  t5:=Tryz.underlying5
  a5:=Tryz.isAgg5
  z5:=Tryz.sizeOf5
  v5:=Tryz.zeroValue5
  t9:=Tryz.underlying9
  a9:=Tryz.isAgg9
  z9:=Tryz.sizeOf9
  v9:=Tryz.zeroValue9 }
open Go.RowKit in
theorem Tryz.strings_IndexByte (s:ByteArray) (c:Int) (w:World) :
    Calls Tryz.prog 71 #[.string s,.int .u8 c] w fun e w'=>e=.returned (.int .i64 (Lib.indexByte s.data.toList c.toNat.toUInt8))∧w'=w:=Any.strings_IndexByte Tryz.lays137 s c w
def Tryz.lays215_ren:Go.Shelf.Ren:=⟨fun|215=>137|n=>n,fun|3=>3|4=>4|n=>n,fun|n=>n⟩
theorem Tryz.lays215:Go.Proofs.Lays.n215 Tryz.prog Tryz.lays215_ren:={
  mixed:=by kernel_rfl
  f215:=Tryz.func137.trans (congrArg some ze_)
  t3:=Tryz.underlying3
  a3:=Tryz.isAgg3
  z3:=Tryz.sizeOf3
  v3:=Tryz.zeroValue3
  t4:=Tryz.underlying4
  a4:=Tryz.isAgg4
  z4:=Tryz.sizeOf4
  v4:=Tryz.zeroValue4 }
open Go.RowKit in
theorem Tryz.cmp_isNaN_int (x:Int) (w:World) :
    Calls Tryz.prog 137 #[.int .i64 x] w fun e w'=>e=.returned (.bool false)∧w'=w:=Any.cmp_isNaN_int Tryz.lays215 x w
def Tryz.lays122_ren:Go.Shelf.Ren:=⟨fun|122=>124|215=>137|n=>n,fun|3=>3|4=>4|n=>n,fun|n=>n⟩
theorem Tryz.lays122:Go.Proofs.Lays.n122 Tryz.prog Tryz.lays122_ren:={
  mixed:=by kernel_rfl
  f122:=Tryz.func124.trans (congrArg some ze_)
  f215:=Tryz.func137.trans (congrArg some ze_)
  t3:=Tryz.underlying3
  a3:=Tryz.isAgg3
  z3:=Tryz.sizeOf3
  v3:=Tryz.zeroValue3
  t4:=Tryz.underlying4
  a4:=Tryz.isAgg4
  z4:=Tryz.sizeOf4
  v4:=Tryz.zeroValue4 }
open Go.RowKit in
theorem Tryz.cmp_Compare_int (x y:Int) (w:World) :
    Calls Tryz.prog 124 #[.int .i64 x,.int .i64 y] w fun e w'=>e=.returned (.int .i64 (Lib.compareInt x y))∧w'=w:=Any.cmp_Compare_int Tryz.lays122 x y w
open Go.RowKit in
theorem Tryz.Builder_Len_f (B b:Nat) (bs:List Value) (w:World) (h:Lib.IsBuilderF 131 5 B b bs w) :
    Calls Tryz.prog 77 #[.pointer (some ⟨b,0,none⟩)] w fun e w'=>e=.returned (.int .i64 bs.length)∧w'=w:=Any.Builder_Len_f Tryz.lays170 B b bs w h
open Go.RowKit in
theorem Tryz.Builder_String_any_k (B b:Nat) (l:List UInt8) (w:World) (h:Lib.IsBuilderF 131 5 B b (Lib.byteCells l) w) (hBw:B≤w.heap.size) :
    Calls Tryz.prog 78 #[.pointer (some ⟨b,0,none⟩)] w fun e w'=>e=.returned (.string ⟨l.toArray⟩)∧(Lib.IsBuilderF 131 5 B b (Lib.byteCells l) w'∧Below B w w'∧Lib.OthersKept 5 (some b) w w'):=Any.Builder_String_any_k Tryz.lays169 Tryz.Builder_Extra_169 B b l w h hBw
def Tryz.sortEd_ren:Go.Shelf.Ren:=⟨fun|6=>107|15=>66|14=>122|28=>91|29=>92|20=>129|21=>130|22=>131|23=>132|24=>133|25=>134|26=>135|27=>136|46=>138|47=>114|48=>115|49=>139|50=>140|57=>141|n=>n,fun|22=>68|24=>91|25=>162|3=>3|39=>112|0=>0|53=>150|55=>152|4=>4|46=>143|45=>142|50=>147|5=>5|9=>9|66=>164|70=>168|76=>177|77=>178|n=>n,fun|n=>n⟩
theorem Tryz.sortEd:Go.Proofs.SlLaysF0.n6 Tryz.prog Tryz.sortEd_ren:={
  mixed:=by kernel_rfl
  f6:=⟨Tryz.f107.name,by decide,Tryz.func107.trans (congrArg some ze_)⟩
  f14:=⟨Tryz.f122.name,by decide,Tryz.func122.trans (congrArg some ze_)⟩
  f15:=Tryz.func66.trans (congrArg some ze_)
  f20:=⟨Tryz.f129.name,by decide,Tryz.func129.trans (congrArg some ze_)⟩
  f21:=⟨Tryz.f130.name,by decide,Tryz.func130.trans (congrArg some ze_)⟩
  f22:=⟨Tryz.f131.name,by decide,Tryz.func131.trans (congrArg some ze_)⟩
  f23:=⟨Tryz.f132.name,by decide,Tryz.func132.trans (congrArg some ze_)⟩
  f24:=⟨Tryz.f133.name,by decide,Tryz.func133.trans (congrArg some ze_)⟩
  f25:=⟨Tryz.f134.name,by decide,Tryz.func134.trans (congrArg some ze_)⟩
  f26:=⟨Tryz.f135.name,by decide,Tryz.func135.trans (congrArg some ze_)⟩
  f27:=⟨Tryz.f136.name,by decide,Tryz.func136.trans (congrArg some ze_)⟩
  f28:=Tryz.func91.trans (congrArg some ze_)
  f29:=Tryz.func92.trans (congrArg some ze_)
  f46:=⟨Tryz.f138.name,by decide,Tryz.func138.trans (congrArg some ze_)⟩
  f47:=Tryz.func114.trans (congrArg some ze_)
  f48:=Tryz.func115.trans (congrArg some ze_)
  f49:=⟨Tryz.f139.name,by decide,Tryz.func139.trans (congrArg some ze_)⟩
  f50:=⟨Tryz.f140.name,by decide,Tryz.func140.trans (congrArg some ze_)⟩
  f57:=⟨Tryz.f141.name,by decide,Tryz.func141.trans (congrArg some ze_)⟩
  t0:=Tryz.underlying0
  a0:=Tryz.isAgg0
  z0:=Tryz.sizeOf0
  v0:=Tryz.zeroValue0
  t3:=Tryz.underlying3
  a3:=Tryz.isAgg3
  z3:=Tryz.sizeOf3
  v3:=Tryz.zeroValue3
  t4:=Tryz.underlying4
  a4:=Tryz.isAgg4
  z4:=Tryz.sizeOf4
  v4:=Tryz.zeroValue4
  t5:=Tryz.underlying5
  a5:=Tryz.isAgg5
  z5:=Tryz.sizeOf5
  v5:=Tryz.zeroValue5
  t9:=Tryz.underlying9
  a9:=Tryz.isAgg9
  z9:=Tryz.sizeOf9
  v9:=Tryz.zeroValue9
  t22:=Tryz.underlying68
  a22:=Tryz.isAgg68
  z22:=Tryz.sizeOf68
  v22:=Tryz.zeroValue68
  t25:=Tryz.underlying162
  a25:=Tryz.isAgg162
  z25:=Tryz.sizeOf162
  v25:=Tryz.zeroValue162
  t39:=Tryz.underlying112
  a39:=Tryz.isAgg112
  z39:=Tryz.sizeOf112
  v39:=Tryz.zeroValue112
  t45:=Tryz.underlying142
  a45:=Tryz.isAgg142
  z45:=Tryz.sizeOf142
  v45:=Tryz.zeroValue142
  t46:=Tryz.underlying143
  a46:=Tryz.isAgg143
  z46:=Tryz.sizeOf143
  v46:=Tryz.zeroValue143
  t50:=Tryz.underlying147
  a50:=Tryz.isAgg147
  z50:=Tryz.sizeOf147
  v50:=Tryz.zeroValue147
  t53:=Tryz.underlying150
  a53:=Tryz.isAgg150
  z53:=Tryz.sizeOf150
  v53:=Tryz.zeroValue150
  t55:=Tryz.underlying152
  a55:=Tryz.isAgg152
  z55:=Tryz.sizeOf152
  v55:=Tryz.zeroValue152
  t66:=Tryz.underlying164
  a66:=Tryz.isAgg164
  z66:=Tryz.sizeOf164
  v66:=Tryz.zeroValue164
  t70:=Tryz.underlying168
  a70:=Tryz.isAgg168
  z70:=Tryz.sizeOf168
  v70:=Tryz.zeroValue168
  t76:=Tryz.underlying177
  a76:=Tryz.isAgg177
  z76:=Tryz.sizeOf177
  v76:=Tryz.zeroValue177
  t77:=Tryz.underlying178
  a77:=Tryz.isAgg178
  z77:=Tryz.sizeOf178
  v77:=Tryz.zeroValue178 }
def Tryz.containsEd_ren:Go.Shelf.Ren:=⟨fun|8=>58|6=>72|n=>n,fun|22=>68|23=>91|25=>104|4=>4|3=>3|0=>0|n=>n,fun|n=>n⟩
theorem Tryz.containsEd:Go.Proofs.SlLaysH0.n8 Tryz.prog Tryz.containsEd_ren:={
  mixed:=by kernel_rfl
  f6:=⟨Tryz.f72.name,by decide,Tryz.func72.trans (congrArg some ze_)⟩
  f8:=⟨Tryz.f58.name,by decide,Tryz.func58.trans (congrArg some ze_)⟩
  t0:=Tryz.underlying0
  a0:=Tryz.isAgg0
  z0:=Tryz.sizeOf0
  v0:=Tryz.zeroValue0
  t3:=Tryz.underlying3
  a3:=Tryz.isAgg3
  z3:=Tryz.sizeOf3
  v3:=Tryz.zeroValue3
  t4:=Tryz.underlying4
  a4:=Tryz.isAgg4
  z4:=Tryz.sizeOf4
  v4:=Tryz.zeroValue4
  t22:=Tryz.underlying68
  a22:=Tryz.isAgg68
  z22:=Tryz.sizeOf68
  v22:=Tryz.zeroValue68
  t25:=Tryz.underlying104
  a25:=Tryz.isAgg104
  z25:=Tryz.sizeOf104
  v25:=Tryz.zeroValue104 }
def Tryz.sortFi_ren:Go.Shelf.Ren:=⟨fun|6=>44|15=>66|14=>67|28=>91|29=>92|20=>93|21=>94|22=>95|23=>96|24=>97|25=>98|26=>99|27=>100|46=>118|47=>114|48=>115|49=>119|50=>120|57=>128|n=>n,fun|22=>37|24=>41|25=>86|3=>3|39=>112|0=>0|53=>150|55=>152|4=>4|46=>143|45=>142|50=>147|5=>5|9=>9|66=>164|70=>168|76=>177|77=>178|n=>n,fun|n=>n⟩
theorem Tryz.sortFi:Go.Proofs.SlLaysF0.n6 Tryz.prog Tryz.sortFi_ren:={
  mixed:=by kernel_rfl
  f6:=⟨Tryz.f44.name,by decide,Tryz.func44.trans (congrArg some ze_)⟩
  f14:=⟨Tryz.f67.name,by decide,Tryz.func67.trans (congrArg some ze_)⟩
  f15:=Tryz.func66.trans (congrArg some ze_)
  f20:=⟨Tryz.f93.name,by decide,Tryz.func93.trans (congrArg some ze_)⟩
  f21:=⟨Tryz.f94.name,by decide,Tryz.func94.trans (congrArg some ze_)⟩
  f22:=⟨Tryz.f95.name,by decide,Tryz.func95.trans (congrArg some ze_)⟩
  f23:=⟨Tryz.f96.name,by decide,Tryz.func96.trans (congrArg some ze_)⟩
  f24:=⟨Tryz.f97.name,by decide,Tryz.func97.trans (congrArg some ze_)⟩
  f25:=⟨Tryz.f98.name,by decide,Tryz.func98.trans (congrArg some ze_)⟩
  f26:=⟨Tryz.f99.name,by decide,Tryz.func99.trans (congrArg some ze_)⟩
  f27:=⟨Tryz.f100.name,by decide,Tryz.func100.trans (congrArg some ze_)⟩
  f28:=Tryz.func91.trans (congrArg some ze_)
  f29:=Tryz.func92.trans (congrArg some ze_)
  f46:=⟨Tryz.f118.name,by decide,Tryz.func118.trans (congrArg some ze_)⟩
  f47:=Tryz.func114.trans (congrArg some ze_)
  f48:=Tryz.func115.trans (congrArg some ze_)
  f49:=⟨Tryz.f119.name,by decide,Tryz.func119.trans (congrArg some ze_)⟩
  f50:=⟨Tryz.f120.name,by decide,Tryz.func120.trans (congrArg some ze_)⟩
  f57:=⟨Tryz.f128.name,by decide,Tryz.func128.trans (congrArg some ze_)⟩
  t0:=Tryz.underlying0
  a0:=Tryz.isAgg0
  z0:=Tryz.sizeOf0
  v0:=Tryz.zeroValue0
  t3:=Tryz.underlying3
  a3:=Tryz.isAgg3
  z3:=Tryz.sizeOf3
  v3:=Tryz.zeroValue3
  t4:=Tryz.underlying4
  a4:=Tryz.isAgg4
  z4:=Tryz.sizeOf4
  v4:=Tryz.zeroValue4
  t5:=Tryz.underlying5
  a5:=Tryz.isAgg5
  z5:=Tryz.sizeOf5
  v5:=Tryz.zeroValue5
  t9:=Tryz.underlying9
  a9:=Tryz.isAgg9
  z9:=Tryz.sizeOf9
  v9:=Tryz.zeroValue9
  t22:=Tryz.underlying37
  a22:=Tryz.isAgg37
  z22:=Tryz.sizeOf37
  v22:=Tryz.zeroValue37
  t25:=Tryz.underlying86
  a25:=Tryz.isAgg86
  z25:=Tryz.sizeOf86
  v25:=Tryz.zeroValue86
  t39:=Tryz.underlying112
  a39:=Tryz.isAgg112
  z39:=Tryz.sizeOf112
  v39:=Tryz.zeroValue112
  t45:=Tryz.underlying142
  a45:=Tryz.isAgg142
  z45:=Tryz.sizeOf142
  v45:=Tryz.zeroValue142
  t46:=Tryz.underlying143
  a46:=Tryz.isAgg143
  z46:=Tryz.sizeOf143
  v46:=Tryz.zeroValue143
  t50:=Tryz.underlying147
  a50:=Tryz.isAgg147
  z50:=Tryz.sizeOf147
  v50:=Tryz.zeroValue147
  t53:=Tryz.underlying150
  a53:=Tryz.isAgg150
  z53:=Tryz.sizeOf150
  v53:=Tryz.zeroValue150
  t55:=Tryz.underlying152
  a55:=Tryz.isAgg152
  z55:=Tryz.sizeOf152
  v55:=Tryz.zeroValue152
  t66:=Tryz.underlying164
  a66:=Tryz.isAgg164
  z66:=Tryz.sizeOf164
  v66:=Tryz.zeroValue164
  t70:=Tryz.underlying168
  a70:=Tryz.isAgg168
  z70:=Tryz.sizeOf168
  v70:=Tryz.zeroValue168
  t76:=Tryz.underlying177
  a76:=Tryz.isAgg177
  z76:=Tryz.sizeOf177
  v76:=Tryz.zeroValue177
  t77:=Tryz.underlying178
  a77:=Tryz.isAgg178
  z77:=Tryz.sizeOf178
  v77:=Tryz.zeroValue178 }
def Tryz.indexFi_ren:Go.Shelf.Ren:=⟨fun|6=>48|n=>n,fun|22=>37|23=>41|25=>88|3=>3|0=>0|4=>4|n=>n,fun|n=>n⟩
theorem Tryz.indexFi:Go.Proofs.SlLaysH0.n6 Tryz.prog Tryz.indexFi_ren:={
  mixed:=by kernel_rfl
  f6:=⟨Tryz.f48.name,by decide,Tryz.func48.trans (congrArg some ze_)⟩
  t0:=Tryz.underlying0
  a0:=Tryz.isAgg0
  z0:=Tryz.sizeOf0
  v0:=Tryz.zeroValue0
  t3:=Tryz.underlying3
  a3:=Tryz.isAgg3
  z3:=Tryz.sizeOf3
  v3:=Tryz.zeroValue3
  t4:=Tryz.underlying4
  a4:=Tryz.isAgg4
  z4:=Tryz.sizeOf4
  v4:=Tryz.zeroValue4
  t22:=Tryz.underlying37
  a22:=Tryz.isAgg37
  z22:=Tryz.sizeOf37
  v22:=Tryz.zeroValue37
  t25:=Tryz.underlying88
  a25:=Tryz.isAgg88
  z25:=Tryz.sizeOf88
  v25:=Tryz.zeroValue88 }
end Go.Proofs

namespace Go.Proofs
open Go.Shelf
def Tryz.lays166_ren:Go.Shelf.Ren:=⟨fun|166=>76|240=>110|276=>125|n=>n,fun|0=>0|3=>3|4=>4|5=>5|9=>9|20=>20|37=>129|70=>128|72=>131|75=>133|80=>137|164=>175|n=>n,fun|n=>n⟩
theorem Tryz.lays166:Go.Proofs.Lays.n166 Tryz.prog Tryz.lays166_ren:={
  mixed:=by kernel_rfl
  f166:=Tryz.func76.trans (congrArg some ze_)
  f240:=Tryz.func110.trans (congrArg some ze_)
  f276:=Tryz.func125.trans (congrArg some ze_)
  t0:=Tryz.underlying0
  a0:=Tryz.isAgg0
  z0:=Tryz.sizeOf0
  v0:=Tryz.zeroValue0
  t3:=Tryz.underlying3
  a3:=Tryz.isAgg3
  z3:=Tryz.sizeOf3
  v3:=Tryz.zeroValue3
  t4:=Tryz.underlying4
  a4:=Tryz.isAgg4
  z4:=Tryz.sizeOf4
  v4:=Tryz.zeroValue4
  t9:=Tryz.underlying9
  a9:=Tryz.isAgg9
  z9:=Tryz.sizeOf9
  v9:=Tryz.zeroValue9
  t20:=Tryz.underlying20
  a20:=Tryz.isAgg20
  z20:=Tryz.sizeOf20
  v20:=Tryz.zeroValue20
  t37:=Tryz.underlying129
  a37:=Tryz.isAgg129
  z37:=Tryz.sizeOf129
  v37:=Tryz.zeroValue129
  t70:=Tryz.underlying128
  a70:=Tryz.isAgg128
  z70:=Tryz.sizeOf128
  v70:=Tryz.zeroValue128
  t72:=Tryz.underlying131
  a72:=Tryz.isAgg131
  z72:=Tryz.sizeOf131
  v72:=Tryz.zeroValue131
  t75:=Tryz.underlying133
  a75:=Tryz.isAgg133
  z75:=Tryz.sizeOf133
  v75:=Tryz.zeroValue133
  t164:=Tryz.underlying175
  a164:=Tryz.isAgg175
  z164:=Tryz.sizeOf175
  v164:=Tryz.zeroValue175 }
theorem Tryz.Builder_Extra_166:Builder.Extra Tryz.prog Tryz.lays166_ren:={
  sizeBuilder:=by kernel_rfl
  liesBuilder:=by kernel_rfl
  t5:=Tryz.underlying5
  a5:=Tryz.isAgg5
  z5:=Tryz.sizeOf5
  v5:=Tryz.zeroValue5
  infoByte:=by kernel_rfl
  cellsByte:=by kernel_rfl
  sizeByte:=by kernel_rfl
  neB5:=by decide }
open Go.RowKit in
theorem Tryz.Builder_WriteString_k (B b:Nat) (bs:List Value) (s:ByteArray) (w:World) (h:Lib.IsBuilderF 131 5 B b bs w) (hlen:bs.length+s.size≤140737488355328) (hBw:B≤w.heap.size) :
    Calls Tryz.prog 76 #[.pointer (some ⟨b,0,none⟩),.string s] w fun e w'=>e=.returned (.tuple #[.int .i64 s.size,.nilIface])∧(Lib.BuilderAtF 131 5 B b (.pointer (some ⟨b,0,none⟩)) (bs++Lib.strCells s) w'∧Below B w w'∧Lib.OthersKept 5 (some b) w w'):=Any.Builder_WriteString_k Tryz.lays166 Tryz.Builder_Extra_166 B b bs s w h hlen hBw
end Go.Proofs

namespace Go.Proofs.YthimblhfjfngiaaGreat.PText
open Go.RowKit Go.Lib Go.Proofs.YthimblhfjfngiaaGreatW.PrintWords Go.Proofs.YthimblhfjfngiaaGreatW.PrintLast Go.Proofs.YthimblhfjfngiaaGreatW.PrintMore
set_option linter.unusedVariables false
set_option linter.unusedSimpArgs false
def yqb_.f (l0:List S91):Option (List S91):=if l0.length≤10000 then some (Tx.ord eltS l0) else none
theorem isAgg34:∀ w,(isAgg 91).run Tryz.prog w=.ok true w:=fun w=>by simp [isAgg,run_underlying Tryz.underlying91]
theorem sizeOf34:∀ w,(Go.sizeOf 91).run Tryz.prog w=.ok 3 w:=fun w=>by
  obtain⟨i0,hi,hz0,hz1,hz2⟩:=info_parts info91
  simp [Go.sizeOf,typeInfo,hi,hz1]
theorem ltOf_cfE':ltOf cfE=eltS:=by
  funext x y
  exact ltOf_cfE x y
theorem eltS_swo:Sort.SWO eltS where
  irrefl x:=y3_.irr x
  trans x y z h1 h2:=y3_.tr h1 h2
  ntrans x y z h1 h2:=by
    cases q:eltS x z with
    | false=>rfl
    | true =>
      cases q1:eltS y x with
      | true=>rw[y3_.tr q1 q] at h2;cases h2
      | false =>
        have e:=y3_.tri h1 q1
        rw[e] at q;rw[q] at h2;cases h2
/-- slices.SortFunc, at a row that is not empty -/
theorem sort_calls (g cap:Nat) (l:List S91) (w:World) (hH:Sort.HoldsK enc34 3 w g 0 l.toArray) (hb:g < w.heap.size) (hl:l.length≤10000) :
    Calls Tryz.prog 107 #[.slice (some ⟨g,0,none⟩) l.length cap,.func (.func 108) #[] #[]] w fun e w'=>e=.returned (.tuple #[]) ∧
      ∃ (d':Array S91) (n:Nat) (os:Array Obj),d'.size=l.length∧(∀ a,a∈d'.toList↔a∈l)∧(∀ i j,i < j→j < d'.size→eltS d'[j]! d'[i]! = false)∧w'=Sort.grow (Sort.putRowK enc34 3 (Sort.ahead w n) g 0 d') os:=by
  have eg:∀ args w,(callFunc 108 args).run Tryz.prog w=.ok (.enter 108 args) w:=enters_of Tryz.func108 ze_ rfl
  have hcmp:CmpLays Tryz.prog 108 #[] enc34 3 cfE g 0 l.toArray.size w:=fun m os dk _ x y=>ygb_.grows 8 x.f0 x.f1 x.f2 y.f0 y.f1 y.f2 (cfE x y) _ (order_f x y)
  have h:=AnyQ.slices_SortFunc Tryz.sortEd 3 isAgg34 sizeOf34 enc34 enc34_len enc34_one cfE (by rw[ltOf_cfE'];exact eltS_swo) 108 #[] g 0 cap l.toArray w eg hcmp hH hb (by rw[List.size_toArray];omega)
  rw[List.size_toArray] at h
  refine h.mono ?_
  rintro e w' ⟨he,d',n,os,hp,hs,hw⟩
  obtain⟨p1,_,p3⟩:=hp
  replace p1:d'.size=l.length:=p1.trans (by simp)
  refine⟨he,d',n,os,p1,fun a=>?_,fun i j hij hj=>?_,hw⟩
  · have e1:(d'.extract 0 l.length).toList=d'.toList:=by rw[show l.length=d'.size from p1.symm];simp
    have e2:(l.toArray.extract 0 l.length).toList=l:=by simp
    rw[e1,e2] at p3
    exact p3.mem_iff
  · have:=hs i j (Nat.zero_le _) hij (by omega)
    rwa [ltOf_cfE'] at this
theorem sort_none (p:Option Addr) (cap:Nat) (w:World):Calls Tryz.prog 107 #[.slice p 0 cap,.func (.func 108) #[] #[]] w fun e w'=>e=.returned (.tuple #[])∧w'=w :=
  AnyF.slices_SortFunc_none Tryz.sortEd p cap (.func (.func 108) #[] #[]) w
set_option maxHeartbeats 2000000 in
set_option maxRecDepth 100000 in
theorem compact_none (p:Option Addr) (cap:Nat) (w:World):Calls Tryz.prog 109 #[.slice p 0 cap] w fun e w'=>e=.returned (.slice p 0 cap)∧w'=w:=by
  go_enter Tryz.func109,Tryz.ntmps109
  go_wp2
  go_ret
  exact⟨rfl,rfl⟩
theorem clone_row (A0:Option Addr) (c0:Nat) (l0:List S91) (w:World) (hr0:Kd.C k91 w A0 l0.length l0) (hl:l0.length≤10000) (hp:0 < l0.length) :
    Calls Tryz.prog 106 #[.slice A0 l0.length c0] w fun e w'=>∃ (g cap:Nat) (cur:Array Value),e=.returned (.slice (some ⟨g,0,none⟩) l0.length cap)∧w.heap.size≤g∧g < w'.heap.size ∧
      w'.heap[g]?=some (.cells cur 91 (0,0))∧l0.length≤cap∧cap≤maxLen∧cur.size=cap * 3∧Sort.HoldsK enc34 3 w' g 0 l0.toArray∧Below w.heap.size w w':=by
  refine (clone_calls A0 c0 l0 w hr0 hl).mono ?_
  rintro e w' ⟨v0,rfl,ho,hb⟩
  obtain⟨inner,hlen,⟨_,hz⟩|⟨g,cap,cur,rfl,g1,g2,g3,g4,g5,_⟩⟩:=Kd.R_own ho
  · omega
  · exact⟨g,cap,cur,rfl,g1,(Array.getElem?_eq_some_iff.1 g2).1,g2,g3,g4,g5,holds_of_row ho ⟨cur,g2⟩,hb⟩
theorem compact_row (g cap n:Nat) (d:Array S91) (w:World) (hs:d.size=n) (hH:Sort.HoldsK enc34 3 w g 0 d) (hn:n≤10000) (hc:n≤cap) :
    Calls Tryz.prog 109 #[.slice (some ⟨g,0,none⟩) n cap] w fun e w'=>e=.returned (.slice (some ⟨g,0,none⟩) (compactUpTo d d.size).length cap) ∧
      ∃ q F,F.size=d.size * 3∧(∀ t,t < (compactUpTo d d.size).length * 3→F[t]! = (Sort.flatK enc34 3 (compactUpTo d d.size).toArray)[t]!)∧w'=Sort.putRow id (Sort.ahead w q) g 0 F:=by
  subst hs
  exact compact_calls g cap d w hH (by omega) hc
theorem sorted_holds {w1:World} {g n:Nat} {os:Array Obj} {l0:List S91} {d:Array S91} {cur:Array Value} (hh:w1.heap[g]?=some (.cells cur 91 (0,0))) (hH:Sort.HoldsK enc34 3 w1 g 0 l0.toArray) (hd:d.size=l0.length) :
    Sort.HoldsK enc34 3 (Sort.grow (Sort.putRowK enc34 3 (Sort.ahead w1 n) g 0 d) os) g 0 d:=by
  have hh0:(Sort.ahead w1 n).heap[g]?=some (.cells cur 91 (0,0)):=hh
  obtain⟨cur1,hh1,s1⟩:=putRow_heap id (off:=0) (F:=Sort.flatK enc34 3 d) hh0
  exact Sort.holdsK_grow enc34 3 _ os g 0 d (Array.getElem?_eq_some_iff.1 hh1).1 (Sort.holdsK_putRowK enc34 3 _ g 0 l0.toArray d (Sort.holdsK_ahead enc34 3 w1 n g 0 _ hH) (by rw[hd];simp))
/-- what lies behind the sort and the compaction -/
theorem sorted_row {w w1:World} {g cap n q:Nat} {os:Array Obj} {l0:List S91} {d:Array S91} {F cur:Array Value} (hl:l0.length≤10000) (hg:w.heap.size≤g) (hh:w1.heap[g]?=some (.cells cur 91 (0,0))) (hcap:l0.length≤cap) (hmax:cap≤maxLen) (hsz:cur.size=cap * 3)
    (hH:Sort.HoldsK enc34 3 w1 g 0 l0.toArray) (hb:Below w.heap.size w w1) (hd:d.size=l0.length) (hm:∀ a,a∈d.toList↔a∈l0) (ho:∀ i j,i < j→j < d.size→eltS d[j]! d[i]! = false)
    (hF:F.size=d.size * 3) (hF2:∀ t,t < (compactUpTo d d.size).length * 3→F[t]! = (Sort.flatK enc34 3 (compactUpTo d d.size).toArray)[t]!) :
    Kd.R k91 91 (Sort.putRow id (Sort.ahead (Sort.grow (Sort.putRowK enc34 3 (Sort.ahead w1 n) g 0 d) os) q) g 0 F) w.heap.size (fun _=>True) (.slice (some ⟨g,0,none⟩) (compactUpTo d d.size).length cap) (Tx.ord eltS l0) ∧
      Below w.heap.size w (Sort.putRow id (Sort.ahead (Sort.grow (Sort.putRowK enc34 3 (Sort.ahead w1 n) g 0 d) os) q) g 0 F):=by
  have e:=Tx.compact_ord y3_ d l0 ho hm
  have hlen:(compactUpTo d d.size).length≤l0.length:=by rw[e];exact Tx.ord_len l0
  have hh0:(Sort.ahead w1 n).heap[g]?=some (.cells cur 91 (0,0)):=hh
  obtain⟨cur1,hh1,s1⟩:=putRow_heap id (off:=0) (F:=Sort.flatK enc34 3 d) hh0
  have hh2:(Sort.ahead (Sort.grow (Sort.putRowK enc34 3 (Sort.ahead w1 n) g 0 d) os) q).heap[g]?=some (.cells cur1 91 (0,0)):=grow_heap os hh1
  obtain⟨cur2,hh3,s2⟩:=putRow_heap id (off:=0) (F:=F) hh2
  have hlt:g < w1.heap.size:=(Array.getElem?_eq_some_iff.1 hh).1
  have H1:Sort.HoldsK enc34 3 (Sort.putRowK enc34 3 (Sort.ahead w1 n) g 0 d) g 0 d:=Sort.holdsK_putRowK enc34 3 _ g 0 l0.toArray d (Sort.holdsK_ahead enc34 3 w1 n g 0 _ hH) (by rw[hd];simp)
  have H2:Sort.HoldsK enc34 3 (Sort.grow (Sort.putRowK enc34 3 (Sort.ahead w1 n) g 0 d) os) g 0 d:=Sort.holdsK_grow enc34 3 _ os g 0 d (Array.getElem?_eq_some_iff.1 hh1).1 H1
  have H3:=Sort.holds_putRow id (Sort.ahead (Sort.grow (Sort.putRowK enc34 3 (Sort.ahead w1 n) g 0 d) os) q) g 0 (Sort.flatK enc34 3 d) F (Sort.holdsK_ahead enc34 3 _ q g 0 d H2) (by rw[hF,Sort.size_flatK])
  constructor
  · rw[e] at hlen hF2 ⊢
    refine row34 (cur:=cur2) hh3 hg (by omega) hmax (by omega) fun t ht=>?_
    rw[← hF2 t ht]
    have h4:=(H3 t (by omega)).1
    have ht2:t < cur2.size:=by omega
    simp only[World.cell?,hh3,Nat.zero_add] at h4
    have h5:cur2[t]?=some F[t]! := h4
    rw[getElem!_pos cur2 t ht2]
    rw[Array.getElem?_eq_getElem ht2] at h5
    exact Option.some.inj h5
  · refine hb.trans (((below_ahead _ w1 n).trans ((below_putRow id _ 0 (Sort.flatK enc34 3 d) hg).trans ?_)).trans (below_putRow id _ 0 F hg))
    refine (below_grow ?_ os).trans (below_ahead _ _ q)
    have:=(Array.getElem?_eq_some_iff.1 hh1).1
    show w.heap.size≤(Sort.putRow id _ g 0 _).heap.size
    omega
set_option maxHeartbeats 8000000 in
set_option maxRecDepth 100000 in
theorem yqb_.calls (A0:Option Addr) (c0:Nat) (l0:List S91) (r:List S91) (w:World) (hr0:Kd.C k91 w A0 l0.length l0) (hc0:l0.length≤c0) (h:yqb_.f l0=some r) :
    Calls Tryz.prog 75 #[.slice A0 l0.length c0] w fun e w'=>∃ v0_:Value,e=.returned v0_∧Kd.R k91 91 w' w.heap.size (fun _=>True) v0_ r∧Below w.heap.size w w':=by
  unfold yqb_.f at h
  by_cases hl:l0.length≤10000
  rotate_left
  · rw[if_neg hl] at h;cases h
  rw[if_pos hl] at h
  have hr:=Option.some.inj h
  clear h
  have h1:=clone_calls A0 c0 l0 w hr0 hl
  have h1r:=Aside0.mk (clone_row A0 c0 l0 w hr0 hl)
  have H1:=Aside0.mk h1
  have HR:=Aside0.mk hr
  have HL:=Aside0.mk hl
  clear h1 hr hr0 hl
  by_cases hp:l0.length=0
  · obtain rfl:=List.eq_nil_of_length_eq_zero hp
    clear hp
    have H2:=Aside0.mk (fun p cap w=>sort_none p cap w)
    have H3:=Aside0.mk (fun p cap w=>compact_none p cap w)
    go_enter Tryz.func75,Tryz.ntmps75
    go_wp2_with (first
      | (go_at_call 106;refine H1.out.mono ?_;rintro e w1 ⟨v0,rfl,ho,hb⟩;obtain⟨A1,c1,rfl⟩:=Kd.yE_ ho;have HO:=Aside0.mk ho;have HB:=Aside0.mk hb;clear ho hb H1)
      | (go_at_call 107;refine (H2.out _ _ _).mono ?_;rintro e w1 ⟨rfl,rfl⟩;clear H2)
      | (go_at_call 109;refine (H3.out _ _ _).mono ?_;rintro e w1 ⟨rfl,rfl⟩;clear H3))
    go_ret
    refine⟨_,rfl,?_,HB.out⟩
    rw[← HR.out]
    exact HO.out
  replace hp:0 < l0.length:=by omega
  have H2:=Aside0.mk (fun g cap w1 h1 h2=>sort_calls g cap l0 w1 h1 h2 HL.out)
  have H3:=Aside0.mk (fun g cap d w2 hs h1 hc=>compact_row g cap l0.length d w2 hs h1 HL.out hc)
  have H1R:=Aside0.mk (h1r.out hp)
  clear h1r H1
  go_enter Tryz.func75,Tryz.ntmps75
  go_wp2_with (first
    | (go_at_call 106;refine H1R.out.mono ?_;rintro e w1 ⟨g,cap,cur,rfl,g1,g2,g3,g4,g5,g6,g7,g8⟩;have G:=Aside0.mk (And.intro g1 (And.intro g2 (And.intro g3 (And.intro g4 (And.intro g5 (And.intro g6 (And.intro g7 g8)))))));clear g1 g2 g3 g4 g5 g6 g7 g8 H1R)
    | (go_at_call 107;refine (H2.out g cap w1 G.out.2.2.2.2.2.2.1 G.out.2.1).mono ?_;rintro e w2 ⟨rfl,d',n,os,s1,s2,s3,rfl⟩;have S:=Aside0.mk (And.intro s1 (And.intro s2 s3));clear s1 s2 s3 H2)
    | (go_at_call 109;refine (H3.out g cap d' _ S.out.1 (sorted_holds G.out.2.2.1 G.out.2.2.2.2.2.2.1 S.out.1) G.out.2.2.2.1).mono ?_;rintro e w3 ⟨rfl,q,F,f1,f2,rfl⟩;have FF:=Aside0.mk (And.intro f1 f2);clear f1 f2 H3))
  go_ret
  have R:=sorted_row (n:=n) (os:=os) (q:=q) HL.out G.out.1 G.out.2.2.1 G.out.2.2.2.1 G.out.2.2.2.2.1 G.out.2.2.2.2.2.1 G.out.2.2.2.2.2.2.1 G.out.2.2.2.2.2.2.2 S.out.1 S.out.2.1 S.out.2.2 FF.out.1 FF.out.2
  rw[← HR.out]
  exact⟨_,rfl,R.1,R.2⟩
end Go.Proofs.YthimblhfjfngiaaGreat.PText

namespace Go.Proofs.YthimblhfjfngiaaGreat.PText
open Go.RowKit Go.Lib Go.Sort Go.Proofs.YthimblhfjfngiaaGreatW.PrintWords Go.Proofs.YthimblhfjfngiaaGreatW.PrintLast Go.Proofs.YthimblhfjfngiaaGreatW.PrintMore
set_option linter.unusedVariables false
set_option linter.unusedSimpArgs false
instance:Inhabited S41:=⟨z41⟩
theorem S41.ext' {a b:S41} (h0:a.f0=b.f0) (h1:a.f1=b.f1):a=b:=by cases a;cases b;simp_all
instance:DecidableEq S41:=fun a b=>decidable_of_iff (a.f0=b.f0∧a.f1=b.f1) ⟨fun h=>S41.ext' h.1 h.2,fun h=>by subst h;exact⟨rfl,rfl⟩⟩
def enc53 (x:S41):List Value:=[.string x.f0,.string x.f1]
theorem enc53_len (x:S41):(enc53 x).length=2:=rfl
theorem enc53_one (x:S41):∀ v∈enc53 x,v.oneCell'=true:=by
  intro v hv
  simp [enc53] at hv
  rcases hv with rfl|rfl <;> rfl
theorem isAgg53:∀ w,(isAgg 41).run Tryz.prog w=.ok true w:=fun w=>by simp [isAgg,run_underlying Tryz.underlying41]
theorem sizeOf53:∀ w,(Go.sizeOf 41).run Tryz.prog w=.ok 2 w:=fun w=>by
  obtain⟨i0,hi,hz0,hz1,hz2⟩:=info_parts info41
  simp [Go.sizeOf,typeInfo,hi,hz1]
/-- a row of one's own, out of its cells -/
theorem row53 {W:World} {base g cap:Nat} {cur:Array Value} {r:List S41} (hh:W.heap[g]?=some (.cells cur 41 (0,0))) (hb:base≤g) (hl:r.length≤cap) (hm:cap≤maxLen) (hs:cur.size=cap * 2)
    (hc:∀ t,t < r.length * 2→cur[t]! = (Sort.flatK enc53 2 r.toArray)[t]!):Kd.R k41 41 W base (fun _=>True) (.slice (some ⟨g,0,none⟩) r.length cap) r:=by
  have hle:r.length * 2≤cur.size:=by omega
  refine⟨fun _ _=>trivial,cur.toList.take (r.length * 2),⟨by rw[List.length_take,Nat.min_eq_left (by rw[Array.length_toList];exact hle)];rfl,Or.inr ⟨g,cap,cur,rfl,hb,hh,hl,hm,hs,rfl⟩⟩,by rw[List.length_take,Nat.min_eq_left (by rw[Array.length_toList];exact hle)];rfl,fun j p hp=>?_⟩
  obtain⟨hj,rfl⟩:=List.getElem?_eq_some_iff.1 hp
  have key:((cur.toList.take (r.length * 2)).drop (j * 2)).take 2=[.string r[j].f0,.string r[j].f1]:=by
    have one:∀ c,c < 2→cur[j * 2+c]?=some (enc53 r[j])[c]! := by
      intro c hcc
      have h1:=hc (j * 2+c) (by omega)
      rw[Sort.get_flatK _ _ _ _ (by rw[List.size_toArray];omega),show (j * 2+c) / 2=j by omega,show (j * 2+c) % 2=c by omega] at h1
      rw[Array.getElem?_eq_getElem (by omega),← getElem!_pos cur (j * 2+c) (by omega),h1,getElem!_pos r.toArray j (by rw[List.size_toArray];exact hj),List.getElem_toArray]
    have z0:=one 0 (by omega)
    have z1:=one 1 (by omega)
    apply List.ext_getElem?
    intro c
    rw[List.getElem?_take]
    by_cases h3:c < 2
    rotate_left
    · rw[if_neg h3,List.getElem?_eq_none (by simp;omega)]
    rw[if_pos h3,List.getElem?_drop,List.getElem?_take,if_pos (by omega),Array.getElem?_toList]
    have:c=0∨c=1:=by omega
    rcases this with rfl|rfl
    · rw[z0];rfl
    · rw[z1];rfl
  show k41.M W base _ r[j] (((cur.toList.take (r.length * 2)).drop (j * 2)).take 2)
  rw[key]
  exact k41_mkM _ _ _ _
/-- the cells of a row of one's own -/
theorem holds_of_row53 {W:World} {base g cap:Nat} {ok:Nat→Prop} {l:List S41} (h:Kd.R k41 41 W base ok (.slice (some ⟨g,0,none⟩) l.length cap) l) (hg:∃ cur,W.heap[g]?=some (.cells cur 41 (0,0))):Sort.HoldsK enc53 2 W g 0 l.toArray:=by
  intro t ht
  rw[Sort.size_flatK,List.size_toArray] at ht
  have hC:=(Kd.yt_ h).2.2
  obtain⟨ad,e,h0,h1⟩:=at_T41 hC ((t / 2:Nat):Int) (by omega) (by omega)
  cases e
  obtain⟨cur,hcur⟩:=hg
  refine⟨?_,by simp [World.frozen?,hcur]⟩
  rw[Sort.get_flatK _ _ _ _ (by rw[List.size_toArray];exact ht)]
  have hx:(l.toArray)[t / 2]! = rd_T41 l ((t / 2:Nat):Int):=by
    unfold rd_T41
    rw[Int.toNat_natCast,getElem!_pos l.toArray (t / 2) (by rw[List.size_toArray];omega),List.getElem_toArray,List.getD_eq_getElem?_getD,List.getElem?_eq_getElem (by omega)]
    rfl
  rw[hx]
  simp only[Int.toNat_natCast,add_plain] at h0 h1
  have:t % 2=0∨t % 2=1:=by omega
  rcases this with c|c
  · rw[c,show 0+t=t / 2 * 2 by omega];exact h0
  · rw[c,show 0+t=t / 2 * 2+1 by omega];exact h1
theorem C_none53 {w:World} {l:List S41} (h:Kd.C k41 w none l.length l):l=[]:=by
  cases l with
  | nil=>rfl
  | cons x r =>
    obtain⟨ad,_,q,_⟩:=Kd.C_get h z41 0 (Int.le_refl _) (by rw[List.length_cons];omega)
    cases q
set_option maxHeartbeats 8000000 in
set_option maxRecDepth 100000 in
theorem clone53_calls (A0:Option Addr) (c0:Nat) (l0:List S41) (w:World) (hr0:Kd.C k41 w A0 l0.length l0) (hl:l0.length≤10000) :
    Calls Tryz.prog 40 #[.slice A0 l0.length c0] w fun e w'=>∃ v0_:Value,e=.returned v0_∧Kd.R k41 41 w' w.heap.size (fun _=>True) v0_ l0∧Below w.heap.size w w':=by
  have hnil:∀ w',Sem.run Tryz.prog (binOp .eql 37 (.slice A0 l0.length c0) (.slice none 0 0)) w'=.ok (.bool A0.isNone) w':=fun w'=>Go.Lib.run_eql_slice_nil w' 37 41 A0 l0.length c0 0 0 Tryz.underlying37
  have HR1:=Aside0.mk hr0
  clear hr0
  cases hA:A0.isNone with
  | true =>
    obtain rfl:A0=none:=by cases A0 with|none=>rfl|some a=>cases hA
    obtain rfl:=C_none53 HR1.out
    rw[hA] at hnil
    simp only[List.length_nil] at hnil ⊢
    go_enter Tryz.func40,Tryz.ntmps40
    go_wp2
    go_ret
    exact⟨_,rfl,Kd.R_nil _ _ _ _ _,Below.refl _ _⟩
  | false =>
    rw[hA] at hnil
    have HB:=Aside0.mk (Below.refl w.heap.size w)
    obtain⟨y467,hy467⟩:∃ y_:List (S41),y_=(([]:List (S41))):=⟨_,rfl⟩
    have Ny467:=Aside0.mk hy467
    have LMc8:=Aside0.mk (show y467.length+l0.length < 4398046511104 by rw[hy467];simp;omega)
    clear hy467
    obtain⟨y470,hy470⟩:∃ y_:List (S41),y_=(y467++l0):=⟨_,rfl⟩
    have Ny470:=Aside0.mk hy470
    clear hy470
    go_enter Tryz.func40,Tryz.ntmps40
    go_wp2_with (first|((with_reducible refine yO_ (N:=5) rfl ?_);refine Kd.R_lit k41 _ 41 ?hg (N:=5) ?hd (xs:=([]:List (S41))) (inner:=[]) (ok:=fun _=>True) (okp:=fun _=>True) ?hr ?hp (fun _ hk=>hk) trivial (Below.refl _ _) (Nat.le_refl _) (by simp) ?_;(case hd=>rfl);(case hg=>rfl);(case hr=>first|(go_simp;done)|(go_simp;rfl));(case hp=>exact (Reps.none _ _));intro v468 w13 ho14 hb hg_ hnew_;clear hg_ hnew_;(first|rw[← Ny467.out] at ho14|(simp only[Int.reduceToNat] at ho14;rw[← Ny467.out] at ho14));have n0_:=Aside0.mk (Kd.y0_ ho14 (yp_ zf_));have n1_:=Aside0.mk (yn_ zf_ hb);clear HB;have HO469:=n0_;have HB:=n1_;clear n0_ n1_;clear hb ho14)|((with_reducible refine yL_ (b:=.append) (xs:=#[.tmp 5,.tmp 6]) rfl ?_);at_builtin;refine Kd.yxb_ k41 (w0:=w) w.heap.size rfl (.tmp 5) (.tmp 6) 37 41 (.agg #[(.string ⟨#[]⟩),(.string ⟨#[]⟩)]) 32 rfl Tryz.underlying37 info41 rfl (by decide) (by omega) v468 y467 l0 _ _ _ (fun _=>True) (fun _=>False) rfl rfl ?aO ?aR (fun _ _ h=>h) (fun _ h=>h.elim) ?aF ?aB ?aS ?aL ?_;(case aR=>repeat (first|exact (Kd.yR_ HR1.out HB.out)|(with_reducible refine Kd.yM_ ?_ _)|(with_reducible refine Kd.yY_ ?_ _)|(with_reducible refine Kd.C_drew ?_)));(case aB=>exact zf_);(case aF=>exact (fun _ _=>trivial));(case aO=>exact (by (with_reducible repeat (first|apply Kd.yj_|apply Kd.yk_|apply Kd.R_drew));exact HO469.out));(case aS=>exact (yp_ zf_));(case aL=>have:=LMc8.out;omega);intro v471 w15 ho hb hg hat;rw[← Ny470.out] at ho;have n0_:=Aside0.mk (hb);have n1_:=Aside0.mk (ho);clear HB;clear HO469;have HB:=n0_;have HO472:=n1_;clear n0_ n1_;clear ho hb hg hat))
    go_ret
    have e:y470=l0:=by rw[Ny470.out,Ny467.out];rfl
    rw[e] at HO472
    exact⟨_,rfl,HO472.out,HB.out⟩
/-- the order of files: by their names -/
def cfF (x y:S41):Int:=cS x.f0.toList y.f0.toList
def ltF (x y:S41):Bool:=decide (x.f0.toList < y.f0.toList)
theorem ltOf_cfF:ltOf cfF=ltF:=by
  funext x y
  show decide (cfF x y < 0)=ltF x y
  unfold cfF cS ltF
  by_cases h:x.f0.toList < y.f0.toList
  · rw[if_pos h,decide_eq_true h];rfl
  rw[if_neg h,decide_eq_false h]
  by_cases h2:y.f0.toList < x.f0.toList
  rotate_left
  · rw[if_neg h2];rfl
  rw[if_pos h2];rfl
theorem ltF_swo:Sort.SWO ltF where
  irrefl x:=decide_eq_false (List.lt_irrefl _)
  trans x y z h1 h2:=decide_eq_true (List.lt_trans (of_decide_eq_true h1) (of_decide_eq_true h2))
  ntrans x y z h1 h2:=decide_eq_false (fun q=>by
    have a1:=of_decide_eq_false h1
    have a2:=of_decide_eq_false h2
    have b1:y.f0.toList≤x.f0.toList:=List.not_lt.1 a1
    have b2:z.f0.toList≤y.f0.toList:=List.not_lt.1 a2
    exact absurd q (List.not_lt.2 (List.le_trans b2 b1)))
theorem order53_grows (x y:S41) (w:World):Calls Tryz.prog 45 #[.agg #[.string x.f0,.string x.f1],.agg #[.string y.f0,.string y.f1]] w fun e w'=>e=.returned (.int .i64 (cfF x y))∧∃ q os',w'=Sort.grow (w.drewN q) os':=by
  go_enter Tryz.func45,Tryz.ntmps45
  go_wp2_with (go_at_call 46;refine (yX_.calls x.f0 y.f0 (cfF x y) _ (cmpS_f x.f0 y.f0)).mono ?_;rintro e w2 ⟨rfl,hd⟩)
  go_ret
  obtain⟨q,rfl⟩:=hd
  exact⟨rfl,grow_of_below (ya_ (((Below.refl _ w).alloc (Nat.le_refl _) _).alloc (by simp) _) _) (by simp [World.drewN])⟩
theorem sort53_calls (g cap:Nat) (l:List S41) (w:World) (hH:Sort.HoldsK enc53 2 w g 0 l.toArray) (hb:g < w.heap.size) (hl:l.length≤10000) :
    Calls Tryz.prog 44 #[.slice (some ⟨g,0,none⟩) l.length cap,.func (.func 45) #[] #[]] w fun e w'=>e=.returned (.tuple #[]) ∧
      ∃ (d':Array S41) (n:Nat) (os:Array Obj),d'.size=l.length∧d'.toList.Perm l∧(∀ i j,i < j→j < d'.size→ltF d'[j]! d'[i]! = false)∧w'=Sort.grow (Sort.putRowK enc53 2 (Sort.ahead w n) g 0 d') os:=by
  have eg:∀ args w,(callFunc 45 args).run Tryz.prog w=.ok (.enter 45 args) w:=enters_of Tryz.func45 ze_ rfl
  have hcmp:CmpLays Tryz.prog 45 #[] enc53 2 cfF g 0 l.toArray.size w:=fun m os dk _ x y=>order53_grows x y _
  have h:=AnyQ.slices_SortFunc Tryz.sortFi 2 isAgg53 sizeOf53 enc53 enc53_len enc53_one cfF (by rw[ltOf_cfF];exact ltF_swo) 45 #[] g 0 cap l.toArray w eg hcmp hH hb (by rw[List.size_toArray];omega)
  rw[List.size_toArray] at h
  refine h.mono ?_
  rintro e w' ⟨he,d',n,os,hp,hs,hw⟩
  obtain⟨p1,_,p3⟩:=hp
  replace p1:d'.size=l.length:=p1.trans (by simp)
  refine⟨he,d',n,os,p1,?_,fun i j hij hj=>?_,hw⟩
  · have e1:(d'.extract 0 l.length).toList=d'.toList:=by rw[show l.length=d'.size from p1.symm];simp
    have e2:(l.toArray.extract 0 l.length).toList=l:=by simp
    rw[e1,e2] at p3
    exact p3
  · have:=hs i j (Nat.zero_le _) hij (by omega)
    rwa [ltOf_cfF] at this
/-- a row of one's own, sorted -/
theorem sort53_row (A:Option Addr) (cap:Nat) (l:List S41) (w:World) (base:Nat) (h:Kd.R k41 41 w base (fun _=>True) (.slice A l.length cap) l) (hl:l.length≤10000) :
    Calls Tryz.prog 44 #[.slice A l.length cap,.func (.func 45) #[] #[]] w fun e w'=>e=.returned (.tuple #[]) ∧
      ∃ d:List S41,d.length=l.length∧d.Perm l∧(∀ i j,i < j→∀ hj:j < d.length,∀ hi:i < d.length,ltF d[j] d[i]=false)∧Kd.R k41 41 w' base (fun _=>True) (.slice A l.length cap) d∧Below base w w':=by
  by_cases h0:l=[]
  · subst h0
    refine (AnyF.slices_SortFunc_none Tryz.sortFi A cap (.func (.func 45) #[] #[]) w).mono ?_
    rintro e w' ⟨rfl,rfl⟩
    exact⟨rfl,[],rfl,List.Perm.refl _,fun i j h1 hj=>absurd hj (Nat.not_lt_zero _),h,Below.refl _ _⟩
  obtain⟨inner,hlen,hz|⟨g,cap',cur,e,g1,g2,g3,g4,g5,_⟩⟩:=Kd.R_own h
  · exact absurd (List.eq_nil_of_length_eq_zero hz.2) h0
  · cases e
    replace g5:cur.size=cap * 2:=g5
    have hg:=(Array.getElem?_eq_some_iff.1 g2).1
    have hH:=holds_of_row53 h ⟨cur,g2⟩
    refine (sort53_calls g cap l w hH hg hl).mono ?_
    rintro e w' ⟨he,d',n,os,p1,p2,p3,rfl⟩
    have hh0:(Sort.ahead w n).heap[g]?=some (.cells cur 41 (0,0)):=g2
    obtain⟨cur1,hh1,s1⟩:=putRow_heap id (off:=0) (F:=Sort.flatK enc53 2 d') hh0
    have H1:Sort.HoldsK enc53 2 (Sort.putRowK enc53 2 (Sort.ahead w n) g 0 d') g 0 d':=Sort.holdsK_putRowK enc53 2 _ g 0 l.toArray d' (Sort.holdsK_ahead enc53 2 w n g 0 _ hH) (by rw[p1];simp)
    have hh2:(Sort.grow (Sort.putRowK enc53 2 (Sort.ahead w n) g 0 d') os).heap[g]?=some (.cells cur1 41 (0,0)):=grow_heap os hh1
    have H2:Sort.HoldsK enc53 2 (Sort.grow (Sort.putRowK enc53 2 (Sort.ahead w n) g 0 d') os) g 0 d':=Sort.holdsK_grow enc53 2 _ os g 0 d' (Array.getElem?_eq_some_iff.1 hh1).1 H1
    have hlen':d'.toList.length=l.length:=by rw[Array.length_toList,p1]
    refine⟨he,d'.toList,hlen',p2,fun i j hij hj hi=>?_,?_,?_⟩
    · have:=p3 i j hij (by simpa using hj)
      rw[getElem!_pos d' j (by simpa using hj),getElem!_pos d' i (by simpa using hi)] at this
      simpa using this
    · have:=row53 (W:=Sort.grow (Sort.putRowK enc53 2 (Sort.ahead w n) g 0 d') os) (base:=base) (g:=g) (cap:=cap) (cur:=cur1) (r:=d'.toList) hh2 g1 (by omega) g4 (by rw[s1,g5]) (fun t ht=>by
        have h4:=(H2 t (by rw[Sort.size_flatK];simpa using ht)).1
        have ht2:t < cur1.size:=by rw[s1,g5];rw[hlen'] at ht;omega
        simp only[World.cell?,hh2,Nat.zero_add] at h4
        have h5:cur1[t]?=some (Sort.flatK enc53 2 d')[t]! := h4
        rw[getElem!_pos cur1 t ht2]
        rw[Array.getElem?_eq_getElem ht2] at h5
        simpa using Option.some.inj h5)
      rw[hlen'] at this
      exact this
    · refine ((below_ahead _ w n).trans ((below_putRow id _ 0 (Sort.flatK enc53 2 d') g1).trans ?_))
      refine below_grow ?_ os
      have:=(Array.getElem?_eq_some_iff.1 hh1).1
      show base≤(Sort.putRow id _ g 0 _).heap.size
      omega
end Go.Proofs.YthimblhfjfngiaaGreat.PText

