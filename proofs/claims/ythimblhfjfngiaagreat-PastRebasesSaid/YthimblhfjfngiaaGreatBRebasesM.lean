/- PastRebases holds: for all steps, every number and all results the statement answers true. Part 13 of 24. -/
import Derived.Test.YthimblhfjfngiaaGreatBRebasesL
namespace Go.Proofs.YthimblhfjfngiaaGreat.PText
open Go.RowKit Go.Lib Go.Proofs.YthimblhfjfngiaaGreatW.PrintWords Go.Proofs.YthimblhfjfngiaaGreatW.PrintLast Go.Proofs.YthimblhfjfngiaaGreatW.PrintMore
theorem yzb_ (l:List S91) (i:Nat) (h:i < l.length):rd_T91 l (i:Int)=l[i]:=by
  unfold rd_T91
  rw[Int.toNat_natCast,List.getD_eq_getElem?_getD,List.getElem?_eq_getElem h];rfl
theorem clash_l0 (l:List S91) (hl:l.length≤1000000):∀ (m i k:Nat) (e last:Int),l.length - i=m→i≤l.length→2 * m+1≤k →
    yK_.l0 k e last l (l.length:Int) (i:Int)=some (Tx.clash e last ((l.drop i).map toE)):=by
  intro m
  induction m with
  | zero =>
    intro i k e last hm hi hk
    obtain⟨k,rfl⟩:∃ j,k=j+1:=⟨k - 1,by omega⟩
    rw[yK_.l0,if_neg (by omega),List.drop_of_length_le (by omega)]
    rfl
  | succ m ih =>
    intro i k e last hm hi hk
    obtain⟨k,rfl⟩:∃ j,k=j+2:=⟨k - 2,by omega⟩
    have hlt:i < l.length:=by omega
    have hd:(l.drop i).map toE=toE l[i] :: (l.drop (i+1)).map toE:=by rw[List.drop_eq_getElem_cons hlt];rfl
    have hn:wrap64 ((i:Int)+1)=((i+1:Nat):Int):=by rw[w64 (by omega) (by omega)];omega
    have ih1:=fun e last=>ih (i+1) k e last (by omega) (by omega) (by omega)
    rw[yK_.l0,if_pos (by omega),if_pos (by omega),if_pos (by omega),yzb_ l i hlt,hd]
    generalize l[i]=x
    have step:∀ b:Bool,yK_.j1 (k+1) e last l (l.length:Int) (i:Int) b x.f0 x.f1 x.f2=some (if b=true then true else Tx.clash (max e x.f1) (if x.f0=x.f1 then x.f0 else last) ((l.drop (i+1)).map toE)):=by
      intro b
      rw[yK_.j1]
      cases b with
      | true=>rfl
      | false =>
        rw[if_neg (show ¬ (false=true) by decide),if_neg (show ¬ (false=true) by decide),hn]
        by_cases h:x.f0=x.f1
        rotate_left
        · rw[if_neg h,if_neg h,ih1,mx_max]
        rw[if_pos h,if_pos h,ih1,mx_max]
    rw[step,step,step]
    show _=some (if x.f0 < e∨(x.f0=x.f1∧x.f0=last) then true else Tx.clash (max e x.f1) (if x.f0=x.f1 then x.f0 else last) ((l.drop (i+1)).map toE))
    by_cases h1:x.f0 < e
    · rw[if_pos h1,if_pos (Or.inl h1)];rfl
    rw[if_neg h1]
    by_cases h2:x.f0=x.f1
    rotate_left
    · rw[if_neg h2,if_neg (show ¬ (false=true) by decide)]
      congr 1
      rw[if_neg (show ¬ (x.f0 < e∨(x.f0=x.f1∧x.f0=last)) by rintro (q|⟨q,_⟩);exact h1 q;exact h2 q)]
    rw[if_pos h2]
    by_cases h3:x.f0=last
    · have hb:(x.f0 == last)=true:=beq_iff_eq.2 h3
      rw[hb,if_pos rfl,if_pos (Or.inr ⟨h2,h3⟩)]
    have hb:(x.f0 == last)=false:=beq_eq_false_iff_ne.2 h3
    rw[hb,if_neg (show ¬ (false=true) by decide)]
    congr 1
    rw[if_neg (show ¬ (x.f0 < e∨(x.f0=x.f1∧x.f0=last)) by rintro (q|⟨_,q⟩);exact h1 q;exact h3 q)]
theorem clash_f (l:List S91) (hl:l.length≤10000):yK_.f 20001 l=some (Tx.clash 0 (-1) (l.map toE)):=by
  have h:=clash_l0 l (by omega) l.length 0 20001 0 (-1) (by omega) (by omega) (by omega)
  rw[List.drop_zero] at h
  exact h
end Go.Proofs.YthimblhfjfngiaaGreat.PText

