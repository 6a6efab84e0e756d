/- PastRebases holds: for all steps, every number and all results the statement answers true. Part 21 of 24. -/
import Derived.Test.YthimblhfjfngiaaGreatBRebasesT
namespace Go.Proofs.YthimblhfjfngiaaGreat.PText
open Go.RowKit Go.Lib Go.Proofs.YthimblhfjfngiaaGreatW.PrintWords Go.Proofs.YthimblhfjfngiaaGreatW.PrintLast Go.Proofs.YthimblhfjfngiaaGreatW.PrintMore
theorem stp_len {α:Type} [DecidableEq α]:∀ (k:Nat) (l m:List α),l.length+m.length≤k→(Tx.stp l m).length≤l.length+m.length:=by
  intro k
  induction k with
  | zero =>
    intro l m h
    have hl:l=[]:=List.eq_nil_of_length_eq_zero (by omega)
    have hm:m=[]:=List.eq_nil_of_length_eq_zero (by omega)
    subst hl hm
    rw[Tx.stp];exact Nat.le_refl _
  | succ k ih =>
    intro l m h
    match l,m,h with
    | [],[],_=>rw[Tx.stp];exact Nat.le_refl _
    | a :: l,[],h =>
      simp only[List.length_cons,List.length_nil] at h
      have:=ih l [] (by simp;omega)
      rw[Tx.stp]
      simp only[List.length_cons,List.length_nil] at *
      omega
    | [],b :: m,h =>
      simp only[List.length_cons,List.length_nil] at h
      have:=ih [] m (by simp;omega)
      rw[Tx.stp]
      simp only[List.length_cons,List.length_nil] at *
      omega
    | a :: l,b :: m,h =>
      simp only[List.length_cons] at h
      rw[Tx.stp]
      by_cases e:a=b
      · rw[if_pos e]
        have:=ih l m (by omega)
        simp only[List.length_cons];omega
      rw[if_neg e]
      split
      · have:=ih l (b :: m) (by simp only[List.length_cons];omega)
        simp only[List.length_cons] at *;omega
      · have:=ih (a :: l) m (by simp only[List.length_cons];omega)
        simp only[List.length_cons] at *;omega
/-- the steps from one text to another one, or the error -/
def sizedR (a b:ByteArray) (ctx:Int):List S119 × Int :=
  if 200000 < a.size∨200000 < b.size∨2000 < (linesB a).length∨2000 < (linesB b).length then ([],2) else if ctx < 0∨20 < ctx then ([],1) else (stS (linesB a) (linesB b),0)
theorem sized_zero {a b:ByteArray} {ctx:Int} (h:(sizedR a b ctx).2=0):sizedR a b ctx=(stS (linesB a) (linesB b),0)∧0≤ctx∧ctx≤20∧(linesB a).length≤2000∧(linesB b).length≤2000∧a.size≤200000∧b.size≤200000:=by
  unfold sizedR at h ⊢
  by_cases c1:200000 < a.size∨200000 < b.size∨2000 < (linesB a).length∨2000 < (linesB b).length
  · rw[if_pos c1] at h;cases h
  rw[if_neg c1] at h ⊢
  by_cases c2:ctx < 0∨20 < ctx
  · rw[if_pos c2] at h;cases h
  rw[if_neg c2]
  exact⟨rfl,by omega,by omega,by omega,by omega,by omega,by omega⟩
theorem sized_f (a b:ByteArray) (ctx:Int) (ha:a.size≤1000000000) (hb:b.size≤1000000000) (k:Nat) (hk:5000000≤k):yD_.f k a b ctx=some (sizedR a b ctx):=by
  obtain⟨k,rfl⟩:∃ q,k=q+1:=⟨k - 1,by omega⟩
  have ea:y4_.f a=some (linesB a):=by unfold y4_.f;rw[if_pos ha]
  have eb:y4_.f b=some (linesB b):=by unfold y4_.f;rw[if_pos hb]
  unfold yD_.f sizedR
  rw[ea,eb,Option.bind_some,Option.bind_some]
  have hT:yD_.j0 (k+1) ctx (linesB a) (linesB b) true=some ([],2):=by rw[yD_.j0,if_pos rfl]
  by_cases c1:200000 < a.size
  · rw[if_pos (show (a.size:Int) > 200000 by omega),if_pos (Or.inl c1),hT]
  rw[if_neg (show ¬ (a.size:Int) > 200000 by omega)]
  by_cases c2:200000 < b.size
  · rw[if_pos (show (b.size:Int) > 200000 by omega),if_pos (Or.inr (Or.inl c2)),hT]
  rw[if_neg (show ¬ (b.size:Int) > 200000 by omega)]
  by_cases c3:2000 < (linesB a).length
  · rw[if_pos (show ((linesB a).length:Int) > 2000 by omega),if_pos (Or.inr (Or.inr (Or.inl c3))),hT]
  rw[if_neg (show ¬ ((linesB a).length:Int) > 2000 by omega)]
  by_cases c4:2000 < (linesB b).length
  · rw[decide_eq_true (show ((linesB b).length:Int) > 2000 by omega),if_pos (Or.inr (Or.inr (Or.inr c4))),hT]
  rw[decide_eq_false (show ¬ ((linesB b).length:Int) > 2000 by omega),if_neg (by omega),yD_.j0,if_neg (by decide)]
  by_cases c5:ctx < 0
  · rw[if_pos c5,if_pos (Or.inl c5)]
  rw[if_neg c5]
  by_cases c6:20 < ctx
  · rw[if_pos c6,if_pos (Or.inr c6)]
  have hm:(linesB a).length * ((linesB b).length+2)≤2000 * 2002:=Nat.mul_le_mul (by omega) (by omega)
  rw[if_neg c6,if_neg (by omega),steps_f _ _ (by omega) (by omega) k (by omega),Option.bind_some]
end Go.Proofs.YthimblhfjfngiaaGreat.PText

