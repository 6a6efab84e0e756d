/- PastBlames holds: for all steps, every file and every line the statement answers true. Part 19 of 21. -/
import Derived.Test.YthimblhfjfngiaaGreatBBlamesR
namespace Go.Proofs.YthimblhfjfngiaaGreat.PText
open Go.RowKit Go.Lib Go.Proofs.YthimblhfjfngiaaGreatW.PrintWords Go.Proofs.YthimblhfjfngiaaGreatW.PrintLast Go.Proofs.YthimblhfjfngiaaGreatW.PrintMore
theorem rEdits_l (st:List (UInt8 × List UInt8)) (hst:st.length≤100000) (hx:∀ x∈st,x.2.length≤1000000):∀ (n i:Nat),st.length - i=n→i≤st.length →
    (∀ (k:Nat) (D:List S91) (at_:Int),4 * n+5≤k→D.length≤i→0≤at_→at_≤(i:Int) * 1000000→ye_.l0 k (st.map toSr) D at_ (i:Int)=some (D++(Tx.eg at_ none (st.drop i)).map ofE,0)) ∧
    (∀ (k:Nat) (D:List S91) (f t:Int) (x:List UInt8),4 * n+4≤k→D.length≤i→0≤t→t≤(i:Int) * 1000000→x.length≤i * 1000000→ye_.l1 k (st.map toSr) D (i:Int) f t ⟨x.toArray⟩=some (D++(Tx.eg t (some ⟨f,t,x⟩) (st.drop i)).map ofE,0)):=by
  intro n
  have hlen:(st.map toSr).length=st.length:=List.length_map _
  induction n with
  | zero =>
    intro i hn hi
    have hd:st.drop i=[]:=List.drop_of_length_le (by omega)
    have l0:∀ (k:Nat) (D:List S91) (at_:Int),1≤k→ye_.l0 k (st.map toSr) D at_ (i:Int)=some (D,0):=fun k D at_ hk=>by
      obtain⟨k,rfl⟩:∃ q,k=q+1:=⟨k - 1,by omega⟩
      rw[ye_.l0,if_neg (by omega)]
    rw[hd]
    refine⟨fun k D at_ hk _ _ _=>?_,fun k D f t x hk hD _ _ _=>?_⟩
    · rw[l0 k D at_ (by omega)]
      show _=some (D++[].map ofE,0)
      rw[List.map_nil,List.append_nil]
    · obtain⟨k,rfl⟩:∃ q,k=q+2:=⟨k - 2,by omega⟩
      rw[ye_.l1,if_neg (by omega),ye_.j3,if_neg (by decide),if_pos (by omega),l0 k _ t (by omega)]
      rfl
  | succ n ih =>
    intro i hn hi
    have hlt:i < st.length:=by omega
    have hd:st.drop i=st[i] :: st.drop (i+1):=List.drop_eq_getElem_cons hlt
    have hxs:=hx st[i] (List.getElem_mem hlt)
    obtain⟨ih0,ih1⟩:=ih (i+1) (by omega) (by omega)
    have hr:=rdSr st i hlt
    rw[hd]
    generalize st[i]=y at *
    obtain⟨o,x⟩:=y
    have hf0:(rd_T95 (st.map toSr) (i:Int)).f0=((o.toNat:Nat):Int):=by rw[hr];rfl
    have hf1:(rd_T95 (st.map toSr) (i:Int)).f1=⟨x.toArray⟩:=by rw[hr];rfl
    have hfs:(⟨x.toArray⟩:ByteArray).size=x.length:=mk_size _
    have hxl:x.length≤1000000:=hxs
    have N:Aside0 (wrap64 ((i:Int)+1)=((i+1:Nat):Int)):=⟨nx i (by omega)⟩
    have keep0:o=32→∀ (k:Nat) (D:List S91) (at_:Int),4 * n+6≤k→D.length≤i+1→0≤at_→at_≤(i:Int) * 1000000→ye_.l0 k (st.map toSr) D at_ (i:Int)=some (D++(Tx.eg at_ none ((o,x) :: st.drop (i+1))).map ofE,0):=by
      rintro rfl k D at_ hk hD h0 h1
      obtain⟨k,rfl⟩:∃ q,k=q+1:=⟨k - 1,by omega⟩
      rw[ye_.l0,if_pos (by omega),if_pos (by omega),hf0,if_pos (show (((32:UInt8).toNat:Nat):Int)=32 from rfl),hf1,hfs,w64 (x:=at_+(x.length:Int)) (by omega) (by omega),N.out,ih0 k D (at_+(x.length:Int)) (by omega) hD (by omega) (by omega),Tx.y8b_]
      rfl
    have l1:∀ (k:Nat) (D:List S91) (f t:Int) (X:List UInt8),4 * (n+1)+4≤k→D.length≤i→0≤t→t≤(i:Int) * 1000000→X.length≤i * 1000000→ye_.l1 k (st.map toSr) D (i:Int) f t ⟨X.toArray⟩=some (D++(Tx.eg t (some ⟨f,t,X⟩) ((o,x) :: st.drop (i+1))).map ofE,0):=by
      intro k D f t X hk hD h0 h1 h2
      obtain⟨k,rfl⟩:∃ q,k=q+2:=⟨k - 2,by omega⟩
      rw[ye_.l1,if_pos (by omega),if_pos (by omega),hf0]
      by_cases c1:o=32
      · have e:(((o.toNat:Nat):Int) != 32)=false:=by simp [c1]
        rw[e,ye_.j3,if_neg (by decide),if_pos (by omega),keep0 c1 k _ t (by omega) (by rw[List.length_append,List.length_singleton];omega) h0 h1]
        subst c1
        rw[Tx.y8b_,Tx.y8b_,List.append_assoc]
        rfl
      have e:(((o.toNat:Nat):Int) != 32)=true:=by rw[bne_iff_ne];exact fun q=>c1 ((u8_32 o).1 q)
      rw[e,ye_.j3,if_pos rfl,if_pos (by omega),if_pos (by omega),hf0,hf1,hfs,N.out]
      by_cases c2:o=45
      · rw[if_pos ((u8_45 o).2 c2),w64 (x:=t+(x.length:Int)) (by omega) (by omega),ih1 k D f (t+(x.length:Int)) X (by omega) (by omega) (by omega) (by omega) (Nat.le_trans h2 (Nat.mul_le_mul_right _ (by omega)))]
        subst c2
        rw[Tx.y9b_];rfl
      have hs:(⟨X.toArray⟩:ByteArray).size=X.length:=mk_size _
      rw[if_neg (fun q=>c2 ((u8_45 o).1 q)),hs,if_pos (by omega),mk_append,ih1 k D f t (X++x) (by omega) (by omega) (by omega) (by omega) (by have h4:(X++x).length=X.length+x.length:=List.length_append;exact Nat.le_trans (Nat.le_of_eq h4) (by rw[Nat.add_mul];omega)),Tx.yac_ t _ o x _ c1 c2]
      rfl
    refine⟨fun k D at_ hk hD h0 h1=>?_,l1⟩
    by_cases c1:o=32
    · exact keep0 c1 k D at_ (by omega) (by omega) h0 h1
    obtain⟨k,rfl⟩:∃ q,k=q+1:=⟨k - 1,by omega⟩
    have e:=l1 k D at_ at_ [] (by omega) hD h0 h1 (Nat.zero_le _)
    rw[ye_.l0,if_pos (by omega),if_pos (by omega),hf0,if_neg (fun q=>c1 ((u8_32 o).1 q))]
    refine e.trans ?_
    by_cases c2:o=45
    · subst c2;rw[Tx.y9b_,Tx.y9b_];rfl
    rw[Tx.yac_ at_ _ o x _ c1 c2,Tx.yac_ at_ _ o x _ c1 c2];rfl
theorem yqb_ (s:ByteArray):(linesB s).map bL=Tx.lines (bL s):=by
  unfold linesB
  rw[List.map_map]
  exact (List.map_congr_left (fun x _=>bL_mk x)).trans (List.map_id _)
theorem flat_mem {α:Type}:∀ {l:List (List α)} {x:List α},x∈l→x.length≤l.flatten.length
  | y :: l,x,h=>by
    rw[List.flatten_cons,List.length_append]
    rcases List.mem_cons.1 h with h|h
    · subst h;omega
    · have:=flat_mem h;omega
/-- the steps of two texts -/
def stT (a b:ByteArray):List (UInt8 × List UInt8):=Tx.stp (Tx.lines (bL a)) (Tx.lines (bL b))
theorem stT_S (a b:ByteArray):stS (linesB a) (linesB b)=(stT a b).map toSt:=by unfold stS stT;rw[yqb_,yqb_]
theorem stT_R (a b:ByteArray):stR (linesB a) (linesB b)=(stT a b).map toSr:=by unfold stR stT;rw[yqb_,yqb_]
theorem stT_len (a b:ByteArray):(stT a b).length≤(linesB a).length+(linesB b).length:=by
  have:=stp_len _ (Tx.lines (bL a)) (Tx.lines (bL b)) (Nat.le_refl _)
  rw[← yqb_,← yqb_,List.length_map,List.length_map,yqb_,yqb_] at this
  exact this
theorem stT_ok (a b:ByteArray):∀ x∈stT a b,(x.1=32∨x.1=45∨x.1=43)∧x.2≠[]∧x.2.length≤max a.size b.size:=by
  intro x hx
  obtain⟨h1,h2⟩:=Tx.stp_op _ _ _ (Nat.le_refl _) x hx
  have ha:=yXb_ a
  have hb:=yXb_ b
  rcases h2 with h2|h2
  · have:=flat_mem h2
    rw[Tx.y6_] at this
    exact⟨h1,Tx.lines_ne _ x.2 h2,by omega⟩
  · have:=flat_mem h2
    rw[Tx.y6_] at this
    exact⟨h1,Tx.lines_ne _ x.2 h2,by omega⟩
/-- the edits from one text to another one -/
def editsS (a b:ByteArray):List S91:=(Tx.eg 0 none (stT a b)).map ofE
def editsR (a b:ByteArray):List S91 × Int:=if (sizedR a b 0).2=0 then (editsS a b,0) else ([],(sizedR a b 0).2)
theorem edits_f (a b:ByteArray) (ha:a.size≤1000000000) (hb:b.size≤1000000000) (k:Nat) (hk:5000000≤k):yo_.f k a b=some (editsR a b):=by
  unfold yo_.f editsR
  rw[sized_f a b 0 ha hb k hk,Option.bind_some]
  by_cases h:(sizedR a b 0).2=0
  rotate_left
  · rw[if_neg h,if_neg h]
  rw[if_pos h,if_pos h]
  obtain⟨e1,-,-,n1,n2,z1,z2⟩:=sized_zero h
  have hl:=stT_len a b
  rw[e1]
  show yo_.l0 k [] 0 false (stS (linesB a) (linesB b)) ((stS (linesB a) (linesB b)).length:Int) 0=_
  rw[stT_S,List.length_map]
  have:=tEdits_l0 (stT a b) (by omega) (fun x hx=>by have:=(stT_ok a b x hx).2.2;omega) (stT a b).length 0 k [] none 0 (by omega) (by omega) (by omega) (by simp) (by omega) (by omega) (fun e h=>by cases h)
  rw[List.drop_zero] at this
  exact this
theorem eg_len:∀ (l:List Tx.St) (a:Int) (c:Option Tx.Ed),(Tx.eg a c l).length≤c.toList.length+l.length
  | [],a,c=>by show c.toList.length≤_;omega
  | (o,x) :: l,a,c=>by
    by_cases c1:o=32
    · subst c1
      rw[Tx.y8b_,List.length_append,List.length_cons]
      have:=eg_len l (a+x.length) none
      simp only[Option.toList_none,List.length_nil] at this
      omega
    have one:∀ d:Tx.Ed,(some d).toList.length=1:=fun _=>rfl
    by_cases c2:o=45
    · subst c2
      rw[Tx.y9b_,List.length_cons]
      have:=eg_len l (a+x.length) (some ⟨(c.getD ⟨a,a,[]⟩).f,a+x.length,(c.getD ⟨a,a,[]⟩).x⟩)
      rw[one] at this;omega
    rw[Tx.yac_ a c o x l c1 c2,List.length_cons]
    have:=eg_len l a (some ⟨(c.getD ⟨a,a,[]⟩).f,(c.getD ⟨a,a,[]⟩).t,(c.getD ⟨a,a,[]⟩).x++x⟩)
    rw[one] at this;omega
theorem editsR_len (a b:ByteArray):(editsR a b).1.length≤4000:=by
  unfold editsR
  by_cases h:(sizedR a b 0).2=0
  rotate_left
  · rw[if_neg h];exact Nat.zero_le _
  obtain⟨-,-,-,n1,n2,-,-⟩:=sized_zero h
  have hl:=stT_len a b
  have:=eg_len (stT a b) 0 none
  rw[if_pos h]
  show (List.map ofE _).length≤_
  rw[List.length_map]
  simp only[Option.toList_none,List.length_nil] at this
  omega
end Go.Proofs.YthimblhfjfngiaaGreat.PText

