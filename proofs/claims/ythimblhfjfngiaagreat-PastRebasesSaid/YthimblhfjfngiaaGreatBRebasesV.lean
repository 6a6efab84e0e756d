/- PastRebases holds: for all steps, every number and all results the statement answers true. Part 22 of 24. -/
import Derived.Test.YthimblhfjfngiaaGreatBRebasesU
import Derived.Deep.RegionLaw
namespace Go.Proofs.YthimblhfjfngiaaGreat.PText
open Go.RowKit Go.Lib Go.Proofs.YthimblhfjfngiaaGreatW.PrintWords Go.Proofs.YthimblhfjfngiaaGreatW.PrintLast Go.Proofs.YthimblhfjfngiaaGreatW.PrintMore
def ofE (e:Tx.Ed):S91:=⟨e.f,e.t,⟨e.x.toArray⟩⟩
theorem rdSt (st:List (UInt8 × List UInt8)) (i:Nat) (h:i < st.length):rd_T119 (st.map toSt) (i:Int)=toSt st[i]:=by
  rw[rd78_at _ i (by rw[List.length_map];exact h),List.getElem_map]
theorem rdSr (st:List (UInt8 × List UInt8)) (i:Nat) (h:i < st.length):rd_T95 (st.map toSr) (i:Int)=toSr st[i]:=by
  unfold rd_T95
  rw[Int.toNat_natCast,List.getD_eq_getElem?_getD,List.getElem?_eq_getElem (by rw[List.length_map];exact h)]
  show (st.map toSr)[i]'(by rw[List.length_map];exact h)=_
  rw[List.getElem_map]
theorem u8_is (x:UInt8) (n:Nat) (hn:n < 256):((x.toNat:Nat):Int)=(n:Int)↔x=UInt8.ofNat n:=by
  constructor
  · intro h
    apply UInt8.toNat_inj.1
    rw[UInt8.toNat_ofNat',Nat.mod_eq_of_lt (by omega)]
    omega
  · intro h
    rw[h,UInt8.toNat_ofNat',Nat.mod_eq_of_lt (by omega)]
theorem u8_32 (x:UInt8):((x.toNat:Nat):Int)=32↔x=32:=u8_is x 32 (by omega)
theorem u8_45 (x:UInt8):((x.toNat:Nat):Int)=45↔x=45:=u8_is x 45 (by omega)
theorem toSt0 (x:UInt8 × List UInt8):(toSt x).f0=((x.1.toNat:Nat):Int):=rfl
theorem mk_size (l:List UInt8):(⟨l.toArray⟩:ByteArray).size=l.length:=by show l.toArray.size=_;simp
theorem toSt1 (x:UInt8 × List UInt8):((toSt x).f1).size=x.2.length:=mk_size _
theorem mk_append (a b:List UInt8):(⟨a.toArray⟩:ByteArray)++⟨b.toArray⟩=⟨(a++b).toArray⟩:=by
  apply bL_ext;rw[bL_append];rfl
/-- a list that ends with an element -/
theorem last34 (D:List S91) (e:S91) (h:D.length≤1000000):wrap64 (((D++[e]).length:Int) - 1)=(D.length:Int):=by
  rw[List.length_append,List.length_singleton,w64 (by omega) (by omega)];omega
theorem get34 (D:List S91) (e:S91):rd_T91 (D++[e]) (D.length:Int)=e:=by
  unfold rd_T91
  rw[Int.toNat_natCast,List.getD_eq_getElem?_getD,List.getElem?_append_right (Nat.le_refl _),Nat.sub_self];rfl
theorem set34 (D:List S91) (e v:S91):(D++[e]).set (D.length:Int).toNat v=D++[v]:=by
  rw[Int.toNat_natCast,List.set_append_right _ _ (Nat.le_refl _),Nat.sub_self];rfl
/-- an edit that is open takes a step -/
theorem tEdit_step (k:Nat) (D:List S91) (e:Tx.Ed) (at_:Int) (st:List (UInt8 × List UInt8)) (i:Nat) (o:UInt8) (x:List UInt8) (hD:D.length≤1000000) (hb:e.x.length+x.length≤1000000000000) (W:Int) (hW:wrap64 (at_+(x.length:Int))=W) :
    (if 0≤wrap64 (((D++[ofE e]).length:Int) - 1) then if wrap64 (((D++[ofE e]).length:Int) - 1) < ((D++[ofE e]).length:Int) then
      if ((o.toNat:Nat):Int)=45 then yu_.l0 k ((D++[ofE e]).set (wrap64 (((D++[ofE e]).length:Int) - 1)).toNat ⟨(rd_T91 (D++[ofE e]) (wrap64 (((D++[ofE e]).length:Int) - 1))).f0,wrap64 (at_+(x.length:Int)),(rd_T91 (D++[ofE e]) (wrap64 (((D++[ofE e]).length:Int) - 1))).f2⟩) (wrap64 (at_+(x.length:Int))) true (st.map toSt) (st.length:Int) (wrap64 ((i:Int)+1))
      else if (rd_T91 (D++[ofE e]) (wrap64 (((D++[ofE e]).length:Int) - 1))).f2.size+x.length≤9223372036854775807 then yu_.l0 k ((D++[ofE e]).set (wrap64 (((D++[ofE e]).length:Int) - 1)).toNat ⟨(rd_T91 (D++[ofE e]) (wrap64 (((D++[ofE e]).length:Int) - 1))).f0,(rd_T91 (D++[ofE e]) (wrap64 (((D++[ofE e]).length:Int) - 1))).f1,(rd_T91 (D++[ofE e]) (wrap64 (((D++[ofE e]).length:Int) - 1))).f2++⟨x.toArray⟩⟩) at_ true (st.map toSt) (st.length:Int) (wrap64 ((i:Int)+1)) else none
    else none else none)=if o=45 then yu_.l0 k (D++[ofE ⟨e.f,W,e.x⟩]) W true (st.map toSt) (st.length:Int) (wrap64 ((i:Int)+1)) else yu_.l0 k (D++[ofE ⟨e.f,e.t,e.x++x⟩]) at_ true (st.map toSt) (st.length:Int) (wrap64 ((i:Int)+1)):=by
  have hs:(ofE e).f2.size=e.x.length:=mk_size _
  rw[last34 D _ hD,get34,set34,set34,hW,if_pos (by omega),if_pos (by rw[List.length_append,List.length_singleton];omega)]
  by_cases c:o=45
  · rw[if_pos ((u8_45 o).2 c),if_pos c];rfl
  rw[if_neg (fun q=>c ((u8_45 o).1 q)),if_neg c,if_pos (by rw[hs];omega)]
  have e3:(ofE e).f2++⟨x.toArray⟩=⟨(e.x++x).toArray⟩:=mk_append _ _
  rw[e3];rfl
theorem tEdits_l0 (st:List (UInt8 × List UInt8)) (hst:st.length≤100000) (hx:∀ x∈st,x.2.length≤1000000):∀ (n i k:Nat) (D:List S91) (c:Option Tx.Ed) (at_:Int),st.length - i=n→i≤st.length→n+1≤k→D.length+c.toList.length≤i→0≤at_→at_≤(i:Int) * 1000000→(∀ e∈c.toList,e.x.length≤i * 1000000) →
    yu_.l0 k (D++c.toList.map ofE) at_ c.isSome (st.map toSt) (st.length:Int) (i:Int)=some (D++(Tx.eg at_ c (st.drop i)).map ofE,0):=by
  intro n
  induction n with
  | zero =>
    intro i k D c at_ hn hi hk hD h0 h1 h2
    obtain⟨k,rfl⟩:∃ q,k=q+1:=⟨k - 1,by omega⟩
    rw[yu_.l0,if_neg (by omega),List.drop_of_length_le (by omega)]
    rfl
  | succ n ih =>
    intro i k D c at_ hn hi hk hD h0 h1 h2
    obtain⟨k,rfl⟩:∃ q,k=q+1:=⟨k - 1,by omega⟩
    have hlt:i < st.length:=by omega
    have hd:st.drop i=st[i] :: st.drop (i+1):=List.drop_eq_getElem_cons hlt
    have hxs:=hx st[i] (List.getElem_mem hlt)
    rw[hd,yu_.l0,if_pos (by omega),if_pos (by omega),if_pos (by rw[List.length_map];omega),rdSt st i hlt,toSt0,toSt1]
    rw[show (toSt st[i]).f1=⟨st[i].2.toArray⟩ from rfl]
    generalize st[i]=y at *
    obtain⟨o,x⟩:=y
    dsimp only
    have W:Aside0 (wrap64 (at_+(x.length:Int))=at_+(x.length:Int)):=⟨w64 (by omega) (by have:x.length≤1000000:=hxs;omega)⟩
    have hxl:x.length≤1000000:=hxs
    have N:Aside0 (wrap64 ((i:Int)+1)=((i+1:Nat):Int)):=⟨nx i (by omega)⟩
    by_cases c1:o=32
    · subst c1
      rw[if_pos (show (((32:UInt8).toNat:Nat):Int)=32 from rfl),Tx.eg_keep]
      rw[W.out,N.out]
      have:=ih (i+1) k (D++c.toList.map ofE) none (at_+(x.length:Int)) (by omega) (by omega) (by omega) (by rw[List.length_append,List.length_map];simp;omega) (by omega) (by omega) (fun e h=>by cases h)
      simp only[Option.toList_none,List.map_nil,List.append_nil,Option.isSome_none] at this
      rw[this,List.map_append,← List.append_assoc]
    rw[if_neg (fun q=>c1 ((u8_32 o).1 q))]
    -- the edit that is open, or a new one
    have main:∀ (e:Tx.Ed) (D':List S91),D'.length+1≤i+1→e.x.length≤i * 1000000 →
        (if o=45 then yu_.l0 k (D'++[ofE ⟨e.f,at_+(x.length:Int),e.x⟩]) (at_+(x.length:Int)) true (st.map toSt) (st.length:Int) (wrap64 ((i:Int)+1)) else yu_.l0 k (D'++[ofE ⟨e.f,e.t,e.x++x⟩]) at_ true (st.map toSt) (st.length:Int) (wrap64 ((i:Int)+1))) =
        some (D'++(if o=45 then Tx.eg (at_+(x.length:Int)) (some ⟨e.f,at_+(x.length:Int),e.x⟩) (st.drop (i+1)) else Tx.eg at_ (some ⟨e.f,e.t,e.x++x⟩) (st.drop (i+1))).map ofE,0):=by
      intro e D' hD' he
      rw[N.out]
      by_cases c2:o=45
      · rw[if_pos c2,if_pos c2]
        exact ih (i+1) k D' (some ⟨e.f,at_+(x.length:Int),e.x⟩) (at_+(x.length:Int)) (by omega) (by omega) (by omega) (by simp;omega) (by omega) (by omega) (fun e' h=>by have h3:=List.mem_singleton.1 h;subst h3;exact Nat.le_trans he (Nat.mul_le_mul_right _ (by omega)))
      rw[if_neg c2,if_neg c2]
      exact ih (i+1) k D' (some ⟨e.f,e.t,e.x++x⟩) at_ (by omega) (by omega) (by omega) (by simp;omega) (by omega) (by omega) (fun e' h=>by have h3:=List.mem_singleton.1 h;subst h3;have h4:(e.x++x).length=e.x.length+x.length:=List.length_append;exact Nat.le_trans (Nat.le_of_eq h4) (by rw[Nat.add_mul];omega))
    have hE:∀ e:Tx.Ed,Tx.eg at_ c ((o,x) :: st.drop (i+1))=(if o=45 then Tx.eg (at_+(x.length:Int)) (some ⟨(c.getD ⟨at_,at_,[]⟩).f,at_+(x.length:Int),(c.getD ⟨at_,at_,[]⟩).x⟩) (st.drop (i+1)) else Tx.eg at_ (some ⟨(c.getD ⟨at_,at_,[]⟩).f,(c.getD ⟨at_,at_,[]⟩).t,(c.getD ⟨at_,at_,[]⟩).x++x⟩) (st.drop (i+1))):=fun _=>by
      by_cases c2:o=45
      · subst c2;rw[if_pos rfl,Tx.eg_gone]
      rw[if_neg c2,Tx.eg_come at_ c o x _ c1 c2]
    rw[hE ⟨0,0,[]⟩]
    cases c with
    | some e =>
      have he:e.x.length≤i * 1000000:=h2 e (by simp)
      have hD':D.length+1≤i:=hD
      rw[if_pos (show (Option.isSome (some e))=true from rfl)]
      exact (tEdit_step k D e at_ st i o x (by omega) (by omega) _ W.out).trans (main e D (by omega) he)
    | none =>
      have hD':D.length≤i:=by simpa using hD
      rw[if_neg (show ¬ (Option.isSome (none:Option Tx.Ed))=true by decide),if_pos (by simp;omega),Option.bind_some]
      have e0:D++(none:Option Tx.Ed).toList.map ofE++[(⟨at_,at_,(⟨#[]⟩:ByteArray)⟩:S91)]=D++[ofE ⟨at_,at_,[]⟩]:=by simp [ofE]
      rw[e0]
      exact (tEdit_step k D ⟨at_,at_,[]⟩ at_ st i o x (by omega) (by simp;omega) _ W.out).trans (main ⟨at_,at_,[]⟩ D (by omega) (by simp))
end Go.Proofs.YthimblhfjfngiaaGreat.PText

namespace Go.Proofs.YthimblhfjfngiaaGreat.PText
open Go.RowKit Go.Lib Go.Proofs.YthimblhfjfngiaaGreatW.PrintWords Go.Proofs.YthimblhfjfngiaaGreatW.PrintLast Go.Proofs.YthimblhfjfngiaaGreatW.PrintMore
theorem rEdits_l (st:List (UInt8 × List UInt8)) (hst:st.length≤100000) (hx:∀ x∈st,x.2.length≤1000000):∀ (n i:Nat),st.length - i=n→i≤st.length →
    (∀ (k:Nat) (D:List S91) (at_:Int),4 * n+5≤k→D.length≤i→0≤at_→at_≤(i:Int) * 1000000→ye_.l0 k (st.map toSr) D at_ (i:Int)=some (D++(Tx.eg at_ none (st.drop i)).map ofE,0)) ∧
    (∀ (k:Nat) (D:List S91) (f t:Int) (x:List UInt8),4 * n+4≤k→D.length≤i→0≤t→t≤(i:Int) * 1000000→x.length≤i * 1000000→ye_.l1 k (st.map toSr) D (i:Int) f t ⟨x.toArray⟩=some (D++(Tx.eg t (some ⟨f,t,x⟩) (st.drop i)).map ofE,0)):=by
  intro n
  have hlen:(st.map toSr).length=st.length:=List.length_map _
  induction n with
  | zero =>
    intro i hn hi
    have hd:st.drop i=[]:=List.drop_of_length_le (by omega)
    have l0:∀ (k:Nat) (D:List S91) (at_:Int),1≤k→ye_.l0 k (st.map toSr) D at_ (i:Int)=some (D,0):=fun k D at_ hk=>by
      obtain⟨k,rfl⟩:∃ q,k=q+1:=⟨k - 1,by omega⟩
      rw[ye_.l0,if_neg (by omega)]
    rw[hd]
    refine⟨fun k D at_ hk _ _ _=>?_,fun k D f t x hk hD _ _ _=>?_⟩
    · rw[l0 k D at_ (by omega)]
      show _=some (D++[].map ofE,0)
      rw[List.map_nil,List.append_nil]
    · obtain⟨k,rfl⟩:∃ q,k=q+2:=⟨k - 2,by omega⟩
      rw[ye_.l1,if_neg (by omega),ye_.j3,if_neg (by decide),if_pos (by omega),l0 k _ t (by omega)]
      rfl
  | succ n ih =>
    intro i hn hi
    have hlt:i < st.length:=by omega
    have hd:st.drop i=st[i] :: st.drop (i+1):=List.drop_eq_getElem_cons hlt
    have hxs:=hx st[i] (List.getElem_mem hlt)
    obtain⟨ih0,ih1⟩:=ih (i+1) (by omega) (by omega)
    have hr:=rdSr st i hlt
    rw[hd]
    generalize st[i]=y at *
    obtain⟨o,x⟩:=y
    have hf0:(rd_T95 (st.map toSr) (i:Int)).f0=((o.toNat:Nat):Int):=by rw[hr];rfl
    have hf1:(rd_T95 (st.map toSr) (i:Int)).f1=⟨x.toArray⟩:=by rw[hr];rfl
    have hfs:(⟨x.toArray⟩:ByteArray).size=x.length:=mk_size _
    have hxl:x.length≤1000000:=hxs
    have N:Aside0 (wrap64 ((i:Int)+1)=((i+1:Nat):Int)):=⟨nx i (by omega)⟩
    have keep0:o=32→∀ (k:Nat) (D:List S91) (at_:Int),4 * n+6≤k→D.length≤i+1→0≤at_→at_≤(i:Int) * 1000000→ye_.l0 k (st.map toSr) D at_ (i:Int)=some (D++(Tx.eg at_ none ((o,x) :: st.drop (i+1))).map ofE,0):=by
      rintro rfl k D at_ hk hD h0 h1
      obtain⟨k,rfl⟩:∃ q,k=q+1:=⟨k - 1,by omega⟩
      rw[ye_.l0,if_pos (by omega),if_pos (by omega),hf0,if_pos (show (((32:UInt8).toNat:Nat):Int)=32 from rfl),hf1,hfs,w64 (x:=at_+(x.length:Int)) (by omega) (by omega),N.out,ih0 k D (at_+(x.length:Int)) (by omega) hD (by omega) (by omega),Tx.eg_keep]
      rfl
    have l1:∀ (k:Nat) (D:List S91) (f t:Int) (X:List UInt8),4 * (n+1)+4≤k→D.length≤i→0≤t→t≤(i:Int) * 1000000→X.length≤i * 1000000→ye_.l1 k (st.map toSr) D (i:Int) f t ⟨X.toArray⟩=some (D++(Tx.eg t (some ⟨f,t,X⟩) ((o,x) :: st.drop (i+1))).map ofE,0):=by
      intro k D f t X hk hD h0 h1 h2
      obtain⟨k,rfl⟩:∃ q,k=q+2:=⟨k - 2,by omega⟩
      rw[ye_.l1,if_pos (by omega),if_pos (by omega),hf0]
      by_cases c1:o=32
      · have e:(((o.toNat:Nat):Int) != 32)=false:=by simp [c1]
        rw[e,ye_.j3,if_neg (by decide),if_pos (by omega),keep0 c1 k _ t (by omega) (by rw[List.length_append,List.length_singleton];omega) h0 h1]
        subst c1
        rw[Tx.eg_keep,Tx.eg_keep,List.append_assoc]
        rfl
      have e:(((o.toNat:Nat):Int) != 32)=true:=by rw[bne_iff_ne];exact fun q=>c1 ((u8_32 o).1 q)
      rw[e,ye_.j3,if_pos rfl,if_pos (by omega),if_pos (by omega),hf0,hf1,hfs,N.out]
      by_cases c2:o=45
      · rw[if_pos ((u8_45 o).2 c2),w64 (x:=t+(x.length:Int)) (by omega) (by omega),ih1 k D f (t+(x.length:Int)) X (by omega) (by omega) (by omega) (by omega) (Nat.le_trans h2 (Nat.mul_le_mul_right _ (by omega)))]
        subst c2
        rw[Tx.eg_gone];rfl
      have hs:(⟨X.toArray⟩:ByteArray).size=X.length:=mk_size _
      rw[if_neg (fun q=>c2 ((u8_45 o).1 q)),hs,if_pos (by omega),mk_append,ih1 k D f t (X++x) (by omega) (by omega) (by omega) (by omega) (by have h4:(X++x).length=X.length+x.length:=List.length_append;exact Nat.le_trans (Nat.le_of_eq h4) (by rw[Nat.add_mul];omega)),Tx.eg_come t _ o x _ c1 c2]
      rfl
    refine⟨fun k D at_ hk hD h0 h1=>?_,l1⟩
    by_cases c1:o=32
    · exact keep0 c1 k D at_ (by omega) (by omega) h0 h1
    obtain⟨k,rfl⟩:∃ q,k=q+1:=⟨k - 1,by omega⟩
    have e:=l1 k D at_ at_ [] (by omega) hD h0 h1 (Nat.zero_le _)
    rw[ye_.l0,if_pos (by omega),if_pos (by omega),hf0,if_neg (fun q=>c1 ((u8_32 o).1 q))]
    refine e.trans ?_
    by_cases c2:o=45
    · subst c2;rw[Tx.eg_gone,Tx.eg_gone];rfl
    rw[Tx.eg_come at_ _ o x _ c1 c2,Tx.eg_come at_ _ o x _ c1 c2];rfl
theorem yOb_ (s:ByteArray):(linesB s).map bL=Tx.lines (bL s):=by
  unfold linesB
  rw[List.map_map]
  exact (List.map_congr_left (fun x _=>bL_mk x)).trans (List.map_id _)
theorem flat_mem {α:Type}:∀ {l:List (List α)} {x:List α},x∈l→x.length≤l.flatten.length
  | y :: l,x,h=>by
    rw[List.flatten_cons,List.length_append]
    rcases List.mem_cons.1 h with h|h
    · subst h;omega
    · have:=flat_mem h;omega
/-- the steps of two texts -/
def stT (a b:ByteArray):List (UInt8 × List UInt8):=Tx.stp (Tx.lines (bL a)) (Tx.lines (bL b))
theorem stT_S (a b:ByteArray):stS (linesB a) (linesB b)=(stT a b).map toSt:=by unfold stS stT;rw[yOb_,yOb_]
theorem stT_R (a b:ByteArray):stR (linesB a) (linesB b)=(stT a b).map toSr:=by unfold stR stT;rw[yOb_,yOb_]
theorem stT_len (a b:ByteArray):(stT a b).length≤(linesB a).length+(linesB b).length:=by
  have:=stp_len _ (Tx.lines (bL a)) (Tx.lines (bL b)) (Nat.le_refl _)
  rw[← yOb_,← yOb_,List.length_map,List.length_map,yOb_,yOb_] at this
  exact this
theorem stT_ok (a b:ByteArray):∀ x∈stT a b,(x.1=32∨x.1=45∨x.1=43)∧x.2≠[]∧x.2.length≤max a.size b.size:=by
  intro x hx
  obtain⟨h1,h2⟩:=Tx.stp_op _ _ _ (Nat.le_refl _) x hx
  have ha:=bL_size a
  have hb:=bL_size b
  rcases h2 with h2|h2
  · have:=flat_mem h2
    rw[Tx.yRb_] at this
    exact⟨h1,Tx.lines_ne _ x.2 h2,by omega⟩
  · have:=flat_mem h2
    rw[Tx.yRb_] at this
    exact⟨h1,Tx.lines_ne _ x.2 h2,by omega⟩
/-- the edits from one text to another one -/
def editsS (a b:ByteArray):List S91:=(Tx.eg 0 none (stT a b)).map ofE
def editsR (a b:ByteArray):List S91 × Int:=if (sizedR a b 0).2=0 then (editsS a b,0) else ([],(sizedR a b 0).2)
theorem edits_f (a b:ByteArray) (ha:a.size≤1000000000) (hb:b.size≤1000000000) (k:Nat) (hk:5000000≤k):yu_.f k a b=some (editsR a b):=by
  unfold yu_.f editsR
  rw[sized_f a b 0 ha hb k hk,Option.bind_some]
  by_cases h:(sizedR a b 0).2=0
  rotate_left
  · rw[if_neg h,if_neg h]
  rw[if_pos h,if_pos h]
  obtain⟨e1,-,-,n1,n2,z1,z2⟩:=sized_zero h
  have hl:=stT_len a b
  rw[e1]
  show yu_.l0 k [] 0 false (stS (linesB a) (linesB b)) ((stS (linesB a) (linesB b)).length:Int) 0=_
  rw[stT_S,List.length_map]
  have:=tEdits_l0 (stT a b) (by omega) (fun x hx=>by have:=(stT_ok a b x hx).2.2;omega) (stT a b).length 0 k [] none 0 (by omega) (by omega) (by omega) (by simp) (by omega) (by omega) (fun e h=>by cases h)
  rw[List.drop_zero] at this
  exact this
theorem eg_len:∀ (l:List Tx.St) (a:Int) (c:Option Tx.Ed),(Tx.eg a c l).length≤c.toList.length+l.length
  | [],a,c=>by show c.toList.length≤_;omega
  | (o,x) :: l,a,c=>by
    by_cases c1:o=32
    · subst c1
      rw[Tx.eg_keep,List.length_append,List.length_cons]
      have:=eg_len l (a+x.length) none
      simp only[Option.toList_none,List.length_nil] at this
      omega
    have one:∀ d:Tx.Ed,(some d).toList.length=1:=fun _=>rfl
    by_cases c2:o=45
    · subst c2
      rw[Tx.eg_gone,List.length_cons]
      have:=eg_len l (a+x.length) (some ⟨(c.getD ⟨a,a,[]⟩).f,a+x.length,(c.getD ⟨a,a,[]⟩).x⟩)
      rw[one] at this;omega
    rw[Tx.eg_come a c o x l c1 c2,List.length_cons]
    have:=eg_len l a (some ⟨(c.getD ⟨a,a,[]⟩).f,(c.getD ⟨a,a,[]⟩).t,(c.getD ⟨a,a,[]⟩).x++x⟩)
    rw[one] at this;omega
theorem yLb_ (a b:ByteArray):(editsR a b).1.length≤4000:=by
  unfold editsR
  by_cases h:(sizedR a b 0).2=0
  rotate_left
  · rw[if_neg h];exact Nat.zero_le _
  obtain⟨-,-,-,n1,n2,-,-⟩:=sized_zero h
  have hl:=stT_len a b
  have:=eg_len (stT a b) 0 none
  rw[if_pos h]
  show (List.map ofE _).length≤_
  rw[List.length_map]
  simp only[Option.toList_none,List.length_nil] at this
  omega
end Go.Proofs.YthimblhfjfngiaaGreat.PText

namespace Go.Proofs.YthimblhfjfngiaaGreat.PText
open Go.RowKit Go.Lib Go.Sort Go.Proofs.YthimblhfjfngiaaGreatW.PrintWords Go.Proofs.YthimblhfjfngiaaGreatW.PrintLast Go.Proofs.YthimblhfjfngiaaGreatW.PrintMore
set_option linter.unusedVariables false
set_option linter.unusedSimpArgs false
theorem heap_same {w:World} {b t:Nat} {v:Value} {fz:Nat × Nat} (h:w.heap[b]?=some (.cells #[v] t fz)) (k:Nat):(w.setCell ⟨b,0,none⟩ v).heap[k]?=w.heap[k]?:=by
  by_cases hk:k=b
  rotate_left
  · exact Below.heap_setCell _ _ _ _ (fun e=>hk e)
  subst hk
  unfold World.setCell
  simp only
  rw[Array.getElem?_modify,if_pos rfl,h]
  rfl
theorem below_same {B:Nat} {a w:World} {b t:Nat} {v:Value} {fz:Nat × Nat} (h:Below B a w) (hb:w.heap[b]?=some (.cells #[v] t fz)):Below B a (w.setCell ⟨b,0,none⟩ v) :=
  ⟨h.os,h.tape,h.output,by
    have:(w.setCell ⟨b,0,none⟩ v).heap.size=w.heap.size:=by unfold World.setCell;simp
    rw[this];exact h.size,fun k hk=>(heap_same hb k).trans (h.block k hk)⟩
/-- to append no values to a row -/
theorem append_idle {P:Program} {ops:Array Oper} {o:Oper} {a:Act} {Q:Exit→Act→World→Prop} {Kc:Act→World→Prop} {W:World} {α:Type} (d:Kd α) (hw:Region.wanted o (yielded ops a.tmps)=true) (s x:Operand) (t e:TypeId) (z:Value) (bytes base:Nat)
    (ho:o.op=.call { callee:=.builtin .append,args:=#[s,x],argTypes:=#[t,t] })
    (ht:P.underlying t=some (.slice e)) (hinfo:(P.info? e).map (fun i=>(i.zero,i.size,i.bytes))=some (some z,d.sz,bytes)) (v:Value) (xs:List α) (ok:Nat→Prop) (hs:a.eval s=v) (hx:a.eval x=.slice none 0 0)
    {W0:World} (HO:d.R e W0 base ok v xs) (h:Kc (a.put o.dst v) W) :
    if Region.wanted o (yielded ops a.tmps)=true then Oper.wp P o a W Kc Q else Kc (a.put o.dst undef) W:=by
  obtain⟨i0,hi,hzz⟩:=Option.map_eq_some_iff.1 hinfo
  obtain⟨hok,inner,hown,hr⟩:=HO
  have hrun:(Builtin.append_ #[t,t] o.type #[v,.slice none 0 0]).run P W=.ok v W:=by
    rcases hown.2 with ⟨rfl,hn⟩|⟨g,cap,cur,rfl,_,_,hnc,_⟩
    · simp [Builtin.append_,run_underlying ht,sizeOf,typeInfo,hi,Builtin.lenOf,Builtin.firstCells]
    · simp [Builtin.append_,run_underlying ht,sizeOf,typeInfo,hi,Builtin.lenOf,Builtin.firstCells,hnc,storeCells]
  rw[if_pos hw]
  unfold Oper.wp execOp
  simp only[ho,resolve,invoke,builtin,Sem.run_bind,Sem.run_pure,Result.andThen_ok,List.map_toArray,List.map_cons,List.map_nil,hs,hx,hrun]
  exact h
/-- the same heap -/
structure Same (w w':World):Prop where
  below:Below w.heap.size w w'
  heap:∀ k:Nat,w'.heap[k]?=w.heap[k]?
theorem Same.refl (w:World):Same w w:=⟨Below.refl _ _,fun _=>rfl⟩
theorem Same.drew {w w':World} (h:Same w w'):Same w w'.drew:=⟨h.below.drew,h.heap⟩
theorem Same.set {w w':World} {b t:Nat} {v:Value} {fz:Nat × Nat} (h:Same w w') (hb:w.heap[b]?=some (.cells #[v] t fz)):Same w (w'.setCell ⟨b,0,none⟩ v) :=
  ⟨below_same h.below ((h.heap b).trans hb),fun k=>(heap_same ((h.heap b).trans hb) k).trans (h.heap k)⟩
theorem Same.cell {w w':World} (h:Same w w') (p:Addr):w'.cell? p=w.cell? p:=by
  unfold World.cell?
  simp only[h.heap]
theorem Same.frozen {w w':World} (h:Same w w') (p:Addr):w'.frozen? p=w.frozen? p:=by
  simp only[World.frozen?,h.heap]
theorem Same.all {w w':World} {bn bo bl:Nat} {v:Value} (h:Same w w') (hn:w.cell? ⟨bn,0,none⟩=some (.int .i64 0)) (ho:w.cell? ⟨bo,0,none⟩=some v) (hl:w.cell? ⟨bl,0,none⟩=some (.slice none 0 0)) (hf:w.frozen? ⟨bo,0,none⟩=false) :
    w'.cell? ⟨bn,0,none⟩=some (.int .i64 0)∧w'.cell? ⟨bo,0,none⟩=some v∧w'.cell? ⟨bl,0,none⟩=some (.slice none 0 0)∧w'.frozen? ⟨bo,0,none⟩=false∧Same w w' :=
  ⟨(h.cell _).trans hn,(h.cell _).trans ho,(h.cell _).trans hl,(h.frozen _).trans hf,h⟩
set_option maxRecDepth 100000 in
set_option maxHeartbeats 2000000 in
/-- nothing to pass -/
theorem pass_idle (keep:Bool) (bn ba bs bo bl base:Nat) (v:Value) (D:List Int) (w:World) (hn:w.cell? ⟨bn,0,none⟩=some (.int .i64 0)) (ha:w.cell? ⟨ba,0,none⟩=some (.int .i64 0))
    (ho:w.heap[bo]?=some (.cells #[v] 28 (0,0))) (hl:w.cell? ⟨bl,0,none⟩=some (.slice none 0 0)) (hR:Kd.R (Kd.int .i64) 3 w base (fun _=>True) v D) :
    Calls Tryz.prog 51 #[.int .i64 0,.bool keep,.pointer (some ⟨bn,0,none⟩),.pointer (some ⟨ba,0,none⟩),.pointer (some ⟨bs,0,none⟩),.pointer (some ⟨bo,0,none⟩),.pointer (some ⟨bl,0,none⟩)] w fun e w'=>e=.returned (.tuple #[])∧Below w.heap.size w w':=by
  obtain⟨A,c,rfl⟩:=Kd.yE_ hR
  have hoc:w.cell? ⟨bo,0,none⟩=some (.slice A D.length c):=by unfold World.cell?;rw[ho];rfl
  have hof:w.frozen? ⟨bo,0,none⟩=false:=by simp [World.frozen?,ho]
  have HO:=Aside0.mk ho
  have HR:=Aside0.mk hR
  clear ho hR
  go_enter Tryz.func51,Tryz.ntmps51
  go_wp2_with fail
  go_loopg [11] 0 (fun _ v11 wr=>wr=w)
  case atStart=>exact rfl
  case round =>
    obtain rfl:=hrel
    cases keep
    · go_wp2_with fail
      first
        | (go_end0;exact⟨rfl,Below.refl _ _⟩)
        | exact⟨rfl,Below.refl _ _⟩
    · go_wp2_with fail
      go_region_held3 (fun w'=>w'.cell? ⟨bn,0,none⟩=some (.int .i64 0)∧w'.cell? ⟨bo,0,none⟩=some (.slice A D.length c)∧w'.cell? ⟨bl,0,none⟩=some (.slice none 0 0)∧w'.frozen? ⟨bo,0,none⟩=false∧Same wr w')
        (first|exact Same.all (Same.refl _) hn hoc hl hof|exact Same.all (Same.refl _).drew hn hoc hl hof|exact Same.all ((Same.refl _).set HO.out).drew hn hoc hl hof|exact Same.all ((Same.refl _).drew.set HO.out).drew hn hoc hl hof)
        (first
          | (refine append_idle (Kd.int .i64) ?hw1 (.tmp 24) (.tmp 29) 28 3 (.int .i64 0) 8 base ?hg1 Tryz.underlying28 info3 _ D (fun _=>True) ?hs1 ?hx1 HR.out ?_;(case hw1=>rfl);(case hg1=>rfl);(case hs1=>rfl);(case hx1=>rfl)))
      go_split_ands
      first
        | (go_end0;exact⟨rfl,Same.below zd_⟩)
        | exact⟨rfl,Same.below zd_⟩
        | exact bodyPost_end0 ⟨rfl,Same.below zd_⟩
/-- as many times one number as there are lines -/
def putL (es:List S91) (k:Int):List Int:=(es.map (fun x=>List.replicate (linesB x.f2).length k)).flatten
theorem putL_snoc (es:List S91) (k:Int) (i:Nat) (h:i < es.length):putL (es.take (i+1)) k=putL (es.take i) k++List.replicate (linesB es[i].f2).length k:=by
  unfold putL
  rw[List.take_add_one,List.getElem?_eq_getElem h,Option.toList_some,List.map_append,List.flatten_append]
  simp
theorem putL_take (es:List S91) (k:Int) (i:Nat):(putL (es.take i) k).length≤(putL es k).length:=by
  have h:putL es k=putL (es.take i) k++putL (es.drop i) k:=by
    unfold putL
    rw[← List.flatten_append,← List.map_append,List.take_append_drop]
  rw[h,List.length_append];omega
theorem lines_nil:y4_.f ⟨#[]⟩=some []:=by kernel_rfl
theorem heap3 (w:World) (a b c:Obj):(((w.alloc a).alloc b).alloc c).heap[w.heap.size]?=some a∧(((w.alloc a).alloc b).alloc c).heap[w.heap.size+1]?=some b∧(((w.alloc a).alloc b).alloc c).heap[w.heap.size+1+1]?=some c∧(((w.alloc a).alloc b).alloc c).heap.size=w.heap.size+3∧Below w.heap.size w (((w.alloc a).alloc b).alloc c):=by
  refine⟨?_,?_,?_,?_,?_⟩
  · show (((w.heap.push a).push b).push c)[w.heap.size]?=_
    rw[Array.getElem?_push,if_neg (by simp;omega),Array.getElem?_push,if_neg (by simp),Array.getElem?_push_size]
  · show (((w.heap.push a).push b).push c)[w.heap.size+1]?=_
    rw[Array.getElem?_push,if_neg (by simp),Array.getElem?_push,if_pos (by simp)]
  · show (((w.heap.push a).push b).push c)[w.heap.size+1+1]?=_
    rw[Array.getElem?_push,if_pos (by simp)]
  · show (((w.heap.push a).push b).push c).size=_
    simp
  · exact (((Below.refl _ w).alloc (Nat.le_refl _) a).alloc (by simp) b).alloc (by simp;omega) c
/-- the variables of past.blamed, laid -/
theorem boxes {w w1 w2:World} {v2:Value} {A1:Option Addr} {c1:Nat} {es:List S91} (h1:Below (w.alloc (.cells #[.slice none 0 0] 28)).heap.size (w.alloc (.cells #[.slice none 0 0] 28)) w1)
    (h2:Below (((w1.alloc (.cells #[.slice none 0 0] 28)).alloc (.cells #[.int .i64 0] 3)).alloc (.cells #[.int .i64 0] 3)).heap.size (((w1.alloc (.cells #[.slice none 0 0] 28)).alloc (.cells #[.int .i64 0] 3)).alloc (.cells #[.int .i64 0] 3)) w2)
    (ho:Kd.R k91 91 w1 (w.alloc (.cells #[.slice none 0 0] 28)).heap.size (fun _=>True) (.slice A1 es.length c1) es) :
    (w2.alloc (.cells #[v2] 47)).heap[w1.heap.size]?=some (.cells #[.slice none 0 0] 28 (0,0))∧(w2.alloc (.cells #[v2] 47)).cell? ⟨w1.heap.size+1,0,none⟩=some (.int .i64 0)∧(w2.alloc (.cells #[v2] 47)).cell? ⟨w1.heap.size+1+1,0,none⟩=some (.int .i64 0) ∧
    (w2.alloc (.cells #[v2] 47)).cell? ⟨w.heap.size,0,none⟩=some (.slice none 0 0)∧Below w.heap.size w (w2.alloc (.cells #[v2] 47))∧(w2.alloc (.cells #[v2] 47)).heap.size=w2.heap.size+1∧w.heap.size < w1.heap.size∧w1.heap.size+3≤w2.heap.size ∧
    Kd.R k91 91 (w2.alloc (.cells #[v2] 47)) (w.alloc (.cells #[.slice none 0 0] 28)).heap.size (fun _=>True) (.slice A1 es.length c1) es:=by
  obtain⟨q1,q2,q3,q4,q5⟩:=heap3 w1 (.cells #[.slice none 0 0] 28) (.cells #[.int .i64 0] 3) (.cells #[.int .i64 0] 3)
  have s0:(w.alloc (.cells #[.slice none 0 0] 28)).heap.size=w.heap.size+1:=by simp
  have s1:=h1.size
  have s2:=h2.size
  have b2:Below w2.heap.size w2 (w2.alloc (.cells #[v2] 47)):=(Below.refl _ w2).alloc (Nat.le_refl _) _
  have B12:Below w1.heap.size w1 (w2.alloc (.cells #[v2] 47)):=(q5.trans (h2.mono (by omega))).trans (b2.mono (by omega))
  have hh:∀ k,k < w1.heap.size+3→(w2.alloc (.cells #[v2] 47)).heap[k]?=(((w1.alloc (.cells #[.slice none 0 0] 28)).alloc (.cells #[.int .i64 0] 3)).alloc (.cells #[.int .i64 0] 3)).heap[k]?:=fun k hk=>(b2.block k (by omega)).trans (h2.block k (by omega))
  refine⟨(hh _ (by omega)).trans q1,?_,?_,?_,?_,by simp,by omega,by omega,Kd.yH_ ho B12⟩
  · have e:=(hh (w1.heap.size+1) (by omega)).trans q2
    unfold World.cell?;simp only[e];rfl
  · have e:=(hh (w1.heap.size+1+1) (by omega)).trans q3
    unfold World.cell?;simp only[e];rfl
  · have:(w2.alloc (.cells #[v2] 47)).heap[w.heap.size]?=some (.cells #[.slice none 0 0] 28 (0,0)):=(B12.block _ (by omega)).trans ((h1.block _ (by omega)).trans (yAb_ w _))
    unfold World.cell?;rw[this];rfl
  · exact (((Below.refl _ w).alloc (Nat.le_refl _) _).trans (h1.mono (by omega))).trans (B12.mono (by omega))
theorem box_self {W0 wr:World} {bo base:Nat} {v0 v:Value} (h:Below base (W0.setCell ⟨bo,0,none⟩ v) wr) (h0:W0.heap[bo]?=some (.cells #[v0] 28 (0,0))) (hb:bo < base):wr.heap[bo]?=some (.cells #[v] 28 (0,0)):=by
  rw[h.block bo hb]
  unfold World.setCell
  simp only
  rw[Array.getElem?_modify,if_pos rfl,h0]
  rfl
theorem box_other {W0 wr:World} {bo base:Nat} {v u:Value} {b i:Nat} (h:Below base (W0.setCell ⟨bo,0,none⟩ v) wr) (hb:b < base) (hne:b≠bo) (hc:W0.cell? ⟨b,i,none⟩=some u):wr.cell? ⟨b,i,none⟩=some u:=by
  rw[← hc]
  unfold World.cell?
  simp only
  rw[h.block b hb,Below.heap_setCell _ _ _ _ hne]
theorem box_step2 {W0 wr w5:World} {bo base:Nat} {v0 v v5:Value} (h:Below base (W0.setCell ⟨bo,0,none⟩ v) wr) (h5:Below base wr w5) (h0:W0.heap[bo]?=some (.cells #[v0] 28 (0,0))) (hb:bo < base) :
    Below base (W0.setCell ⟨bo,0,none⟩ v5) (w5.setCell ⟨bo,0,none⟩ v5):=by
  have ss:∀ (W:World) (u:Value),(W.setCell ⟨bo,0,none⟩ u).heap.size=W.heap.size:=fun W u=>by unfold World.setCell;simp
  refine⟨h5.os.trans h.os,h5.tape.trans h.tape,h5.output.trans h.output,?_,fun k hk=>?_⟩
  · have:=h.size;have:=h5.size
    rw[ss] at *;rw[ss];omega
  · by_cases e:k=bo
    · subst e
      have h3:=(h5.block k hk).trans (box_self h h0 hk)
      unfold World.setCell
      simp only
      rw[Array.getElem?_modify,if_pos rfl,Array.getElem?_modify,if_pos rfl,h0,h3]
      rfl
    · rw[Below.heap_setCell _ _ _ _ e,Below.heap_setCell _ _ _ _ e,h5.block k hk,h.block k hk,Below.heap_setCell _ _ _ _ e]
set_option maxRecDepth 100000 in
set_option maxHeartbeats 4000000 in
theorem blamed_new (es:List S91) (k:Int) (now:ByteArray) (w:World) (he:yu_.f 5000000 ⟨#[]⟩ now=some (es,0)) (h0:∀ x∈es,x.f0=0∧x.f1=0∧x.f2.size≤1000000000) (hlen:es.length≤4000) (hD:(putL es k).length≤1000000) :
    Calls Tryz.prog 29 #[.string ⟨#[]⟩,.string now,.slice none 0 0,.int .i64 k] w fun e w'=>∃ v,e=.returned (.tuple #[v,.int .i64 0])∧Kd.R (Kd.int .i64) 3 w' w.heap.size (fun _=>True) v (putL es k)∧Below w.heap.size w w':=by
  have HE:=Aside0.mk he
  have H0:=Aside0.mk h0
  have HLN:=Aside0.mk hlen
  have HD:=Aside0.mk hD
  clear he h0 hlen hD
  go_enter Tryz.func29,Tryz.ntmps29
  go_wp2_with (first
    | (go_at_call 50;refine (yu_.calls 5000000 _ now es 0 _ HE.out).mono ?_;rintro e w1 ⟨v1,rfl,ho,hb⟩;obtain⟨A1,c1,rfl⟩:=Kd.yE_ ho;have HO1:=Aside0.mk ho;have HB1:=Aside0.mk hb;clear ho hb HE)
    | (go_at_call 36;refine (y4_.calls _ [] _ lines_nil).mono ?_;rintro e w2 ⟨v2,rfl,ho,hb⟩;obtain⟨A2,c2,rfl⟩:=Kd.yE_ ho;have HX:=Aside0.mk (boxes (v2:=.slice A2 0 c2) HB1.out hb HO1.out);clear ho hb HB1 HO1))
  obtain⟨hbo,hba,hbn,hbl,hB,hz,hlt1,hlt2,hER⟩:=HX.out
  clear HX
  generalize w2.alloc (.cells #[.slice A2 0 c2] 47)=W0 at *
  have l1:w1.heap.size+1+1 < W0.heap.size:=by omega
  have l2:w1.heap.size+1 < W0.heap.size:=by omega
  have l3:w1.heap.size < W0.heap.size:=by omega
  have l4:w.heap.size < W0.heap.size:=by omega
  have l5:w.heap.size≤w1.heap.size:=by omega
  have n1:w1.heap.size+1+1≠w1.heap.size:=by omega
  have n2:w1.heap.size+1≠w1.heap.size:=by omega
  have n4:w.heap.size≠w1.heap.size:=by omega
  clear hlt1 hlt2 hz
  generalize w2.heap.size=bs at *
  generalize w1.heap.size+1+1=bn at *
  generalize w1.heap.size+1=ba at *
  generalize w1.heap.size=bo at *
  have ss:∀ (W:World) (u:Value),(W.setCell ⟨bo,0,none⟩ u).heap.size=W.heap.size:=fun W u=>by unfold World.setCell;simp
  have HCE:Aside0 (∀ v wr,Below W0.heap.size (W0.setCell ⟨bo,0,none⟩ v) wr→Kd.C k91 wr A1 es.length es):=⟨fun v wr h =>
    (Kd.yt_ (Kd.yH_ (Kd.R_set hER hbo (fun q hq=>by rcases List.mem_cons.1 hq with h|h;subst h;decide;cases h) 0 v) (by rw[ss];exact h))).2.2⟩
  have HPA:Aside0 (∀ (keep:Bool) (v:Value) (D:List Int) (wr:World),Below W0.heap.size (W0.setCell ⟨bo,0,none⟩ v) wr→Kd.R (Kd.int .i64) 3 wr W0.heap.size (fun _=>True) v D →
      Calls Tryz.prog 51 #[.int .i64 0,.bool keep,.pointer (some ⟨bn,0,none⟩),.pointer (some ⟨ba,0,none⟩),.pointer (some ⟨bs,0,none⟩),.pointer (some ⟨bo,0,none⟩),.pointer (some ⟨w.heap.size,0,none⟩)] wr fun e w'=>e=.returned (.tuple #[])∧Below wr.heap.size wr w') :=
    ⟨fun keep v D wr h1 h2=>pass_idle keep bn ba bs bo w.heap.size W0.heap.size v D wr (box_other h1 l1 n1 hbn) (box_other h1 l2 n2 hba) (box_self h1 hbo l3) (box_other h1 l4 n4 hbl) h2⟩
  have HBF:Aside0 (∀ v wr,Below W0.heap.size (W0.setCell ⟨bo,0,none⟩ v) wr→Below w.heap.size w wr):=⟨fun v wr h=>(hB.setCell (p:=⟨bo,0,none⟩) l5 v).trans (h.mono (by omega))⟩
  have HBO:=Aside0.mk hbo
  have HL3:=Aside0.mk l3
  have HS0:Aside0 (Below W0.heap.size (W0.setCell ⟨bo,0,none⟩ (.slice none 0 0)) W0):=⟨by
    have q:=Same.set (Same.refl W0) hbo
    exact⟨rfl,rfl,rfl,by rw[ss];exact Nat.le_refl _,fun k _=>(q.heap k).symm⟩⟩
  clear hbo hba hbn hbl hB hER l1 l2 l3 l4 l5 n1 n2 n4 ss
  go_loopg [33] (es.length+1) (fun kq v33 w'=>∃ (i:Nat) (v:Value),v33=.int .i64 (i:Int)∧Aside0 (es.length - i < kq∧i≤es.length)∧Aside0 (Below W0.heap.size (W0.setCell ⟨bo,0,none⟩ v) w')∧Aside0 (Kd.R (Kd.int .i64) 3 w' W0.heap.size (fun _=>True) v (putL (es.take i) k)))
  case atStart=>exact⟨0,.slice none 0 0,rfl,⟨by omega,by omega⟩,HS0,⟨Kd.R_nil _ _ _ _ _⟩⟩
  case round =>
    obtain⟨i,v,rfl,HI,HBe,HR⟩:=hrel
    obtain⟨k1,rfl⟩:∃ k1,gk=k1+1:=⟨gk - 1,by have:=HI.out.1;omega⟩
    have hwr:W0.heap.size≤wr.heap.size:=by have:=HBe.out.size;unfold World.setCell at this;simpa using this
    by_cases hlt:i < es.length
    rotate_left
    · have hb:decide ((i:Int) < (es.length:Int))=false:=by simp;omega
      have hin:es.take i=es:=List.take_of_length_le (by omega)
      rw[hin] at HR
      clear hin
      obtain⟨A7,c7,rfl⟩:=Kd.yE_ HR.out
      have hoh:=box_self HBe.out HBO.out HL3.out
      have hoc:wr.cell? ⟨bo,0,none⟩=some (.slice A7 (putL es k).length c7):=by unfold World.cell?;rw[hoh];rfl
      have hbw:bo < wr.heap.size:=Nat.lt_of_lt_of_le HL3.out hwr
      have HPZ:=Aside0.mk (HPA.out true _ _ wr HBe.out HR.out)
      go_wp2_with (go_at_call 51;refine HPZ.out.mono ?_;rintro e w3 ⟨rfl,hb3⟩;have HB3:=Aside0.mk hb3;have hz1:=(hb3.cell (p:=⟨bo,0,none⟩) hbw).trans hoc;clear hb3 HPZ)
      go_ret2
      have hbs:w.heap.size≤W0.heap.size:=by have:=(HBF.out _ _ HS0.out).size;exact this
      exact⟨_,rfl,Kd.yH_ (Kd.y0_ HR.out hbs) HB3.out,(HBF.out _ _ HBe.out).trans (HB3.out.mono (Nat.le_trans hbs hwr))⟩
    have hb:decide ((i:Int) < (es.length:Int))=true:=by simp;omega
    have hb2:decide ((0:Int)≤(i:Int))=true:=by simp
    obtain⟨ad,e0,hx0,hx1,hx2⟩:=at_T91 (HCE.out v wr HBe.out) (i:Int) (by omega) (by omega)
    cases e0
    rw[Int.toNat_natCast] at hx0 hx1 hx2
    rw[yzb_ es i hlt] at hx0 hx1 hx2
    have HSN:=Aside0.mk (putL_snoc es k i hlt)
    have HTK:=Aside0.mk (putL_take es k (i+1))
    have hx:=H0.out es[i] (List.getElem_mem hlt)
    generalize es[i]=x at *
    obtain⟨g0,g1,t⟩:=x
    obtain⟨y0,y1,y2⟩:=hx
    cases y0
    cases y1
    have HT:=Aside0.mk (show y4_.f t=some (linesB t) by unfold y4_.f;rw[if_pos y2])
    have HBA:Aside0 (Below W0.heap.size (W0.setCell ⟨bo,0,none⟩ v) (wr.alloc (.cells #[.int .i64 0,.int .i64 0,.string t] 91))):=⟨HBe.out.alloc hwr _⟩
    have HP1:=Aside0.mk (HPA.out true v _ _ HBA.out (Kd.yj_ HR.out _))
    have hy0:(wr.alloc (.cells #[.int .i64 0,.int .i64 0,.string t] 91)).cell? ⟨wr.heap.size,0,none⟩=some (.int .i64 0):=by unfold World.cell?;simp only[yAb_];rfl
    have hy1:(wr.alloc (.cells #[.int .i64 0,.int .i64 0,.string t] 91)).cell? ⟨wr.heap.size,1,none⟩=some (.int .i64 0):=by unfold World.cell?;simp only[yAb_];rfl
    have hy2:(wr.alloc (.cells #[.int .i64 0,.int .i64 0,.string t] 91)).cell? ⟨wr.heap.size,2,none⟩=some (.string t):=by unfold World.cell?;simp only[yAb_];rfl
    have hsa:wr.heap.size < (wr.alloc (.cells #[.int .i64 0,.int .i64 0,.string t] 91)).heap.size:=by simp
    have HY1:=Aside0.mk hy1
    have HY2:=Aside0.mk hy2
    have HSA:=Aside0.mk hsa
    clear hy1 hy2 hsa y2
    go_wp2_with (first
      | (go_at_call 51;refine HP1.out.mono ?_;rintro e w3 ⟨rfl,hb3⟩;have HB3:=Aside0.mk hb3;have hz1:=(hb3.cell (p:=⟨wr.heap.size,1,none⟩) HSA.out).trans HY1.out;clear hb3 HP1)
      | (go_at_call 51;refine (HPA.out false v (putL (es.take i) k) w3 (HBA.out.trans (HB3.out.mono (Nat.le_trans hwr (Nat.le_of_lt HSA.out)))) (Kd.yH_ (Kd.yj_ HR.out _) HB3.out)).mono ?_;rintro e w4 ⟨rfl,hb4⟩;have HB4:=Aside0.mk (HB3.out.trans (hb4.mono HB3.out.size));have hz2:=(HB4.out.cell (p:=⟨wr.heap.size,2,none⟩) HSA.out).trans HY2.out;clear hb4)
      | (go_at_call 36;refine (y4_.calls _ _ _ HT.out).mono ?_;rintro e w5 ⟨v5,rfl,ho,hb⟩;obtain⟨A5,c5,rfl⟩:=Kd.yE_ ho;have HB5:=Aside0.mk (HB4.out.trans (hb.mono HB4.out.size));clear ho hb))
    have hW:wr.heap.size≤w5.heap.size:=Nat.le_trans (Nat.le_of_lt HSA.out) HB5.out.size
    have HB6:Aside0 (Below W0.heap.size (W0.setCell ⟨bo,0,none⟩ v) w5):=⟨HBA.out.trans (HB5.out.mono (Nat.le_trans hwr (Nat.le_of_lt HSA.out)))⟩
    have HR6:Aside0 (Kd.R (Kd.int .i64) 3 w5 W0.heap.size (fun _=>True) v (putL (es.take i) k++List.replicate 0 k)):=⟨by rw[List.replicate_zero,List.append_nil];exact Kd.yH_ (Kd.yj_ HR.out _) HB5.out⟩
    have HL5:=Aside0.mk (Nat.le_trans hwr hW)
    have HI2:Aside0 (es.length - i < k1+1∧i < es.length):=⟨HI.out.1,hlt⟩
    clear hW hwr hx0 hx1 hx2 HB5 HB4 HB3 HBA HSA HY1 HY2 hz1 hz2 HBe HR hy0 hlt
    generalize hn:(linesB t).length=n at *
    clear hn
    go_loopg [49] (n+1) (fun kq v49 w'=>∃ (j:Nat) (v:Value),v49=.int .i64 (j:Int)∧Aside0 (n - j < kq∧j≤n)∧Aside0 (Below W0.heap.size (W0.setCell ⟨bo,0,none⟩ v) w')∧Aside0 (Kd.R (Kd.int .i64) 3 w' W0.heap.size (fun _=>True) v (putL (es.take i) k++List.replicate j k)))
    case atStart=>exact⟨0,v,rfl,⟨by omega,by omega⟩,HB6,HR6⟩
    case round =>
      obtain⟨j,v,rfl,HJ,HBj,HRj⟩:=hrel
      obtain⟨k2,rfl⟩:∃ k2,gk=k2+1:=⟨gk - 1,by have:=HJ.out.1;omega⟩
      have hwr:W0.heap.size≤wr.heap.size:=by have:=HBj.out.size;unfold World.setCell at this;simpa using this
      have hLen:(putL (es.take i) k++List.replicate j k).length≤1000000:=by
        have h1:=HTK.out
        rw[HSN.out,List.length_append,List.length_replicate] at h1
        have h2:=HD.out
        have h3:=HJ.out.2
        rw[List.length_append,List.length_replicate]
        omega
      have HLE:=Aside0.mk hLen
      have HWR:=Aside0.mk hwr
      clear hLen
      by_cases hlt:j < n
      rotate_left
      · have hb:decide ((j:Int) < (n:Int))=false:=by simp;omega
        have hjn:j=n:=by have:=HJ.out.2;omega
        subst hjn
        rw[← HSN.out] at HRj
        go_wp2_with fail
        go_roundg k1
        case measure=>have:=HI2.out;omega
        case rel=>exact⟨i+1,_,congrArg (Value.int .i64) (by first|exact nx i (by have:=HLN.out;have:=HI2.out;omega)|(have:=HLN.out;have:=HI2.out;omega)),⟨by have:=HI2.out;omega,by have:=HI2.out;omega⟩,HBj,HRj⟩
      have hb:decide ((j:Int) < (n:Int))=true:=by simp;omega
      obtain⟨A7,c7,rfl⟩:=Kd.yE_ HRj.out
      have hoh:=box_self HBj.out HBO.out HL3.out
      have hoc:wr.cell? ⟨bo,0,none⟩=some (.slice A7 (putL (es.take i) k++List.replicate j k).length c7):=by unfold World.cell?;rw[hoh];rfl
      have HOH:=Aside0.mk hoh
      have HLT:=Aside0.mk hlt
      clear hoh
      have HEQ:Aside0 (putL (es.take i) k++List.replicate j k++[k]=putL (es.take i) k++List.replicate (j+1) k):=⟨by rw[List.append_assoc,List.replicate_succ']⟩
      have HNB:Aside0 (n≤1000000):=⟨by
        have h1:=HTK.out
        rw[HSN.out,List.length_append,List.length_replicate] at h1
        have h2:=HD.out
        omega⟩
      generalize putL (es.take i) k++List.replicate j k=L at *
      go_wp2_with (at_builtin;go_loud (refine Kd.ydb_ (Kd.int .i64) (w0:=wr) W0.heap.size rfl (.tmp 51) (.tmp 53) 28 3 (.int .i64 0) 8 rfl Tryz.underlying28 info3 rfl (by decide) (by omega) _ L k [.int .i64 k] (fun _=>True) (fun _=>False) rfl (by first|rfl|(simp;done)|(go_simp;done)) rfl (fun _ hk=>hk.elim) (fun _ _=>trivial) HRj.out (Below.refl W0.heap.size wr) HWR.out (by have:=HLE.out;omega) ?_);intro v1 w7 ho hb hg hat;go_loud (obtain⟨A8,c8,rfl⟩:=Kd.yE_ ho;have hp7:w7.heap[bo]?=some (.cells #[.slice A7 L.length c7] 28 (0,0)):=(hb.block bo HL3.out).trans HOH.out;have hc7:w7.cell? ⟨bo,0,none⟩=some (.slice A7 L.length c7):=(by unfold World.cell?;rw[hp7];rfl);have hf7:w7.frozen? ⟨bo,0,none⟩=false:=(by simp [World.frozen?,hp7]));rw[show (L++[k]).length=L.length+1 by rw[List.length_append];rfl] at ho;have HO7:=Aside0.mk ho;have HB7:=Aside0.mk hb;have HP7:=Aside0.mk hp7;clear ho hb hg hat hp7)
      go_roundg k2
      case measure=>have:=HJ.out.1;have:=HLT.out;omega
      case rel=>exact⟨j+1,_,congrArg (Value.int .i64) (by first|exact nx j (by have:=HNB.out;have:=HJ.out;omega)|(have:=HNB.out;have:=HJ.out;omega)),⟨by have:=HJ.out.1;omega,by have:=HLT.out;omega⟩,⟨box_step2 HBj.out HB7.out HBO.out HL3.out⟩,⟨by rw[← HEQ.out];exact Kd.R_set HO7.out HP7.out (fun q hq=>by rcases List.mem_cons.1 hq with h|h;subst h;decide;cases h) 0 _⟩⟩
end Go.Proofs.YthimblhfjfngiaaGreat.PText

namespace Go.Proofs.YthimblhfjfngiaaGreat.PText
open Go.RowKit Go.Lib Go.Proofs.YthimblhfjfngiaaGreatW.PrintWords Go.Proofs.YthimblhfjfngiaaGreatW.PrintLast Go.Proofs.YthimblhfjfngiaaGreatW.PrintMore
set_option linter.unusedVariables false
set_option linter.unusedSimpArgs false
/-- two edits that do not go together -/
def meetE (x y:S91):Bool:=decide (x≠y) && (decide (x.f0≤y.f1) && decide (y.f0≤x.f1))
theorem meet_f (x y:S91):y8b_.f x.f0 x.f1 x.f2 y.f0 y.f1 y.f2=some (meetE x y):=by
  unfold y8b_.f meetE
  rw[neS34]
  by_cases c:x=y
  · rw[decide_eq_false (show ¬ x≠y from fun q=>q c),if_neg (by decide)];rfl
  rw[decide_eq_true (show x≠y from c),if_pos rfl]
  by_cases c2:x.f0≤y.f1
  · rw[if_pos c2,decide_eq_true c2];rfl
  rw[if_neg c2,decide_eq_false c2];rfl
theorem meet_pred (x:S91) (B:Nat) (w:World) (hB:B < w.heap.size) (h0:w.cell? ⟨B,0,none⟩=some (.int .i64 x.f0)) (h1:w.cell? ⟨B,1,none⟩=some (.int .i64 x.f1)) (h2:w.cell? ⟨B,2,none⟩=some (.string x.f2)) :
    PredBelow Tryz.prog 59 #[.pointer (some ⟨B,0,none⟩)] (fun y=>.agg (enc34 y).toArray) (meetE x) w:=fun W y hb=>by
  have c0:W.cell? ⟨B,0,none⟩=some (.int .i64 x.f0):=(hb.cell (p:=⟨B,0,none⟩) hB).trans h0
  have c1:W.cell? ⟨B,1,none⟩=some (.int .i64 x.f1):=(hb.cell (p:=⟨B,1,none⟩) hB).trans h1
  have c2:W.cell? ⟨B,2,none⟩=some (.string x.f2):=(hb.cell (p:=⟨B,2,none⟩) hB).trans h2
  have hm:=Aside0.mk (fun W'=>y8b_.calls x.f0 x.f1 x.f2 y.f0 y.f1 y.f2 (meetE x y) W' (meet_f x y))
  have hu34:=Tryz.underlying91
  have HB:=Aside0.mk hb
  have hBW:B < W.heap.size:=Nat.lt_of_lt_of_le hB hb.size
  clear hb h0 h1 h2
  show Calls Tryz.prog 59 #[.agg #[.int .i64 y.f0,.int .i64 y.f1,.string y.f2],.pointer (some ⟨B,0,none⟩)] W _
  go_enter Tryz.func59,Tryz.ntmps59
  go_wp2_with (go_at_call 60;refine (hm.out _).mono ?_;rintro e w2 ⟨rfl,hb2⟩)
  go_ret
  exact⟨rfl,(HB.out.alloc HB.out.size _).trans (hb2.mono (by have:=HB.out.size;simp;omega))⟩
theorem contains_meet (x:S91) (A1:Option Addr) (c1 B:Nat) (l1:List S91) (w:World) (hC:Kd.C k91 w A1 l1.length l1) (hB:B < w.heap.size) (h0:w.cell? ⟨B,0,none⟩=some (.int .i64 x.f0)) (h1:w.cell? ⟨B,1,none⟩=some (.int .i64 x.f1)) (h2:w.cell? ⟨B,2,none⟩=some (.string x.f2)) (hl:l1.length≤10000) :
    Calls Tryz.prog 58 #[.slice A1 l1.length c1,.func (.func 59) #[] #[.pointer (some ⟨B,0,none⟩)]] w fun e w'=>e=.returned (.bool (l1.any (meetE x)))∧Below w.heap.size w w':=by
  by_cases hp:l1.length=0
  · obtain rfl:=List.eq_nil_of_length_eq_zero hp
    exact contains_empty A1 c1 59 _ w
  obtain⟨b,o,rfl,hb,hc⟩:=C_addr34 hC (by omega)
  have eg:∀ args w,(callFunc 59 args).run Tryz.prog w=.ok (.enter 59 args) w:=enters_of Tryz.func59 ze_ rfl
  have h:=AnyQ.slices_ContainsFunc Tryz.containsEd 3 isAgg34 sizeOf34 enc34 enc34_len (meetE x) 59 #[.pointer (some ⟨B,0,none⟩)] eg b o l1.length c1 l1 w (meet_pred x B w hB h0 h1 h2) (Nat.le_refl _) (by omega) hb hc
  rw[List.take_length] at h
  exact h
/-- three texts merged: what it answers, but for the making of the edits -/
def yyb_.f (b a c:ByteArray):Option (ByteArray × Int) :=
  if b.size≤1000000000∧a.size≤1000000000∧c.size≤1000000000 then
    (if (editsR b a).2≠0 then some (⟨#[]⟩,(editsR b a).2) else if (editsR b c).2≠0 then some (⟨#[]⟩,(editsR b c).2)
     else if (editsR b a).1.any (fun i=>(editsR b c).1.any (meetE i))=true then some (⟨#[]⟩,250)
     else if (mergeR b.size (editsR b a).1 (editsR b c).1).2≠0 then some (⟨#[]⟩,250)
     else (yIb_.f b (mergeR b.size (editsR b a).1 (editsR b c).1).1).bind fun q=>some (if q.2=0 then (q.1,0) else (⟨#[]⟩,q.2)))
  else none
theorem both_f (b a c:ByteArray) (hb:b.size≤1000000000) (ha:a.size≤1000000000) (hc:c.size≤1000000000) (k:Nat) (hk:5000000≤k) :
    yUb_.f k b a c=some (if (editsR b a).2≠0 then ([],[],(editsR b a).2) else if (editsR b c).2≠0 then ([],[],(editsR b c).2) else ((editsR b a).1,(editsR b c).1,0)):=by
  unfold yUb_.f
  rw[edits_f b a hb ha k hk,Option.bind_some]
  by_cases h1:(editsR b a).2=0
  rotate_left
  · rw[if_neg h1,if_pos h1]
  rw[if_pos h1,if_neg (fun q=>q h1),edits_f b c hb hc k hk,Option.bind_some]
  by_cases h2:(editsR b c).2=0
  rotate_left
  · rw[if_neg h2,if_pos h2]
  rw[if_pos h2,if_neg (fun q=>q h2)]
set_option maxHeartbeats 8000000 in
set_option maxRecDepth 100000 in
theorem yyb_.calls (b a c:ByteArray) (r1:ByteArray) (r2:Int) (w:World) (h:yyb_.f b a c=some (r1,r2)) :
    Calls Tryz.prog 38 #[.string b,.string a,.string c] w fun e w'=>e=.returned (.tuple #[.string r1,.int .i64 r2])∧Below w.heap.size w w':=by
  unfold yyb_.f at h
  by_cases hs:b.size≤1000000000∧a.size≤1000000000∧c.size≤1000000000
  rotate_left
  · rw[if_neg hs] at h;cases h
  rw[if_pos hs] at h
  have hb:=both_f b a c hs.1 hs.2.1 hs.2.2 5000000 (Nat.le_refl _)
  have L1:=Aside0.mk (yLb_ b a)
  have L2:=Aside0.mk (yLb_ b c)
  by_cases h1:(editsR b a).2≠0
  · rw[if_pos h1] at h hb
    have HB:=Aside0.mk (yUb_.calls 5000000 b a c _ _ _ w hb)
    have h':=Option.some.inj h
    have hr:r1=⟨#[]⟩∧r2=(editsR b a).2:=⟨(congrArg Prod.fst h').symm,(congrArg Prod.snd h').symm⟩
    obtain⟨rfl,rfl⟩:=hr
    clear h h' hb hs
    have b1:((editsR b a).2 != 0)=true:=by simpa using h1
    have b2:((editsR b a).2 == 0)=false:=by simpa using h1
    generalize (editsR b a).2=fe at *
    clear h1
    go_enter Tryz.func38,Tryz.ntmps38
    go_wp2_with (go_at_call 57;refine HB.out.mono ?_;rintro e w2 ⟨v1,v2,rfl,-,-,hb⟩;have HB2:=Aside0.mk hb;clear hb HB)
    go_ret2
    exact⟨rfl,HB2.out⟩
  rw[if_neg h1] at h hb
  by_cases h2:(editsR b c).2≠0
  · rw[if_pos h2] at h hb
    have HB:=Aside0.mk (yUb_.calls 5000000 b a c _ _ _ w hb)
    have h':=Option.some.inj h
    have hr:r1=⟨#[]⟩∧r2=(editsR b c).2:=⟨(congrArg Prod.fst h').symm,(congrArg Prod.snd h').symm⟩
    obtain⟨rfl,rfl⟩:=hr
    clear h h' hb hs h1
    have b1:((editsR b c).2 != 0)=true:=by simpa using h2
    have b2:((editsR b c).2 == 0)=false:=by simpa using h2
    generalize (editsR b c).2=fe at *
    clear h2
    go_enter Tryz.func38,Tryz.ntmps38
    go_wp2_with (go_at_call 57;refine HB.out.mono ?_;rintro e w2 ⟨v1,v2,rfl,-,-,hb⟩;have HB2:=Aside0.mk hb;clear hb HB)
    go_ret2
    exact⟨rfl,HB2.out⟩
  rw[if_neg h2] at h hb
  have HB:=Aside0.mk (yUb_.calls 5000000 b a c _ _ _ w hb)
  have HBS:=Aside0.mk hs
  clear hb h1 h2 hs
  generalize (editsR b a).1=x at *
  generalize (editsR b c).1=y at *
  have HH:=Aside0.mk h
  clear h
  go_enter Tryz.func38,Tryz.ntmps38
  go_wp2_with (go_at_call 57;refine HB.out.mono ?_;rintro e w1 ⟨v1,v2,rfl,ho1,ho2,hb⟩;obtain⟨A1,c1,rfl⟩:=Kd.yE_ ho1;obtain⟨A2,c2,rfl⟩:=Kd.yE_ ho2;have HC1:=Aside0.mk (Kd.yt_ ho1).2.2;have HL1:=Aside0.mk (Kd.yt_ ho1).2.1;have HC2:=Aside0.mk (Kd.yt_ ho2).2.2;have HL2:=Aside0.mk (Kd.yt_ ho2).2.1;have HB2:=Aside0.mk hb;clear hb ho1 ho2 HB)
  go_loopg [28] (x.length+1) (fun kq v28 w'=>∃ i:Nat,v28=.int .i64 (i:Int)∧Aside0 (x.length - i < kq∧i≤x.length)∧Aside0 (Below w1.heap.size w1 w')∧Aside0 (∀ j,∀ hj:j < x.length,j < i→y.any (meetE x[j])=false))
  case atStart=>exact⟨0,rfl,⟨by omega,by omega⟩,⟨Below.refl _ _⟩,⟨fun j hj h0=>by omega⟩⟩
  case round =>
    obtain⟨i,rfl,HI,HBe,HN⟩:=hrel
    obtain⟨k1,rfl⟩:∃ k1,gk=k1+1:=⟨gk - 1,by have:=HI.out.1;omega⟩
    by_cases hlt:i < x.length
    · have hb:decide ((i:Int) < (x.length:Int))=true:=by simp;omega
      have hb2:decide ((0:Int)≤(i:Int))=true:=by simp
      have p0:(0:Int)≤(i:Int):=by omega
      have q0:(i:Int) < (x.length:Int):=by omega
      obtain⟨ad,e0,hx0,hx1,hx2⟩:=at_T91 (Kd.yR_ HC1.out HBe.out) (i:Int) p0 q0
      cases e0
      rw[Int.toNat_natCast] at hx0 hx1 hx2
      rw[yzb_ x i hlt] at hx0 hx1 hx2
      have HM:Aside0 (x.any (fun i=>y.any (meetE i))=true∨y.any (meetE x[i])=false):=⟨by
        cases hq:y.any (meetE x[i]) with
        | true=>exact Or.inl (List.any_eq_true.2 ⟨x[i],List.getElem_mem hlt,hq⟩)
        | false=>exact Or.inr rfl⟩
      have HN2:Aside0 (y.any (meetE x[i])=false→∀ j,∀ hj:j < x.length,j < i+1→y.any (meetE x[j])=false):=⟨fun hq j hj h0=>by
        by_cases e:j=i
        · subst e;exact hq
        · exact HN.out j hj (by omega)⟩
      have H24:=Aside0.mk (fun (w':World) (h1:Below w1.heap.size w1 w') (B:Nat) (h2:B < w'.heap.size) (h3:w'.cell? ⟨B,0,none⟩=some (.int .i64 x[i].f0)) (h4:w'.cell? ⟨B,1,none⟩=some (.int .i64 x[i].f1)) (h5:w'.cell? ⟨B,2,none⟩=some (.string x[i].f2)) =>
        contains_meet x[i] A2 c2 B y w' (Kd.yR_ HC2.out h1) h2 h3 h4 h5 (by have:=L2.out;omega))
      generalize x[i]=xi at *
      cases hq:y.any (meetE xi) with
      | true =>
        rw[hq] at H24
        have HR:=HH.out
        rw[if_pos (by rcases HM.out with q|q;exact q;rw[hq] at q;cases q)] at HR
        have h':=Option.some.inj HR
        have hr:r1=⟨#[]⟩∧r2=250:=⟨(congrArg Prod.fst h').symm,(congrArg Prod.snd h').symm⟩
        obtain⟨rfl,rfl⟩:=hr
        clear HR h' HH HM HN2 hq
        go_wp2_with (go_at_call 58;refine (H24.out _ ?za _ ?zb ?zc ?zd ?ze).mono ?_;(case za=>exact HBe.out.alloc HBe.out.size _);(case zb=>simp);(case zc=>simp);(case zd=>simp);(case ze=>simp);rintro e w5 ⟨rfl,hb⟩;have HB5:=Aside0.mk ((HBe.out.alloc HBe.out.size (.cells #[.int .i64 xi.f0,.int .i64 xi.f1,.string xi.f2] 91)).trans (hb.mono (by have:=HBe.out.size;simp;omega)));clear hb)
        go_ret2
        exact⟨rfl,HB2.out.trans (HB5.out.mono HB2.out.size)⟩
      | false =>
        rw[hq] at H24
        have HN3:=Aside0.mk (HN2.out hq)
        clear HM HN2 hq
        go_wp2_with (go_at_call 58;refine (H24.out _ ?za _ ?zb ?zc ?zd ?ze).mono ?_;(case za=>exact HBe.out.alloc HBe.out.size _);(case zb=>simp);(case zc=>simp);(case zd=>simp);(case ze=>simp);rintro e w5 ⟨rfl,hb⟩;have HB5:=Aside0.mk ((HBe.out.alloc HBe.out.size (.cells #[.int .i64 xi.f0,.int .i64 xi.f1,.string xi.f2] 91)).trans (hb.mono (by have:=HBe.out.size;simp;omega)));clear hb)
        go_roundg k1
        case measure=>have:=HI.out.1;omega
        case rel=>exact⟨i+1,congrArg (Value.int .i64) (nx i (by have:=L1.out;omega)),⟨by have:=HI.out.1;omega,by omega⟩,HB5,HN3⟩
    have hb:decide ((i:Int) < (x.length:Int))=false:=by simp;omega
    have hany:x.any (fun i=>y.any (meetE i))=false:=by
      rw[List.any_eq_false]
      intro z hz
      obtain⟨j,hj,rfl⟩:=List.mem_iff_getElem.1 hz
      rw[HN.out j hj (by omega)];decide
    have HR:=HH.out
    rw[if_neg (by rw[hany];decide)] at HR
    have HWB:=Aside0.mk (HB2.out.trans (HBe.out.mono HB2.out.size))
    have H27:=Aside0.mk (y2b_.calls b A1 c1 x A2 c2 y (mergeR b.size x y).1 (mergeR b.size x y).2 wr (Kd.yR_ HC1.out HBe.out) HL1.out (Kd.yR_ HC2.out HBe.out) HL2.out (by unfold y2b_.f;rw[if_pos (by have:=L1.out;have:=L2.out;omega)]))
    clear HH HN hany
    by_cases hm:(mergeR b.size x y).2≠0
    · rw[if_pos hm] at HR
      have h':=Option.some.inj HR
      have hr:r1=⟨#[]⟩∧r2=250:=⟨(congrArg Prod.fst h').symm,(congrArg Prod.snd h').symm⟩
      obtain⟨rfl,rfl⟩:=hr
      clear HR h'
      have b1:((mergeR b.size x y).2 != 0)=true:=by simpa using hm
      have b2:((mergeR b.size x y).2 == 0)=false:=by simpa using hm
      generalize (mergeR b.size x y).2=fe at *
      generalize (mergeR b.size x y).1=ml at *
      clear hm
      go_wp2_with (go_at_call 61;refine H27.out.mono ?_;rintro e w5 ⟨v5,rfl,-,hb⟩;have HB5:=Aside0.mk (HWB.out.trans (hb.mono HWB.out.size));clear hb H27)
      go_ret2
      exact⟨rfl,HB5.out⟩
    rw[if_neg hm] at HR
    have hm0:(mergeR b.size x y).2=0:=Classical.not_not.1 hm
    rw[hm0] at H27
    generalize (mergeR b.size x y).1=ml at *
    clear hm hm0
    obtain⟨q,hq1,hq2⟩:=Option.bind_eq_some_iff.1 HR
    obtain⟨s,e⟩:=q
    have H28:=Aside0.mk (fun A c w5 (h3:Kd.C k91 w5 A ml.length ml) (h4:ml.length≤c)=>yIb_.calls b A c ml s e w5 h3 h4 hq1)
    have h':=Option.some.inj hq2
    clear HR hq1 hq2
    by_cases he:e=0
    · subst he
      rw[if_pos rfl] at h'
      have hr:r1=s∧r2=0:=⟨(congrArg Prod.fst h').symm,(congrArg Prod.snd h').symm⟩
      obtain⟨rfl,rfl⟩:=hr
      clear h'
      go_wp2_with (first
        | (go_at_call 61;refine H27.out.mono ?_;rintro e w5 ⟨v5,rfl,ho,hb⟩;obtain⟨A5,c5,rfl⟩:=Kd.yE_ ho;have HC5:=Aside0.mk (Kd.yt_ ho).2.2;have HL5:=Aside0.mk (Kd.yt_ ho).2.1;have HB5:=Aside0.mk (HWB.out.trans (hb.mono HWB.out.size));clear hb H27 ho)
        | (go_at_call 62;refine (H28.out _ _ _ HC5.out HL5.out).mono ?_;rintro e w6 ⟨rfl,hb⟩;have HB6:=Aside0.mk (HB5.out.trans (hb.mono HB5.out.size));clear hb H28))
      go_ret2
      exact⟨rfl,HB6.out⟩
    have he':¬ ((s,e):ByteArray × Int).2=0:=he
    rw[if_neg he'] at h'
    have hr:r1=⟨#[]⟩∧r2=e:=⟨(congrArg Prod.fst h').symm,(congrArg Prod.snd h').symm⟩
    obtain⟨rfl,rfl⟩:=hr
    clear h'
    have b1:(r2 != 0)=true:=by simpa using he
    have b2:(r2 == 0)=false:=by simpa using he
    clear he he'
    go_wp2_with (first
      | (go_at_call 61;refine H27.out.mono ?_;rintro e w5 ⟨v5,rfl,ho,hb⟩;obtain⟨A5,c5,rfl⟩:=Kd.yE_ ho;have HC5:=Aside0.mk (Kd.yt_ ho).2.2;have HL5:=Aside0.mk (Kd.yt_ ho).2.1;have HB5:=Aside0.mk (HWB.out.trans (hb.mono HWB.out.size));clear hb H27 ho)
      | (go_at_call 62;refine (H28.out _ _ _ HC5.out HL5.out).mono ?_;rintro e w6 ⟨rfl,hb⟩;have HB6:=Aside0.mk (HB5.out.trans (hb.mono HB5.out.size));clear hb H28))
    go_ret2
    exact⟨rfl,HB6.out⟩
end Go.Proofs.YthimblhfjfngiaaGreat.PText

namespace Go.Proofs.YthimblhfjfngiaaGreat.PText
open Go.RowKit Go.Lib Go.Proofs.YthimblhfjfngiaaGreatW.PrintWords Go.Proofs.YthimblhfjfngiaaGreatW.PrintLast Go.Proofs.YthimblhfjfngiaaGreatW.PrintMore
set_option linter.unusedVariables false
set_option linter.unusedSimpArgs false
def rowC (a:S91) (i:Nat):Nat→List S91→List S138
  | _,[]=>[]
  | j,b :: y=>(if meetE a b=true then [⟨(i:Int),(j:Int)⟩] else [])++rowC a i (j+1) y
def conC (y:List S91):Nat→List S91→List S138
  | _,[]=>[]
  | i,a :: x=>rowC a i 0 y++conC y (i+1) x
theorem conC_cons (y:List S91) (i:Nat) (a:S91) (x:List S91):conC y i (a :: x)=rowC a i 0 y++conC y (i+1) x:=rfl
theorem rowC_len (a:S91) (i:Nat):∀ (y:List S91) (j:Nat),(rowC a i j y).length≤y.length
  | [],j=>Nat.le_refl _
  | b :: y,j=>by
    have:=rowC_len a i y (j+1)
    unfold rowC
    rw[List.length_append,List.length_cons]
    split <;> simp <;> omega
theorem rowC_nil (a:S91) (i:Nat):∀ (y:List S91) (j:Nat),rowC a i j y=[]↔y.any (meetE a)=false
  | [],j=>by simp [rowC]
  | b :: y,j=>by
    have:=rowC_nil a i y (j+1)
    unfold rowC
    rw[List.any_cons]
    cases h:meetE a b <;> simp [this]
theorem conC_nil (y:List S91):∀ (x:List S91) (i:Nat),conC y i x=[]↔x.any (fun a=>y.any (meetE a))=false
  | [],i=>by simp [conC]
  | a :: x,i=>by
    have h1:=conC_nil y x (i+1)
    have h2:=rowC_nil a i y 0
    unfold conC
    rw[List.any_cons,List.append_eq_nil_iff,h1,h2]
    cases y.any (meetE a) <;> simp
theorem nx2 (i:Nat) (h:i≤1000000):wrap64 ((i:Int)+1)=((i+1:Nat):Int):=by rw[w64 (by omega) (by omega)];omega
theorem rmeet_f (x y:S91):yfb_.f x.f0 x.f1 x.f2 y.f0 y.f1 y.f2=some (meetE x y):=meet_f x y
theorem rconf_l1 (x y:List S91) (i:Nat) (hi:i < x.length) (hx:i≤1000000) (hy:y.length≤1000000):∀ (m j:Nat),j+m=y.length→∀ (k:Nat) (D:List S138),D.length+m≤1000000000 →
    ym_.l1 (k+m+1) x y D (i:Int) (j:Int)=ym_.l0 k x y (D++rowC x[i] i j (y.drop j)) ((i+1:Nat):Int)
  | 0,j,hj,k,D,hD=>by
    have e:y.drop j=[]:=List.drop_eq_nil_of_le (by omega)
    rw[e,show k+0+1=k+1 from rfl,ym_.l1,if_neg (by omega),nx2 i hx]
    unfold rowC
    rw[List.append_nil]
  | m+1,j,hj,k,D,hD=>by
    have hjl:j < y.length:=by omega
    have e:y.drop j=y[j] :: y.drop (j+1):=List.drop_eq_getElem_cons hjl
    rw[e,show k+(m+1)+1=(k+m+1)+1 from by omega,ym_.l1,if_pos (by omega),if_pos (by omega),if_pos (by omega),if_pos (by omega),yzb_ x i hi,yzb_ y j hjl,rmeet_f,Option.bind_some,nx2 j (by omega)]
    unfold rowC
    cases h:meetE x[i] y[j] with
    | true =>
      rw[if_pos rfl,if_pos (by omega),rconf_l1 x y i hi hx hy m (j+1) (by omega) k _ (by rw[List.length_append,List.length_singleton];omega),if_pos rfl,List.append_assoc]
    | false =>
      rw[if_neg (by decide),rconf_l1 x y i hi hx hy m (j+1) (by omega) k D (by omega),if_neg (by decide),List.nil_append]
theorem rconf_l0 (x y:List S91) (C F:Nat) (hx:x.length≤1000000) (hy:y.length≤C) (hF:y.length+2≤F) (hC:C≤1000000) (hB:x.length * C+C≤1000000000):∀ (m i:Nat),i+m=x.length→∀ (k:Nat) (D:List S138),D.length≤i * C→m * F+1≤k →
    ym_.l0 k x y D (i:Int)=some (D++conC y i (x.drop i),0)
  | 0,i,hi,k,D,hD,hk=>by
    obtain⟨k,rfl⟩:∃ q,k=q+1:=⟨k - 1,by omega⟩
    have e:x.drop i=[]:=List.drop_eq_nil_of_le (by omega)
    rw[e,ym_.l0,if_neg (by omega)]
    unfold conC
    rw[List.append_nil]
  | m+1,i,hi,k,D,hD,hk=>by
    have hil:i < x.length:=by omega
    rw[Nat.succ_mul] at hk
    obtain⟨q,rfl⟩:∃ q,k=(q+y.length+1)+1:=⟨k - y.length - 2,by omega⟩
    have e:x.drop i=x[i] :: x.drop (i+1):=List.drop_eq_getElem_cons hil
    have hr:=rowC_len x[i] i y 0
    have hm:i * C≤x.length * C:=Nat.mul_le_mul_right C (by omega)
    have hs:(i+1) * C=i * C+C:=Nat.succ_mul i C
    have h1:=rconf_l1 x y i hil (by omega) (by omega) y.length 0 (by omega) q D (by omega)
    rw[List.drop_zero] at h1
    rw[e,ym_.l0,if_pos (by omega)]
    rw[show ym_.l1 (q+y.length+1) x y D (i:Int) 0=_ from h1,rconf_l0 x y C F hx hy hF hC hB m (i+1) (by omega) q _ (by rw[List.length_append];omega) (by omega),conC_cons,List.append_assoc]
/-- where two sides meet -/
def confR (b a c:ByteArray):List S138 × Int:=if (editsR b a).2≠0 then ([],(editsR b a).2) else if (editsR b c).2≠0 then ([],(editsR b c).2) else (conC (editsR b c).1 0 (editsR b a).1,0)
theorem rconf_f (b a c:ByteArray) (hE1:∀ k,20000000≤k→ye_.f k b a=some (editsR b a)) (hE2:∀ k,20000000≤k→ye_.f k b c=some (editsR b c)) (k:Nat) (hk:40000000≤k):ym_.f k b a c=some (confR b a c):=by
  have l1:=yLb_ b a
  have l2:=yLb_ b c
  unfold ym_.f confR
  rw[hE1 k (by omega),Option.bind_some]
  by_cases h1:(editsR b a).2≠0
  · rw[if_pos h1,if_neg h1]
  rw[if_neg h1,if_pos (Decidable.of_not_not h1),hE2 k (by omega),Option.bind_some]
  by_cases h2:(editsR b c).2≠0
  · rw[if_pos h2,if_neg h2]
  rw[if_neg h2,if_pos (Decidable.of_not_not h2)]
  generalize (editsR b a).1=x at *
  generalize (editsR b c).1=y at *
  obtain⟨C,hC⟩:∃ C:Nat,C=4000:=⟨_,rfl⟩
  obtain⟨F,hF⟩:∃ F:Nat,F=4002:=⟨_,rfl⟩
  have hB:x.length * C+C≤1000000000:=by have q1:=Nat.mul_le_mul_right C (show x.length≤C by omega);have q2:C * C=16000000:=(by rw[hC]);omega
  have hK:x.length * F+1≤k:=by have q1:=Nat.mul_le_mul_right F (show x.length≤F by omega);have q2:F * F=16016004:=(by rw[hF]);omega
  have h:=rconf_l0 x y C F (by omega) (by omega) (by omega) (by omega) hB x.length 0 (by omega) k [] (Nat.zero_le _) hK
  rw[List.drop_zero,List.nil_append] at h
  exact h
end Go.Proofs.YthimblhfjfngiaaGreat.PText

namespace Go.Proofs.YthimblhfjfngiaaGreat.PText
open Go.RowKit Go.Lib Go.Proofs.YthimblhfjfngiaaGreatW.PrintWords Go.Proofs.YthimblhfjfngiaaGreatW.PrintLast Go.Proofs.YthimblhfjfngiaaGreatW.PrintMore
theorem bt_ten (s:ByteArray) (i:Nat):bt s (i:Int)=10↔s.data.toList[i]?=some 10:=by
  have hs:=yib_ s
  unfold bt
  rw[Int.toNat_natCast]
  by_cases h:i < s.size
  rotate_left
  · rw[dif_neg h,List.getElem?_eq_none (by omega)]
    constructor
    · intro q;cases q
    · intro q;cases q
  rw[dif_pos h]
  have h2:i < s.data.toList.length:=by omega
  rw[List.getElem?_eq_getElem h2]
  have e:s.data.toList[i]=s[i]'h:=rfl
  rw[e]
  constructor
  · intro q
    have:(s[i]'h).toNat=10:=by omega
    rw[Option.some.injEq]
    exact UInt8.toNat_inj.1 this
  · intro q
    rw[Option.some.inj q]
    rfl
theorem rlines_l0 (s:ByteArray) (hs:s.size≤100000):∀ (m i k:Nat) (out:List ByteArray) (p:Nat),s.size - i=m→p≤i→i≤s.size→m+1≤k→out.length≤p →
    yC_.l0 k s out (p:Int) (i:Int)=some (out++(Tx.lgo (Tx.sl s.data.toList p i) (s.data.toList.drop i)).map fun l=>⟨l.toArray⟩):=by
  have hsl:=yib_ s
  intro m
  induction m with
  | zero =>
    intro i k out p hm hp hi hk ho
    obtain⟨k,rfl⟩:∃ q,k=q+1:=⟨k - 1,by omega⟩
    have hd:s.data.toList.drop i=[]:=List.drop_of_length_le (by omega)
    have hslen:=Tx.sl_len (s:=s.data.toList) (a:=(p:Int)) (b:=(i:Int)) (by omega) (by omega) (by omega)
    have e0:Tx.lgo (Tx.sl s.data.toList p i) []=if Tx.sl s.data.toList p i=[] then [] else [Tx.sl s.data.toList p i]:=rfl
    rw[yC_.l0,if_neg (by omega),hd,e0]
    by_cases c:p < s.size
    rotate_left
    · rw[if_neg (by omega),if_pos (by apply List.eq_nil_of_length_eq_zero;omega)]
      simp
    rw[if_pos (by omega),if_pos (by omega),if_pos (by omega),if_pos (by omega),if_neg (by intro q;rw[q] at hslen;simp at hslen;omega)]
    have e:s.extract (p:Int).toNat s.size=⟨(Tx.sl s.data.toList p i).toArray⟩:=by
      apply ba_ext
      obtain rfl:i=s.size:=by omega
      have:=ext_sl s (p:Int) (s.size:Int)
      rw[Int.toNat_natCast s.size] at this
      rw[this]
    rw[e]
    rfl
  | succ m ih =>
    intro i k out p hm hp hi hk ho
    obtain⟨k,rfl⟩:∃ q,k=q+1:=⟨k - 1,by omega⟩
    have hlt:i < s.data.toList.length:=by omega
    have hd:s.data.toList.drop i=s.data.toList[i] :: s.data.toList.drop (i+1):=List.drop_eq_getElem_cons hlt
    have hsn:Tx.sl s.data.toList p ((i+1:Nat):Int)=Tx.sl s.data.toList p i++[s.data.toList[i]]:=by
      have h1:=Tx.sl_sl (s:=s.data.toList) (a:=(p:Int)) (b:=(i:Int)) (c:=((i+1:Nat):Int)) (by omega) (by omega)
      rw[← h1]
      congr 1
      unfold Tx.sl
      rw[Int.toNat_natCast,Int.toNat_natCast,hd,show i+1 - i=1 by omega]
      rfl
    have e0:∀ cur,Tx.lgo cur (s.data.toList[i] :: s.data.toList.drop (i+1))=if s.data.toList[i]=10 then (cur++[s.data.toList[i]]) :: Tx.lgo [] (s.data.toList.drop (i+1)) else Tx.lgo (cur++[s.data.toList[i]]) (s.data.toList.drop (i+1)):=fun _=>rfl
    have hb:=bt_ten s i
    rw[List.getElem?_eq_getElem hlt,Option.some.injEq] at hb
    rw[yC_.l0,if_pos (by omega),if_pos (by omega),nx i (by omega),hd,e0]
    by_cases q:s.data.toList[i]=10
    rotate_left
    · rw[if_neg (fun c=>q (hb.1 c)),if_neg q,ih (i+1) k out p (by omega) (by omega) (by omega) (by omega) ho,← hsn]
    rw[if_pos (hb.2 q),if_pos (by omega),if_pos (by omega),if_pos (by omega),if_pos (by omega),if_pos q,ih (i+1) k _ (i+1) (by omega) (by omega) (by omega) (by omega) (by rw[List.length_append,List.length_singleton];omega),Tx.sl_same,← hsn]
    have e:s.extract (p:Int).toNat ((i+1:Nat):Int).toNat=⟨(Tx.sl s.data.toList p ((i+1:Nat):Int)).toArray⟩:=ba_ext (by rw[ext_sl])
    rw[e,List.append_assoc out,List.singleton_append]
    rfl
theorem rlines_f (s:ByteArray) (hs:s.size≤100000) (k:Nat) (hk:s.size+1≤k):yC_.f k s=some (linesB s):=by
  have h:=rlines_l0 s hs s.size 0 k [] 0 (by omega) (by omega) (by omega) hk (Nat.le_refl _)
  rw[show ((0:Nat):Int)=0 from rfl,Tx.sl_same,List.drop_zero,List.nil_append] at h
  exact h
end Go.Proofs.YthimblhfjfngiaaGreat.PText

namespace Go.Proofs.YthimblhfjfngiaaGreat.PText
open Go.RowKit Go.Lib Go.Sort Go.Proofs.YthimblhfjfngiaaGreatW.PrintWords Go.Proofs.YthimblhfjfngiaaGreatW.PrintLast Go.Proofs.YthimblhfjfngiaaGreatW.PrintMore
set_option linter.unusedVariables false
set_option linter.unusedSimpArgs false
theorem keep2 {w w':World} {p g:Nat} {u v:Value} (hb:Below w.heap.size w w') (h1:w.cell? ⟨p,0,none⟩=some u) (h2:w.cell? ⟨g,0,none⟩=some v) (l1:p < w.heap.size) (l2:g < w.heap.size) :
    w'.cell? ⟨p,0,none⟩=some u∧w'.cell? ⟨g,0,none⟩=some v∧Below w.heap.size w w':=⟨(hb.cell (p:=⟨p,0,none⟩) l1).trans h1,(hb.cell (p:=⟨g,0,none⟩) l2).trans h2,hb⟩
/-- the row of a past of one commit -/
theorem past_one {w:World} {base p:Nat} {x:Com} (h:PastIs w base p [x]):∃ g cap c,p < w.heap.size∧g < w.heap.size∧w.cell? ⟨p,0,none⟩=some (.slice (some ⟨g,0,none⟩) 1 cap)∧w.cell? ⟨g,0,none⟩=some (.pointer (some ⟨c,0,none⟩))∧ComAt w c x:=by
  obtain⟨A,cap,ps,h1,h2,h3,h4,h5⟩:=h
  obtain⟨c,rfl⟩:∃ c,ps=[c]:=List.length_eq_one_iff.1 h1
  obtain⟨g,cap',hv,hb,-,cs,hc⟩:=Kd.R_form h4 (by simp)
  cases hv
  obtain⟨q1,-⟩:=Kd.R_cell (enc:=fun c:Nat=>Value.pointer (some ⟨c,0,none⟩)) (h1:=fun _=>rfl) 0 h4 0 (Int.le_refl _) (by simp)
  exact⟨g,cap,c,(Array.getElem?_eq_some_iff.1 h3).1,(Array.getElem?_eq_some_iff.1 hc).1,by unfold World.cell?;rw[h3];rfl,q1,h5 0 (by simp) (by simp)⟩
set_option maxRecDepth 100000 in
set_option maxHeartbeats 4000000 in
theorem blame_one (base p:Nat) (x:Com) (file t:ByteArray) (es:List S91) (w:World) (hP:PastIs w base p [x]) (hx:x.files.length≤10000) (hf:findR x.files file=(t,true))
    (he:yu_.f 5000000 ⟨#[]⟩ t=some (es,0)) (h0:∀ x∈es,x.f0=0∧x.f1=0∧x.f2.size≤1000000000) (hlen:es.length≤4000) (hD:(putL es 0).length≤1000000) :
    Calls Tryz.prog 9 #[.pointer (some ⟨p,0,none⟩),.string file] w fun e w'=>∃ v,e=.returned (.tuple #[v,.int .i64 0])∧Kd.R (Kd.int .i64) 3 w' w.heap.size (fun _=>True) v (putL es 0)∧Below w.heap.size w w':=by
  obtain⟨g,cap,c,l1,l2,hc1,hc2,hcom⟩:=past_one hP
  have HF:Aside0 (∀ wr,Below w.heap.size w wr→Calls Tryz.prog 28 #[.pointer (some ⟨c,0,none⟩),.string file] wr fun e w'=>e=.returned (.tuple #[.string t,.bool true])∧Below wr.heap.size wr w') :=
    ⟨fun wr hb=>by
      have q:=find_calls c x file wr (hcom.keep (PKept.of_below hb)) hx
      rw[hf] at q
      exact q⟩
  have HBL:=Aside0.mk (fun wr=>blamed_new es 0 t wr he h0 hlen hD)
  clear hP hx hf he h0 hlen hD hcom
  have hw0:wrap64 ((1:Int) - 1)=0:=by rw[w64 (by omega) (by omega)];rfl
  have hw1:wrap64 0=0:=by rw[w64 (by omega) (by omega)]
  have hw2:IntKind.i64.wrap ((1:Int) - 1)=0:=(i64_w _).trans hw0
  have hw3:IntKind.i64.wrap 0=0:=(i64_w _).trans hw1
  have HB0:=Aside0.mk (Below.refl w.heap.size w)
  go_enter Tryz.func9,Tryz.ntmps9
  go_wp2_with fail
  go_region_held3 (fun w'=>w'.cell? ⟨p,0,none⟩=some (.slice (some ⟨g,0,none⟩) 1 cap)∧w'.cell? ⟨g,0,none⟩=some (.pointer (some ⟨c,0,none⟩))∧Below w.heap.size w w')
    (first
      | exact keep2 (Below.refl _ _) hc1 hc2 l1 l2
      | exact keep2 (Below.refl _ _).drew hc1 hc2 l1 l2
      | (go_split_ands;exact keep2 (Below.drew zd_) hc1 hc2 l1 l2)
      | (go_split_ands;exact keep2 (yn_ zd_ hb) hc1 hc2 l1 l2)
      | (go_split_ands;exact keep2 (yn_ zd_ hb).drew hc1 hc2 l1 l2))
    (first
      | (go_at_call 28;with_reducible refine (HF.out _ ?zb).mono ?_;(case zb=>(go_split_ands;assumption));rintro e w5 ⟨rfl,hb⟩))
  go_split_ands
  have HB5:Aside0 (Below w.heap.size w w5):=⟨by assumption⟩
  clear hb
  go_wp2_with fail
  go_loopg [48,8,9] 2 (fun kq v48 v8 v9 w'=>Aside0 (Below w.heap.size w w')∧((1 < kq∧v48=.int .i64 0∧v8=.slice none 0 0∧v9=.string ⟨#[]⟩)∨(∃ A cc,0 < kq∧v48=.int .i64 1∧v8=.slice A (putL es 0).length cc∧v9=.string t∧Aside0 (Kd.R (Kd.int .i64) 3 w' w.heap.size (fun _=>True) (.slice A (putL es 0).length cc) (putL es 0)))))
  case atStart=>exact⟨HB5,.inl ⟨by omega,rfl,rfl,rfl⟩⟩
  case round =>
    obtain⟨HBe,hrel⟩:=hrel
    have hcr:=(HBe.out.cell (p:=⟨g,0,none⟩) l2).trans hc2
    rcases hrel with ⟨hk,rfl,rfl,rfl⟩|⟨A,cc,hk,rfl,rfl,rfl,HR⟩
    · obtain⟨k1,rfl⟩:∃ k1,gk=k1+1:=⟨gk - 1,by omega⟩
      go_wp2_with (first
        | (go_at_call 28;refine (HF.out _ HBe.out).mono ?_;rintro e w6 ⟨rfl,hb⟩;have HB6:=Aside0.mk (yn_ HBe.out hb);clear hb)
        | (go_at_call 29;refine (HBL.out _).mono ?_;rintro e w7 ⟨v7,rfl,ho,hb⟩;obtain⟨A7,c7,rfl⟩:=Kd.yE_ ho;have HO7:=Aside0.mk (Kd.y0_ ho HB6.out.size);have HB7:=Aside0.mk (yn_ HB6.out hb);clear ho hb))
      go_roundg k1
      case measure=>omega
      case rel=>exact⟨HB7,.inr ⟨A7,c7,by omega,by first|rfl|exact congrArg (Value.int .i64) (nx 0 (by omega)),rfl,rfl,HO7⟩⟩
    · go_wp2_with fail
      go_ret2
      exact⟨_,rfl,HR.out,HBe.out⟩
end Go.Proofs.YthimblhfjfngiaaGreat.PText

namespace Go.Proofs.YthimblhfjfngiaaGreat.PText
open Go.RowKit Go.Lib Go.Sort Go.Proofs.YthimblhfjfngiaaGreatW.PrintWords Go.Proofs.YthimblhfjfngiaaGreatW.PrintLast Go.Proofs.YthimblhfjfngiaaGreatW.PrintMore
set_option linter.unusedVariables false
set_option linter.unusedSimpArgs false
theorem edits_k (a b:ByteArray) (r:List S91 × Int) (k:Nat) (hk:k≤5000000) (h:yu_.f k a b=some r):yu_.f 5000000 a b=some r:=at_rounds (yu_.mono a b) hk h
theorem editsR_k (a b:ByteArray) (r:List S91 × Int) (k:Nat) (hk:k≤5000000) (ha:a.size≤1000000000) (hb:b.size≤1000000000) (h:yu_.f k a b=some r):editsR a b=r :=
  Option.some.inj ((edits_f a b ha hb 5000000 (Nat.le_refl _)).symm.trans (edits_k a b r k hk h))
def awA:ByteArray:=⟨#[97,10,98,10,99,10]⟩
def awB:ByteArray:=⟨#[120,10,98,10,99,10]⟩
def awC:ByteArray:=⟨#[97,10,98,10,121,10]⟩
def awR:ByteArray:=⟨#[120,10,98,10,121,10]⟩
theorem aw_e1:yu_.f 60 awA awB=some ([⟨0,2,⟨#[120,10]⟩⟩],0):=by kernel_rfl
theorem aw_e2:yu_.f 60 awA awC=some ([⟨4,6,⟨#[121,10]⟩⟩],0):=by kernel_rfl
theorem aw_e0:yu_.f 60 ⟨#[]⟩ ⟨#[97,10]⟩=some ([⟨0,0,⟨#[97,10]⟩⟩],0):=by kernel_rfl
theorem aw_mg:mergeR 6 [⟨0,2,⟨#[120,10]⟩⟩] [⟨4,6,⟨#[121,10]⟩⟩]=([⟨0,2,⟨#[120,10]⟩⟩,⟨4,6,⟨#[121,10]⟩⟩],0):=by kernel_rfl
theorem aw_ap:yIb_.f awA [⟨0,2,⟨#[120,10]⟩⟩,⟨4,6,⟨#[121,10]⟩⟩]=some (awR,0):=by kernel_rfl
theorem aw_three:yyb_.f awA awB awC=some (awR,0):=by
  have s1:awA.size=6:=rfl
  have s2:awB.size=6:=rfl
  have s3:awC.size=6:=rfl
  have h1:=editsR_k awA awB _ 60 (by omega) (by omega) (by omega) aw_e1
  have h2:=editsR_k awA awC _ 60 (by omega) (by omega) (by omega) aw_e2
  unfold yyb_.f
  rw[if_pos ⟨by omega,by omega,by omega⟩,h1,h2,s1,aw_mg]
  rw[if_neg (by decide),if_neg (by decide),if_neg (by decide),if_neg (by decide),aw_ap,Option.bind_some]
  rfl
theorem aw_put:putL [⟨0,0,⟨#[97,10]⟩⟩] 0=[0]:=by kernel_rfl
def awF:S41:=⟨⟨#[102]⟩,⟨#[97,10]⟩⟩
theorem aw_commit:commitR [] ⟨#[111,110,101]⟩ [awF]=(0,0,[⟨⟨#[111,110,101]⟩,[awF]⟩]):=by
  have h:srtF [awF]=[awF]:=by kernel_rfl
  unfold commitR
  rw[if_neg (by decide),if_neg (fun q=>q (show ([_]:List _).Nodup by simp)),if_neg (by rintro ⟨x,hx,e⟩;rcases List.mem_cons.1 hx with rfl|h;exact absurd e (by rw[show awF.f0.toList=[102] by kernel_rfl];decide);cases h),h]
  rfl
theorem aw_find:findR [awF] ⟨#[102]⟩=(⟨#[97,10]⟩,true):=by kernel_rfl
def smockinglaw25_awake.f:Option Bool:=some true
theorem file_row (w:World):Kd.C k41 (w.alloc (.cells #[.string ⟨#[102]⟩,.string ⟨#[97,10]⟩] 41)) (some ⟨w.heap.size,0,none⟩) 1 [awF]:=by
  refine⟨rfl,by simp,fun _=>⟨⟨w.heap.size,0,none⟩,rfl,fun j t hj=>?_⟩⟩
  have hj0:j=0:=by
    rcases Nat.eq_zero_or_pos j with h|h
    · exact h
    · rw[List.getElem?_eq_none (by simp;omega)] at hj;cases hj
  subst hj0
  cases Option.some.inj hj
  refine⟨[.string ⟨#[102]⟩,.string ⟨#[97,10]⟩],rfl,k41_mk _ _,fun i u hu=>?_⟩
  have hi:(w.alloc (.cells #[.string ⟨#[102]⟩,.string ⟨#[97,10]⟩] 41)).cell? ⟨w.heap.size,i,none⟩=some u:=by
    unfold World.cell?
    simp only[yAb_]
    match i,hu with
    | 0,hu=>exact hu
    | 1,hu=>exact hu
    | i+2,hu=>simp at hu
  have e:(Addr.add ⟨w.heap.size,0,none⟩ (0 * k41.sz+i))=(⟨w.heap.size,i,none⟩:Addr):=by unfold Addr.add;simp;exact fun q=>q.symm
  rw[e]
  exact hi
theorem int_row (w:World) (k:Int):Kd.C (Kd.int .i64) (w.alloc (.cells #[.int .i64 k] 3)) (some ⟨w.heap.size,0,none⟩) 1 [k]:=by
  refine⟨rfl,by simp,fun _=>⟨⟨w.heap.size,0,none⟩,rfl,fun j t hj=>?_⟩⟩
  have hj0:j=0:=by
    rcases Nat.eq_zero_or_pos j with h|h
    · exact h
    · rw[List.getElem?_eq_none (by simp;omega)] at hj;cases hj
  subst hj0
  cases Option.some.inj hj
  refine⟨[.int .i64 k],rfl,rfl,fun i u hu=>?_⟩
  have hi:(w.alloc (.cells #[.int .i64 k] 3)).cell? ⟨w.heap.size,i,none⟩=some u:=by
    unfold World.cell?
    simp only[yAb_]
    match i,hu with
    | 0,hu=>exact hu
    | i+1,hu=>simp at hu
  have e:(Addr.add ⟨w.heap.size,0,none⟩ (0 * (Kd.int .i64).sz+i))=(⟨w.heap.size,i,none⟩:Addr):=by unfold Addr.add;simp;exact fun q=>q.symm
  rw[e]
  exact hi
theorem aw_ints:yob_.f 10 [0] [0]=some true:=by kernel_rfl
set_option maxRecDepth 100000 in
set_option maxHeartbeats 4000000 in
theorem smockinglaw25_awake.calls (r:Bool) (w:World) (h:smockinglaw25_awake.f=some r):Calls Tryz.prog 14 #[] w fun e w'=>e=.returned (.bool r)∧Below w.heap.size w w':=by
  cases Option.some.inj h
  have H3:=Aside0.mk (fun w=>yyb_.calls awA awB awC _ _ w aw_three)
  have HBL:=Aside0.mk (fun base p w hP=>blame_one base p ⟨⟨#[111,110,101]⟩,[awF]⟩ ⟨#[102]⟩ _ _ w hP (by simp) aw_find (edits_k _ _ _ 60 (by omega) aw_e0) (by
    intro x hx
    rcases List.mem_cons.1 hx with rfl|h
    · exact⟨rfl,rfl,by show 2≤1000000000;omega⟩
    · cases h) (by simp) (by rw[aw_put];simp))
  unfold awA awB awC awR at H3
  go_enter Tryz.func14,Tryz.ntmps14
  go_wp2_with (first
    | (go_at_call 38;refine (H3.out _).mono ?_;rintro e w1 ⟨rfl,hb⟩;have HB1:=Aside0.mk hb;clear hb H3)
    | (go_at_call 26;refine (new_calls _).mono ?_;rintro e w2 ⟨rfl,hp,hb,hk⟩;have HP2:=Aside0.mk hp;have HB2:=Aside0.mk (yn_ HB1.out hb);have HBB:=Aside0.mk hb.size;clear hp hb hk)
    | (go_at_call 25;refine (commit_calls w1.heap.size w1.heap.size [] ⟨#[111,110,101]⟩ (some ⟨w2.heap.size,0,none⟩) 1 [awF] _ (HP2.out.below (Below.alloc (Below.refl _ w2) (Nat.le_refl _) _)) (file_row w2) (by simp) (by simp) (by have:=HBB.out;simp;omega)).mono ?_;rintro e w3 ⟨rfl,hp,hb,hk⟩;rw[aw_commit] at hp;have HP3:=Aside0.mk hp;have HB3:=Aside0.mk ((HB2.out.alloc HB2.out.size _).trans (hb.mono HB1.out.size));clear hp hb hk;rw[aw_commit])
    | (go_at_call 9;refine (HBL.out w1.heap.size w1.heap.size w3 HP3.out).mono ?_;rintro e w4 ⟨v4,rfl,ho,hb⟩;rw[aw_put] at ho;obtain⟨A4,c4,rfl⟩:=Kd.yE_ ho;have HO4:=Aside0.mk (Kd.yt_ ho);have HB4:=Aside0.mk (yn_ HB3.out hb);clear ho hb)
    | (go_at_call 13;refine (yob_.calls 10 A4 c4 [0] (some ⟨w4.heap.size,0,none⟩) 1 [0] true _ (Kd.yM_ HO4.out.2.2 _) HO4.out.2.1 (int_row w4 0) (by simp) aw_ints).mono ?_;rintro e w5 ⟨rfl,hd⟩;have HD5:=Aside0.mk hd;clear hd))
  go_ret
  exact⟨rfl,(HB4.out.alloc HB4.out.size _).trans (HD5.out.below.mono (by have:=HB4.out.size;simp;omega))⟩
end Go.Proofs.YthimblhfjfngiaaGreat.PText

namespace Go.Proofs.YthimblhfjfngiaaGreat.PText
open Go.RowKit Go.Lib Go.Proofs.YthimblhfjfngiaaGreatW.PrintWords Go.Proofs.YthimblhfjfngiaaGreatW.PrintLast Go.Proofs.YthimblhfjfngiaaGreatW.PrintMore
theorem redits_f (a b:ByteArray) (ha:a.size≤100000) (hb:b.size≤100000) (k:Nat) (hk:20000000≤k):ye_.f k a b=some (editsR a b):=by
  obtain⟨k,rfl⟩:∃ q,k=q+2:=⟨k - 2,by omega⟩
  unfold ye_.f editsR
  rw[rlines_f a (by omega) _ (by omega),Option.bind_some,rlines_f b (by omega) _ (by omega),Option.bind_some,if_neg (by omega),if_neg (by omega)]
  have hT:ye_.j0 (k+2) (linesB a) (linesB b) true=some ([],2):=by rw[ye_.j0,if_pos rfl]
  by_cases c3:2000 < (linesB a).length
  · have e:sizedR a b 0=([],2):=by unfold sizedR;rw[if_pos (Or.inr (Or.inr (Or.inl c3)))]
    rw[if_pos (by omega),hT,e,if_neg (by decide)]
  rw[if_neg (by omega)]
  by_cases c4:2000 < (linesB b).length
  · have e:sizedR a b 0=([],2):=by unfold sizedR;rw[if_pos (Or.inr (Or.inr (Or.inr c4)))]
    rw[decide_eq_true (by omega),hT,e,if_neg (by decide)]
  have big:¬ (200000 < a.size∨200000 < b.size∨2000 < (linesB a).length∨2000 < (linesB b).length):=by omega
  have e:sizedR a b 0=(stS (linesB a) (linesB b),0):=by unfold sizedR;rw[if_neg big,if_neg (by omega)]
  have hm:((linesB a).length+1) * (2 * (linesB b).length+4)≤2001 * 4004:=Nat.mul_le_mul (by omega) (by omega)
  have hl:=stT_len a b
  rw[decide_eq_false (by omega),ye_.j0,if_neg (by decide),rsteps_f _ _ (by omega) (by omega) (k+1) (by omega),Option.bind_some,e,if_pos rfl,stT_R]
  have:=(rEdits_l (stT a b) (by omega) (fun x hx=>by have:=(stT_ok a b x hx).2.2;omega) (stT a b).length 0 (by omega) (by omega)).1 (k+1) [] 0 (by omega) (by simp) (by omega) (by omega)
  rw[List.drop_zero,List.nil_append] at this
  exact this
end Go.Proofs.YthimblhfjfngiaaGreat.PText

namespace Go.Proofs.YthimblhfjfngiaaGreat.PText
open Go.RowKit Go.Lib Go.Proofs.YthimblhfjfngiaaGreatW.PrintWords Go.Proofs.YthimblhfjfngiaaGreatW.PrintLast Go.Proofs.YthimblhfjfngiaaGreatW.PrintMore
set_option linter.unusedVariables false
set_option linter.unusedSimpArgs false
theorem apart_in {n:Int}:∀ {l:List Tx.Ed} {p:Int},Tx.Apart n p l→∀ e∈l,p≤e.f∧e.f≤e.t∧e.t≤n
  | [],_,_,e,he=>by cases he
  | d :: l,p,h,e,he=>by
    rcases List.mem_cons.1 he with rfl|he
    · exact⟨h.1,h.2.1,h.2.2.1⟩
    · have:=apart_in h.2.2.2 e he
      have:=h.1
      have:=h.2.1
      omega
theorem apart_touch {n:Int}:∀ {l:List Tx.Ed} {p:Int},Tx.Apart n p l→∀ a∈l,∀ b∈l,a≠b→Tx.touch a b=false
  | [],_,_,a,ha,_,_,_=>by cases ha
  | d :: l,p,h,a,ha,b,hb,hne=>by
    have far:∀ e∈l,Tx.touch d e=false:=fun e he=>by
      have h1:=apart_in h.2.2.2 e he
      have h2:=h.2.1
      rw[Bool.eq_false_iff,Ne,Tx.ySb_]
      omega
    rcases List.mem_cons.1 ha with ha1|ha1
    · rcases List.mem_cons.1 hb with hb1|hb1
      · exact absurd (ha1.trans hb1.symm) hne
      · rw[ha1];exact far b hb1
    · rcases List.mem_cons.1 hb with hb1|hb1
      · rw[hb1,Tx.touch_symm];exact far a ha1
      · exact apart_touch h.2.2.2 a ha1 b hb1 hne
/-- the edits of a side, sound and apart -/
structure Side (n:Nat) (x:List S91):Prop where
  okay:∀ e∈x,0≤e.f0∧e.f0≤e.f1∧e.f1≤(n:Int)
  far:∀ a∈x,∀ b∈x,a≠b→Tx.touch (toE a) (toE b)=false
  len:x.length≤4000
theorem toE_ofE (e:Tx.Ed):toE (ofE e)=e:=by
  cases e
  unfold toE ofE
  simp only
  rw[Lib.toList_data]
theorem side_of (b a:ByteArray) (h:(editsR b a).2=0):Side b.size (editsR b a).1:=by
  have hl:=yLb_ b a
  unfold editsR at h hl ⊢
  by_cases c:(sizedR b a 0).2=0
  rotate_left
  · rw[if_neg c] at h
    exact absurd h c
  rw[if_pos c] at hl ⊢
  have hap:Tx.Apart (b.data.toList.length:Int) 0 (Tx.eg 0 none (stT b a)):=Tx.edits_apart b.data.toList a.data.toList
  have hm:∀ e∈editsS b a,toE e∈Tx.eg 0 none (stT b a):=fun e he=>by
    obtain⟨d,hd,rfl⟩:=List.mem_map.1 he
    rw[toE_ofE];exact hd
  refine⟨fun e he=>?_,fun u hu v hv hne=>apart_touch hap _ (hm u hu) _ (hm v hv) (fun q=>hne (toE_inj q)),hl⟩
  have:=apart_in hap _ (hm e he)
  rw[yib_]
  exact this
theorem fine_sides {n:Nat} {x y:List S91} (hn:n≤200000) (hx:Side n x) (hy:Side n y) (hm:x.any (fun a=>y.any (meetE a))=false):fineE n (x++y)=0:=by
  have hlx:=hx.len
  have hly:=hy.len
  have hok:∀ e∈x++y,0≤e.f0∧e.f0≤e.f1∧e.f1≤(n:Int):=fun e he=>by
    rcases List.mem_append.1 he with h|h
    · exact hx.okay e h
    · exact hy.okay e h
  have hxy:∀ a∈x,∀ b∈y,a≠b→Tx.touch (toE a) (toE b)=false:=fun a ha b hb hne=>by
    have q:meetE a b=false:=by
      cases q:meetE a b with
      | false=>rfl
      | true=>exact absurd (List.any_eq_true.2 ⟨a,ha,List.any_eq_true.2 ⟨b,hb,q⟩⟩) (by rw[hm];decide)
    unfold meetE at q
    rw[decide_eq_true hne,Bool.true_and,Bool.and_eq_false_iff,decide_eq_false_iff_not,decide_eq_false_iff_not] at q
    have h1:=hx.okay a ha
    have h2:=hy.okay b hb
    rw[Bool.eq_false_iff,Ne,Tx.ySb_]
    show ¬ ((a.f0=a.f1∧b.f0=b.f1∧a.f0=b.f0)∨(a.f0=a.f1∧b.f0≠b.f1∧b.f0 < a.f0∧a.f0 < b.f1)∨(a.f0≠a.f1∧b.f0=b.f1∧a.f0 < b.f0∧b.f0 < a.f1)∨(a.f0≠a.f1∧b.f0≠b.f1∧a.f0 < b.f1∧b.f0 < a.f1))
    omega
  unfold fineE
  rw[if_neg (by rw[List.length_append];omega),if_neg,if_neg]
  · intro hc
    obtain⟨a,ha,b,hb,hne,ht⟩:=(Tx.clash_iff (n:=(n:Int)) (fun e he=>by
      obtain⟨d,hd,rfl⟩:=List.mem_map.1 he
      exact hok d ((Tx.yGb_ y3_).1 hd)) (List.pairwise_map.2 (Tx.y6b_ y3_))).1 hc
    obtain⟨u,hu,rfl⟩:=List.mem_map.1 ha
    obtain⟨v,hv,rfl⟩:=List.mem_map.1 hb
    have huv:u≠v:=fun q=>hne (by rw[q])
    have hu':=(Tx.yGb_ y3_).1 hu
    have hv':=(Tx.yGb_ y3_).1 hv
    have hf:Tx.touch (toE u) (toE v)=false:=by
      rcases List.mem_append.1 hu' with h1|h1 <;> rcases List.mem_append.1 hv' with h2|h2
      · exact hx.far u h1 v h2 huv
      · exact hxy u h1 v h2 huv
      · rw[Tx.touch_symm];exact hxy v h2 u h1 (fun q=>huv q.symm)
      · exact hy.far u h1 v h2 huv
    rw[hf] at ht
    cases ht
  · intro hb
    obtain⟨e,he,q⟩:=List.any_eq_true.1 hb
    have:=hok e he
    unfold badE at q
    simp only[Bool.or_eq_true,decide_eq_true_eq] at q
    omega
theorem fine_side {n:Nat} {x:List S91} (hn:n≤200000) (hx:Side n x):fineE n x=0:=by
  have:=fine_sides (y:=[]) hn hx ⟨(fun e he=>absurd he (by simp)),(fun a ha=>absurd ha (by simp)),Nat.zero_le _⟩ (List.any_eq_false.2 (fun a _=>by simp))
  rwa [List.append_nil] at this
theorem fine_ord (n:Nat) (l:List S91) (h:fineE n l=0):fineE n (Tx.ord eltS l)=0:=by
  have hl:=Tx.ord_len (lt:=eltS) l
  have ho:Tx.ord eltS (Tx.ord eltS l)=Tx.ord eltS l:=Tx.ord_ord y3_ (Tx.y6b_ y3_)
  unfold fineE at h ⊢
  by_cases h1:200000 < n∨10000 < l.length
  · rw[if_pos h1] at h;cases h
  rw[if_neg h1] at h
  rw[if_neg (by omega)]
  by_cases h2:l.any (badE n)=true
  · rw[if_pos h2] at h;cases h
  rw[if_neg h2] at h
  rw[if_neg (fun q=>h2 (by
    obtain⟨e,he,q⟩:=List.any_eq_true.1 q
    exact List.any_eq_true.2 ⟨e,(Tx.yGb_ y3_).1 he,q⟩)),ho]
  exact h
theorem apply_ord (s:ByteArray) (l:List S91) (h:fineE s.size l=0):applyR s (Tx.ord eltS l)=applyR s l:=by
  have ho:Tx.ord eltS (Tx.ord eltS l)=Tx.ord eltS l:=Tx.ord_ord y3_ (Tx.y6b_ y3_)
  have hm:madeE s (Tx.ord eltS l)=madeE s l:=by unfold madeE;rw[ho]
  unfold applyR
  rw[fine_ord _ _ h,h,hm]
theorem eg_sum:∀ (l:List Tx.St) (a:Int) (c:Option Tx.Ed),((Tx.eg a c l).map (fun e=>e.x.length)).sum≤(c.toList.map (fun e=>e.x.length)).sum+(l.map (fun x=>x.2.length)).sum
  | [],a,c=>Nat.le_add_right _ _
  | (o,x) :: l,a,c=>by
    have hd:(c.getD ⟨a,a,[]⟩).x.length=(c.toList.map (fun e=>e.x.length)).sum:=by cases c <;> simp
    rw[List.map_cons,List.sum_cons]
    show _≤(c.toList.map (fun e=>e.x.length)).sum+(x.length+(l.map (fun x=>x.2.length)).sum)
    by_cases c1:o=32
    · subst c1
      have h:=eg_sum l (a+x.length) none
      rw[Tx.eg_keep,List.map_append,List.sum_append]
      simp only[Option.toList_none,List.map_nil,List.sum_nil] at h
      omega
    by_cases c2:o=45
    · subst c2
      have h:=eg_sum l (a+x.length) (some ⟨(c.getD ⟨a,a,[]⟩).f,a+x.length,(c.getD ⟨a,a,[]⟩).x⟩)
      rw[Tx.eg_gone]
      simp only[Option.toList_some,List.map_cons,List.map_nil,List.sum_cons,List.sum_nil] at h
      omega
    have h:=eg_sum l a (some ⟨(c.getD ⟨a,a,[]⟩).f,(c.getD ⟨a,a,[]⟩).t,(c.getD ⟨a,a,[]⟩).x++x⟩)
    rw[Tx.eg_come a c o x l c1 c2]
    simp only[Option.toList_some,List.map_cons,List.map_nil,List.sum_cons,List.sum_nil,List.length_append] at h
    omega
theorem steps_sum:∀ l:List Tx.St,(∀ x∈l,x.1=32∨x.1=45∨x.1=43)→(l.map (fun x=>x.2.length)).sum≤(Tx.olds l).flatten.length+(Tx.news l).flatten.length
  | [],_=>Nat.zero_le _
  | (o,x) :: l,h=>by
    have ih:=steps_sum l (fun y m=>h y (List.mem_cons_of_mem _ m))
    have hoh:=h (o,x) List.mem_cons_self
    rw[List.map_cons,List.sum_cons]
    show x.length+_≤_
    rcases hoh with e|e|e <;> (replace e:o=_:=e;subst e)
    · rw[Tx.olds_keep _ _ _ (by decide),Tx.news_keep _ _ _ (by decide),List.flatten_cons,List.flatten_cons,List.length_append,List.length_append];omega
    · rw[Tx.olds_keep _ _ _ (by decide),Tx.news_gone,List.flatten_cons,List.length_append];omega
    · rw[Tx.olds_come,Tx.news_keep _ _ _ (by decide),List.flatten_cons,List.length_append];omega
theorem sumS_edits2 (b a:ByteArray):sumS (editsR b a).1≤b.size+a.size:=by
  unfold editsR
  by_cases c:(sizedR b a 0).2=0
  rotate_left
  · rw[if_neg c]
    exact Nat.zero_le _
  rw[if_pos c]
  have ho:=Tx.stp_olds _ (Tx.lines (bL b)) (Tx.lines (bL a)) (Nat.le_refl _)
  have h1:=steps_sum (stT b a) (fun x hx=>(stT_ok b a x hx).1)
  have e1:Tx.olds (stT b a)=Tx.lines (bL b):=ho.1
  have e2:Tx.news (stT b a)=Tx.lines (bL a):=ho.2
  rw[e1,e2,Tx.yRb_,Tx.yRb_,← bL_size,← bL_size] at h1
  have q:=eg_sum (stT b a) 0 none
  rw[show ((none:Option Tx.Ed).toList.map (fun e=>e.x.length)).sum=0 from rfl,Nat.zero_add] at q
  have h3:sumS (editsS b a)=((Tx.eg 0 none (stT b a)).map (fun e=>e.x.length)).sum:=by
    unfold sumS editsS
    rw[List.map_map]
    rfl
  show sumS (editsS b a)≤_
  omega
/-- two sides merged -/
def threeR (b a c:ByteArray):ByteArray × Int :=
  if (editsR b a).2≠0 then (⟨#[]⟩,(editsR b a).2) else if (editsR b c).2≠0 then (⟨#[]⟩,(editsR b c).2)
  else if (editsR b a).1.any (fun i=>(editsR b c).1.any (meetE i))=true then (⟨#[]⟩,250)
  else applyR b ((editsR b a).1++(editsR b c).1)
theorem three_f (b a c:ByteArray) (hb:b.size≤20000) (ha:a.size≤20000) (hc:c.size≤20000):yyb_.f b a c=some (threeR b a c):=by
  have s1:=sumS_edits2 b a
  have s2:=sumS_edits2 b c
  unfold yyb_.f threeR
  rw[if_pos ⟨by omega,by omega,by omega⟩]
  by_cases h1:(editsR b a).2≠0
  · rw[if_pos h1,if_pos h1]
  rw[if_neg h1,if_neg h1]
  by_cases h2:(editsR b c).2≠0
  · rw[if_pos h2,if_pos h2]
  rw[if_neg h2,if_neg h2]
  have hx:=side_of b a (Decidable.of_not_not h1)
  have hy:=side_of b c (Decidable.of_not_not h2)
  generalize (editsR b a).1=x at *
  generalize (editsR b c).1=y at *
  by_cases h3:x.any (fun i=>y.any (meetE i))=true
  · rw[if_pos h3,if_pos h3]
  rw[if_neg h3,if_neg h3]
  have hf:=fine_sides (by omega) hx hy (by simpa using h3)
  have hfx:=fine_side (show b.size≤200000 by omega) hx
  have hfy:=fine_side (show b.size≤200000 by omega) hy
  have hm:mergeR b.size x y=(Tx.ord eltS (x++y),0):=by
    unfold mergeR
    rw[if_neg (fun q=>q hfx),if_neg (fun q=>q hfy),if_neg (fun q=>q hf)]
  have hs:b.size+sumS (Tx.ord eltS (x++y))≤100000000000:=by
    have:=sumS_ord (x++y)
    rw[sumS_app] at this
    omega
  rw[hm,if_neg (fun q=>q rfl),apply_f b _ hs,Option.bind_some,apply_ord b _ hf]
  by_cases hz:(applyR b (x++y)).2=0
  · rw[if_pos hz,← hz]
  rw[if_neg hz]
  unfold applyR at hz ⊢
  rw[if_neg (fun q=>q hf)] at hz ⊢
  by_cases hbig:200000 < (madeE b (x++y)).length
  · rw[if_pos hbig]
  rw[if_neg hbig] at hz;exact absurd rfl hz
theorem rthree_f (b a c:ByteArray) (hb:b.size≤20000) (ha:a.size≤20000) (hc:c.size≤20000) (k:Nat) (hk:400000000≤k):yjb_.f k b a c=some (threeR b a c):=by
  have s1:=sumS_edits2 b a
  have s2:=sumS_edits2 b c
  have hE1:∀ k,20000000≤k→ye_.f k b a=some (editsR b a):=fun k hk=>redits_f b a (by omega) (by omega) k hk
  have hE2:∀ k,20000000≤k→ye_.f k b c=some (editsR b c):=fun k hk=>redits_f b c (by omega) (by omega) k hk
  have l1:=yLb_ b a
  have l2:=yLb_ b c
  unfold yjb_.f threeR
  rw[rconf_f b a c hE1 hE2 k (by omega),Option.bind_some]
  unfold confR
  by_cases h1:(editsR b a).2≠0
  · rw[if_pos h1,if_pos h1,if_neg h1]
  rw[if_neg h1,if_neg h1]
  by_cases h2:(editsR b c).2≠0
  · rw[if_pos h2,if_pos h2,if_neg h2]
  rw[if_neg h2,if_neg h2,if_pos rfl]
  have hn:=conC_nil (editsR b c).1 (editsR b a).1 0
  by_cases h3:(editsR b a).1.any (fun i=>(editsR b c).1.any (meetE i))=true
  · have hp:conC (editsR b c).1 0 (editsR b a).1≠[]:=fun q=>by rw[hn.1 q] at h3;cases h3
    rw[if_pos (by show ((conC (editsR b c).1 0 (editsR b a).1).length:Int) > 0;have:=List.length_pos_iff.2 hp;omega),if_pos h3]
  have hp:=hn.2 (by simpa using h3)
  rw[hp,if_neg (by simp),if_neg h3,hE1 k (by omega),Option.bind_some,hE2 k (by omega),Option.bind_some,if_pos (by omega)]
  have hr:=rapply_f b ((editsR b a).1++(editsR b c).1) 8000 (by rw[List.length_append];omega) (by omega) (by rw[sumS_app];omega) k (by omega)
  rw[hr,Option.bind_some]
end Go.Proofs.YthimblhfjfngiaaGreat.PText

namespace Go.Proofs.YthimblhfjfngiaaGreat.PText
open Go.RowKit Go.Lib Go.Proofs.YthimblhfjfngiaaGreatW.PrintWords Go.Proofs.YthimblhfjfngiaaGreatW.PrintLast Go.Proofs.YthimblhfjfngiaaGreatW.PrintMore
set_option linter.unusedVariables false
set_option linter.unusedSimpArgs false
/-- the three boxes that pass writes, and all that stands -/
structure Bx (W0 w':World) (base bo ba bn:Nat) (v:Value) (a n:Int):Prop where
  os:w'.os=W0.os
  tape:w'.tape=W0.tape
  output:w'.output=W0.output
  size:W0.heap.size≤w'.heap.size
  far:∀ k,k < base→k≠bo→k≠ba→k≠bn→w'.heap[k]?=W0.heap[k]?
  ho:w'.heap[bo]?=some (.cells #[v] 28 (0,0))
  ha:w'.heap[ba]?=some (.cells #[.int .i64 a] 3 (0,0))
  hn:w'.heap[bn]?=some (.cells #[.int .i64 n] 3 (0,0))
section
variable {W0 w' w'' : World} {base bo ba bn : Nat} {v : Value} {a n : Int}
theorem box_size (w:World) (p:Addr) (x:Value):(w.setCell p x).heap.size=w.heap.size:=by unfold World.setCell;simp
theorem Bx.drew (h:Bx W0 w' base bo ba bn v a n):Bx W0 w'.drew base bo ba bn v a n:=⟨h.os,h.tape,h.output,h.size,h.far,h.ho,h.ha,h.hn⟩
theorem Bx.below (h:Bx W0 w' base bo ba bn v a n) (h1:bo < base) (h2:ba < base) (h3:bn < base) (hb:Below base w' w''):Bx W0 w'' base bo ba bn v a n :=
  ⟨hb.os.trans h.os,hb.tape.trans h.tape,hb.output.trans h.output,Nat.le_trans h.size hb.size,fun k hk k1 k2 k3=>(hb.block k hk).trans (h.far k hk k1 k2 k3),(hb.block _ h1).trans h.ho,(hb.block _ h2).trans h.ha,(hb.block _ h3).trans h.hn⟩
theorem Bx.cellN (h:Bx W0 w' base bo ba bn v a n):w'.cell? ⟨bn,0,none⟩=some (.int .i64 n)∧w'.frozen? ⟨bn,0,none⟩=false:=⟨by unfold World.cell?;rw[h.hn];rfl,by simp [World.frozen?,h.hn]⟩
theorem Bx.cell (h:Bx W0 w' base bo ba bn v a n) {b i:Nat} {u:Value} (hk:b < base) (h1:b≠bo) (h2:b≠ba) (h3:b≠bn) (hc:W0.cell? ⟨b,i,none⟩=some u):w'.cell? ⟨b,i,none⟩=some u:=by
  rw[← hc];unfold World.cell?;simp only[h.far b hk h1 h2 h3]
end
/-- what a pass leaves as it is: all but the boxes and the row that grows -/
def Stays (w w':World) (bo ba bn:Nat) (row:Option Nat):Prop:=w.heap.size≤w'.heap.size∧∀ k,k < w.heap.size→k≠bo→k≠ba→k≠bn→some k≠row→w'.heap[k]?=w.heap[k]?
theorem Stays.refl (w:World) (bo ba bn:Nat) (row:Option Nat):Stays w w bo ba bn row:=⟨Nat.le_refl _,fun _ _ _ _ _ _=>rfl⟩
theorem Stays.drew {w w':World} {bo ba bn:Nat} {row:Option Nat} (h:Stays w w' bo ba bn row):Stays w w'.drew bo ba bn row:=h
theorem Stays.set {w w':World} {bo ba bn b:Nat} {row:Option Nat} {x:Value} (h:Stays w w' bo ba bn row) (hb:b=bo∨b=ba∨b=bn):Stays w (w'.setCell ⟨b,0,none⟩ x) bo ba bn row :=
  ⟨by rw[box_size];exact h.1,fun k hk k1 k2 k3 k4=>(Below.heap_setCell _ _ _ _ (fun e=>by rcases hb with q|q|q <;> (subst q;exact absurd e zd_))).trans (h.2 k hk k1 k2 k3 k4)⟩
theorem Stays.grow {w w' w'':World} {bo ba bn:Nat} {row:Option Nat} (h:Stays w w' bo ba bn row) (hg:w'.grownBy w'' row) (hs:w'.heap.size≤w''.heap.size):Stays w w'' bo ba bn row :=
  ⟨Nat.le_trans h.1 hs,fun k hk k1 k2 k3 k4=>(hg.block k (Nat.lt_of_lt_of_le hk h.1) k4).trans (h.2 k hk k1 k2 k3 k4)⟩
theorem Bx.S {W0 w':World} {base bo ba bn bl c1 n:Nat} {v:Value} {a:Int} {A1:Option Addr} {k:Int} (hs:∀ w' v a k,Bx W0 w' base bo ba bn v a k→w'.cell? ⟨bl,0,none⟩=some (.slice A1 n c1)) (h:Bx W0 w' base bo ba bn v a k) :
    w'.cell? ⟨bn,0,none⟩=some (.int .i64 k)∧w'.cell? ⟨bl,0,none⟩=some (.slice A1 n c1)∧∃ v' a',Bx W0 w' base bo ba bn v' a' k:=⟨h.cellN.1,hs _ _ _ _ h,v,a,h⟩
end Go.Proofs.YthimblhfjfngiaaGreat.PText

namespace Go.Proofs.YthimblhfjfngiaaGreat.PText
open Go.RowKit Go.Lib Go.Sort Go.Proofs.YthimblhfjfngiaaGreatW.PrintWords Go.Proofs.YthimblhfjfngiaaGreatW.PrintLast Go.Proofs.YthimblhfjfngiaaGreatW.PrintMore
set_option linter.unusedVariables false
set_option linter.unusedSimpArgs false
/-- the bytes before a line, as a number -/
def offT (s:ByteArray) (m:Nat):Int:=(Tx.off (Tx.lines (bL s)) m:Int)
def blT (old now:ByteArray) (who:List Int) (k:Int) (i:Nat):Nat × List Int:=Tx.blS (Tx.lines (bL old)) who k (Tx.edits (bL old) (bL now)) i
/-- an edit of whole lines: where it begins and ends, how it turns what is so far -/
structure EdAt (old:ByteArray) (who:List Int) (k:Int) (x:S91) (s s':Nat × List Int) (f t n:Nat):Prop where
  h0:x.f0=offT old f
  h1:x.f1=offT old t
  sf:s.1≤f
  ft:f≤t
  tl:t≤(linesB old).length
  hn:n=(linesB x.f2).length
  hs:s'=(t,s.2++(who.drop s.1).take (f - s.1)++List.replicate n k)
/-- what lies below the boxes stands -/
theorem Bx.low {W0 w' x:World} {base bo ba bn b:Nat} {v:Value} {a n:Int} (h:Bx W0 w' base bo ba bn v a n) (hb:Below b x W0) (l0:b≤base) (l1:b≤bo) (l2:b≤ba) (l3:b≤bn):Below b x w' :=
  ⟨h.os.trans hb.os,h.tape.trans hb.tape,h.output.trans hb.output,Nat.le_trans hb.size h.size,fun k hk=>(h.far k (by omega) (by omega) (by omega) (by omega)).trans (hb.block k hk)⟩
/-- a row that was made behind the boxes stands -/
theorem Bx.row {W0 w' w2:World} {base bo ba bn b e:Nat} {v u:Value} {a n:Int} {α:Type} {d:Kd α} {xs:List α} (h:Bx W0 w' base bo ba bn v a n) (hr:Kd.R d e w2 b (fun _=>True) u xs) (hb:Below w2.heap.size w2 W0) (l0:w2.heap.size≤base) (l1:bo < b) (l2:ba < b) (l3:bn < b):Kd.R d e w' b (fun _=>True) u xs :=
  Kd.R_mono (Kd.R_step (Kd.yPb_ hr) (fun k hk hk2=>by
    have:=hk.2.1
    exact (h.far k (by omega) (by omega) (by omega) (by omega)).trans (hb.block k hk2))) (fun _ _=>trivial)
attribute [irreducible] offT blT
end Go.Proofs.YthimblhfjfngiaaGreat.PText

namespace Go.Proofs.YthimblhfjfngiaaGreat.PText
open Go.RowKit Go.Lib Go.Sort Go.Proofs.YthimblhfjfngiaaGreatW.PrintWords Go.Proofs.YthimblhfjfngiaaGreatW.PrintLast Go.Proofs.YthimblhfjfngiaaGreatW.PrintMore
set_option linter.unusedVariables false
set_option linter.unusedSimpArgs false
theorem Stays.box {w w':World} {bo ba bn k base:Nat} {row:Option Nat} {o:Obj} (h:Stays w w' bo ba bn row) (hk:w.heap[k]?=some o) (h0:bo < base∧ba < base∧bn < base) (h1:base≤k) (hr:some k≠row):w'.heap[k]?=some o :=
  (h.2 k (Array.getElem?_eq_some_iff.1 hk).1 (by omega) (by omega) (by omega) hr).trans hk
end Go.Proofs.YthimblhfjfngiaaGreat.PText

namespace Go.Proofs.YthimblhfjfngiaaGreat.PText
open Go.RowKit Go.Lib Go.Sort Go.Proofs.YthimblhfjfngiaaGreatW.PrintWords Go.Proofs.YthimblhfjfngiaaGreatW.PrintLast Go.Proofs.YthimblhfjfngiaaGreatW.PrintMore
set_option linter.unusedVariables false
set_option linter.unusedSimpArgs false
/-- the row of a past of some commits -/
theorem past_at {w:World} {base p:Nat} {L:List Com} (h:PastIs w base p L) (hl:0 < L.length):∃ (g cap:Nat) (cs:List Nat),p < w.heap.size∧g < w.heap.size∧base≤p∧base≤g∧L.length≤cap∧w.cell? ⟨p,0,none⟩=some (.slice (some ⟨g,0,none⟩) L.length cap) ∧
    ∀ i,∀ h:i < L.length,∃ c,w.cell? ⟨g,i,none⟩=some (.pointer (some ⟨c,0,none⟩))∧ComAt w c L[i]:=by
  obtain⟨A,cap,ps,h1,h2,h3,h4,h5⟩:=h
  have h4':Kd.R kP 63 w base (fun _=>True) (.slice A ps.length cap) ps:=by rw[h1];exact h4
  obtain⟨g,cap',hv,hb,-,cs,hc⟩:=Kd.R_form h4' (by omega)
  cases hv
  refine⟨g,cap,ps,(Array.getElem?_eq_some_iff.1 h3).1,(Array.getElem?_eq_some_iff.1 hc).1,h2,hb,(Kd.yt_ h4).2.1,by unfold World.cell?;rw[h3];rfl,fun i hi=>?_⟩
  have hi':i < ps.length:=by omega
  obtain⟨q1,-⟩:=Kd.R_cell (enc:=fun c:Nat=>Value.pointer (some ⟨c,0,none⟩)) (h1:=fun _=>rfl) 0 h4' (i:Int) (by omega) (by omega)
  have hr:rdOf 0 ps (i:Int)=ps[i]:=by unfold rdOf;rw[Int.toNat_natCast,List.getD_eq_getElem?_getD,List.getElem?_eq_getElem hi'];rfl
  rw[Int.toNat_natCast,hr] at q1
  exact⟨ps[i],q1,h5 i hi hi'⟩
/-- commits that are not large -/
def Small (L:List Com):Prop:=∀ c∈L,c.files.length≤10000∧∀ x∈c.files,x.f1.size≤1000000
theorem findR_size {l:List S41} {file:ByteArray} {B:Nat} (h:∀ x∈l,x.f1.size≤B):(findR l file).1.size≤B:=by
  unfold findR
  cases q:l.find? (nameP file) with
  | none=>exact Nat.zero_le _
  | some x=>exact h x (List.mem_of_find?_eq_some q)
end Go.Proofs.YthimblhfjfngiaaGreat.PText

namespace Go.Proofs.YthimblhfjfngiaaGreat.PText
open Go.RowKit Go.Lib Go.Sort Go.Proofs.YthimblhfjfngiaaGreatW.PrintWords Go.Proofs.YthimblhfjfngiaaGreatW.PrintLast Go.Proofs.YthimblhfjfngiaaGreatW.PrintMore
set_option linter.unusedVariables false
set_option linter.unusedSimpArgs false
set_option maxRecDepth 100000 in
set_option maxHeartbeats 1000000 in
theorem has_calls (base p:Nat) (L:List Com) (k:Int) (w:World) (hP:PastIs w base p L) :
    Calls Tryz.prog 39 #[.pointer (some ⟨p,0,none⟩),.int .i64 k] w fun e w'=>e=.returned (.bool (decide (0≤k∧k < (L.length:Int))))∧Below w.heap.size w w':=by
  obtain⟨A,cap,ps,h1,h2,h3,h4,h5⟩:=hP
  have hx0:w.cell? ⟨p,0,none⟩=some (.slice A L.length cap):=by unfold World.cell?;rw[h3];rfl
  clear h1 h2 h3 h4 h5
  by_cases g1:0≤k
  rotate_left
  · have d1:decide (0≤k)=false:=decide_eq_false g1
    have d3:decide (0≤k∧k < (L.length:Int))=false:=decide_eq_false (fun q=>g1 q.1)
    rw[d3]
    go_enter Tryz.func39,Tryz.ntmps39
    go_wp2_with fail
    go_ret
    exact⟨rfl,Below.refl _ _⟩
  have d1:decide (0≤k)=true:=decide_eq_true g1
  by_cases g2:k < (L.length:Int)
  · have d2:decide (k < (L.length:Int))=true:=decide_eq_true g2
    have d3:decide (0≤k∧k < (L.length:Int))=true:=decide_eq_true ⟨g1,g2⟩
    rw[d3]
    go_enter Tryz.func39,Tryz.ntmps39
    go_wp2_with fail
    go_ret
    exact⟨rfl,Below.refl _ _⟩
  have d2:decide (k < (L.length:Int))=false:=decide_eq_false g2
  have d3:decide (0≤k∧k < (L.length:Int))=false:=decide_eq_false (fun q=>g2 q.2)
  rw[d3]
  go_enter Tryz.func39,Tryz.ntmps39
  go_wp2_with fail
  go_ret
  exact⟨rfl,Below.refl _ _⟩
end Go.Proofs.YthimblhfjfngiaaGreat.PText

