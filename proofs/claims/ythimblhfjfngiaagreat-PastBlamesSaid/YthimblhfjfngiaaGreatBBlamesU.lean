/- PastBlames holds: for all steps, every file and every line the statement answers true. Part 21 of 21. -/
import Derived.Test.YthimblhfjfngiaaGreatBBlamesT
import Derived.Deep.Slices
import Derived.ChangeArms
import Derived.ChangeOld
import Derived.Test.YthimblhfjfngiaaGreatRows
import Derived.ProofKit
import Derived.OpenShut
import Derived.ShutString
import Derived.SizedLaws
import Derived.Deep.DeepHandedRow
import Derived.Deep.DeepWitnessRowRef
namespace Go.Proofs.YthimblhfjfngiaaGreat.PText
open Go.RowKit Go.Lib Go.Proofs.YthimblhfjfngiaaGreatW.PrintWords Go.Proofs.YthimblhfjfngiaaGreatW.PrintLast Go.Proofs.YthimblhfjfngiaaGreatW.PrintMore
set_option linter.unusedVariables false
set_option linter.unusedSimpArgs false
theorem lines_toE (e:S91):(Tx.lines (toE e).x).length=(linesB e.f2).length:=by
  unfold toE linesB
  rw[List.length_map,Lib.toList_data]
def goneE (e:S91) (a:Int):Bool:=decide (e.f0≤a) && decide (a < e.f1)
theorem moved_l2 (E:List S91) (who:List Int) (k:Int) (lb:List ByteArray) (a i:Int) (g:Bool) (j:Nat) (hj:j < E.length) (hE:E.length≤100000) (n:Nat) (hn:n≤1000000) :
    ∀ (d m:Nat) (D:List Int) (K:Nat),n - m=d→m≤n→D.length+d≤10000000000000→d+1≤K→∃ K',K=K'+d+1 ∧
      yi_.l2 K E who k D lb a i g (j:Int) (n:Int) (m:Int)=yi_.l1 K' E who k (D++List.replicate d k) lb a i (g || goneE E[j] a) ((j+1:Nat):Int)
  | 0,m,D,K,hd,hm,hD,hK=>by
    obtain⟨K,rfl⟩:∃ q,K=q+1:=⟨K - 1,by omega⟩
    refine⟨K,rfl,?_⟩
    rw[yi_.l2,if_neg (by omega),nx j (by omega),List.replicate_zero,List.append_nil]
    unfold goneE
    cases g
    · rw[if_neg (show ¬ (false=true) by decide),if_pos (show 0≤(j:Int) by omega),if_pos (show (j:Int) < (E.length:Int) by omega),rd34_at E j hj]
      by_cases c:E[j].f0≤a
      · rw[if_pos (by omega),decide_eq_true c];simp
      rw[if_neg (by omega),decide_eq_false c];simp
    · rw[if_pos rfl];simp
  | d+1,m,D,K,hd,hm,hD,hK=>by
    obtain⟨K,rfl⟩:∃ q,K=q+1:=⟨K - 1,by omega⟩
    obtain⟨K',h1,h2⟩:=moved_l2 E who k lb a i g j hj hE n hn d (m+1) (D++[k]) K (by omega) (by omega) (by rw[List.length_append,List.length_singleton];omega) (by omega)
    refine⟨K',by omega,?_⟩
    rw[yi_.l2,if_pos (by omega),if_pos (by omega),nx m (by omega),h2,List.append_assoc,List.replicate_succ]
    rfl
/-- behind all edits, at a line -/
def movEnd (K:Nat) (E:List S91) (who:List Int) (k:Int) (D:List Int) (lb:List ByteArray) (a:Int) (i:Nat) (g:Bool):Option (List Int) :=
  if (i:Int) < (lb.length:Int) then (if g=true then (if 0≤(i:Int) then yi_.l0 K E who k D lb (wrap64 (a+((rdOf ByteArray.empty lb (i:Int)).size:Int))) (wrap64 ((i:Int)+1)) else none) else (if 0≤(i:Int) then (if (i:Int) < (who.length:Int) then (if D.length < 17592186044416 then yi_.l0 K E who k (D++[rd who (i:Int)]) lb (wrap64 (a+((rdOf ByteArray.empty lb (i:Int)).size:Int))) (wrap64 ((i:Int)+1)) else none) else none) else none)) else yi_.l0 K E who k D lb a (wrap64 ((i:Int)+1))
theorem moved_l1 (E:List S91) (who:List Int) (k:Int) (lb:List ByteArray) (a:Int) (i:Nat) (hE:E.length≤100000) (B C:Nat) (hB:B≤1000000) (hEB:∀ e∈E,(linesB e.f2).length≤B∧e.f2.size≤100000∧e.f2.size+1≤C) :
    ∀ (d j:Nat) (D:List Int) (g:Bool) (K:Nat),E.length - j=d→j≤E.length→D.length+d * B≤10000000000000→d * (B+2)+C+1≤K→∃ K',K≤K'+d * (B+2)+1 ∧
      yi_.l1 K E who k D lb a (i:Int) g (j:Int)=movEnd K' E who k (D++Tx.starts ((E.drop j).map toE) k a) lb a i (g || Tx.gone ((E.drop j).map toE) a)∧(D++Tx.starts ((E.drop j).map toE) k a).length≤D.length+d * B
  | 0,j,D,g,K,hd,hj,hD,hK=>by
    obtain⟨K,rfl⟩:∃ q,K=q+1:=⟨K - 1,by omega⟩
    refine⟨K,by omega,?_⟩
    have hdr:E.drop j=[]:=List.drop_eq_nil_of_le (by omega)
    rw[hdr,yi_.l1,if_neg (by omega)]
    show _=movEnd K E who k (D++[]) lb a i (g || false)∧(D++[]).length≤_
    rw[List.append_nil,Bool.or_false]
    exact⟨rfl,by omega⟩
  | d+1,j,D,g,K,hd,hj,hD,hK=>by
    obtain⟨K,rfl⟩:∃ q,K=q+1:=⟨K - 1,by omega⟩
    have hjl:j < E.length:=by omega
    have hm1:(d+1) * (B+2)=d * (B+2)+(B+2):=Nat.succ_mul _ _
    have hm2:(d+1) * B=d * B+B:=Nat.succ_mul _ _
    obtain⟨e1,e2,e3⟩:=hEB E[j] (List.getElem_mem hjl)
    have hdr:E.drop j=E[j] :: E.drop (j+1):=List.drop_eq_getElem_cons hjl
    have hgo:Tx.gone ((E.drop j).map toE) a=(goneE E[j] a || Tx.gone ((E.drop (j+1)).map toE) a):=by
      rw[hdr,List.map_cons];rfl
    have hst:Tx.starts ((E.drop j).map toE) k a=(if E[j].f0=a then List.replicate (linesB E[j].f2).length k else [])++Tx.starts ((E.drop (j+1)).map toE) k a:=by
      rw[hdr,List.map_cons,← lines_toE];rfl
    rw[yi_.l1,if_pos (by omega),if_pos (by omega),rd34_at E j hjl,hgo,hst]
    by_cases c:E[j].f0=a
    · rw[if_pos c,if_pos c,rlines_f _ e2 K (by omega),Option.bind_some]
      obtain⟨K1,h1,h2⟩:=moved_l2 E who k lb a (i:Int) g j hjl hE (linesB E[j].f2).length (by omega) (linesB E[j].f2).length 0 D K (by omega) (Nat.zero_le _) (by omega) (by omega)
      obtain⟨K2,h3,h4,h5⟩:=moved_l1 E who k lb a i hE B C hB hEB d (j+1) (D++List.replicate (linesB E[j].f2).length k) (g || goneE E[j] a) K1 (by omega) (by omega) (by rw[List.length_append,List.length_replicate];omega) (by omega)
      refine⟨K2,by omega,?_⟩
      rw[List.append_assoc] at h4
      exact⟨(show _=_ from h2).trans (by rw[h4,Bool.or_assoc]),by simp only[List.length_append,List.length_replicate] at h5 ⊢;omega⟩
    obtain⟨K2,h3,h4,h5⟩:=moved_l1 E who k lb a i hE B C hB hEB d (j+1) D (g || goneE E[j] a) K (by omega) (by omega) (by omega) (by omega)
    refine⟨K2,by omega,?_⟩
    rw[if_neg c,if_neg c,nx j (by omega),List.nil_append]
    have hx:(if g=true then yi_.l1 K E who k D lb a (i:Int) true ((j+1:Nat):Int) else if a ≥ E[j].f0 then yi_.l1 K E who k D lb a (i:Int) (decide (a < E[j].f1)) ((j+1:Nat):Int) else yi_.l1 K E who k D lb a (i:Int) false ((j+1:Nat):Int))=yi_.l1 K E who k D lb a (i:Int) (g || goneE E[j] a) ((j+1:Nat):Int):=by
      unfold goneE
      cases g
      · rw[if_neg (by decide)]
        by_cases c2:E[j].f0≤a
        · rw[if_pos (by omega),decide_eq_true c2];simp
        rw[if_neg (by omega),decide_eq_false c2];simp
      · rw[if_pos rfl];simp
    rw[hx,h4,Bool.or_assoc]
    exact⟨rfl,by omega⟩
def sumZ (l:List ByteArray):Nat:=(l.map (fun x=>x.size)).sum
theorem moved_l0 (E:List S91) (who:List Int) (k:Int) (lb:List ByteArray) (hE:E.length≤100000) (hw:who.length=lb.length) (hl:lb.length≤100000) (B C F N:Nat) (hB:B≤1000000) (hEB:∀ e∈E,(linesB e.f2).length≤B∧e.f2.size≤100000∧e.f2.size+1≤C) (hF:E.length * (B+2)+2≤F) (hN:E.length * B+1≤N) :
    ∀ (d i:Nat) (D:List Int) (a:Int) (K:Nat),lb.length - i=d→i≤lb.length→0≤a→a+(sumZ (lb.drop i):Int)≤1000000000→D.length+(d+1) * N≤10000000000000→(d+1) * F+C+2≤K →
      yi_.l0 K E who k D lb a (i:Int)=some (D++Tx.mv (E.map toE) k ((lb.drop i).map bL) (who.drop i) a)
  | 0,i,D,a,K,hd,hi,h0,ha,hD,hK=>by
    obtain⟨K,rfl⟩:∃ q,K=q+1:=⟨K - 1,by omega⟩
    rw[Nat.zero_add,Nat.one_mul] at hD hK
    obtain⟨K1,h1,h2,h3⟩:=moved_l1 E who k lb a i hE B C hB hEB E.length 0 D false K (by omega) (Nat.zero_le _) (by omega) (by omega)
    rw[List.drop_zero] at h2 h3
    have hil:i=lb.length:=by omega
    obtain⟨K1,rfl⟩:∃ q,K1=q+1:=⟨K1 - 1,by omega⟩
    rw[yi_.l0,if_pos (by omega)]
    rw[show yi_.l1 K E who k D lb a (i:Int) false 0=_ from h2]
    unfold movEnd
    rw[if_neg (by omega),nx i (by omega),yi_.l0,if_neg (by omega),hil,List.drop_length]
    rfl
  | d+1,i,D,a,K,hd,hi,h0,ha,hD,hK=>by
    obtain⟨K,rfl⟩:∃ q,K=q+1:=⟨K - 1,by omega⟩
    have hm1:(d+1+1) * N=(d+1) * N+N:=Nat.succ_mul _ _
    have hm2:(d+1+1) * F=(d+1) * F+F:=Nat.succ_mul _ _
    have hil:i < lb.length:=by omega
    have hdr:lb.drop i=lb[i] :: lb.drop (i+1):=List.drop_eq_getElem_cons hil
    have hwr:who.drop i=who[i]'(by omega) :: who.drop (i+1):=List.drop_eq_getElem_cons (by omega)
    obtain⟨K1,h1,h2,h3⟩:=moved_l1 E who k lb a i hE B C hB hEB E.length 0 D false K (by omega) (Nat.zero_le _) (by omega) (by omega)
    rw[List.drop_zero] at h2 h3
    have hsm:sumZ (lb.drop i)=lb[i].size+sumZ (lb.drop (i+1)):=by
      unfold sumZ
      rw[hdr,List.map_cons,List.sum_cons]
    rw[hsm] at ha
    have hsz:((lb[i].size:Nat):Int)=((bL lb[i]).length:Int):=by rw[yXb_]
    rw[yi_.l0,if_pos (by omega)]
    rw[show yi_.l1 K E who k D lb a (i:Int) false 0=_ from h2]
    have hmv:Tx.mv (E.map toE) k ((lb.drop i).map bL) (who.drop i) a=Tx.starts (E.map toE) k a++(if Tx.gone (E.map toE) a=true then [] else [who[i]'(by omega)])++Tx.mv (E.map toE) k ((lb.drop (i+1)).map bL) (who.drop (i+1)) (a+(lb[i].size:Int)):=by
      rw[hdr,List.map_cons,hwr,hsz]
      rfl
    rw[hmv]
    unfold movEnd
    rw[if_pos (show (i:Int) < (lb.length:Int) by omega),Bool.false_or]
    have hnx:wrap64 (a+((rdOf ByteArray.empty lb (i:Int)).size:Int))=a+(lb[i].size:Int):=by rw[rdB lb i hil,w64 (by omega) (by omega)]
    rw[hnx,nx i (by omega)]
    by_cases c:Tx.gone (E.map toE) a=true
    · rw[if_pos c,if_pos c,if_pos (show 0≤(i:Int) by omega),moved_l0 E who k lb hE hw hl B C F N hB hEB hF hN d (i+1) _ _ K1 (by omega) (by omega) (by omega) (by omega) (by omega) (by omega)]
      simp only[List.append_assoc,List.nil_append,List.append_nil]
    rw[if_neg c,if_neg c,if_pos (show 0≤(i:Int) by omega),if_pos (show (i:Int) < (who.length:Int) by omega),if_pos (show (D++Tx.starts (E.map toE) k a).length < 17592186044416 by omega),rdI who i (by omega),moved_l0 E who k lb hE hw hl B C F N hB hEB hF hN d (i+1) _ _ K1 (by omega) (by omega) (by omega) (by omega) (by rw[List.length_append,List.length_singleton];omega) (by omega)]
    simp only[List.append_assoc]
theorem size_sum:∀ (l:List ByteArray),sumZ l=(l.map bL).flatten.length
  | []=>rfl
  | x :: l=>by
    have h:sumZ (x :: l)=x.size+sumZ l:=by unfold sumZ;rw[List.map_cons,List.sum_cons]
    rw[h,List.map_cons,List.flatten_cons,List.length_append,size_sum l,← yXb_]
theorem editsS_size (b a:ByteArray):∀ e∈(editsR b a).1,e.f2.size≤b.size+a.size:=fun e m=>by
  have h1:=sumS_edits2 b a
  have h2:e.f2.size≤sumS (editsR b a).1:=by
    generalize (editsR b a).1=l at m
    clear h1
    induction l with
    | nil=>cases m
    | cons x l ih =>
      have hc:sumS (x :: l)=x.f2.size+sumS l:=by unfold sumS;simp [List.map_cons,List.sum_cons]
      rcases List.mem_cons.1 m with rfl|m
      · omega
      · have:=ih m;omega
  omega
theorem moved_f (old now:ByteArray) (who:List Int) (k:Int) (hw:who.length=(linesB old).length) (h1:old.size≤10000) (h2:now.size≤10000) (hz:(editsR old now).2=0) (K:Nat) (hK:2000000000000≤K) :
    yi_.f K old (editsR old now).1 who k=some (blameR old now who k):=by
  have hes:(editsR old now).1=editsS old now:=by
    unfold editsR at hz ⊢
    by_cases c:(sizedR old now 0).2=0
    · rw[if_pos c]
    rw[if_neg c] at hz;exact absurd hz c
  have hlen:=editsR_len old now
  have hll:=yKb_ old
  have hsz:=editsS_size old now
  have hbl:blameR old now who k=Tx.mv ((editsR old now).1.map toE) k ((linesB old).map bL) who 0:=by
    unfold blameR
    rw[if_neg (fun q=>q hz),hes,editsS_toE,yqb_,Tx.mv_edits _ _ _ _ (by rw[hw,yrb_])]
  unfold yi_.f
  rw[rlines_f old (by omega) K (by omega),Option.bind_some,hbl]
  generalize (editsR old now).1=E at *
  obtain⟨B,hB⟩:∃ B:Nat,B=20000:=⟨_,rfl⟩
  obtain⟨F,hF⟩:∃ F:Nat,F=80008002:=⟨_,rfl⟩
  obtain⟨N,hN⟩:∃ N:Nat,N=80000001:=⟨_,rfl⟩
  have q1:=Nat.mul_le_mul_right (B+2) (show E.length≤4000 by omega)
  have q2:=Nat.mul_le_mul_right B (show E.length≤4000 by omega)
  have q3:=Nat.mul_le_mul_right F (show (linesB old).length+1≤10001 by omega)
  have q4:=Nat.mul_le_mul_right N (show (linesB old).length+1≤10001 by omega)
  have hsum:sumZ (linesB old)≤10000:=by
    rw[size_sum,yqb_,Tx.y6_,← yXb_];omega
  have h:=moved_l0 E who k (linesB old) (by omega) hw (by omega) B 20001 F N (by omega) (fun e m=>by have:=hsz e m;have:=yKb_ e.f2;exact⟨by omega,by omega,by omega⟩) (by omega) (by omega) (linesB old).length 0 [] 0 K (by omega) (Nat.zero_le _) (by omega) (by rw[List.drop_zero];omega) (by rw[List.length_nil];omega) (by omega)
  rw[List.drop_zero,List.drop_zero,List.nil_append] at h
  exact h
end Go.Proofs.YthimblhfjfngiaaGreat.PText

namespace Go.Proofs.YthimblhfjfngiaaGreat.PText
open Go.RowKit Go.Lib Go.Sort Go.Proofs.YthimblhfjfngiaaGreatW.PrintWords Go.Proofs.YthimblhfjfngiaaGreatW.PrintLast Go.Proofs.YthimblhfjfngiaaGreatW.PrintMore
set_option linter.unusedVariables false
set_option linter.unusedSimpArgs false
theorem containsS_calls (A:Option Addr) (c:Nat) (l:List ByteArray) (x:ByteArray) (w:World) (h:Kd.C Kd.string w A l.length l) :
    Calls Tryz.prog 35 #[.slice A l.length c,.string x] w fun e w'=>e=.returned (.bool (containsS l x))∧w=w':=by
  by_cases hl:l=[]
  · subst hl
    refine (Tryz.slices_Contains_string_empty _ _ _ _).mono ?_
    rintro e w' ⟨rfl,rfl⟩
    exact⟨rfl,rfl⟩
  have hp:0 < l.length:=List.length_pos_iff.2 hl
  obtain⟨q1,q2,q3⟩:=h
  obtain⟨⟨b,o,sp⟩,rfl,q4⟩:=q3 hp
  have hcell:∀ j,j < l.length→w.cell? (Addr.add ⟨b,o,sp⟩ j)=some (.string (l.getD j ByteArray.empty)):=fun j hj=>by
    obtain⟨cs,e1,e2,e3⟩:=q4 j l[j] (List.getElem?_eq_getElem hj)
    have e2':cs=[.string l[j]]:=e2
    subst e2'
    have:=e3 0 _ rfl
    rw[List.getD_eq_getElem?_getD,List.getElem?_eq_getElem hj]
    simpa [Kd.string,Kd.scalar] using this
  have hsp:sp=none:=by
    cases sp with
    | none=>rfl
    | some q =>
      have:=hcell 0 hp
      unfold World.cell? at this
      simp only[Addr.add] at this
      split at this <;> simp at this
  subst hsp
  refine (Tryz.slices_Contains_string b o l.length c l x w (Nat.le_refl _) q2 (fun j hj=>?_)).mono ?_
  · have:=hcell j hj
    rwa [Addr.add_lit] at this
  · rintro e w' ⟨rfl,rfl⟩
    rw[List.take_length]
    exact⟨rfl,rfl⟩
def noCom:Com:=⟨⟨#[]⟩,[]⟩
/-- the commit before one -/
def prevC (L:List Com) (k:Nat):Com:=if k=0 then noCom else L.getD (k - 1) noCom
theorem prevC_small {L:List Com} (h:Small L) (k:Nat):(prevC L k).files.length≤10000∧∀ x∈(prevC L k).files,x.f1.size≤1000000:=by
  unfold prevC
  split
  · exact⟨Nat.zero_le _,fun x m=>by cases m⟩
  · rw[List.getD_eq_getElem?_getD]
    cases e:L[k - 1]? with
    | none=>exact⟨Nat.zero_le _,fun x m=>by cases m⟩
    | some c=>exact h c (List.mem_of_getElem? e)
set_option maxRecDepth 100000 in
set_option maxHeartbeats 2000000 in
theorem before_calls (base p:Nat) (L:List Com) (k:Nat) (w:World) (hP:PastIs w base p L) (hk:k < L.length) (hL:L.length≤1000) :
    Calls Tryz.prog 34 #[.pointer (some ⟨p,0,none⟩),.int .i64 (k:Int)] w fun e w'=>∃ c,e=.returned (.pointer (some ⟨c,0,none⟩))∧ComAt w' c (prevC L k)∧Below w.heap.size w w':=by
  by_cases h0:k=0
  · subst h0
    clear hP hk hL
    go_enter Tryz.func34,Tryz.ntmps34
    go_wp2_with fail
    go_ret
    exact⟨_,rfl,(show ComAt _ _ noCom from ⟨none,0,yJb_ _ _,Nat.le_refl _,⟨rfl,Nat.zero_le _,fun q=>absurd q (Nat.lt_irrefl 0)⟩,.inl rfl⟩),(Below.refl _ _).alloc (Nat.le_refl _) _⟩
  obtain⟨g,cap,cs,l1,l2,b1,b2,hcap,hc1,hat⟩:=past_at hP (by omega)
  obtain⟨c,hc2,hcom⟩:=hat (k - 1) (by omega)
  have hpr:prevC L k=L[k - 1]'(by omega):=by
    unfold prevC
    rw[if_neg h0,List.getD_eq_getElem?_getD,List.getElem?_eq_getElem (by omega)];rfl
  rw[hpr]
  generalize L[k - 1]'(by omega)=x at hcom ⊢
  obtain⟨m,rfl⟩:∃ m,k=m+1:=⟨k - 1,by omega⟩
  have hHC:=Aside0.mk hcom
  have hz:(((m+1:Nat):Int) == 0)=false:=beq_eq_false_iff_ne.2 (by omega)
  have hw0:wrap64 (((m+1:Nat):Int) - 1)=(m:Int):=by rw[w64 (by omega) (by omega)];omega
  have hw1:IntKind.i64.wrap (((m+1:Nat):Int) - 1)=(m:Int):=(i64_w _).trans hw0
  have hm0:(0:Int)≤(m:Int):=by omega
  have hm1:(m:Int) < (L.length:Int):=by omega
  have hc2':w.cell? ⟨g,m,none⟩=some (.pointer (some ⟨c,0,none⟩)):=hc2
  clear hP hk hL hat hc2 hcap b1 b2 hpr hcom h0
  generalize hi:((m+1:Nat):Int)=i at *
  clear hi
  go_enter Tryz.func34,Tryz.ntmps34
  go_wp2_with fail
  go_ret
  exact⟨_,rfl,hHC.out,Below.refl _ _⟩
/-- does a commit put a line into a file? -/
def putsB (L:List Com) (file line:ByteArray) (k:Nat):Bool:=containsS (linesB (findR (L.getD k noCom).files file).1) line && !containsS (linesB (findR (prevC L k).files file).1) line
/-- the first one that does -/
def findGo (L:List Com) (file line:ByteArray):Nat→Nat→Int × Int
  | 0,_=>(0,4)
  | m+1,k=>if putsB L file line k=true then ((k:Int),0) else findGo L file line m (k+1)
def findA (L:List Com) (file line:ByteArray):Int × Int:=findGo L file line L.length 0
theorem lines_any (t:ByteArray) (w:World) (h:t.size≤1000000):Calls Tryz.prog 36 #[.string t] w fun e w'=>∃ A c,e=.returned (.slice A (linesB t).length c)∧Kd.C Kd.string w' A (linesB t).length (linesB t)∧Below w.heap.size w w':=by
  refine (yK_.calls t (linesB t) w (by unfold yK_.f;rw[if_pos (by omega)])).mono ?_
  rintro e w' ⟨v,rfl,ho,hb⟩
  obtain⟨A,c,rfl⟩:=Kd.yw_ ho
  exact⟨A,c,rfl,(Kd.yj_ ho).2.2,hb⟩
set_option maxRecDepth 100000 in
set_option maxHeartbeats 4000000 in
theorem pfind_calls (base p:Nat) (L:List Com) (file line:ByteArray) (w:World) (hP:PastIs w base p L) (hL:L.length≤1000) (hS:Small L) :
    Calls Tryz.prog 11 #[.pointer (some ⟨p,0,none⟩),.string file,.string line] w fun e w'=>e=.returned (.tuple #[.int .i64 (findA L file line).1,.int .i64 (findA L file line).2])∧Below w.heap.size w w':=by
  by_cases hl:L=[]
  · subst hl
    obtain⟨A,cap,ps,h1,h2,h3,h4,h5⟩:=hP
    have hx0:w.cell? ⟨p,0,none⟩=some (.slice A 0 cap):=by unfold World.cell?;rw[h3];rfl
    clear h1 h2 h3 h4 h5
    go_enter Tryz.func11,Tryz.ntmps11
    go_wp2_with fail
    go_loopg [21] 0 (fun _ v21 wr=>v21=.int .i64 0∧wr=w)
    case atStart=>exact⟨rfl,rfl⟩
    case round =>
      obtain⟨rfl,rfl⟩:=hrel
      go_wp2_with fail
      go_ret2
      exact⟨rfl,Below.refl _ _⟩
  have hlen:0 < L.length:=List.length_pos_iff.2 hl
  obtain⟨g,cap,cs,l1,l2,b1,b2,hcap,hc1,hat⟩:=past_at hP hlen
  have HAT:=Aside0.mk hat
  have HLL:=Aside0.mk hL
  have HSM:=Aside0.mk hS
  have HPP:=Aside0.mk hP
  have HLT:Aside0 (p < w.heap.size∧g < w.heap.size):=⟨l1,l2⟩
  have HB0:=Aside0.mk (Below.refl w.heap.size w)
  clear hP hL hS hat hl hlen b1 b2 hcap l1 l2
  go_enter Tryz.func11,Tryz.ntmps11
  go_wp2_with fail
  go_loopg [21] (L.length+1) (fun kq v21 w'=>∃ (i:Nat),v21=.int .i64 (i:Int)∧Aside0 (L.length - i < kq∧i≤L.length)∧Aside0 (Below w.heap.size w w')∧Aside0 (findA L file line=findGo L file line (L.length - i) i))
  case atStart=>exact⟨0,rfl,⟨by omega,by omega⟩,HB0,⟨rfl⟩⟩
  case round =>
    obtain⟨i,rfl,HI,HBe,HG⟩:=hrel
    obtain⟨k1,rfl⟩:∃ k1,gk=k1+1:=⟨gk - 1,by have:=HI.out.1;omega⟩
    by_cases hlt:i < L.length
    rotate_left
    · have hb:decide ((i:Int) < (L.length:Int))=false:=by simp;omega
      have hi:L.length - i=0:=by omega
      have HFN:Aside0 (findA L file line=(0,4)):=⟨by rw[HG.out,hi];rfl⟩
      clear HG hi
      go_wp2_with fail
      go_ret2
      rw[HFN.out]
      exact⟨rfl,HBe.out⟩
    have hb:decide ((i:Int) < (L.length:Int))=true:=by simp;omega
    have hb2:decide ((0:Int)≤(i:Int))=true:=by simp
    have hi0:(0:Int)≤(i:Int):=by omega
    have hi1:(i:Int) < (L.length:Int):=by omega
    obtain⟨ci,hci,hcomi⟩:=HAT.out i hlt
    have hci':=(HBe.out.cell (p:=⟨g,i,none⟩) HLT.out.2).trans hci
    have hgi:L.getD i noCom=L[i]:=by rw[List.getD_eq_getElem?_getD,List.getElem?_eq_getElem hlt];rfl
    have hgo:findGo L file line (L.length - i) i=if putsB L file line i=true then ((i:Int),0) else findGo L file line (L.length - (i+1)) (i+1):=by
      rw[show L.length - i=(L.length - (i+1))+1 by omega];rfl
    have hpu:putsB L file line i=(containsS (linesB (findR L[i].files file).1) line && !containsS (linesB (findR (prevC L i).files file).1) line):=by unfold putsB;rw[hgi]
    rw[hpu] at hgo
    have HG2:=Aside0.mk (HG.out.trans hgo)
    have HF:Aside0 (∀ wr,Below w.heap.size w wr→Calls Tryz.prog 28 #[.pointer (some ⟨ci,0,none⟩),.string file] wr fun e w'=>e=.returned (.tuple #[.string (findR L[i].files file).1,.bool (findR L[i].files file).2])∧Below wr.heap.size wr w') :=
      ⟨fun wr hb=>y6b_ ci L[i] file wr (hcomi.keep (PKept.of_below hb)) (HSM.out L[i] (List.getElem_mem hlt)).1⟩
    have HBF:Aside0 (∀ wr,Below w.heap.size w wr→Calls Tryz.prog 34 #[.pointer (some ⟨p,0,none⟩),.int .i64 (i:Int)] wr fun e w'=>∃ c,e=.returned (.pointer (some ⟨c,0,none⟩))∧ComAt w' c (prevC L i)∧Below wr.heap.size wr w') :=
      ⟨fun wr hb=>before_calls base p L i wr (HPP.out.below hb) hlt HLL.out⟩
    have HF2:Aside0 (∀ c wr,ComAt wr c (prevC L i)→Calls Tryz.prog 28 #[.pointer (some ⟨c,0,none⟩),.string file] wr fun e w'=>e=.returned (.tuple #[.string (findR (prevC L i).files file).1,.bool (findR (prevC L i).files file).2])∧Below wr.heap.size wr w') :=
      ⟨fun c wr h=>y6b_ c (prevC L i) file wr h (prevC_small HSM.out i).1⟩
    have hsz:=yEb_ (file:=file) (HSM.out L[i] (List.getElem_mem hlt)).2
    have hsz2:=yEb_ (file:=file) (prevC_small HSM.out i).2
    have HLT2:=Aside0.mk hlt
    generalize (findR L[i].files file).2=fok at *
    generalize (findR L[i].files file).1=now at *
    generalize (findR (prevC L i).files file).2=fok2 at *
    generalize (findR (prevC L i).files file).1=old at *
    have HNS:=Aside0.mk hsz
    have HOS:=Aside0.mk hsz2
    have HLN:=Aside0.mk (fun w=>lines_any now w HNS.out)
    have HLO:=Aside0.mk (fun w=>lines_any old w HOS.out)
    clear hci hcomi hsz hsz2 hgo HG hpu hgi
    have HCN:Aside0 (∀ A c w,Kd.C Kd.string w A (linesB now).length (linesB now)→Calls Tryz.prog 35 #[.slice A (linesB now).length c,.string line] w fun e w'=>e=.returned (.bool (containsS (linesB now) line))∧w=w'):=⟨fun A c w h=>containsS_calls A c _ line w h⟩
    have HCO:Aside0 (∀ A c w,Kd.C Kd.string w A (linesB old).length (linesB old)→Calls Tryz.prog 35 #[.slice A (linesB old).length c,.string line] w fun e w'=>e=.returned (.bool (containsS (linesB old) line))∧w=w'):=⟨fun A c w h=>containsS_calls A c _ line w h⟩
    generalize containsS (linesB now) line=b1 at *
    generalize containsS (linesB old) line=b2 at *
    have tok:True:=trivial
    cases b1
    · have HFN:Aside0 (findA L file line=findGo L file line (L.length - (i+1)) (i+1)):=⟨by rw[HG2.out];rfl⟩
      clear HG2 HCO HLO
      go_wp2_with (first
        | (go_at_call 28;have _t:=tok;with_reducible refine (HF.out _ HBe.out).mono ?_;rintro e w6 ⟨rfl,hb6⟩;have HB6:=Aside0.mk (yn_ HBe.out hb6);clear hb6 HF tok)
        | (go_at_call 34;with_reducible refine (HBF.out _ HB6.out).mono ?_;rintro e w7 ⟨c7,rfl,hc7,hb7⟩;have HB7:=Aside0.mk (yn_ HB6.out hb7);have HC7:=Aside0.mk hc7;clear hb7 hc7 HBF)
        | (go_at_call 28;with_reducible refine (HF2.out _ _ HC7.out).mono ?_;rintro e w8 ⟨rfl,hb8⟩;have HB8:=Aside0.mk (yn_ HB7.out hb8);clear hb8 HF2)
        | (go_at_call 36;with_reducible refine (HLN.out _).mono ?_;rintro e w9 ⟨A9,c9,rfl,ho,hb9⟩;have HB9:=Aside0.mk (yn_ HB8.out hb9);have HO9:=Aside0.mk ho;clear ho hb9 HLN)
        | (go_at_call 35;with_reducible refine (HCN.out _ _ _ HO9.out).mono ?_;rintro e w10 ⟨rfl,rfl⟩;clear HCN)
        | fail)
      go_roundg k1
      case measure=>have:=HI.out.1;have:=HLT2.out;omega
      case rel=>exact⟨i+1,congrArg (Value.int .i64) (by first|exact nx i (by have:=HLL.out;have:=HLT2.out;omega)|(have:=HLL.out;have:=HLT2.out;omega)),⟨by have:=HI.out.1;have:=HLT2.out;omega,by have:=HLT2.out;omega⟩,HB9,HFN⟩
    · cases b2
      · have HFN:Aside0 (findA L file line=((i:Int),0)):=⟨by rw[HG2.out];rfl⟩
        clear HG2
        go_wp2_with (first
          | (go_at_call 28;have _t:=tok;with_reducible refine (HF.out _ HBe.out).mono ?_;rintro e w6 ⟨rfl,hb6⟩;have HB6:=Aside0.mk (yn_ HBe.out hb6);clear hb6 HF tok)
          | (go_at_call 34;with_reducible refine (HBF.out _ HB6.out).mono ?_;rintro e w7 ⟨c7,rfl,hc7,hb7⟩;have HB7:=Aside0.mk (yn_ HB6.out hb7);have HC7:=Aside0.mk hc7;clear hb7 hc7 HBF)
          | (go_at_call 28;with_reducible refine (HF2.out _ _ HC7.out).mono ?_;rintro e w8 ⟨rfl,hb8⟩;have HB8:=Aside0.mk (yn_ HB7.out hb8);clear hb8 HF2)
          | (go_at_call 36;with_reducible refine (HLN.out _).mono ?_;rintro e w9 ⟨A9,c9,rfl,ho,hb9⟩;have HB9:=Aside0.mk (yn_ HB8.out hb9);have HO9:=Aside0.mk ho;clear ho hb9 HLN)
          | (go_at_call 35;with_reducible refine (HCN.out _ _ _ HO9.out).mono ?_;rintro e w10 ⟨rfl,rfl⟩;clear HCN)
          | (go_at_call 36;with_reducible refine (HLO.out _).mono ?_;rintro e w11 ⟨A11,c11,rfl,ho,hb11⟩;have HB11:=Aside0.mk (yn_ HB9.out hb11);have HO11:=Aside0.mk ho;clear ho hb11 HLO)
          | (go_at_call 35;with_reducible refine (HCO.out _ _ _ HO11.out).mono ?_;rintro e w12 ⟨rfl,rfl⟩;clear HCO)
          | fail)
        go_ret2
        rw[HFN.out]
        exact⟨rfl,HB11.out⟩
      · have HFN:Aside0 (findA L file line=findGo L file line (L.length - (i+1)) (i+1)):=⟨by rw[HG2.out];rfl⟩
        clear HG2
        go_wp2_with (first
          | (go_at_call 28;have _t:=tok;with_reducible refine (HF.out _ HBe.out).mono ?_;rintro e w6 ⟨rfl,hb6⟩;have HB6:=Aside0.mk (yn_ HBe.out hb6);clear hb6 HF tok)
          | (go_at_call 34;with_reducible refine (HBF.out _ HB6.out).mono ?_;rintro e w7 ⟨c7,rfl,hc7,hb7⟩;have HB7:=Aside0.mk (yn_ HB6.out hb7);have HC7:=Aside0.mk hc7;clear hb7 hc7 HBF)
          | (go_at_call 28;with_reducible refine (HF2.out _ _ HC7.out).mono ?_;rintro e w8 ⟨rfl,hb8⟩;have HB8:=Aside0.mk (yn_ HB7.out hb8);clear hb8 HF2)
          | (go_at_call 36;with_reducible refine (HLN.out _).mono ?_;rintro e w9 ⟨A9,c9,rfl,ho,hb9⟩;have HB9:=Aside0.mk (yn_ HB8.out hb9);have HO9:=Aside0.mk ho;clear ho hb9 HLN)
          | (go_at_call 35;with_reducible refine (HCN.out _ _ _ HO9.out).mono ?_;rintro e w10 ⟨rfl,rfl⟩;clear HCN)
          | (go_at_call 36;with_reducible refine (HLO.out _).mono ?_;rintro e w11 ⟨A11,c11,rfl,ho,hb11⟩;have HB11:=Aside0.mk (yn_ HB9.out hb11);have HO11:=Aside0.mk ho;clear ho hb11 HLO)
          | (go_at_call 35;with_reducible refine (HCO.out _ _ _ HO11.out).mono ?_;rintro e w12 ⟨rfl,rfl⟩;clear HCO)
          | fail)
        go_roundg k1
        case measure=>have:=HI.out.1;have:=HLT2.out;omega
        case rel=>exact⟨i+1,congrArg (Value.int .i64) (by first|exact nx i (by have:=HLL.out;have:=HLT2.out;omega)|(have:=HLL.out;have:=HLT2.out;omega)),⟨by have:=HI.out.1;have:=HLT2.out;omega,by have:=HLT2.out;omega⟩,HB11,HFN⟩
end Go.Proofs.YthimblhfjfngiaaGreat.PText

namespace Go.Proofs.YthimblhfjfngiaaGreat.PText
open Go.RowKit Go.Lib Go.Sort Go.Proofs.YthimblhfjfngiaaGreatW.PrintWords Go.Proofs.YthimblhfjfngiaaGreatW.PrintLast Go.Proofs.YthimblhfjfngiaaGreatW.PrintMore
set_option linter.unusedVariables false
set_option linter.unusedSimpArgs false
/-- commits of small files -/
def Tiny (L:List Com):Prop:=∀ c∈L,c.files.length≤10000∧∀ x∈c.files,x.f1.size≤10000
theorem Tiny.small {L:List Com} (h:Tiny L):Small L:=fun c m=>⟨(h c m).1,fun x hx=>by have:=(h c m).2 x hx;omega⟩
theorem prevC_tiny {L:List Com} (h:Tiny L) (k:Nat):(prevC L k).files.length≤10000∧∀ x∈(prevC L k).files,x.f1.size≤10000:=by
  unfold prevC
  split
  · exact⟨Nat.zero_le _,fun x m=>by cases m⟩
  · rw[List.getD_eq_getElem?_getD]
    cases e:L[k - 1]? with
    | none=>exact⟨Nat.zero_le _,fun x m=>by cases m⟩
    | some c=>exact h c (List.mem_of_getElem? e)
theorem rfind_l0 (l:List S41) (file:ByteArray) (hl:l.length≤100000):∀ (m i k:Nat),l.length - i=m→i≤l.length→m+1≤k→yF_.l0 k l file (i:Int)=some (findR (l.drop i) file)
  | 0,i,k,hm,hi,hk=>by
    obtain⟨k,rfl⟩:∃ q,k=q+1:=⟨k - 1,by omega⟩
    rw[yF_.l0,if_neg (by omega),List.drop_eq_nil_of_le (by omega)]
    rfl
  | m+1,i,k,hm,hi,hk=>by
    obtain⟨k,rfl⟩:∃ q,k=q+1:=⟨k - 1,by omega⟩
    have hil:i < l.length:=by omega
    rw[yF_.l0,if_pos (by omega),if_pos (by omega),rd53_at l i hil,List.drop_eq_getElem_cons hil]
    by_cases c:l[i].f0.toList=file.toList
    · rw[if_pos c]
      have q:nameP file l[i]=true:=beq_iff_eq.2 c
      unfold findR
      rw[List.find?_cons,q]
    rw[if_neg c,nx i (by omega),rfind_l0 l file hl m (i+1) k (by omega) (by omega) (by omega)]
    have q:nameP file l[i]=false:=beq_eq_false_iff_ne.2 c
    have e:findR (l[i] :: l.drop (i+1)) file=findR (l.drop (i+1)) file:=by unfold findR;rw[List.find?_cons,q]
    rw[e]
theorem rfind_f (l:List S41) (file:ByteArray) (hl:l.length≤100000) (k:Nat) (hk:l.length+1≤k):yF_.f k l file=some (findR l file):=by
  have h:=rfind_l0 l file hl l.length 0 k (by omega) (Nat.zero_le _) hk
  rw[List.drop_zero] at h
  exact h
theorem rdL2_at (L:List Com) (i:Nat) (h:i < L.length):rd_L2 (L.map (·.files)) (i:Int)=L[i].files:=by
  unfold rd_L2
  rw[Int.toNat_natCast,List.getD_eq_getElem?_getD,List.getElem?_map,List.getElem?_eq_getElem h]
  rfl
theorem s58_cell {w0 w:World} {g:Nat} {L:List Com} (h:IsS58 w0 w g (L.map (·.name)) (L.map (·.files))):∃ A c,w.cell? ⟨g,1,none⟩=some (.slice A L.length c)∧Kd.C (Kd.slice 41 k41) w0 A L.length (L.map (·.files)):=by
  obtain⟨A0,c0,A1,c1,h1,-,h3,h4⟩:=h
  rw[List.length_map] at h4
  refine⟨A1,c1,?_,h4⟩
  have:=cellS58_1 h1
  rwa [List.length_map] at this
set_option maxRecDepth 100000 in
set_option maxHeartbeats 1000000 in
/-- the text of a file in a commit -/
theorem rtext_calls (L:List Com) (hT:Tiny L) (file:ByteArray) (i:Nat) (hi:i < L.length) (g:Nat) (w0 w:World) (hI:IsS58 w0 w g (L.map (·.name)) (L.map (·.files))) (hB:Below w0.heap.size w0 w) :
    Calls Tryz.prog 31 #[.pointer (some ⟨g,0,none⟩),.int .i64 (i:Int),.string file] w fun e w'=>e=.returned (.string (findR L[i].files file).1)∧IsS58 w0 w' g (L.map (·.name)) (L.map (·.files))∧Below w0.heap.size w0 w'∧Below w.heap.size w w':=by
  obtain⟨A,c,hc1,hC⟩:=s58_cell hI
  obtain⟨ad,A0,c0,e0,hx0,hxc,hCL⟩:=at_L2 hC (i:Int) (by omega) (by omega)
  rw[rdL2_at L i hi,Int.toNat_natCast] at hx0
  rw[rdL2_at L i hi] at hxc hCL
  cases e0
  have hx1:=(hB.cell (World.block_lt_of_cell? _ _ hx0)).trans hx0
  have hx:=(hT L[i] (List.getElem_mem hi)).1
  have HF:Aside0 (Calls Tryz.prog 30 #[.slice A0 L[i].files.length c0,.string file] w fun e w'=>e=.returned (.tuple #[.string (findR L[i].files file).1,.bool (findR L[i].files file).2])∧Drawn0 w w') :=
    ⟨yF_.calls 20000 A0 c0 L[i].files file _ _ w (Kd.y2_ hCL hB) hxc (rfind_f _ _ (by omega) 20000 (by omega))⟩
  generalize findR L[i].files file=r at *
  generalize L[i].files=lf at *
  have HI:=Aside0.mk hI
  have HB:=Aside0.mk hB
  have hi0:(0:Int)≤(i:Int):=by omega
  have hi1:(i:Int) < (L.length:Int):=by omega
  have hiz:decide ((i:Int) < 0)=false:=decide_eq_false (by omega)
  clear hI hB hT hC hCL hx0 hi hx hxc
  go_enter Tryz.func31,Tryz.ntmps31
  go_wp2_with (first
    | (go_at_call 30;refine HF.out.mono ?_;rintro e w5 ⟨rfl,hd⟩;have HB5:=Aside0.mk hd.below;clear hd HF)
    | fail)
  go_ret
  exact⟨rfl,HI.out.below HB5.out,HB.out.trans (HB5.out.mono HB.out.size),HB5.out⟩
set_option maxRecDepth 100000 in
set_option maxHeartbeats 1000000 in
theorem rprev_calls (L:List Com) (hT:Tiny L) (file:ByteArray) (i:Nat) (hi:i < L.length) (hL:L.length≤1000) (g:Nat) (w0 w:World) (hI:IsS58 w0 w g (L.map (·.name)) (L.map (·.files))) (hB:Below w0.heap.size w0 w) :
    Calls Tryz.prog 31 #[.pointer (some ⟨g,0,none⟩),.int .i64 (wrap64 ((i:Int) - 1)),.string file] w fun e w'=>e=.returned (.string (findR (prevC L i).files file).1)∧IsS58 w0 w' g (L.map (·.name)) (L.map (·.files))∧Below w0.heap.size w0 w'∧Below w.heap.size w w':=by
  by_cases h0:i=0
  rotate_left
  · have e:wrap64 ((i:Int) - 1)=((i - 1:Nat):Int):=by rw[w64 (by omega) (by omega)];omega
    have e2:prevC L i=L[i - 1]:=by
      unfold prevC
      rw[if_neg h0,List.getD_eq_getElem?_getD,List.getElem?_eq_getElem (by omega)]
      rfl
    rw[e,e2]
    exact rtext_calls L hT file (i - 1) (by omega) g w0 w hI hB
  subst h0
  have e:wrap64 (((0:Nat):Int) - 1)=-1:=by rw[w64 (by omega) (by omega)];rfl
  have e2:(findR (prevC L 0).files file).1=⟨#[]⟩:=rfl
  rw[e,e2]
  have HI:=Aside0.mk hI
  have HB:=Aside0.mk hB
  clear hI hB hT hi hL e e2
  go_enter Tryz.func31,Tryz.ntmps31
  go_wp2_with fail
  go_ret
  exact⟨rfl,HI.out,HB.out,Below.refl _ _⟩
set_option maxRecDepth 100000 in
set_option maxHeartbeats 4000000 in
theorem rblame_calls (base q:Nat) (L:List Com) (file:ByteArray) (w:World) (hR:RefIs w base q L) (hL:L.length≤1000) (hT:Tiny L) :
    Calls Tryz.prog 10 #[.pointer (some ⟨q,0,none⟩),.string file] w fun e w'=>∃ v,e=.returned (.tuple #[v,.int .i64 (blameA L file).2])∧Kd.R (Kd.int .i64) 3 w' w.heap.size (fun _=>True) v (blameA L file).1∧Below w.heap.size w w':=by
  have hS:=refIs_S hR
  obtain⟨A,c,hc1,hC⟩:=s58_cell hS
  by_cases hl:L=[]
  · subst hl
    have hw0:wrap64 (((([]:List Com).length:Nat):Int) - 1)=-1:=by rw[w64 (by simp) (by simp)];rfl
    have hw1:IntKind.i64.wrap (((([]:List Com).length:Nat):Int) - 1)=-1:=(i64_w _).trans hw0
    clear hS hC hR hT
    go_enter Tryz.func10,Tryz.ntmps10
    go_wp2_with fail
    go_ret2
    exact⟨_,rfl,Kd.R_nil _ _ _ _ _,Below.refl _ _⟩
  have hlen:0 < L.length:=List.length_pos_iff.2 hl
  obtain⟨m,hm⟩:∃ m,L.length=m+1:=⟨L.length - 1,by omega⟩
  obtain⟨ad,A0,c0,e0,hx0,hxc,hCL⟩:=at_L2 hC (m:Int) (by omega) (by omega)
  rw[rdL2_at L m (by omega),Int.toNat_natCast] at hx0
  rw[rdL2_at L m (by omega)] at hxc hCL
  cases e0
  have hlast:L.getLast?=some L[m]:=by
    rw[List.getLast?_eq_getElem?,show L.length - 1=m by omega]
    exact List.getElem?_eq_getElem (by omega)
  have hA:blameA L file=if (findR L[m].files file).2=true then blGo file L 0 ⟨#[]⟩ [] else ([],4):=by unfold blameA;rw[hlast]
  have hx:=(hT L[m] (List.getElem_mem (by omega))).1
  have HA:=Aside0.mk hA
  have HF:Aside0 (Calls Tryz.prog 30 #[.slice A0 L[m].files.length c0,.string file] w fun e w'=>e=.returned (.tuple #[.string (findR L[m].files file).1,.bool (findR L[m].files file).2])∧Drawn0 w w') :=
    ⟨yF_.calls 20000 A0 c0 L[m].files file _ _ w hCL hxc (rfind_f _ _ (by omega) 20000 (by omega))⟩
  generalize findR L[m].files file=r at *
  generalize L[m].files=lf at *
  obtain⟨t0,ok⟩:=r
  have HS:=Aside0.mk hS
  have HTT:=Aside0.mk hT
  have HM:=Aside0.mk hm
  have HLL:=Aside0.mk hL
  have hw0:wrap64 ((L.length:Int) - 1)=(m:Int):=by rw[w64 (by omega) (by omega)];omega
  have hw1:IntKind.i64.wrap ((L.length:Int) - 1)=(m:Int):=(i64_w _).trans hw0
  have hm0:(0:Int)≤(m:Int):=by omega
  have hm1:(m:Int) < (L.length:Int):=by omega
  have hmz:decide ((m:Int) < 0)=false:=decide_eq_false (by omega)
  clear hA hR hL hT hlast hC hS hx hl hlen hm hxc hCL
  cases ok
  · have HA2:Aside0 (blameA L file=([],4)):=⟨by rw[HA.out,if_neg (fun q=>by cases q)]⟩
    clear HA
    go_enter Tryz.func10,Tryz.ntmps10
    go_wp2_with (first
      | (go_at_call 30;refine HF.out.mono ?_;rintro e w5 ⟨rfl,hd⟩;have HB5:=Aside0.mk hd.below;clear hd HF)
      | fail)
    go_ret2
    rw[HA2.out]
    exact⟨_,rfl,Kd.R_nil _ _ _ _ _,HB5.out⟩
  · have HA2:Aside0 (blameA L file=blGo file L 0 ⟨#[]⟩ []):=⟨by rw[HA.out,if_pos rfl]⟩
    clear HA
    go_enter Tryz.func10,Tryz.ntmps10
    go_wp2_with (first
      | (go_at_call 30;refine HF.out.mono ?_;rintro e w5 ⟨rfl,hd⟩;have HB5:=Aside0.mk hd.below;clear hd HF)
      | fail)
    have HS5:Aside0 (IsS58 w w5 q (L.map (·.name)) (L.map (·.files))):=⟨HS.out.below HB5.out⟩
    clear hc1 hx0
    go_loopg [9,10] (L.length+1) (fun kq v9 v10 w'=>∃ (i:Nat) (out:List Int) (A:Option Addr) (cc:Nat),v10=.int .i64 (i:Int)∧v9=.slice A out.length cc∧Aside0 (L.length - i < kq∧i≤L.length)∧Aside0 (Below w.heap.size w w')∧Aside0 (IsS58 w w' q (L.map (·.name)) (L.map (·.files)))∧Aside0 (Kd.R (Kd.int .i64) 3 w' w.heap.size (fun _=>True) (.slice A out.length cc) out)∧Aside0 (blGo file L 0 ⟨#[]⟩ []=blGo file (L.drop i) i (findR (prevC L i).files file).1 out)∧Aside0 (out.length=(linesB (findR (prevC L i).files file).1).length))
    case atStart=>exact⟨0,[],none,0,rfl,rfl,⟨by omega,by omega⟩,HB5,HS5,⟨Kd.R_nil _ _ _ _ _⟩,⟨by rw[List.drop_zero];rfl⟩,⟨rfl⟩⟩
    case round =>
      obtain⟨i,out,A,cc,rfl,rfl,HI,HBe,HSe,HR,HG,HO⟩:=hrel
      obtain⟨k1,rfl⟩:∃ k1,gk=k1+1:=⟨gk - 1,by have:=HI.out.1;omega⟩
      by_cases hlt:i < L.length
      rotate_left
      · have hle:¬ (i:Int)≤(m:Int):=by have:=HM.out;omega
        have hb:decide ((i:Int)≤(m:Int))=false:=decide_eq_false hle
        have hdn:L.drop i=[]:=List.drop_eq_nil_of_le (by omega)
        have HFN:Aside0 (blGo file L 0 ⟨#[]⟩ []=(out,0)):=⟨by rw[HG.out,hdn];rfl⟩
        clear HG hdn
        go_wp2_with fail
        go_ret2
        rw[HA2.out,HFN.out]
        exact⟨_,rfl,HR.out,HBe.out⟩
      have hle:(i:Int)≤(m:Int):=by have:=HM.out;omega
      have hb:decide ((i:Int)≤(m:Int))=true:=decide_eq_true hle
      have hgi:(prevC L (i+1))=L[i]:=by
        unfold prevC
        rw[if_neg (by omega),Nat.add_sub_cancel,List.getD_eq_getElem?_getD,List.getElem?_eq_getElem hlt]
        rfl
      have hos:=yEb_ (file:=file) (prevC_tiny HTT.out i).2
      have hns:=yEb_ (file:=file) (HTT.out L[i] (List.getElem_mem hlt)).2
      have HT1:Aside0 (∀ wr,IsS58 w wr q (L.map (·.name)) (L.map (·.files))→Below w.heap.size w wr→Calls Tryz.prog 31 #[.pointer (some ⟨q,0,none⟩),.int .i64 (wrap64 ((i:Int) - 1)),.string file] wr fun e w'=>e=.returned (.string (findR (prevC L i).files file).1)∧IsS58 w w' q (L.map (·.name)) (L.map (·.files))∧Below w.heap.size w w'∧Below wr.heap.size wr w') :=
        ⟨fun wr h1 h2=>rprev_calls L HTT.out file i hlt HLL.out q w wr h1 h2⟩
      have HT2:Aside0 (∀ wr,IsS58 w wr q (L.map (·.name)) (L.map (·.files))→Below w.heap.size w wr→Calls Tryz.prog 31 #[.pointer (some ⟨q,0,none⟩),.int .i64 (i:Int),.string file] wr fun e w'=>e=.returned (.string (findR L[i].files file).1)∧IsS58 w w' q (L.map (·.name)) (L.map (·.files))∧Below w.heap.size w w'∧Below wr.heap.size wr w') :=
        ⟨fun wr h1 h2=>rtext_calls L HTT.out file i hlt q w wr h1 h2⟩
      have hgo:blGo file (L.drop i) i (findR (prevC L i).files file).1 out=if (editsR (findR (prevC L i).files file).1 (findR L[i].files file).1).2≠0 then ([],(editsR (findR (prevC L i).files file).1 (findR L[i].files file).1).2) else blGo file (L.drop (i+1)) (i+1) (findR L[i].files file).1 (blameR (findR (prevC L i).files file).1 (findR L[i].files file).1 out (i:Int)):=by
        rw[List.drop_eq_getElem_cons hlt];rfl
      have HG2:=Aside0.mk (HG.out.trans hgo)
      have HLT2:=Aside0.mk hlt
      have HGI:=Aside0.mk hgi
      clear hgo HG hgi
      have HPN:Aside0 ((findR (prevC L (i+1)).files file).1=(findR L[i].files file).1):=⟨by rw[HGI.out]⟩
      clear HGI
      generalize (findR (prevC L i).files file).1=old at *
      generalize (findR L[i].files file).1=now at *
      have HOS:=Aside0.mk hos
      have HNS:=Aside0.mk hns
      have HE:Aside0 (∀ wr,Calls Tryz.prog 32 #[.string old,.string now] wr fun e w'=>∃ v0_:Value,e=.returned (.tuple #[v0_,.int .i64 (editsR old now).2])∧Kd.R k91 91 w' wr.heap.size (fun _=>True) v0_ (editsR old now).1∧Below wr.heap.size wr w') :=
        ⟨fun wr=>ye_.calls 20000000 old now _ _ wr (redits_f old now (by omega) (by omega) 20000000 (Nat.le_refl _))⟩
      have hiw:IntKind.i64.wrap ((i:Int) - 1)=wrap64 ((i:Int) - 1):=i64_w _
      clear hos hns
      by_cases hz:(editsR old now).2=0
      rotate_left
      · have hbz:((editsR old now).2 == 0)=false:=beq_eq_false_iff_ne.2 hz
        have HFN:Aside0 (blGo file L 0 ⟨#[]⟩ []=([],(editsR old now).2)):=⟨by rw[HG2.out,if_pos hz]⟩
        clear hz HG2
        generalize (editsR old now).2=er at *
        generalize (editsR old now).1=es at *
        have tok:True:=trivial
        go_wp2_with (first
          | (go_at_call 31;have _t:=tok;with_reducible refine (HT1.out _ HSe.out HBe.out).mono ?_;rintro e w6 ⟨rfl,hs6,hb6,hx6⟩;have HX6:=Aside0.mk hx6;have HS6:=Aside0.mk hs6;have HB6:=Aside0.mk hb6;clear hs6 hb6 hx6 HT1 tok)
          | (go_at_call 31;with_reducible refine (HT2.out _ HS6.out HB6.out).mono ?_;rintro e w7 ⟨rfl,hs7,hb7,hx7⟩;have HX7:=Aside0.mk (HX6.out.trans (hx7.mono HX6.out.size));have HS7:=Aside0.mk hs7;have HB7:=Aside0.mk hb7;clear hs7 hb7 hx7 HT2)
          | (go_at_call 32;with_reducible refine (HE.out _).mono ?_;rintro e w8 ⟨v8,rfl,ho,hb⟩;obtain⟨A8,c8,rfl⟩:=Kd.yw_ ho;have HB8:=Aside0.mk (yn_ HB7.out hb);clear ho hb HE)
          | fail)
        go_ret2
        rw[HA2.out,HFN.out]
        exact⟨_,rfl,Kd.R_nil _ _ _ _ _,HB8.out⟩
      have HMV:Aside0 (∀ wr A1 c1 , Kd.C k91 wr A1 (editsR old now).1.length (editsR old now).1→(editsR old now).1.length≤c1→Kd.C (Kd.int .i64) wr A out.length out→Calls Tryz.prog 33 #[.string old,.slice A1 (editsR old now).1.length c1,.slice A out.length cc,.int .i64 (i:Int)] wr fun e w'=>∃ v0_:Value,e=.returned (v0_)∧Kd.R (Kd.int .i64) 3 w' wr.heap.size (fun _=>True) v0_ (blameR old now out (i:Int))∧Below wr.heap.size wr w') :=
        ⟨fun wr A1 c1 h1 h2 h3=>yi_.calls 2000000000000 old A1 c1 _ A cc out (i:Int) _ wr h1 h2 h3 (Kd.yj_ HR.out).2.1 (moved_f old now out (i:Int) HO.out HOS.out HNS.out hz 2000000000000 (Nat.le_refl _))⟩
      have HBLN:Aside0 ((blameR old now out (i:Int)).length=(linesB now).length):=⟨by
        unfold blameR
        rw[if_neg (fun z=>z hz)]
        exact bl_len old now out _ HO.out⟩
      have HG3:Aside0 (blGo file L 0 ⟨#[]⟩ []=blGo file (L.drop (i+1)) (i+1) now (blameR old now out (i:Int))):=⟨by rw[HG2.out,if_neg (fun z=>z hz)]⟩
      clear HG2
      generalize blameR old now out (i:Int)=out2 at *
      rw[hz] at HE
      clear hz
      generalize (editsR old now).1=es at *
      have tok:True:=trivial
      go_wp2_with (first
        | (go_at_call 31;have _t:=tok;with_reducible refine (HT1.out _ HSe.out HBe.out).mono ?_;rintro e w6 ⟨rfl,hs6,hb6,hx6⟩;have HX6:=Aside0.mk hx6;have HS6:=Aside0.mk hs6;have HB6:=Aside0.mk hb6;clear hs6 hb6 hx6 HT1 tok)
        | (go_at_call 31;with_reducible refine (HT2.out _ HS6.out HB6.out).mono ?_;rintro e w7 ⟨rfl,hs7,hb7,hx7⟩;have HX7:=Aside0.mk (HX6.out.trans (hx7.mono HX6.out.size));have HS7:=Aside0.mk hs7;have HB7:=Aside0.mk hb7;clear hs7 hb7 hx7 HT2)
        | (go_at_call 32;with_reducible refine (HE.out _).mono ?_;rintro e w8 ⟨v8,rfl,ho,hb⟩;obtain⟨A8,c8,rfl⟩:=Kd.yw_ ho;have HO8:=Aside0.mk (Kd.yj_ ho);have HBX:=Aside0.mk (HX7.out.trans (hb.mono HX7.out.size));have HB8:=Aside0.mk (yn_ HB7.out hb);have HS8:=Aside0.mk (HS7.out.below hb);clear ho hb HE)
        | (go_at_call 33;with_reducible refine (HMV.out _ _ _ HO8.out.2.2 HO8.out.2.1 (Kd.y2_ (Kd.yj_ HR.out).2.2 HBX.out)).mono ?_;rintro e w9 ⟨v9,rfl,ho,hb⟩;obtain⟨A9,c9,rfl⟩:=Kd.yw_ ho;have HO9:=Aside0.mk (Kd.y1_ ho HB8.out.size);have HB9:=Aside0.mk (yn_ HB8.out hb);have HS9:=Aside0.mk (HS8.out.below hb);clear ho hb HMV)
        | fail)
      go_roundg k1
      case measure=>have:=HI.out.1;have:=HLT2.out;omega
      case rel=>exact⟨i+1,out2,A9,c9,congrArg (Value.int .i64) (by first|exact nx i (by have:=HLL.out;have:=HLT2.out;omega)|(have:=HLL.out;have:=HLT2.out;omega)),rfl,⟨by have:=HI.out.1;have:=HLT2.out;omega,by have:=HLT2.out;omega⟩,HB9,HS9,HO9,⟨by rw[HG3.out,HPN.out]⟩,⟨by rw[HPN.out];exact HBLN.out⟩⟩
end Go.Proofs.YthimblhfjfngiaaGreat.PText

namespace Go.Proofs.YthimblhfjfngiaaGreat.PText
open Go.RowKit Go.Lib Go.Sort Go.Proofs.YthimblhfjfngiaaGreatW.PrintWords Go.Proofs.YthimblhfjfngiaaGreatW.PrintLast Go.Proofs.YthimblhfjfngiaaGreatW.PrintMore
set_option linter.unusedVariables false
set_option linter.unusedSimpArgs false
theorem rhas_l0 (l:List ByteArray) (x:ByteArray) (hl:l.length≤1000000):∀ (m i k:Nat),l.length - i=m→i≤l.length→m+1≤k→∃ r,ytb_.l0 k l x (i:Int)=some r∧(0≤r↔x∈l.drop i)
  | 0,i,k,hm,hi,hk=>by
    obtain⟨k,rfl⟩:∃ q,k=q+1:=⟨k - 1,by omega⟩
    rw[ytb_.l0,if_neg (by omega)]
    exact⟨_,rfl,fun q=>absurd q (by decide),fun q=>by rw[List.drop_eq_nil_of_le (by omega)] at q;cases q⟩
  | m+1,i,k,hm,hi,hk=>by
    obtain⟨k,rfl⟩:∃ q,k=q+1:=⟨k - 1,by omega⟩
    have hil:i < l.length:=by omega
    rw[ytb_.l0,if_pos (by omega),if_pos (by omega),rdB l i hil,List.drop_eq_getElem_cons hil]
    by_cases e:l[i].toList=x.toList
    · rw[if_pos e]
      have e2:l[i]=x:=bL_ext (bL_inj.1 e)
      exact⟨_,rfl,fun _=>by rw[e2];exact List.mem_cons_self,fun _=>by omega⟩
    rw[if_neg e,nx i (by omega)]
    obtain⟨r,h1,h2⟩:=rhas_l0 l x hl m (i+1) k (by omega) (by omega) (by omega)
    refine⟨r,h1,fun q=>List.mem_cons_of_mem _ (h2.1 q),fun q=>h2.2 ?_⟩
    rcases List.mem_cons.1 q with q|q
    · exact absurd (by rw[q]) e
    · exact q
theorem rhas_f (t line:ByteArray) (ht:t.size≤10000) (k:Nat) (hk:20000≤k):ygb_.f k t line=some (containsS (linesB t) line):=by
  have hl:=yKb_ t
  obtain⟨r,h1,h2⟩:=rhas_l0 (linesB t) line (by omega) (linesB t).length 0 k (by omega) (Nat.zero_le _) (by omega)
  rw[List.drop_zero] at h2
  unfold ygb_.f ytb_.f
  rw[rlines_f t (by omega) k (by omega),Option.bind_some,show ytb_.l0 k (linesB t) line 0=some r from h1,Option.bind_some]
  congr 1
  by_cases c:0≤r
  · rw[decide_eq_true (show r ≥ 0 from c),(containsS_iff _ _).2 (h2.1 c)]
  rw[decide_eq_false (show ¬ r ≥ 0 from c)]
  cases e:containsS (linesB t) line with
  | false=>rfl
  | true=>exact absurd (h2.2 ((containsS_iff _ _).1 e)) c
set_option maxRecDepth 100000 in
set_option maxHeartbeats 4000000 in
theorem rpfind_calls (base q:Nat) (L:List Com) (file line:ByteArray) (w:World) (hR:RefIs w base q L) (hL:L.length≤1000) (hT:Tiny L) :
    Calls Tryz.prog 12 #[.pointer (some ⟨q,0,none⟩),.string file,.string line] w fun e w'=>e=.returned (.tuple #[.int .i64 (findA L file line).1,.int .i64 (findA L file line).2])∧Below w.heap.size w w':=by
  have HS:=Aside0.mk (refIs_S hR)
  have HTT:=Aside0.mk hT
  have HLL:=Aside0.mk hL
  have HB0:=Aside0.mk (Below.refl w.heap.size w)
  clear hR hT hL
  go_enter Tryz.func12,Tryz.ntmps12
  go_wp2_with fail
  go_loopg [8] (L.length+1) (fun kq v8 w'=>∃ (i:Nat),v8=.int .i64 (i:Int)∧Aside0 (L.length - i < kq∧i≤L.length)∧Aside0 (Below w.heap.size w w')∧Aside0 (IsS58 w w' q (L.map (·.name)) (L.map (·.files)))∧Aside0 (findA L file line=findGo L file line (L.length - i) i))
  case atStart=>exact⟨0,rfl,⟨by omega,by omega⟩,HB0,HS,⟨rfl⟩⟩
  case round =>
    obtain⟨i,rfl,HI,HBe,HSe,HG⟩:=hrel
    obtain⟨k1,rfl⟩:∃ k1,gk=k1+1:=⟨gk - 1,by have:=HI.out.1;omega⟩
    obtain⟨A,c,hc1,-⟩:=s58_cell HSe.out
    by_cases hlt:i < L.length
    rotate_left
    · have hb:decide ((i:Int) < (L.length:Int))=false:=by simp;omega
      have hi:L.length - i=0:=by omega
      have HFN:Aside0 (findA L file line=(0,4)):=⟨by rw[HG.out,hi];rfl⟩
      clear HG hi
      go_wp2_with fail
      go_ret2
      rw[HFN.out]
      exact⟨rfl,HBe.out⟩
    have hb:decide ((i:Int) < (L.length:Int))=true:=by simp;omega
    have hgi:L.getD i noCom=L[i]:=by rw[List.getD_eq_getElem?_getD,List.getElem?_eq_getElem hlt];rfl
    have hgo:findGo L file line (L.length - i) i=if putsB L file line i=true then ((i:Int),0) else findGo L file line (L.length - (i+1)) (i+1):=by
      rw[show L.length - i=(L.length - (i+1))+1 by omega];rfl
    have hpu:putsB L file line i=(containsS (linesB (findR L[i].files file).1) line && !containsS (linesB (findR (prevC L i).files file).1) line):=by unfold putsB;rw[hgi]
    rw[hpu] at hgo
    have HG2:=Aside0.mk (HG.out.trans hgo)
    have hos:=yEb_ (file:=file) (prevC_tiny HTT.out i).2
    have hns:=yEb_ (file:=file) (HTT.out L[i] (List.getElem_mem hlt)).2
    have HT1:Aside0 (∀ wr,IsS58 w wr q (L.map (·.name)) (L.map (·.files))→Below w.heap.size w wr→Calls Tryz.prog 31 #[.pointer (some ⟨q,0,none⟩),.int .i64 (wrap64 ((i:Int) - 1)),.string file] wr fun e w'=>e=.returned (.string (findR (prevC L i).files file).1)∧IsS58 w w' q (L.map (·.name)) (L.map (·.files))∧Below w.heap.size w w'∧Below wr.heap.size wr w') :=
      ⟨fun wr h1 h2=>rprev_calls L HTT.out file i hlt HLL.out q w wr h1 h2⟩
    have HT2:Aside0 (∀ wr,IsS58 w wr q (L.map (·.name)) (L.map (·.files))→Below w.heap.size w wr→Calls Tryz.prog 31 #[.pointer (some ⟨q,0,none⟩),.int .i64 (i:Int),.string file] wr fun e w'=>e=.returned (.string (findR L[i].files file).1)∧IsS58 w w' q (L.map (·.name)) (L.map (·.files))∧Below w.heap.size w w'∧Below wr.heap.size wr w') :=
      ⟨fun wr h1 h2=>rtext_calls L HTT.out file i hlt q w wr h1 h2⟩
    have HLT2:=Aside0.mk hlt
    clear hgo HG hpu hgi
    generalize (findR (prevC L i).files file).1=old at *
    generalize (findR L[i].files file).1=now at *
    have HOS:=Aside0.mk hos
    have HNS:=Aside0.mk hns
    have HHN:Aside0 (∀ wr,Calls Tryz.prog 37 #[.string now,.string line] wr fun e w'=>e=.returned (.bool (containsS (linesB now) line))∧Below wr.heap.size wr w'):=⟨fun wr=>ygb_.calls 20000 now line _ wr (rhas_f now line (by omega) 20000 (Nat.le_refl _))⟩
    have HHO:Aside0 (∀ wr,Calls Tryz.prog 37 #[.string old,.string line] wr fun e w'=>e=.returned (.bool (containsS (linesB old) line))∧Below wr.heap.size wr w'):=⟨fun wr=>ygb_.calls 20000 old line _ wr (rhas_f old line (by omega) 20000 (Nat.le_refl _))⟩
    have hiw:IntKind.i64.wrap ((i:Int) - 1)=wrap64 ((i:Int) - 1):=i64_w _
    clear hos hns
    generalize containsS (linesB now) line=b1 at *
    generalize containsS (linesB old) line=b2 at *
    have tok:True:=trivial
    have tok2:True:=trivial
    cases b1
    · have HFN:Aside0 (findA L file line=findGo L file line (L.length - (i+1)) (i+1)):=⟨by rw[HG2.out];rfl⟩
      clear HG2 HHO HT1
      go_wp2_with (first
        | (go_at_call 31;with_reducible refine (HT2.out _ HSe.out HBe.out).mono ?_;rintro e w6 ⟨rfl,hs6,hb6,hx6⟩;have HS6:=Aside0.mk hs6;have HB6:=Aside0.mk hb6;clear hs6 hb6 hx6 HT2)
        | (go_at_call 37;with_reducible refine (HHN.out _).mono ?_;rintro e w7 ⟨rfl,hb7⟩;have HS7:=Aside0.mk (HS6.out.below hb7);have HB7:=Aside0.mk (yn_ HB6.out hb7);clear hb7 HHN)
        | fail)
      go_roundg k1
      case measure=>have:=HI.out.1;have:=HLT2.out;omega
      case rel=>exact⟨i+1,congrArg (Value.int .i64) (by first|exact nx i (by have:=HLL.out;have:=HLT2.out;omega)|(have:=HLL.out;have:=HLT2.out;omega)),⟨by have:=HI.out.1;have:=HLT2.out;omega,by have:=HLT2.out;omega⟩,HB7,HS7,HFN⟩
    · cases b2
      · have HFN:Aside0 (findA L file line=((i:Int),0)):=⟨by rw[HG2.out];rfl⟩
        clear HG2
        go_wp2_with (first
          | (go_at_call 31;have _t:=tok;with_reducible refine (HT2.out _ HSe.out HBe.out).mono ?_;rintro e w6 ⟨rfl,hs6,hb6,hx6⟩;have HS6:=Aside0.mk hs6;have HB6:=Aside0.mk hb6;clear hs6 hb6 hx6 HT2 tok)
          | (go_at_call 37;have _t:=tok2;with_reducible refine (HHN.out _).mono ?_;rintro e w7 ⟨rfl,hb7⟩;have HS7:=Aside0.mk (HS6.out.below hb7);have HB7:=Aside0.mk (yn_ HB6.out hb7);clear hb7 HHN tok2)
          | (go_at_call 31;with_reducible refine (HT1.out _ HS7.out HB7.out).mono ?_;rintro e w8 ⟨rfl,hs8,hb8,hx8⟩;have HS8:=Aside0.mk hs8;have HB8:=Aside0.mk hb8;clear hs8 hb8 hx8 HT1)
          | (go_at_call 37;with_reducible refine (HHO.out _).mono ?_;rintro e w9 ⟨rfl,hb9⟩;have HS9:=Aside0.mk (HS8.out.below hb9);have HB9:=Aside0.mk (yn_ HB8.out hb9);clear hb9 HHO)
          | fail)
        go_ret2
        rw[HFN.out]
        exact⟨rfl,HB9.out⟩
      · have HFN:Aside0 (findA L file line=findGo L file line (L.length - (i+1)) (i+1)):=⟨by rw[HG2.out];rfl⟩
        clear HG2
        go_wp2_with (first
          | (go_at_call 31;have _t:=tok;with_reducible refine (HT2.out _ HSe.out HBe.out).mono ?_;rintro e w6 ⟨rfl,hs6,hb6,hx6⟩;have HS6:=Aside0.mk hs6;have HB6:=Aside0.mk hb6;clear hs6 hb6 hx6 HT2 tok)
          | (go_at_call 37;have _t:=tok2;with_reducible refine (HHN.out _).mono ?_;rintro e w7 ⟨rfl,hb7⟩;have HS7:=Aside0.mk (HS6.out.below hb7);have HB7:=Aside0.mk (yn_ HB6.out hb7);clear hb7 HHN tok2)
          | (go_at_call 31;with_reducible refine (HT1.out _ HS7.out HB7.out).mono ?_;rintro e w8 ⟨rfl,hs8,hb8,hx8⟩;have HS8:=Aside0.mk hs8;have HB8:=Aside0.mk hb8;clear hs8 hb8 hx8 HT1)
          | (go_at_call 37;with_reducible refine (HHO.out _).mono ?_;rintro e w9 ⟨rfl,hb9⟩;have HS9:=Aside0.mk (HS8.out.below hb9);have HB9:=Aside0.mk (yn_ HB8.out hb9);clear hb9 HHO)
          | fail)
        go_roundg k1
        case measure=>have:=HI.out.1;have:=HLT2.out;omega
        case rel=>exact⟨i+1,congrArg (Value.int .i64) (by first|exact nx i (by have:=HLL.out;have:=HLT2.out;omega)|(have:=HLL.out;have:=HLT2.out;omega)),⟨by have:=HI.out.1;have:=HLT2.out;omega,by have:=HLT2.out;omega⟩,HB9,HS9,HFN⟩
end Go.Proofs.YthimblhfjfngiaaGreat.PText

namespace Go.Proofs.YthimblhfjfngiaaGreat.PText
open Go.RowKit Go.Lib Go.Sort Go.Proofs.YthimblhfjfngiaaGreatW.PrintWords Go.Proofs.YthimblhfjfngiaaGreatW.PrintLast Go.Proofs.YthimblhfjfngiaaGreatW.PrintMore
set_option linter.unusedVariables false
set_option linter.unusedSimpArgs false
/-- no two of the first files have one name -/
def NoDupTo (fs:List S41) (i:Nat):Prop:=∀ a b,a < b→b < i→∀ hb:b < fs.length,∀ ha:a < fs.length,fs[b].f0.toList≠fs[a].f0.toList
theorem noDup_all {fs:List S41} (h:NoDupTo fs fs.length):(fnames fs).Nodup:=by
  unfold fnames
  rw[List.nodup_iff_pairwise_ne,List.pairwise_iff_getElem]
  intro i j hi hj hij
  rw[List.getElem_map,List.getElem_map]
  rw[List.length_map] at hi hj
  exact fun e=>h i j hij hj hj hi e.symm
theorem dup_not {fs:List S41} {a b:Nat} (hab:a < b) (hb:b < fs.length) (h:fs[b].f0.toList=fs[a].f0.toList):¬ (fnames fs).Nodup:=fun q=>by
  unfold fnames at q
  rw[List.nodup_iff_pairwise_ne,List.pairwise_iff_getElem] at q
  have:=q a b (by rw[List.length_map];omega) (by rw[List.length_map];omega) hab
  rw[List.getElem_map,List.getElem_map] at this
  exact this h.symm
/-- what is read below a place, and is read still -/
theorem below_setq {base:Nat} {a w:World} {q i:Nat} {x:Value} (h:Below base a w) (hq:base≤q):Below base a (w.setCell ⟨q,i,none⟩ x):=h.setCell (p:=⟨q,i,none⟩) hq x
/-- behind the names' append and its store -/
theorem ref_named {w w5:World} {base q:Nat} {L:List Com} {A1 A2 A5:Option Addr} {c1 c2 c5:Nat} {ps:List (Option Addr × Nat × Nat)} {name:ByteArray}
    (h1:ps.length=L.length) (h2:base≤q) (h3:w.heap[q]?=some (.cells #[.slice A1 L.length c1,.slice A2 L.length c2] 58 (0,0))) (h4:Kd.R Kd.string 9 w base (fun _=>True) (.slice A1 L.length c1) (L.map (·.name))) (h5:Kd.R kL 37 w base (fun _=>True) (.slice A2 L.length c2) ps)
    (h6:∀ i,∀ h:i < L.length,∀ h':i < ps.length,ps[i].2.1=L[i].files.length∧FRow w ps[i].1 ps[i].2.2 L[i].files) (hbw:base≤w.heap.size)
    (ho:Kd.R Kd.string 9 w5 base (fun _=>True) (.slice A5 (L.length+1) c5) (L.map (·.name)++[name])) (hb:Below base w w5) (hg:w.grownBy w5 (Value.slice A1 L.length c1).ownBlock) :
    Below base w (w5.setCell ⟨q,0,none⟩ (.slice A5 (L.length+1) c5))∧RKept w (w5.setCell ⟨q,0,none⟩ (.slice A5 (L.length+1) c5))∧w5.heap[q]?=some (.cells #[.slice A1 L.length c1,.slice A2 L.length c2] 58 (0,0)) ∧
    (w5.setCell ⟨q,0,none⟩ (.slice A5 (L.length+1) c5)).heap[q]?=some (.cells #[.slice A5 (L.length+1) c5,.slice A2 L.length c2] 58 (0,0))∧Kd.R Kd.string 9 (w5.setCell ⟨q,0,none⟩ (.slice A5 (L.length+1) c5)) base (fun _=>True) (.slice A5 (L.length+1) c5) (L.map (·.name)++[name]) ∧
    Kd.R kL 37 (w5.setCell ⟨q,0,none⟩ (.slice A5 (L.length+1) c5)) base (fun _=>True) (.slice A2 L.length c2) ps∧(∀ i,∀ h:i < L.length,∀ h':i < ps.length,ps[i].2.1=L[i].files.length∧FRow (w5.setCell ⟨q,0,none⟩ (.slice A5 (L.length+1) c5)) ps[i].1 ps[i].2.2 L[i].files):=by
  have hqlt:=(Array.getElem?_eq_some_iff.1 h3).1
  obtain⟨inner,hown⟩:=Kd.R_own h4
  have hne:some q≠(Value.slice A1 L.length c1).ownBlock:=fun e=>by
    obtain⟨i0,ho0⟩:=Kd.R_own h4
    obtain⟨cells,hc⟩:=yob_ ho0 q e.symm
    rw[h3] at hc;cases hc
  have hq5:w5.heap[q]?=some (.cells #[.slice A1 L.length c1,.slice A2 L.length c2] 58 (0,0)):=(hg.block q hqlt hne).trans h3
  have hK:RKept w w5:=RKept.grown hg hown (.inr (.inl rfl))
  have hK2:RKept w (w5.setCell ⟨q,0,none⟩ (.slice A5 (L.length+1) c5)):=hK.trans (RKept.set hq5)
  have hself:(w5.setCell ⟨q,0,none⟩ (.slice A5 (L.length+1) c5)).heap[q]?=some (.cells #[.slice A5 (L.length+1) c5,.slice A2 L.length c2] 58 (0,0)):=by
    unfold World.setCell
    simp only
    rw[Array.getElem?_modify,if_pos rfl,hq5]
    rfl
  refine⟨below_setq hb h2,hK2,hq5,hself,Kd.R_set ho hq5 (fun z hz=>by rcases List.mem_cons.1 hz with h|h;subst h;decide;cases h) 0 _,?_,fun i a b=>⟨(h6 i a b).1,(h6 i a b).2.rkeep hK2⟩⟩
  refine Kd.R_set ?_ hq5 (fun z hz=>by rcases List.mem_cons.1 hz with h|h;subst h;decide;cases h) 0 _
  refine R_types' h5 (fun k t cs ht hc=>?_)
  have e:t=37:=by rcases List.mem_cons.1 ht with h|h;exact h;cases h
  subst e
  rw[hg.block k (Array.getElem?_eq_some_iff.1 hc).1 ?_,hc]
  intro e
  obtain⟨cells,hc'⟩:=yob_ hown k e.symm
  rw[hc] at hc';cases hc'
/-- behind the files' append and its store -/
theorem ref_filed {w w5:World} {base q:Nat} {L:List Com} {A1 A2 A5 A':Option Addr} {c1 c2 c5 c':Nat} {ps:List (Option Addr × Nat × Nat)} {x:Com}
    (h1:ps.length=L.length) (h2:base≤q) (h3:w.heap[q]?=some (.cells #[.slice A1 (L.length+1) c1,.slice A2 L.length c2] 58 (0,0))) (h4:Kd.R Kd.string 9 w base (fun _=>True) (.slice A1 (L.length+1) c1) (L.map (·.name)++[x.name])) (h5:Kd.R kL 37 w base (fun _=>True) (.slice A2 ps.length c2) ps)
    (h6:∀ i,∀ h:i < L.length,∀ h':i < ps.length,ps[i].2.1=L[i].files.length∧FRow w ps[i].1 ps[i].2.2 L[i].files) (hbw:base≤w.heap.size) (hF:FRow w A' c' x.files)
    (ho:Kd.R kL 37 w5 base (fun _=>True) (.slice A5 (ps.length+1) c5) (ps++[(A',x.files.length,c')])) (hb:Below base w w5) (hg:w.grownBy w5 (Value.slice A2 ps.length c2).ownBlock) :
    Below base w (w5.setCell ⟨q,1,none⟩ (.slice A5 (ps.length+1) c5))∧RKept w (w5.setCell ⟨q,1,none⟩ (.slice A5 (ps.length+1) c5))∧w5.heap[q]?=some (.cells #[.slice A1 (L.length+1) c1,.slice A2 L.length c2] 58 (0,0)) ∧
    RefIs (w5.setCell ⟨q,1,none⟩ (.slice A5 (ps.length+1) c5)) base q (L++[x]):=by
  have hqlt:=(Array.getElem?_eq_some_iff.1 h3).1
  obtain⟨inner,hown⟩:=Kd.R_own h5
  have hne:some q≠(Value.slice A2 ps.length c2).ownBlock:=fun e=>by
    obtain⟨i0,ho0⟩:=Kd.R_own h5
    obtain⟨cells,hc⟩:=yob_ ho0 q e.symm
    rw[h3] at hc;cases hc
  have hq5:w5.heap[q]?=some (.cells #[.slice A1 (L.length+1) c1,.slice A2 L.length c2] 58 (0,0)):=(hg.block q hqlt hne).trans h3
  have hK:RKept w w5:=RKept.grown hg hown (.inr (.inr rfl))
  have hK2:RKept w (w5.setCell ⟨q,1,none⟩ (.slice A5 (ps.length+1) c5)):=hK.trans (RKept.set hq5)
  have hself:(w5.setCell ⟨q,1,none⟩ (.slice A5 (ps.length+1) c5)).heap[q]?=some (.cells #[.slice A1 (L.length+1) c1,.slice A5 (ps.length+1) c5] 58 (0,0)):=by
    unfold World.setCell
    simp only
    rw[Array.getElem?_modify,if_pos rfl,hq5]
    rfl
  refine⟨below_setq hb h2,hK2,hq5,A1,A5,c1,c5,ps++[(A',x.files.length,c')],by rw[List.length_append,List.length_append,h1];rfl,h2,?_,?_,?_,?_⟩
  · rw[hself,h1,List.length_append];rfl
  · rw[List.map_append,List.length_append]
    refine Kd.R_set ?_ hq5 (fun z hz=>by rcases List.mem_cons.1 hz with h|h;subst h;decide;cases h) 1 _
    refine R_types' h4 (fun k t cs ht hc=>?_)
    have e:t=9:=by rcases List.mem_cons.1 ht with h|h;exact h;cases h
    subst e
    rw[hg.block k (Array.getElem?_eq_some_iff.1 hc).1 ?_,hc]
    intro e
    obtain⟨cells,hc'⟩:=yob_ hown k e.symm
    rw[hc] at hc';cases hc'
  · rw[h1,List.length_append] at *
    exact Kd.R_set (by rw[h1] at ho;exact ho) hq5 (fun z hz=>by rcases List.mem_cons.1 hz with h|h;subst h;decide;cases h) 1 _
  · intro i h h'
    by_cases hi:i < L.length
    · rw[List.getElem_append_left (by omega),List.getElem_append_left hi]
      exact⟨(h6 i hi (by omega)).1,(h6 i hi (by omega)).2.rkeep hK2⟩
    have e1:i=L.length:=by rw[List.length_append,List.length_singleton] at h;omega
    subst e1
    rw[List.getElem_append_right (by omega),List.getElem_append_right (Nat.le_refl _)]
    simp only[h1,Nat.sub_self,List.getElem_cons_zero]
    exact⟨trivial,by rw[h1] at hK2;exact hF.rkeep hK2⟩
/-- to append a commit's files, in a region that draws its order -/
theorem append_file {ops:Array Oper} {o:Oper} {a:Act} {Q:Exit→Act→World→Prop} {Kc:Act→World→Prop} {w W:World} (base q:Nat) {L:List Com} {A1 A2 A':Option Addr} {c1 c2 c':Nat} {ps:List (Option Addr × Nat × Nat)} {x:Com} (hw:Region.wanted o (yielded ops a.tmps)=true)
    (ho:o.op=.call { callee:=.builtin .append,args:=#[.tmp 70,.tmp 73],argTypes:=#[56,56] }) (hs:a.eval (.tmp 70)=.slice A2 L.length c2) (hx:a.eval (.tmp 73)=.slice (some ⟨w.heap.size,0,none⟩) 1 1) (hW:W=w.alloc (.cells #[.slice A' x.files.length c'] 37))
    (h1:ps.length=L.length) (h2:base≤q) (h3:w.heap[q]?=some (.cells #[.slice A1 (L.length+1) c1,.slice A2 L.length c2] 58 (0,0))) (h4:Kd.R Kd.string 9 w base (fun _=>True) (.slice A1 (L.length+1) c1) (L.map (·.name)++[x.name])) (h5:Kd.R kL 37 w base (fun _=>True) (.slice A2 ps.length c2) ps)
    (h6:∀ i,∀ h:i < L.length,∀ h':i < ps.length,ps[i].2.1=L[i].files.length∧FRow w ps[i].1 ps[i].2.2 L[i].files) (hbw:base≤w.heap.size) (hF:FRow w A' c' x.files) (hL:L.length≤1000)
    (h:∀ A5 c5 w5,Below base w w5→(Below base w (w5.setCell ⟨q,1,none⟩ (.slice A5 (L.length+1) c5))∧RKept w (w5.setCell ⟨q,1,none⟩ (.slice A5 (L.length+1) c5))∧RefIs (w5.setCell ⟨q,1,none⟩ (.slice A5 (L.length+1) c5)) base q (L++[x]))→w5.cell? ⟨q,1,none⟩=some (.slice A2 L.length c2)→w5.frozen? ⟨q,1,none⟩=false→(w5.setCell ⟨q,1,none⟩ (.slice A5 (L.length+1) c5)).cell? ⟨q,0,none⟩=some (.slice A1 (L.length+1) c1) →
      Kc (a.put o.dst (.slice A5 (L.length+1) c5)) w5) :
    if Region.wanted o (yielded ops a.tmps)=true then Oper.wp Tryz.prog o a W Kc Q else Kc (a.put o.dst undef) W:=by
  subst hW
  have hs':a.eval (.tmp 70)=.slice A2 ps.length c2:=by rw[h1];exact hs
  refine Kd.R_append_step kL (w0:=w) base hw (.tmp 70) (.tmp 73) 56 37 (.slice none 0 0) 24 ho Tryz.underlying56 info46 rfl (by decide) (by omega) (.slice A2 ps.length c2) ps (A',x.files.length,c') [.slice A' x.files.length c'] (fun _=>True) (fun _=>False) hs' hx rfl (fun _ hk=>hk.elim) (fun _ _=>trivial) h5 (Below.refl base w) hbw (by omega) ?_
  intro v1 w5 ho hb hg hat
  obtain⟨A5,c5,rfl⟩:=Kd.yw_ ho
  have e:(ps++[(A',x.files.length,c')]).length=L.length+1:=by rw[List.length_append,h1];rfl
  have e2:(ps++[(A',x.files.length,c')]).length=ps.length+1:=by rw[List.length_append];rfl
  rw[e2] at ho
  obtain⟨q1,q2,q3,q4⟩:=ref_filed (A5:=A5) (c5:=c5) h1 h2 h3 h4 h5 h6 hbw hF ho hb hg
  rw[h1] at q1 q2 q4
  rw[e]
  exact h A5 c5 w5 hb ⟨q1,q2,q4⟩ (by unfold World.cell?;rw[q3];rfl) (by simp [World.frozen?,q3]) (by unfold World.cell? World.setCell;simp only;rw[Array.getElem?_modify,if_pos rfl,q3];rfl)
end Go.Proofs.YthimblhfjfngiaaGreat.PText

namespace Go.Proofs.YthimblhfjfngiaaGreat.PText
open Go.RowKit Go.Lib Go.Sort Go.Proofs.YthimblhfjfngiaaGreatW.PrintWords Go.Proofs.YthimblhfjfngiaaGreatW.PrintLast Go.Proofs.YthimblhfjfngiaaGreatW.PrintMore
set_option linter.unusedVariables false
set_option linter.unusedSimpArgs false
set_option maxRecDepth 100000 in
set_option maxHeartbeats 8000000 in
theorem rcommit_calls (base q:Nat) (L:List Com) (name:ByteArray) (A0:Option Addr) (c0:Nat) (fs:List S41) (w:World) (hR:RefIs w base q L) (hC:∀ w',Below base w w'→Kd.C k41 w' A0 fs.length fs) (hc:fs.length≤c0) (hL:L.length≤200) (hbase:base≤w.heap.size) :
    Calls Tryz.prog 27 #[.pointer (some ⟨q,0,none⟩),.string name,.slice A0 fs.length c0] w fun e w'=>e=.returned (.tuple #[.int .i64 (commitR L name fs).1,.int .i64 (commitR L name fs).2.1])∧RefIs w' base q (commitR L name fs).2.2∧Below base w w'∧RKept w w':=by
  have HR:=Aside0.mk hR
  obtain⟨A1,A2,c1,c2,ps,h1,h2,h3,h4,h5,h6⟩:=hR
  have hx0:w.cell? ⟨q,0,none⟩=some (.slice A1 L.length c1):=by unfold World.cell?;rw[h3];rfl
  have hx1:w.cell? ⟨q,1,none⟩=some (.slice A2 L.length c2):=by unfold World.cell?;rw[h3];rfl
  have HX0:=Aside0.mk hx0
  have HX1:=Aside0.mk hx1
  have HQL:=Aside0.mk (Array.getElem?_eq_some_iff.1 h3).1
  have HLL:=Aside0.mk hL
  have HCC:=Aside0.mk hC
  have HBS:=Aside0.mk hbase
  have HCP:=Aside0.mk hc
  clear h1 h2 h3 h4 h5 h6 hC hL hbase hc hx1
  by_cases g1:L.length=200
  · have e:commitR L name fs=(0,2,L):=by unfold commitR;rw[if_pos (Or.inl g1)]
    have d1:decide ((L.length:Int) ≥ 200)=true:=decide_eq_true (by omega)
    have d1':decide ((200:Int)≤(L.length:Int))=true:=decide_eq_true (by omega)
    rw[e]
    go_enter Tryz.func27,Tryz.ntmps27
    go_wp2_with fail
    go_ret2
    exact⟨rfl,HR.out,Below.refl _ _,RKept.refl _⟩
  have d1:decide ((L.length:Int) ≥ 200)=false:=decide_eq_false (by have:=HLL.out;omega)
  have d1':decide ((200:Int)≤(L.length:Int))=false:=decide_eq_false (by have:=HLL.out;omega)
  by_cases g2:60 < fs.length
  · have e:commitR L name fs=(0,2,L):=by unfold commitR;rw[if_pos (Or.inr g2)]
    have d2:decide ((60:Int) < (fs.length:Int))=true:=decide_eq_true (by omega)
    have d3:¬ ((200:Int)≤(L.length:Int)):=by have:=HLL.out;omega
    rw[e]
    go_enter Tryz.func27,Tryz.ntmps27
    go_wp2_with fail
    go_ret2
    exact⟨rfl,HR.out,Below.refl _ _,RKept.refl _⟩
  have d2:decide ((60:Int) < (fs.length:Int))=false:=decide_eq_false (by omega)
  have d3:¬ ((200:Int)≤(L.length:Int)):=by have:=HLL.out;omega
  have HG1:=Aside0.mk g1
  have HG2:=Aside0.mk g2
  have HB0:=Aside0.mk (Below.refl w.heap.size w)
  clear g1 g2
  go_enter Tryz.func27,Tryz.ntmps27
  go_wp2_with fail
  go_loopg [8] (fs.length+1) (fun kq v8 w'=>∃ i:Nat,v8=.int .i64 (i:Int)∧Aside0 (fs.length - i < kq∧i≤fs.length)∧Aside0 (Below w.heap.size w w')∧Aside0 (NoDupTo fs i))
  case atStart=>exact⟨0,rfl,⟨by omega,by omega⟩,HB0,⟨fun a b _ hb=>absurd hb (Nat.not_lt_zero _)⟩⟩
  case round =>
    obtain⟨i,rfl,HI,HBe,HN⟩:=hrel
    obtain⟨k1,rfl⟩:∃ k1,gk=k1+1:=⟨gk - 1,by have:=HI.out.1;omega⟩
    by_cases hlt:i < fs.length
    · have hb:decide ((i:Int) < (fs.length:Int))=true:=by simp;omega
      have HLT:=Aside0.mk hlt
      go_wp2_with fail
      go_loopg [9] (i+1) (fun kq v9 w'=>∃ k:Nat,v9=.int .i64 (k:Int)∧Aside0 (i - k < kq∧k≤i)∧Aside0 (Below w.heap.size w w')∧Aside0 (∀ a,a < k→∀ ha:a < fs.length,fs[i].f0.toList≠fs[a].f0.toList))
      case atStart=>exact⟨0,rfl,⟨by omega,by omega⟩,HBe,⟨fun a ha=>absurd ha (Nat.not_lt_zero _)⟩⟩
      case round =>
        obtain⟨k,rfl,HK,HBk,HNk⟩:=hrel
        obtain⟨k2,rfl⟩:∃ k2,gk=k2+1:=⟨gk - 1,by have:=HK.out.1;omega⟩
        have HCk:Aside0 (Kd.C k41 wr A0 fs.length fs):=⟨HCC.out wr (HBk.out.mono HBS.out)⟩
        by_cases hkl:k < i
        rotate_left
        · have hb3:decide ((k:Int) < (i:Int))=false:=by simp;omega
          have hki:k=i:=by have:=HK.out.2;omega
          subst hki
          have HN3:Aside0 (NoDupTo fs (k+1)):=⟨fun a b hab hbi hb ha=>by
            by_cases e:b=k
            · subst e;exact HNk.out a hab ha
            · exact HN.out a b hab (by omega) hb ha⟩
          go_wp2_with fail
          go_roundg k1
          case measure=>have:=HI.out.1;omega
          case rel=>exact⟨k+1,congrArg (Value.int .i64) (by first|exact nx k (by have:=HG2.out;have:=HLT.out;omega)|(have:=HG2.out;have:=HLT.out;omega)),⟨by have:=HI.out.1;omega,by have:=HLT.out;omega⟩,HBk,HN3⟩
        have hb3:decide ((k:Int) < (i:Int))=true:=by simp;omega
        have hkn:k < fs.length:=by omega
        have hi0:decide ((0:Int)≤(i:Int))=true:=by simp
        have hk0:decide ((0:Int)≤(k:Int))=true:=by simp
        have hk1:decide ((k:Int) < (fs.length:Int))=true:=by simp;omega
        have pi0:(0:Int)≤(i:Int):=by omega
        have pi1:(i:Int) < (fs.length:Int):=by omega
        have pk0:(0:Int)≤(k:Int):=by omega
        have pk1:(k:Int) < (fs.length:Int):=by omega
        obtain⟨ad,e0,hx,-⟩:=at_T41 HCk.out (i:Int) pi0 pi1
        cases e0
        obtain⟨ad',e0,hz,-⟩:=at_T41 HCk.out (k:Int) pk0 pk1
        cases e0
        rw[Int.toNat_natCast,rd53_at fs i hlt] at hx
        rw[Int.toNat_natCast,rd53_at fs k hkn] at hz
        have HDU:Aside0 (fs[i].f0.toList=fs[k].f0.toList→¬ (fnames fs).Nodup):=⟨fun e=>dup_not hkl hlt e⟩
        have HNS:Aside0 (fs[i].f0.toList≠fs[k].f0.toList→∀ a,a < k+1→∀ ha:a < fs.length,fs[i].f0.toList≠fs[a].f0.toList):=⟨fun z a ha ha'=>by
          by_cases e:a=k
          · subst e;exact z
          · exact HNk.out a (by omega) ha'⟩
        generalize fs[i]=x at *
        generalize fs[k]=y at *
        by_cases heq:x.f0.toList=y.f0.toList
        · have hbq:(x.f0.toList == y.f0.toList)=true:=beq_iff_eq.2 heq
          have e:commitR L name fs=(0,5,L):=by unfold commitR;rw[if_neg (by have:=HG1.out;have:=HG2.out;omega),if_pos (HDU.out heq)]
          have HE:=Aside0.mk e
          clear heq e
          go_wp2_with fail
          go_big_quiet (fail)
          have HBZ:=Aside0.mk (HBk.out.trans ((ya_ (Below.refl wr.heap.size wr) nq).mono HBk.out.size))
          go_wp2_with fail
          go_ret2
          exact⟨by rw[HE.out];rfl,by rw[HE.out];exact HR.out.below HBZ.out,HBZ.out.mono HBS.out,RKept.of_below HBZ.out⟩
        have hbq:(x.f0.toList == y.f0.toList)=false:=beq_eq_false_iff_ne.2 heq
        have HN2:=Aside0.mk (HNS.out heq)
        clear heq
        go_wp2_with fail
        go_big_quiet (fail)
        have HBZ:=Aside0.mk (HBk.out.trans ((ya_ (Below.refl wr.heap.size wr) nq).mono HBk.out.size))
        go_wp2_with fail
        go_roundg k2
        case measure=>have:=HK.out.1;omega
        case rel=>exact⟨k+1,congrArg (Value.int .i64) (by first|exact nx k (by have:=HG2.out;have:=HLT.out;omega)|(have:=HG2.out;have:=HLT.out;omega)),⟨by have:=HK.out.1;omega,by omega⟩,HBZ,HN2⟩
    have hb:decide ((i:Int) < (fs.length:Int))=false:=by simp;omega
    have hie:i=fs.length:=by have:=HI.out.2;omega
    subst hie
    have HND:=Aside0.mk (noDup_all HN.out)
    clear HN
    go_wp2_with fail
    go_loopg [10] (fs.length+1) (fun kq v10 w'=>∃ i:Nat,v10=.int .i64 (i:Int)∧Aside0 (fs.length - i < kq∧i≤fs.length)∧Aside0 (Below w.heap.size w w')∧Aside0 (∀ a,a < i→∀ ha:a < fs.length,fs[a].f0.toList≠[]))
    case atStart=>exact⟨0,rfl,⟨by omega,by omega⟩,HBe,⟨fun a ha=>absurd ha (Nat.not_lt_zero _)⟩⟩
    case round =>
      clear hx0 HBe HI
      obtain⟨i,rfl,HI,HBe,HN⟩:=hrel
      obtain⟨k2,rfl⟩:∃ k2,gk=k2+1:=⟨gk - 1,by have:=HI.out.1;omega⟩
      have HCk:Aside0 (Kd.C k41 wr A0 fs.length fs):=⟨HCC.out wr (HBe.out.mono HBS.out)⟩
      by_cases hlt:i < fs.length
      · have hb:decide ((i:Int) < (fs.length:Int))=true:=by simp;omega
        have hi0:decide ((0:Int)≤(i:Int))=true:=by simp
        have pi0:(0:Int)≤(i:Int):=by omega
        have pi1:(i:Int) < (fs.length:Int):=by omega
        have HLT:=Aside0.mk hlt
        obtain⟨ad,e0,hx,-⟩:=at_T41 HCk.out (i:Int) pi0 pi1
        cases e0
        rw[Int.toNat_natCast,rd53_at fs i hlt] at hx
        have HEM:Aside0 (fs[i].f0.toList=[]→∃ x∈fs,x.f0.toList=[]):=⟨fun e=>⟨fs[i],List.getElem_mem hlt,e⟩⟩
        have HNS:Aside0 (fs[i].f0.toList≠[]→∀ a,a < i+1→∀ ha:a < fs.length,fs[a].f0.toList≠[]):=⟨fun z a ha ha'=>by
          by_cases e:a=i
          · subst e;exact z
          · exact HN.out a (by omega) ha'⟩
        generalize fs[i]=x at *
        by_cases hem:x.f0.toList=[]
        · have hbq:(x.f0.toList == [])=true:=beq_iff_eq.2 hem
          have e:commitR L name fs=(0,3,L):=by unfold commitR;rw[if_neg (by have:=HG1.out;have:=HG2.out;omega),if_neg (fun q=>q HND.out),if_pos (HEM.out hem)]
          have HE:=Aside0.mk e
          clear hem e
          go_wp2_with fail
          go_ret2
          exact⟨by rw[HE.out];rfl,by rw[HE.out];exact HR.out.below HBe.out,HBe.out.mono HBS.out,RKept.of_below HBe.out⟩
        have hbq:(x.f0.toList == [])=false:=beq_eq_false_iff_ne.2 hem
        have HN2:=Aside0.mk (HNS.out hem)
        clear hem
        go_wp2_with fail
        go_roundg k2
        case measure=>have:=HI.out.1;omega
        case rel=>exact⟨i+1,congrArg (Value.int .i64) (by first|exact nx i (by have:=HG2.out;have:=HLT.out;omega)|(have:=HG2.out;have:=HLT.out;omega)),⟨by have:=HI.out.1;omega,by have:=HLT.out;omega⟩,HBe,HN2⟩
      have hb:decide ((i:Int) < (fs.length:Int))=false:=by simp;omega
      have hno:¬ ∃ x∈fs,x.f0.toList=[]:=by
        rintro ⟨x,hx,e⟩
        obtain⟨j,hj,rfl⟩:=List.mem_iff_getElem.1 hx
        exact HN.out j (by have:=HI.out.2;omega) hj e
      have e:commitR L name fs=((L.length:Int),0,L++[⟨name,srtF fs⟩]):=by unfold commitR;rw[if_neg (by have:=HG1.out;have:=HG2.out;omega),if_neg (fun q=>q HND.out),if_neg hno]
      have HE:=Aside0.mk e
      have HSF:=Aside0.mk (rsorted_f fs (by have:=HG2.out;omega) HND.out 4000 (by have h1:=HG2.out;have h2:fs.length * (fs.length+3)≤60 * 63:=Nat.mul_le_mul (by omega) (by omega);omega))
      have hsl:(srtF fs).length≤fs.length:=Tx.ord_len fs
      have HSL:=Aside0.mk hsl
      clear e hno HN hsl
      obtain⟨A1',A2',c1',c2',ps,h1,h2,h3,h4,h5,h6⟩:=HR.out.below HBe.out
      have hx0:wr.cell? ⟨q,0,none⟩=some (.slice A1' L.length c1'):=by unfold World.cell?;rw[h3];rfl
      have HBW:=Aside0.mk (show base≤wr.heap.size by have:=HBe.out.size;have:=HBS.out;omega)
      have HQ1:=Aside0.mk h1
      have HQ2:=Aside0.mk h2
      have HQ3:=Aside0.mk h3
      have HQ4:=Aside0.mk h4
      have HQ5:=Aside0.mk h5
      have HQ6:=Aside0.mk h6
      have hml:(L.map (·.name)).length=L.length:=List.length_map _
      have HML:=Aside0.mk hml
      clear h1 h2 h3 h4 h5 h6 hml
      go_wp2_with (at_builtin;go_loud (refine Kd.yM_ Kd.string (w0:=wr) base rfl (.tmp 60) (.tmp 62) 47 9 (.string ⟨#[]⟩) 16 rfl Tryz.underlying47 info9 rfl (by decide) (by omega) _ (L.map (fun x:Com=>x.name)) name [.string name] (fun _=>True) (fun _=>False) rfl (by first|rfl|(simp;done)|(go_simp;done)) rfl (fun _ hk=>hk.elim) (fun _ _=>trivial) HQ4.out (Below.refl base wr) HBW.out (by have:=HML.out;have:=HLL.out;omega) ?_);intro v1 w5 ho hb5 hg hat;go_loud (obtain⟨A5,c5,rfl⟩:=Kd.yw_ ho;rw[show (L.map (fun x:Com=>x.name)++[name]).length=L.length+1 by rw[List.length_append,HML.out];rfl] at ho;obtain⟨n1,n2,n3,n4,n5,n6,n7⟩:=ref_named HQ1.out HQ2.out HQ3.out HQ4.out HQ5.out HQ6.out HBW.out ho hb5 hg;have HN1:=Aside0.mk n1;have HN2:=Aside0.mk n2;have HN4:=Aside0.mk n4;have HN5:=Aside0.mk n5;have HN6:=Aside0.mk n6;have HN7:=Aside0.mk n7;have hc5:w5.cell? ⟨q,0,none⟩=some (.slice A1' L.length c1'):=(by unfold World.cell?;rw[n3];rfl);have hf5:w5.frozen? ⟨q,0,none⟩=false:=(by simp [World.frozen?,n3]);clear ho hb5 hg hat n1 n2 n3 n4 n5 n6 n7))
      have hps:ps.length=L.length:=HQ1.out
      have hq0:(w5.setCell ⟨q,0,none⟩ (.slice A5 (L.length+1) c5)).cell? ⟨q,0,none⟩=some (.slice A5 (L.length+1) c5):=by unfold World.cell?;rw[HN4.out];rfl
      have hq1:(w5.setCell ⟨q,0,none⟩ (.slice A5 (L.length+1) c5)).cell? ⟨q,1,none⟩=some (.slice A2' L.length c2'):=by unfold World.cell?;rw[HN4.out];rfl
      clear hc5 hf5 hx0
      generalize w5.setCell ⟨q,0,none⟩ (.slice A5 (L.length+1) c5)=W6 at *
      have HQ0:=Aside0.mk hq0
      have HQQ:=Aside0.mk hq1
      have HB6:Aside0 (Below base w W6∧RKept w W6):=⟨(HBe.out.mono HBS.out).trans HN1.out,(RKept.of_below HBe.out).trans HN2.out⟩
      have HW6:Aside0 (base≤W6.heap.size):=⟨by have h1:=HN1.out.size;have h2:=HBW.out;omega⟩
      have hqw:q < W6.heap.size:=(Array.getElem?_eq_some_iff.1 HN4.out).1
      have HSO:Aside0 (∀ wr,Below W6.heap.size W6 wr→Calls Tryz.prog 47 #[.slice A0 fs.length c0] wr fun e w'=>∃ A c,e=.returned (.slice A (srtF fs).length c)∧FRow w' A c (srtF fs)∧Below W6.heap.size W6 w'∧w'.cell? ⟨q,1,none⟩=some (.slice A2' L.length c2')) :=
        ⟨fun wr hb=>(yr_.calls 4000 A0 c0 fs (srtF fs) wr (HCC.out wr (HB6.out.1.trans (hb.mono HW6.out))) HCP.out HSF.out).mono fun e w' ⟨v,he,ho,hb2⟩=>by
          obtain⟨A,c,rfl⟩:=Kd.yw_ ho
          have hb3:=hb.trans (hb2.mono hb.size)
          exact⟨A,c,he,FRow.of_R ho,hb3,(hb3.cell (p:=⟨q,1,none⟩) hqw).trans HQQ.out⟩⟩
      have HQW:=Aside0.mk hqw
      have HPS:Aside0 (ps.length=L.length):=HQ1
      clear hps hqw
      go_wp2_with fail
      refine start_ (n:=12) (S:=fun w'=>w'.cell? ⟨q,1,none⟩=some (.slice A2' L.length c2')) (ds:=[11]) #[false,false,false,false,false,false,false,false,false,false,false,false] (by kernel_rfl) rfl rfl HQQ.out (fun hHeld=>?_)
      refine pure_ (i:=0) (N:=some 66) (v:=?_) (a':=?_) #[true,false,false,false,false,false,false,false,false,false,false,false] rfl rfl (by kernel_rfl) (fun _ _ _ h=>h) (Or.inl ⟨by rfl,?_⟩) ?_ ?_
      rotate_left
      · intro w'
        go_simp
        with_reducible rfl
      rotate_left
      · simp only[Act.put,List.setIfInBounds_toArray,List.set_cons_zero,List.set_cons_succ,i64_w,i32_w]
        rfl
      refine pure_ (i:=1) (N:=some 67) (v:=?_) (a':=?_) #[true,true,false,false,false,false,false,false,false,false,false,false] rfl rfl (by kernel_rfl) (fun _ _ _ h=>h) (Or.inl ⟨by rfl,?_⟩) ?_ ?_
      rotate_left
      · intro w'
        go_simp
        with_reducible rfl
      rotate_left
      · simp only[Act.put,List.setIfInBounds_toArray,List.set_cons_zero,List.set_cons_succ,i64_w,i32_w]
        rfl
      refine pure_ (i:=2) (N:=some 68) (v:=?_) (a':=?_) #[true,true,true,false,false,false,false,false,false,false,false,false] rfl rfl (by kernel_rfl) (fun _ _ _ h=>h) (Or.inl ⟨by rfl,?_⟩) ?_ ?_
      rotate_left
      · intro w'
        go_simp
        with_reducible rfl
      rotate_left
      · simp only[Act.put,List.setIfInBounds_toArray,List.set_cons_zero,List.set_cons_succ,i64_w,i32_w]
        rfl
      refine pure_ (i:=3) (N:=some 69) (v:=?_) (a':=?_) #[true,true,true,true,false,false,false,false,false,false,false,false] rfl rfl (by kernel_rfl) (fun _ _ _ h=>h) (Or.inl ⟨by rfl,?_⟩) ?_ ?_
      rotate_left
      · intro w'
        go_simp
        with_reducible rfl
      rotate_left
      · simp only[Act.put,List.setIfInBounds_toArray,List.set_cons_zero,List.set_cons_succ,i64_w,i32_w]
        rfl
      refine pure_ (i:=5) (N:=some 71) (v:=?_) (a':=?_) #[true,true,true,true,false,true,false,false,false,false,false,false] rfl rfl (by kernel_rfl) (fun _ _ _ h=>h) (Or.inl ⟨by rfl,?_⟩) ?_ ?_
      rotate_left
      · intro w'
        go_simp
        with_reducible rfl
      rotate_left
      · simp only[Act.put,List.setIfInBounds_toArray,List.set_cons_zero,List.set_cons_succ,i64_w,i32_w]
        rfl
      refine take_ (i:=4) (N:=some 70) (v:=?_) (a':=?_) #[true,true,true,true,true,true,false,false,false,false,false,false] rfl rfl (by kernel_rfl) (fun _ _ _ h=>h) (Or.inl ⟨by rfl,?_⟩) hHeld ?_ ?_
      rotate_left
      · intro w' s0
        go_simp
        with_reducible rfl
      rotate_left
      · simp only[Act.put,List.setIfInBounds_toArray,List.set_cons_zero,List.set_cons_succ,i64_w,i32_w]
        rfl
      refine one_ (i:=6) (N:=some 72) #[true,true,true,true,true,true,true,false,false,false,false,false] rfl rfl (by kernel_rfl) (by decide) (fun K hK=>?_)
      refine goes_ Tryz.func47 (by kernel_rfl) rfl #[.slice A0 fs.length c0] (by rfl) rfl rfl (by (try simp only[List.map_toArray,List.map_cons,List.map_nil]);first|done|rfl) ?_
      refine (HSO.out _ ((Below.refl _ _).drew)).mono ?_
      rintro e w7 ⟨A7,c7,rfl,hf7,hb7,hq7⟩
      have HF7:=Aside0.mk hf7
      have HB7:=Aside0.mk hb7
      have hq7b:(w7.alloc (.cells #[.slice A7 (srtF fs).length c7] 37)).cell? ⟨q,1,none⟩=some (.slice A2' L.length c2'):=(World.cell?_alloc_some w7 _ _ (by rw[hq7,Option.isSome_some])).trans hq7
      clear hf7 hb7
      refine⟨_,rfl,?_⟩
      refine hK.out _ _ (hq7) (fun hHeld=>?_)
      clear hK K
      refine norm_ (a':=?_) ?_ ?_
      rotate_left
      · show Act.put _ (some 72) _=_
        simp only[Act.put,List.setIfInBounds_toArray,List.set_cons_zero,List.set_cons_succ,i64_w,i32_w]
        rfl
      refine one_ (i:=7) (N:=some 73) #[true,true,true,true,true,true,true,true,false,false,false,false] rfl rfl (by kernel_rfl) (by decide) (fun K hK=>?_)
      go_simp
      refine hK.out _ _ (hq7b) (fun hHeld=>?_)
      clear hK K
      try simp only[Act.put,List.setIfInBounds_toArray,List.set_cons_zero,List.set_cons_succ,i64_w,i32_w]
      refine one_ (i:=8) (N:=some 74) #[true,true,true,true,true,true,true,true,true,false,false,false] rfl rfl (by kernel_rfl) (by decide) (fun K hK=>?_)
      refine append_file (x:=⟨name,srtF fs⟩) (w:=w7) base q (A1:=A5) (c1:=c5) (c':=c7) (A':=A7) (L:=L) (A2:=A2') (c2:=c2') (ps:=ps) ?hw1 ?hg1 ?hs1 ?hx1 ?hW1 HPS.out HQ2.out ((HB7.out.block q HQW.out).trans HN4.out) (Kd.yT_ HN5.out HB7.out) (by rw[HPS.out];exact Kd.yT_ HN6.out HB7.out) (fun i a b=>⟨(HN7.out i a b).1,(HN7.out i a b).2.rkeep (RKept.of_below HB7.out)⟩) (Nat.le_trans HW6.out HB7.out.size) HF7.out (by have:=HLL.out;omega) (fun A8 c8 w8 h0 h1 h2 h3 h4=>?_)
      (case hw1=>rfl)
      (case hg1=>rfl)
      (case hs1=>rfl)
      (case hx1=>rfl)
      (case hW1=>rfl)
      have HB8:=Aside0.mk h0
      have HF8:=Aside0.mk h1
      have hc8:=h2
      have hf8:=h3
      have hd8:=h4
      clear h0 h1 h2 h3 h4
      refine hK.out _ _ (hc8) (fun hHeld=>?_)
      clear hK K
      refine norm_ (a':=?_) ?_ ?_
      rotate_left
      · show Act.put _ (some 74) _=_
        simp only[Act.put,List.setIfInBounds_toArray,List.set_cons_zero,List.set_cons_succ,i64_w,i32_w]
        rfl
      refine pure_ (i:=9) (N:=some 75) (v:=?_) (a':=?_) #[true,true,true,true,true,true,true,true,true,true,false,false] rfl rfl (by kernel_rfl) (fun _ _ _ h=>h) (Or.inl ⟨by rfl,?_⟩) ?_ ?_
      rotate_left
      · intro w'
        go_simp
        with_reducible rfl
      rotate_left
      · simp only[Act.put,List.setIfInBounds_toArray,List.set_cons_zero,List.set_cons_succ,i64_w,i32_w]
        rfl
      refine pure_ (i:=10) (N:=some 76) (v:=?_) (a':=?_) #[true,true,true,true,true,true,true,true,true,true,true,false] rfl rfl (by kernel_rfl) (fun _ _ _ h=>h) (Or.inl ⟨by rfl,?_⟩) ?_ ?_
      rotate_left
      · intro w'
        go_simp
        with_reducible rfl
      rotate_left
      · simp only[Act.put,List.setIfInBounds_toArray,List.set_cons_zero,List.set_cons_succ,i64_w,i32_w]
        rfl
      refine last_ (i:=11) (N:=none) #[true,true,true,true,true,true,true,true,true,true,true,true] rfl rfl (by kernel_rfl) (by decide) (fun K hK=>?_)
      refine skip_ (w1:=?_) (by rfl) rfl ?_ ?_
      rotate_left
      · go_simp
        rfl
      refine hK.out _ _ ?_
      clear hK K
      refine done_ (by kernel_rfl) ?_
      all_goals (
        have HFN:Aside0 (RefIs (w8.setCell ⟨q,1,none⟩ (.slice A8 (L.length+1) c8)) base q (L++[⟨name,srtF fs⟩])∧Below base w (w8.setCell ⟨q,1,none⟩ (.slice A8 (L.length+1) c8))∧RKept w (w8.setCell ⟨q,1,none⟩ (.slice A8 (L.length+1) c8))):=⟨HF8.out.2.2,(HB6.out.1.trans (HB7.out.mono HW6.out)).trans HF8.out.1,(HB6.out.2.trans (RKept.of_below HB7.out)).trans HF8.out.2.1⟩
        have hw0:wrap64 (((L.length+1:Nat):Int) - 1)=(L.length:Int):=by rw[w64 (by omega) (by have:=HLL.out;omega)];omega
        have hw1:IntKind.i64.wrap (((L.length+1:Nat):Int) - 1)=(L.length:Int):=(i64_w _).trans hw0
        generalize w8.setCell ⟨q,1,none⟩ (.slice A8 (L.length+1) c8)=W9 at *
        go_wp2_with fail
        go_ret2
        rw[HE.out]
        exact⟨by first|rfl|(simp;done)|(simp [*];done),HFN.out⟩)
end Go.Proofs.YthimblhfjfngiaaGreat.PText

namespace Go.Proofs.YthimblhfjfngiaaGreat.PText
open Go.RowKit Go.Lib Go.Sort Go.Proofs.YthimblhfjfngiaaGreatW.PrintWords Go.Proofs.YthimblhfjfngiaaGreatW.PrintLast Go.Proofs.YthimblhfjfngiaaGreatW.PrintMore
set_option linter.unusedVariables false
set_option linter.unusedSimpArgs false
/-- what commits come to -/
def bothL (l:List S39):List Com:=l.foldl (fun L s=>(commitR L s.f0 s.f1).2.2) []
theorem commitR_len (L:List Com) (name:ByteArray) (fs:List S41):(commitR L name fs).2.2.length≤L.length+1:=by
  unfold commitR
  split
  · simp
  · split
    · simp
    · split
      · simp
      · simp
theorem bothL_succ (l:List S39) (i:Nat) (h:i < l.length):bothL (l.take (i+1))=(commitR (bothL (l.take i)) l[i].f0 l[i].f1).2.2:=by
  unfold bothL
  rw[List.take_succ_eq_append_getElem h,List.foldl_append]
  rfl
theorem bothL_len (l:List S39):∀ i,i≤l.length→(bothL (l.take i)).length≤i
  | 0,_=>by rw[List.take_zero];exact Nat.le_refl _
  | i+1,h=>by
    rw[bothL_succ l i (by omega)]
    have:=bothL_len l i (by omega)
    have:=commitR_len (bothL (l.take i)) l[i].f0 l[i].f1
    omega
theorem keepS {w w':World} {p q:Addr} {u v:Value} (hb:Below w.heap.size w w') (h1:w.cell? p=some u) (h2:w.cell? q=some v) :
    w'.cell? p=some u∧w'.cell? q=some v∧Below w.heap.size w w':=⟨(hb.cell (World.block_lt_of_cell? w _ h1)).trans h1,(hb.cell (World.block_lt_of_cell? w _ h2)).trans h2,hb⟩
theorem ref_new {w:World} {base:Nat} (hb:base≤w.heap.size):RefIs (w.alloc (.cells #[.slice none 0 0,.slice none 0 0] 58)) base w.heap.size [] :=
  ⟨none,none,0,0,[],rfl,hb,yJb_ _ _,Kd.R_nil _ _ _ _ _,Kd.R_nil _ _ _ _ _,fun i h=>absurd h (Nat.not_lt_zero _)⟩
theorem rd70_at (l:List S39) (i:Nat) (h:i < l.length):rd_T39 l (i:Int)=l[i]:=by
  unfold rd_T39
  rw[Int.toNat_natCast,List.getD_eq_getElem?_getD,List.getElem?_eq_getElem h];rfl
set_option maxRecDepth 100000 in
set_option maxHeartbeats 4000000 in
theorem both_calls (A0:Option Addr) (c0:Nat) (l:List S39) (w:World) (hC:Kd.C k39 w A0 l.length l) (hc:l.length≤c0) (hl:l.length≤100) :
    Calls Tryz.prog 8 #[.slice A0 l.length c0] w fun e w'=>∃ p q:Nat,e=.returned (.tuple #[.pointer (some ⟨p,0,none⟩),.pointer (some ⟨q,0,none⟩),.bool true])∧PastIs w' w.heap.size p (bothL l)∧RefIs w' w.heap.size q (bothL l)∧Below w.heap.size w w':=by
  have HC:=Aside0.mk hC
  have HL:=Aside0.mk hl
  have HCC:=Aside0.mk hc
  clear hC hl hc
  go_enter Tryz.func8,Tryz.ntmps8
  go_wp2_with (go_at_call 26;refine (new_calls _).mono ?_;rintro e w1 ⟨rfl,hp,hb,hk⟩;have HP1:=Aside0.mk hp;have HB1:=Aside0.mk hb;clear hp hb hk)
  have HR2:=Aside0.mk (ref_new (w:=w1) HB1.out.size)
  have HP2:Aside0 (PastIs (w1.alloc (.cells #[.slice none 0 0,.slice none 0 0] 58)) w.heap.size w.heap.size []):=⟨HP1.out.below ((Below.refl _ w1).alloc (Nat.le_refl _) _)⟩
  have HB2:Aside0 (Below w.heap.size w (w1.alloc (.cells #[.slice none 0 0,.slice none 0 0] 58))):=⟨HB1.out.alloc HB1.out.size _⟩
  generalize w1.alloc (.cells #[.slice none 0 0,.slice none 0 0] 58)=W2 at *
  generalize w1.heap.size=q at *
  clear HP1 HB1
  go_loopg [7] (l.length+1) (fun kq v7 w'=>∃ i:Nat,v7=.int .i64 (i:Int)∧Aside0 (l.length - i < kq∧i≤l.length)∧Aside0 (PastIs w' w.heap.size w.heap.size (bothL (l.take i)))∧Aside0 (RefIs w' w.heap.size q (bothL (l.take i)))∧Aside0 (Below w.heap.size w w'))
  case atStart=>exact⟨0,rfl,⟨by omega,by omega⟩,⟨by rw[List.take_zero];exact HP2.out⟩,⟨by rw[List.take_zero];exact HR2.out⟩,HB2⟩
  case round =>
    obtain⟨i,rfl,HI,HPi,HRi,HBi⟩:=hrel
    obtain⟨k1,rfl⟩:∃ k1,gk=k1+1:=⟨gk - 1,by have:=HI.out.1;omega⟩
    by_cases hlt:i < l.length
    rotate_left
    · have hb:decide ((i:Int) < (l.length:Int))=false:=by simp;omega
      have hi:l.take i=l:=List.take_of_length_le (by omega)
      rw[hi] at HPi HRi
      clear hi
      go_wp2_with fail
      go_ret3
      exact⟨_,_,rfl,HPi.out,HRi.out,HBi.out⟩
    have hb:decide ((i:Int) < (l.length:Int))=true:=by simp;omega
    have hb2:decide ((0:Int)≤(i:Int))=true:=by simp
    have pi0:(0:Int)≤(i:Int):=by omega
    have pi1:(i:Int) < (l.length:Int):=by omega
    obtain⟨ad,A1,c1,e0,hx,hy,hf1,hf2⟩:=at_T39 HC.out (i:Int) pi0 pi1
    cases e0
    rw[Int.toNat_natCast] at hx hy
    rw[rd70_at l i hlt] at hx hy hf1 hf2
    have HSU:=Aside0.mk (bothL_succ l i hlt)
    have HLN:Aside0 ((bothL (l.take i)).length≤200):=⟨by have:=bothL_len l i (by omega);have:=HL.out;omega⟩
    have HLT:=Aside0.mk hlt
    generalize bothL (l.take i)=L at *
    generalize hL':bothL (l.take (i+1))=L' at *
    have HL':=Aside0.mk hL'
    clear hL'
    generalize l[i]=x at *
    have HX:=Aside0.mk hx
    have HY:=Aside0.mk hy
    have HF:=Aside0.mk hf2
    have HF1:=Aside0.mk hf1
    have HCM:Aside0 (∀ wr,Below w.heap.size w wr→PastIs wr w.heap.size w.heap.size L→Calls Tryz.prog 25 #[.pointer (some ⟨w.heap.size,0,none⟩),.string x.f0,.slice A1 x.f1.length c1] wr fun e w'=>e=.returned (.tuple #[.int .i64 (commitR L x.f0 x.f1).1,.int .i64 (commitR L x.f0 x.f1).2.1])∧PastIs w' w.heap.size w.heap.size (commitR L x.f0 x.f1).2.2∧Below w.heap.size wr w'∧PKept wr w') :=
      ⟨fun wr hb hp=>commit_calls w.heap.size w.heap.size L x.f0 A1 c1 x.f1 wr hp (Kd.y2_ HF.out hb) HF1.out HLN.out hb.size⟩
    have HRM:Aside0 (∀ wr,Below w.heap.size w wr→RefIs wr w.heap.size q L→Calls Tryz.prog 27 #[.pointer (some ⟨q,0,none⟩),.string x.f0,.slice A1 x.f1.length c1] wr fun e w'=>e=.returned (.tuple #[.int .i64 (commitR L x.f0 x.f1).1,.int .i64 (commitR L x.f0 x.f1).2.1])∧RefIs w' w.heap.size q (commitR L x.f0 x.f1).2.2∧Below w.heap.size wr w'∧RKept wr w') :=
      ⟨fun wr hb hr=>rcommit_calls w.heap.size q L x.f0 A1 c1 x.f1 wr hr (fun w' hb'=>Kd.y2_ HF.out (hb.trans hb')) HF1.out HLN.out hb.size⟩
    rw[← HSU.out] at HCM HRM
    generalize (commitR L x.f0 x.f1).1=r1 at *
    generalize (commitR L x.f0 x.f1).2.1=r2 at *
    clear hx hy hf1 hf2 HSU
    have hx':=(keepS HBi.out HX.out HY.out).1
    go_wp2_with fail
    go_region_held3 (fun w'=>w'.cell? (ad.add (i * 2))=some (.string x.f0)∧w'.cell? ⟨(ad.add (i * 2)).block,(ad.add (i * 2)).off+1,none⟩=some (.slice A1 x.f1.length c1)∧Below w.heap.size w w')
      (first
        | exact keepS HBi.out HX.out HY.out
        | exact keepS HBi.out.drew HX.out HY.out
        | exact keepS HB6.out HX.out HY.out
        | exact keepS HB6.out.drew HX.out HY.out
        | fail)
      (first
        | (go_at_call 25;with_reducible refine (HCM.out _ ?zb ?zc).mono ?_;(case zb=>first|exact HBi.out|exact HBi.out.drew);(case zc=>first|exact HPi.out|exact HPi.out.below (Below.refl _ _).drew);rintro e w6 ⟨rfl,hp6,hb6,hk6⟩;have HP6:=Aside0.mk hp6;have HB6:=Aside0.mk (HBi.out.trans (Below.trans (by first|exact Below.refl _ _|exact (Below.refl _ _).drew) hb6));have HR6:=Aside0.mk ((HRi.out.below (by first|exact Below.refl _ _|exact (Below.refl _ _).drew)).keep hk6);clear hp6 hb6 hk6)
        | fail)
    go_split_ands
    go_wp2_with fail
    go_region_held3 (fun w'=>w'.cell? (ad.add (i * 2))=some (.string x.f0)∧w'.cell? ⟨(ad.add (i * 2)).block,(ad.add (i * 2)).off+1,none⟩=some (.slice A1 x.f1.length c1)∧Below w.heap.size w w')
      (first
        | exact keepS HB6.out HX.out HY.out
        | exact keepS HB6.out.drew HX.out HY.out
        | exact keepS HB8.out HX.out HY.out
        | exact keepS HB8.out.drew HX.out HY.out
        | fail)
      (first
        | (go_at_call 27;with_reducible refine (HRM.out _ ?zb ?zc).mono ?_;(case zb=>first|exact HB6.out|exact HB6.out.drew);(case zc=>first|exact HR6.out|exact HR6.out.below (Below.refl _ _).drew);rintro e w8 ⟨rfl,hr8,hb8,hk8⟩;have HR8:=Aside0.mk hr8;have HB8:=Aside0.mk (HB6.out.trans (Below.trans (by first|exact Below.refl _ _|exact (Below.refl _ _).drew) hb8));have HP8:=Aside0.mk ((HP6.out.below (by first|exact Below.refl _ _|exact (Below.refl _ _).drew)).rkeep hk8);clear hr8 hb8 hk8)
        | fail)
    go_split_ands
    go_wp2_with fail
    go_roundg k1
    case measure=>have:=HI.out.1;have:=HLT.out;omega
    case rel=>exact⟨i+1,congrArg (Value.int .i64) (by first|exact nx i (by have:=HL.out;have:=HLT.out;omega)|(have:=HL.out;have:=HLT.out;omega)),⟨by have:=HI.out.1;have:=HLT.out;omega,by have:=HLT.out;omega⟩,⟨by rw[HL'.out];exact HP8.out⟩,⟨by rw[HL'.out];exact HR8.out⟩,HB8⟩
end Go.Proofs.YthimblhfjfngiaaGreat.PText

namespace Go.Proofs.YthimblhfjfngiaaGreat.PText
open Go.RowKit Go.Lib Go.Sort Go.Proofs.YthimblhfjfngiaaGreatW.PrintWords Go.Proofs.YthimblhfjfngiaaGreatW.PrintLast Go.Proofs.YthimblhfjfngiaaGreatW.PrintMore
set_option linter.unusedVariables false
set_option linter.unusedSimpArgs false
/-- the files of a commit, as a commit leaves them -/
structure Neat (fs:List S41):Prop where
  few:fs.length≤60
  names:(fnames fs).Nodup
  full:¬ ∃ x∈fs,x.f0.toList=[]
  srt:srtF fs=fs
theorem srt_perm (fs:List S41) (hf:fs.length≤10000) (h:(fnames fs).Nodup):(srtF fs).Perm fs:=by
  obtain⟨d,-,h2,h3⟩:=sorted_l0 fs hf (fs.length+3) (Nat.le_refl _) fs.length 0 _ [] (by omega) (by omega) (Nat.le_refl _) (by rw[List.take_zero]) List.Pairwise.nil
  rw[← srt_eq h2 (sortedF_of h3) h];exact h2
theorem neat_srt (fs:List S41) (h1:fs.length≤60) (h2:(fnames fs).Nodup) (h3:¬ ∃ x∈fs,x.f0.toList=[]):Neat (srtF fs):=by
  have hp:=srt_perm fs (by omega) h2
  refine⟨by rw[hp.length_eq];exact h1,(perm_names hp).nodup_iff.2 h2,?_,Tx.ord_ord ltFL_lin (Tx.asc_ord ltFL_lin)⟩
  rintro ⟨x,hx,e⟩
  exact h3 ⟨x,hp.mem_iff.1 hx,e⟩
/-- what a commit leaves -/
theorem commit_cases (L:List Com) (name:ByteArray) (fs:List S41):(commitR L name fs).2.2=L∨((commitR L name fs).2.2=L++[⟨name,srtF fs⟩]∧fs.length≤60∧(fnames fs).Nodup∧¬ ∃ x∈fs,x.f0.toList=[]):=by
  unfold commitR
  by_cases h1:L.length=200∨60 < fs.length
  · rw[if_pos h1];exact .inl rfl
  rw[if_neg h1]
  by_cases h2:¬ (fnames fs).Nodup
  · rw[if_pos h2];exact .inl rfl
  rw[if_neg h2]
  by_cases h3:∃ x∈fs,x.f0.toList=[]
  · rw[if_pos h3];exact .inl rfl
  rw[if_neg h3]
  exact .inr ⟨rfl,by omega,Decidable.of_not_not h2,h3⟩
/-- the commits of steps that are not large -/
structure Fair (B:Nat) (L:List Com):Prop where
  neat:∀ c∈L,Neat c.files
  small:∀ c∈L,∀ x∈c.files,x.f1.size≤B
theorem fair_both (B:Nat) (l:List S39) (h:∀ s∈l,∀ x∈s.f1,x.f1.size≤B):∀ i,i≤l.length→Fair B (bothL (l.take i))
  | 0,_=>by rw[List.take_zero];exact⟨fun c m=>(by cases m),fun c m=>(by cases m)⟩
  | i+1,hi=>by
    have ih:=fair_both B l h i (by omega)
    rw[bothL_succ l i (by omega)]
    rcases commit_cases (bothL (l.take i)) l[i].f0 l[i].f1 with e|⟨e,h1,h2,h3⟩
    · rw[e];exact ih
    · rw[e]
      refine⟨fun c m=>?_,fun c m x hx=>?_⟩
      · rcases List.mem_append.1 m with m|m
        · exact ih.neat c m
        · rw[List.mem_singleton.1 m];exact neat_srt _ h1 h2 h3
      · rcases List.mem_append.1 m with m|m
        · exact ih.small c m x hx
        · rw[List.mem_singleton.1 m] at hx
          exact h l[i] (List.getElem_mem _) x ((srt_perm l[i].f1 (by omega) h2).mem_iff.1 hx)
/-- a commit that has a line in a file -/
def HasLine (L:List Com) (file:ByteArray) (x:List UInt8) (k:Int):Prop:=∃ i:Nat,∃ h:i < L.length,k=(i:Int)∧∃ f∈L[i].files,f.f0.toList=file.toList∧x∈Tx.lines (bL f.f1)
theorem findR_mem {l:List S41} {file:ByteArray} {x:List UInt8} (h:x∈Tx.lines (bL (findR l file).1)):∃ f∈l,f.f0.toList=file.toList∧x∈Tx.lines (bL f.f1):=by
  rcases find_split file l with ⟨k,hk,q1,-,q3⟩|⟨-,q2⟩
  · rw[q3] at h
    refine⟨l[k],List.getElem_mem hk,?_,h⟩
    unfold nameP at q1
    exact of_decide_eq_true (by simpa using q1)
  · rw[q2] at h;cases h
theorem blGo_lines (A:List Com) (file:ByteArray):∀ (L:List Com) (k:Nat) (old:ByteArray) (out:List Int),A.drop k=L→k≤A.length→out.length=(linesB old).length→(∀ i,∀ h:i < (Tx.lines (bL old)).length,∀ h':i < out.length,HasLine A file (Tx.lines (bL old))[i] out[i])→(blGo file L k old out).2=0 →
    ∃ t,(L=[]→t=old)∧(∀ hL:L≠[],t=(findR (L.getLast hL).files file).1)∧(blGo file L k old out).1.length=(linesB t).length∧∀ i,∀ h:i < (Tx.lines (bL t)).length,∀ h':i < (blGo file L k old out).1.length,HasLine A file (Tx.lines (bL t))[i] (blGo file L k old out).1[i]
  | [],k,old,out,hA,hk,hl,hg,_=>⟨old,fun _=>rfl,fun h=>absurd rfl h,hl,hg⟩
  | c :: L,k,old,out,hA,hk,hl,hg,hz=>by
    have hkA:k < A.length:=by
      rcases Nat.lt_or_ge k A.length with h|h
      · exact h
      · rw[List.drop_eq_nil_of_le h] at hA;cases hA
    have hc:A[k]=c∧A.drop (k+1)=L:=by
      rw[List.drop_eq_getElem_cons hkA] at hA
      exact List.cons.inj hA
    have hgo:blGo file (c :: L) k old out=if (editsR old (findR c.files file).1).2≠0 then ([],(editsR old (findR c.files file).1).2) else blGo file L (k+1) (findR c.files file).1 (blameR old (findR c.files file).1 out (k:Int)):=rfl
    by_cases he:(editsR old (findR c.files file).1).2≠0
    · rw[hgo,if_pos he] at hz
      exact absurd hz he
    rw[if_neg he] at hgo
    rw[hgo] at hz ⊢
    have hbr:blameR old (findR c.files file).1 out (k:Int)=Tx.bl (Tx.lines (bL old)) out (k:Int) 0 (Tx.edits (bL old) (bL (findR c.files file).1)):=by unfold blameR;rw[if_neg he]
    have hb:=Tx.bl_edits (bL old) (bL (findR c.files file).1) out (k:Int) (by rw[hl,yrb_]) (HasLine A file) (fun i h=>hg i h (by rw[hl,yrb_];exact h)) (fun x hx=>by
      obtain⟨f,h1,h2,h3⟩:=findR_mem hx
      exact⟨k,hkA,rfl,f,by rw[hc.1];exact h1,h2,h3⟩)
    obtain⟨t,t1,t2,t3,t4⟩:=blGo_lines A file L (k+1) (findR c.files file).1 (blameR old (findR c.files file).1 out (k:Int)) hc.2 (by omega) (by rw[hbr,hb.1,yrb_]) (fun i h h'=>by
      have:=hb.2 i h (by rw[← hbr];exact h')
      simp only[hbr];exact this) hz
    refine⟨t,fun h=>(by cases h),fun hL=>?_,t3,t4⟩
    by_cases hLn:L=[]
    · subst hLn
      exact t1 rfl
    rw[List.getLast_cons hLn]
    exact t2 hLn
/-- each line of a file is blamed on a commit whose file has it -/
theorem blameA_lines (L:List Com) (file:ByteArray) (hL:L≠[]) (hz:(blameA L file).2=0):(blameA L file).1.length=(linesB (findR (L.getLast hL).files file).1).length∧∀ i,∀ h:i < (Tx.lines (bL (findR (L.getLast hL).files file).1)).length,∀ h':i < (blameA L file).1.length,HasLine L file (Tx.lines (bL (findR (L.getLast hL).files file).1))[i] (blameA L file).1[i]:=by
  have hA:blameA L file=if (findR (L.getLast hL).files file).2=true then blGo file L 0 ⟨#[]⟩ [] else ([],4):=by unfold blameA;rw[List.getLast?_eq_some_getLast hL]
  by_cases hf:(findR (L.getLast hL).files file).2=true
  rotate_left
  · rw[if_neg hf] at hA
    rw[hA] at hz;cases hz
  rw[if_pos hf] at hA
  rw[hA] at hz ⊢
  obtain⟨t,-,t2,t3,t4⟩:=blGo_lines L file L 0 ⟨#[]⟩ [] (by rw[List.drop_zero]) (Nat.zero_le _) rfl (fun i h=>absurd h (by show ¬ i < 0;omega)) hz
  have e:=t2 hL
  subst e
  exact⟨t3,t4⟩
end Go.Proofs.YthimblhfjfngiaaGreat.PText

namespace Go.Proofs.YthimblhfjfngiaaGreat.PText
open Go.RowKit Go.Lib Go.Sort Go.Proofs.YthimblhfjfngiaaGreatW.PrintWords Go.Proofs.YthimblhfjfngiaaGreatW.PrintLast Go.Proofs.YthimblhfjfngiaaGreatW.PrintMore
set_option linter.unusedVariables false
set_option linter.unusedSimpArgs false
/-- steps of an argument: no text is longer than memory -/
def Held (l:List S39):Prop:=l.length≤140737488355328∧∀ s∈l,s.f1.length≤140737488355328∧∀ x∈s.f1,x.f0.size≤140737488355328∧x.f1.size≤140737488355328
theorem w4 (n a b:Int) (h0:0≤n) (h1:n≤6000) (ha:0≤a) (ha2:a≤140737488355328) (hb:0≤b) (hb2:b≤140737488355328):wrap64 (wrap64 (wrap64 (n+1)+a)+b)=n+1+a+b:=by
  rw[w64 (x:=n+1) (by omega) (by omega),w64 (x:=n+1+a) (by omega) (by omega),w64 (by omega) (by omega)]
theorem nx48 (j:Nat) (h:j≤140737488355328):wrap64 ((j:Int)+1)=((j+1:Nat):Int):=by rw[w64 (by omega) (by omega)];omega
theorem heavy_step (l:List S39) (h:Held l) (i:Nat) (hi:i < l.length) (j k:Nat) (n:Int) (h0:0≤n) (h1:n≤6000) (hj:j < l[i].f1.length) :
    yl_.l1 (k+1) l n (i:Int) (j:Int)=yl_.l1 k l (n+1+(l[i].f1[j].f0.size:Int)+(l[i].f1[j].f1.size:Int)) (i:Int) ((j+1:Nat):Int):=by
  have hr:rd_T39 l (i:Int)=l[i]:=rd70_at l i hi
  have hs:=(h.2 l[i] (List.getElem_mem hi))
  have hx:=hs.2 l[i].f1[j] (List.getElem_mem hj)
  rw[yl_.l1,if_pos (by omega),if_pos (by omega),hr,if_pos (by omega),if_pos h1,if_pos (by omega),rd53_at _ j hj,w4 n _ _ h0 h1 (by omega) (by have:=hx.1;omega) (by omega) (by have:=hx.2;omega),nx48 j (by have:=hs.1;omega)]
theorem heavy_stop (l:List S39) (i:Nat) (hi:i < l.length) (j k:Nat) (n:Int) (h:¬ (n≤6000∧j < l[i].f1.length)) :
    yl_.l1 (k+1) l n (i:Int) (j:Int)=yl_.l0 k l n (wrap64 ((i:Int)+1)):=by
  have hr:rd_T39 l (i:Int)=l[i]:=rd70_at l i hi
  rw[yl_.l1,if_pos (by omega),if_pos (by omega),hr]
  by_cases c1:(j:Int) < (l[i].f1.length:Int)
  rotate_left
  · rw[if_neg c1]
  rw[if_pos c1,if_neg (by omega)]
theorem heavy_l1 (l:List S39) (h:Held l) (i:Nat) (hi:i < l.length):∀ (M j k:Nat) (n:Int),6001 - n≤(M:Int)→0≤n→j≤l[i].f1.length→M+3≤k →
    ∃ (n':Int) (k':Nat),k≤k'+M+2∧0≤n'∧n≤n'∧(n'≤6000→∀ x∈l[i].f1.drop j,x.f1.size≤6000)∧yl_.l1 k l n (i:Int) (j:Int)=yl_.l0 k' l n' (wrap64 ((i:Int)+1))
  | M,j,0,n,hM,h0,hj,hk=>absurd hk (by omega)
  | M,j,k+1,n,hM,h0,hj,hk=>by
    by_cases c:n≤6000∧j < l[i].f1.length
    rotate_left
    · rw[heavy_stop l i hi j k n c]
      refine⟨n,k,by omega,h0,Int.le_refl _,fun hn x hx=>?_,rfl⟩
      rw[List.drop_eq_nil_of_le (by omega)] at hx;cases hx
    obtain⟨c1,c2⟩:=c
    have hM0:M≠0:=by intro e;subst e;omega
    obtain⟨M',rfl⟩:∃ M',M=M'+1:=Nat.exists_eq_succ_of_ne_zero hM0
    rw[heavy_step l h i hi j k n h0 c1 c2]
    obtain⟨n',k',q1,q2,q4,q5,q6⟩:=heavy_l1 l h i hi M' (j+1) k (n+1+(l[i].f1[j].f0.size:Int)+(l[i].f1[j].f1.size:Int)) (by omega) (by omega) (by omega) (by omega)
    refine⟨n',k',by omega,q2,by omega,fun hn x hx'=>?_,q6⟩
    rw[List.drop_eq_getElem_cons c2] at hx'
    rcases List.mem_cons.1 hx' with rfl|hx'
    · omega
    · exact q5 hn x hx'
theorem heavy_l0 (l:List S39) (h:Held l) (F:Nat) (hF:6006≤F):∀ (m i k:Nat) (n:Int),l.length - i=m→i≤l.length→0≤n→m * F+10≤k→∃ r,yl_.l0 k l n (i:Int)=some r∧(r=false→n≤6000∧l.length≤30∧∀ s∈l.drop i,∀ x∈s.f1,x.f1.size≤6000)
  | 0,i,k,n,hm,hi,h0,hk=>by
    obtain⟨k,rfl⟩:∃ q,k=q+1+1:=⟨k - 2,by omega⟩
    rw[yl_.l0,if_neg (by omega),yl_.j1,if_neg (by decide)]
    by_cases c:n > 6000
    · rw[if_pos c];exact⟨true,rfl,fun q=>by cases q⟩
    rw[if_neg c]
    refine⟨_,rfl,fun q=>⟨by omega,by have:=of_decide_eq_false q;omega,fun s hs=>?_⟩⟩
    rw[List.drop_eq_nil_of_le (by omega)] at hs;cases hs
  | m+1,i,k,n,hm,hi,h0,hk=>by
    have hil:i < l.length:=by omega
    rw[Nat.succ_mul] at hk
    obtain⟨k,rfl⟩:∃ q,k=q+1+1:=⟨k - 2,by omega⟩
    rw[yl_.l0,if_pos (by omega),yl_.j1]
    by_cases c:n≤6000
    rotate_left
    · rw[if_neg (by simpa using c)]
      by_cases c2:n > 6000
      rotate_left
      · omega
      rw[if_pos c2];exact⟨true,rfl,fun q=>by cases q⟩
    obtain⟨n',k',q1,q2,q4,q5,q6⟩:=heavy_l1 l h i hil 6001 0 k n (by omega) h0 (Nat.zero_le _) (by omega)
    rw[if_pos (by simpa using c)]
    rw[show ((0:Nat):Int)=0 from rfl] at q6
    rw[q6,nx48 i (by have:=h.1;omega)]
    obtain⟨r,r1,r2⟩:=heavy_l0 l h F hF m (i+1) k' n' (by omega) (by omega) q2 (by omega)
    refine⟨r,r1,fun e=>?_⟩
    obtain⟨z1,z2,z3⟩:=r2 e
    refine⟨c,z2,fun s hs x hx=>?_⟩
    rw[List.drop_eq_getElem_cons hil] at hs
    rcases List.mem_cons.1 hs with rfl|hs
    · exact q5 z1 x (by rwa [List.drop_zero])
    · exact z3 s hs x hx
theorem heavy_f (l:List S39) (h:Held l) (F:Nat) (hF:6006≤F):∃ r,yl_.f (l.length * F+10) l=some r∧(r=false→l.length≤30∧∀ s∈l,∀ x∈s.f1,x.f1.size≤6000):=by
  obtain⟨r,r1,r2⟩:=heavy_l0 l h F hF l.length 0 _ 0 (by omega) (by omega) (by omega) (Nat.le_refl _)
  refine⟨r,r1,fun e=>?_⟩
  have:=r2 e
  rw[List.drop_zero] at this
  exact this.2
theorem eqInts_l0 (l:List Int) (hl:l.length≤1000000):∀ (m i k:Nat),l.length - i=m→i≤l.length→m+1≤k→y4_.l0 k l l (i:Int)=some true
  | 0,i,k,hm,hi,hk=>by
    obtain⟨k,rfl⟩:∃ q,k=q+1:=⟨k - 1,by omega⟩
    rw[y4_.l0,if_neg (by omega)]
  | m+1,i,k,hm,hi,hk=>by
    obtain⟨k,rfl⟩:∃ q,k=q+1:=⟨k - 1,by omega⟩
    rw[y4_.l0,if_pos (by omega),if_pos (by omega),if_pos (by omega),if_pos rfl,nx i (by omega)]
    exact eqInts_l0 l hl m (i+1) k (by omega) (by omega) (by omega)
theorem eqInts_f (l:List Int) (hl:l.length≤1000000) (k:Nat) (hk:l.length+1≤k):y4_.f k l l=some true:=by
  unfold y4_.f
  rw[if_pos rfl]
  exact eqInts_l0 l hl l.length 0 k (by omega) (by omega) hk
end Go.Proofs.YthimblhfjfngiaaGreat.PText

namespace Go.Proofs.YthimblhfjfngiaaGreat.PText
open Go.RowKit Go.Lib Go.Sort Go.Proofs.YthimblhfjfngiaaGreatW.PrintWords Go.Proofs.YthimblhfjfngiaaGreatW.PrintLast Go.Proofs.YthimblhfjfngiaaGreatW.PrintMore
set_option linter.unusedVariables false
set_option linter.unusedSimpArgs false
theorem blGo_err (file:ByteArray):∀ (L:List Com) (k:Nat) (old:ByteArray) (out:List Int),(blGo file L k old out).2≠0→(blGo file L k old out).1=[]
  | [],k,old,out,h=>absurd rfl h
  | c :: L,k,old,out,h=>by
    have hgo:blGo file (c :: L) k old out=if (editsR old (findR c.files file).1).2≠0 then ([],(editsR old (findR c.files file).1).2) else blGo file L (k+1) (findR c.files file).1 (blameR old (findR c.files file).1 out (k:Int)):=rfl
    by_cases he:(editsR old (findR c.files file).1).2≠0
    · rw[hgo,if_pos he]
    rw[hgo,if_neg he] at h ⊢
    exact blGo_err file L _ _ _ h
theorem blameA_len (L:List Com) (file:ByteArray) (hF:Fair 6000 L):(blameA L file).1.length≤6000:=by
  by_cases hL:L=[]
  · subst hL;exact Nat.zero_le _
  by_cases hz:(blameA L file).2=0
  · rw[(blameA_lines L file hL hz).1]
    have h1:=yKb_ (findR (L.getLast hL).files file).1
    have h2:=yEb_ (file:=file) (hF.small _ (List.getLast_mem hL))
    omega
  have hA:blameA L file=if (findR (L.getLast hL).files file).2=true then blGo file L 0 ⟨#[]⟩ [] else ([],4):=by unfold blameA;rw[List.getLast?_eq_some_getLast hL]
  by_cases hf:(findR (L.getLast hL).files file).2=true
  rotate_left
  · rw[if_neg hf] at hA
    rw[hA];exact Nat.zero_le _
  rw[if_pos hf] at hA
  rw[hA] at hz ⊢
  rw[blGo_err file L _ _ _ hz];exact Nat.zero_le _
theorem Fair.toTiny {L:List Com} (h:Fair 6000 L):Tiny L:=fun c m=>⟨by have:=(h.neat c m).few;omega,fun x hx=>by have:=h.small c m x hx;omega⟩
set_option maxRecDepth 100000 in
set_option maxHeartbeats 8000000 in
theorem blames_calls (A0:Option Addr) (c0:Nat) (l:List S39) (file line:ByteArray) (w:World) (hC:Kd.C k39 w A0 l.length l) (hc:l.length≤c0) (hH:Held l) (hls:line.size≤9223372036854775807) :
    Calls Tryz.prog 3 #[.slice A0 l.length c0,.string file,.string line] w fun e w'=>e=.returned (.bool true)∧Below w.heap.size w w':=by
  obtain⟨r,hr1,hr2⟩:=heavy_f l hH 6006 (Nat.le_refl _)
  have HV:=Aside0.mk (yl_.calls _ A0 c0 l r w hC hc hr1)
  have HAW:Aside0 (∀ w,Calls Tryz.prog 14 #[] w fun e w'=>e=.returned (.bool true)∧Below w.heap.size w w'):=⟨fun w=>smockinglaw25_awake.calls true w rfl⟩
  clear hr1 hH
  cases r
  · obtain⟨hl,hsz⟩:=hr2 rfl
    have HFA:=Aside0.mk (fair_both 6000 l hsz l.length (Nat.le_refl _))
    rw[List.take_length] at HFA
    have HBL:Aside0 ((bothL l).length≤l.length):=⟨by have:=bothL_len l l.length (Nat.le_refl _);rwa [List.take_length] at this⟩
    have HL:=Aside0.mk hl
    have HBO:Aside0 (∀ w1,Below w.heap.size w w1→Calls Tryz.prog 8 #[.slice A0 l.length c0] w1 fun e w'=>∃ p q:Nat,e=.returned (.tuple #[.pointer (some ⟨p,0,none⟩),.pointer (some ⟨q,0,none⟩),.bool true])∧PastIs w' w1.heap.size p (bothL l)∧RefIs w' w1.heap.size q (bothL l)∧Below w1.heap.size w1 w') :=
      ⟨fun w1 hb=>both_calls A0 c0 l w1 (Kd.y2_ hC hb) hc (by omega)⟩
    clear hC hc hr2 hl hsz
    generalize bothL l=L at *
    have HL3:Aside0 (L.length≤1000):=⟨by have:=HL.out;have:=HBL.out;omega⟩
    have HT:Aside0 (Tiny L):=⟨HFA.out.toTiny⟩
    have HBM:Aside0 (∀ b p wr,PastIs wr b p L→Calls Tryz.prog 9 #[.pointer (some ⟨p,0,none⟩),.string file] wr fun e w'=>∃ v,e=.returned (.tuple #[v,.int .i64 (blameA L file).2])∧Kd.R (Kd.int .i64) 3 w' wr.heap.size (fun _=>True) v (blameA L file).1∧Below wr.heap.size wr w'):=⟨fun b p wr h=>blame_calls b p L file wr h HL3.out HT.out.small⟩
    have HRM:Aside0 (∀ b q wr,RefIs wr b q L→Calls Tryz.prog 10 #[.pointer (some ⟨q,0,none⟩),.string file] wr fun e w'=>∃ v,e=.returned (.tuple #[v,.int .i64 (blameA L file).2])∧Kd.R (Kd.int .i64) 3 w' wr.heap.size (fun _=>True) v (blameA L file).1∧Below wr.heap.size wr w'):=⟨fun b q wr h=>rblame_calls b q L file wr h HL3.out HT.out⟩
    have HFM:Aside0 (∀ b p wr,PastIs wr b p L→Calls Tryz.prog 11 #[.pointer (some ⟨p,0,none⟩),.string file,.string line] wr fun e w'=>e=.returned (.tuple #[.int .i64 (findA L file line).1,.int .i64 (findA L file line).2])∧Below wr.heap.size wr w'):=⟨fun b p wr h=>pfind_calls b p L file line wr h HL3.out HT.out.small⟩
    have HFR:Aside0 (∀ b q wr,RefIs wr b q L→Calls Tryz.prog 12 #[.pointer (some ⟨q,0,none⟩),.string file,.string line] wr fun e w'=>e=.returned (.tuple #[.int .i64 (findA L file line).1,.int .i64 (findA L file line).2])∧Below wr.heap.size wr w'):=⟨fun b q wr h=>rpfind_calls b q L file line wr h HL3.out HT.out⟩
    have hal:=blameA_len L file HFA.out
    have HEQ:=Aside0.mk (eqInts_f (blameA L file).1 (by omega) 10000 (by omega))
    have HAL:=Aside0.mk hal
    clear hal HFA
    generalize (blameA L file).1=a at *
    generalize (blameA L file).2=er at *
    generalize (findA L file line).1=f1 at *
    generalize (findA L file line).2=f2 at *
    by_cases hg:line.size > 1000
    · have hg1:decide ((1000:Int) < (line.size:Int))=true:=decide_eq_true (by omega)
      have hg2:decide (1000 < line.size)=true:=decide_eq_true (by omega)
      clear HBO HBM HRM HFM HFR HAW
      go_enter Tryz.func3,Tryz.ntmps3
      go_wp2_with (first
        | (go_at_call 7;refine HV.out.mono ?_;rintro e w1 ⟨rfl,hd⟩;have HB1:=Aside0.mk hd.below;clear hd HV)
        | fail)
      go_ret
      exact⟨rfl,HB1.out⟩
    have hg1:decide ((1000:Int) < (line.size:Int))=false:=decide_eq_false (by omega)
    have hg2:decide (1000 < line.size)=false:=decide_eq_false (by omega)
    go_enter Tryz.func3,Tryz.ntmps3
    go_wp2_with (first
      | (go_at_call 7;refine HV.out.mono ?_;rintro e w1 ⟨rfl,hd⟩;have HB1:=Aside0.mk hd.below;clear hd HV)
      | (go_at_call 8;with_reducible refine (HBO.out _ HB1.out).mono ?_;rintro e w2 ⟨p,q,rfl,hp,hq,hb⟩;have HP2:=Aside0.mk hp;have HQ2:=Aside0.mk hq;have HB2:=Aside0.mk (HB1.out.trans (hb.mono HB1.out.size));clear hp hq hb HBO)
      | (go_at_call 9;with_reducible refine (HBM.out _ _ _ HP2.out).mono ?_;rintro e w3 ⟨v3,rfl,ho,hb⟩;obtain⟨A3,c3,rfl⟩:=Kd.yw_ ho;have HO3:=Aside0.mk ho;have HB3:=Aside0.mk (yn_ HB2.out hb);have HP3:=Aside0.mk (HP2.out.below hb);have HQ3:=Aside0.mk (HQ2.out.below hb);clear ho hb HBM)
      | (go_at_call 10;with_reducible refine (HRM.out _ _ _ HQ3.out).mono ?_;rintro e w4 ⟨v4,rfl,ho,hb⟩;obtain⟨A4,c4,rfl⟩:=Kd.yw_ ho;have HO4:=Aside0.mk ho;have HB4:=Aside0.mk (yn_ HB3.out hb);have HP4:=Aside0.mk (HP3.out.below hb);have HQ4:=Aside0.mk (HQ3.out.below hb);have HO34:=Aside0.mk (Kd.yT_ HO3.out hb);clear ho hb HRM)
      | (go_at_call 11;with_reducible refine (HFM.out _ _ _ HP4.out).mono ?_;rintro e w5 ⟨rfl,hb⟩;have HB5:=Aside0.mk (yn_ HB4.out hb);have HQ5:=Aside0.mk (HQ4.out.below hb);have HO45:=Aside0.mk (Kd.yT_ HO4.out hb);have HO35:=Aside0.mk (Kd.yT_ HO34.out hb);clear hb HFM)
      | (go_at_call 12;with_reducible refine (HFR.out _ _ _ HQ5.out).mono ?_;rintro e w6 ⟨rfl,hb⟩;have HB6:=Aside0.mk (yn_ HB5.out hb);have HO46:=Aside0.mk (Kd.yj_ (Kd.yT_ HO45.out hb));have HO36:=Aside0.mk (Kd.yj_ (Kd.yT_ HO35.out hb));clear hb HFR)
      | (go_at_call 13;refine (y4_.calls 10000 A3 c3 a A4 c4 a true _ HO36.out.2.2 HO36.out.2.1 HO46.out.2.2 HO46.out.2.1 HEQ.out).mono ?_;rintro e w7 ⟨rfl,hd⟩;have HB7:=Aside0.mk (yn_ HB6.out hd.below);clear hd)
      | (go_at_call 14;refine (HAW.out _).mono ?_;rintro e w20 ⟨rfl,hb⟩;have HB20:=Aside0.mk hb;clear hb)
      | fail)
    go_ret
    exact⟨rfl,yn_ HB7.out HB20.out⟩
  · clear hr2
    go_enter Tryz.func3,Tryz.ntmps3
    go_wp2_with (first
      | (go_at_call 7;refine HV.out.mono ?_;rintro e w1 ⟨rfl,hd⟩;have HB1:=Aside0.mk hd.below;clear hd HV)
      | fail)
    go_ret
    exact⟨rfl,HB1.out⟩
end Go.Proofs.YthimblhfjfngiaaGreat.PText

namespace Go.Proofs.YthimblhfjfngiaaGreat.PText
open Go.RowKit Go.ChangeShapes Go.WideShapes Go.Proofs.YthimblhfjfngiaaGreatW.PrintWords Go.Proofs.YthimblhfjfngiaaGreatW.PrintLast Go.Proofs.YthimblhfjfngiaaGreatW.PrintMore
/-- a file as data -/
def fiD {H:Type} (x:S41):DataW H:=.agg [.lit (.string x.f0.data.toList),.lit (.string x.f1.data.toList)]
theorem p_cells53:Tryz.prog.cellsOf 41=2:=by kernel_rfl
theorem p_cells46:Tryz.prog.cellsOf 37=1:=by kernel_rfl
theorem p_cells9:Tryz.prog.cellsOf 9=1:=by kernel_rfl
theorem p_cells70:Tryz.prog.cellsOf 39=2:=by kernel_rfl
theorem p_bytes53:Tryz.prog.bytesOf 41=32:=by kernel_rfl
theorem p_bytes70:Tryz.prog.bytesOf 39=40:=by kernel_rfl
theorem p_one_cell {α:Type} {l:List α} {n:Nat} (i:Nat) (h:l.length=n) (hi:i < n):∃ v,l[i]?=some v∧(l.drop i).take 1=[v]:=by
  refine⟨l[i],List.getElem?_eq_getElem (by omega),?_⟩
  rw[List.drop_eq_getElem_cons (by omega)]
  rfl
theorem open_file {H:Type} {enc:TypeId × Value→H} {W:World} {base:Nat} {sp:Nat→Bool} {held:Bool} {n:Nat} {a:Addr} {cs:List Value} {x:DataW H × List MemPlace}
    (h1:W.cells? base a 2=some cs) (h2:DataW.trod enc Tryz.prog W base sp held n 41 cs=some x) :
    ∃ t:S41,x.1=fiD t∧∀ i u,[Value.string t.f0,.string t.f1][i]?=some u→W.cell? (a.add i)=some u:=by
  obtain⟨_,hlen,hcell⟩:=World.cells?_some h1
  obtain⟨xs,k,-,rfl,-,hxl,hf⟩:=DataW.trod_struct Tryz.underlying41 h2
  obtain⟨v0,e0,d0⟩:=p_one_cell 0 hlen (by omega)
  obtain⟨v1,e1,d1⟩:=p_one_cell 1 hlen (by omega)
  match xs,hxl with
  | [y0,y1],_ =>
    have g0:DataW.trod enc Tryz.prog W base sp held k 9 ((cs.drop 0).take (Tryz.prog.cellsOf 9))=some y0:=hf 0 _ rfl
    have g1:DataW.trod enc Tryz.prog W base sp held k 9 ((cs.drop 1).take (Tryz.prog.cellsOf 9))=some y1:=hf 1 _ rfl
    rw[p_cells9,d0] at g0
    rw[p_cells9,d1] at g1
    obtain⟨m0,q0,z0,-⟩:=DataW.trod_string Tryz.underlying9 g0
    obtain⟨m1,q1,z1,-⟩:=DataW.trod_string Tryz.underlying9 g1
    obtain rfl:v0=.string m0:=by simpa using q0
    obtain rfl:v1=.string m1:=by simpa using q1
    refine⟨⟨m0,m1⟩,by rw[z0,z1];rfl,?_⟩
    intro i u hu
    match i,hu with
    | 0,hu=>rw[hcell 0 (by omega),e0];exact hu
    | 1,hu=>rw[hcell 1 (by omega),e1];exact hu
    | (i+2),hu=>simp at hu
theorem pweight_all {H:Type} {P:Program} {e:TypeId} {n:Nat}:∀ {l:List (DataW H)} {d:DataW H},d∈l→n∈d.weights P e→n∈DataW.weightsAll P e l
  | x :: l,d,h,hn=>by
    simp only[DataW.weightsAll,List.mem_append]
    rcases List.mem_cons.1 h with h|h
    · subst h;exact .inl hn
    · exact .inr (pweight_all h hn)
/-- files that are read -/
theorem open_files {H:Type} {enc:TypeId × Value→H} {W:World} {base:Nat} {sp:Nat→Bool} {held:Bool} {fuel:Nat} {v:Value} {x:DataW H × List MemPlace} (hf:DataW.trod enc Tryz.prog W base sp held fuel 37 [v]=some x) :
    ∃ (A:Option Addr) (cap:Nat) (l:List S41),v=.slice A l.length cap∧l.length≤cap∧Kd.C k41 W A l.length l∧∀ B:Nat,(∀ n∈x.1.weights Tryz.prog 37,n≤B)→l.length≤B∧∀ y∈l,y.f0.size≤B∧y.f1.size≤B:=by
  have hinh:Inhabited S41:=⟨z41⟩
  rcases Deep.open_slice Tryz.underlying37 hf with ⟨hcs,hx⟩|⟨a,len,cap,m,n,D,Pl,hcs,hb,hl,hm,hmm,hx,hel⟩
  · obtain rfl:v=.slice none 0 0:=by simpa using hcs
    exact⟨none,0,[],rfl,Nat.le_refl _,⟨rfl,by simp,fun h=>absurd h (by simp)⟩,fun B _=>⟨Nat.zero_le _,fun y hy=>by cases hy⟩⟩
  · obtain rfl:v=.slice (some a) len cap:=by simpa using hcs
    have hlm:len≤m:=by rw[hmm];split <;> omega
    obtain⟨q,hq⟩:=Deep.choose_lt (α:=S41) (n:=len) (p:=fun i t=>D i=fiD t∧∀ j u,[Value.string t.f0,.string t.f1][j]?=some u→W.cell? ((a.add (i * 2)).add j)=some u) (fun i hi=>by
      obtain⟨cs',h1,h2⟩:=hel i (by omega)
      rw[p_cells53] at h1
      obtain⟨t,t1,t2⟩:=open_file h1 h2
      exact⟨t,t1,t2⟩)
    have hlen:((List.range len).map q).length=len:=by simp
    refine⟨some a,cap,(List.range len).map q,by rw[hlen],by rw[hlen];exact hl,⟨rfl,by rw[hlen];unfold maxLen at hm;omega,fun _=>⟨a,rfl,fun j t hj=>?_⟩⟩,?_⟩
    · have hj2:j < len:=by
        rcases Nat.lt_or_ge j len with h|h
        · exact h
        · rw[List.getElem?_eq_none (by rw[hlen];exact h)] at hj;cases hj
      have ht:t=q j:=by
        rw[List.getElem?_map,List.getElem?_range hj2] at hj
        exact (Option.some.inj hj).symm
      subst ht
      refine⟨_,rfl,k41_mk W (q j),fun i u hu=>?_⟩
      have:=(hq j hj2).2 i u hu
      rw[Deep.add_add] at this
      exact this
    · intro B hB
      have hd:x.1=.slice ((List.range len).map D) ((List.range (m - len)).map fun j=>D (len+j)):=congrArg Prod.fst hx
      rw[hd] at hB
      simp only[DataW.weights,Tryz.underlying37] at hB
      constructor
      · have:=hB _ List.mem_cons_self
        rw[p_bytes53,List.length_map,List.length_range] at this
        rw[hlen]
        omega
      · intro y hy
        obtain⟨i,hi,rfl⟩:=List.mem_map.1 hy
        have hi':=List.mem_range.1 hi
        have key:∀ z,z∈(fiD (H:=H) (q i)).weights Tryz.prog 41→z≤B:=fun z hz=>hB z (List.mem_cons_of_mem _ (List.mem_append_left _ (pweight_all (List.mem_map.2 ⟨i,hi,rfl⟩) (by rw[(hq i hi').1];exact hz))))
        have e0:(q i).f0.size=(q i).f0.data.toList.length:=by rw[Array.length_toList];rfl
        have e1:(q i).f1.size=(q i).f1.data.toList.length:=by rw[Array.length_toList];rfl
        constructor
        · refine key _ ?_
          rw[e0]
          simp only[fiD,DataW.weights,Tryz.underlying41]
          simp [DataW.weightsEach,DataW.weights]
        · refine key _ ?_
          rw[e1]
          simp only[fiD,DataW.weights,Tryz.underlying41]
          simp [DataW.weightsEach,DataW.weights]
theorem open_step {H:Type} {enc:TypeId × Value→H} {W:World} {base:Nat} {sp:Nat→Bool} {held:Bool} {n:Nat} {a:Addr} {cs:List Value} {x:DataW H × List MemPlace}
    (h1:W.cells? base a 2=some cs) (h2:DataW.trod enc Tryz.prog W base sp held n 39 cs=some x) :
    ∃ (t:S39) (A:Option Addr) (cap:Nat),t.f1.length≤cap∧Kd.C k41 W A t.f1.length t.f1∧(∀ i u,[Value.string t.f0,.slice A t.f1.length cap][i]?=some u→W.cell? (a.add i)=some u) ∧
      ∀ B:Nat,(∀ n∈x.1.weights Tryz.prog 39,n≤B)→t.f1.length≤B∧∀ y∈t.f1,y.f0.size≤B∧y.f1.size≤B:=by
  obtain⟨_,hlen,hcell⟩:=World.cells?_some h1
  obtain⟨xs,k,-,rfl,-,hxl,hf⟩:=DataW.trod_struct Tryz.underlying39 h2
  obtain⟨v0,e0,d0⟩:=p_one_cell 0 hlen (by omega)
  obtain⟨v1,e1,d1⟩:=p_one_cell 1 hlen (by omega)
  match xs,hxl with
  | [y0,y1],_ =>
    have g0:DataW.trod enc Tryz.prog W base sp held k 9 ((cs.drop 0).take (Tryz.prog.cellsOf 9))=some y0:=hf 0 _ rfl
    have g1:DataW.trod enc Tryz.prog W base sp held k 37 ((cs.drop 1).take (Tryz.prog.cellsOf 37))=some y1:=hf 1 _ rfl
    rw[p_cells9,d0] at g0
    rw[p_cells46,d1] at g1
    obtain⟨m0,q0,z0,-⟩:=DataW.trod_string Tryz.underlying9 g0
    obtain⟨A,cap,l,rfl,l1,l2,l3⟩:=open_files g1
    obtain rfl:v0=.string m0:=by simpa using q0
    refine⟨⟨m0,l⟩,A,cap,l1,l2,?_,fun B hB=>l3 B fun z hz=>hB z ?_⟩
    · intro i u hu
      match i,hu with
      | 0,hu=>rw[hcell 0 (by omega),e0];exact hu
      | 1,hu=>rw[hcell 1 (by omega),e1];exact hu
      | (i+2),hu=>simp at hu
    · simp only[DataW.weights,Tryz.underlying39]
      simp only[List.map_cons,List.map_nil]
      simp [DataW.weightsEach]
      exact .inr hz
/-- a slice of steps that is read -/
theorem open_steps {H:Type} {enc:TypeId × Value→H} {W:World} {base:Nat} {sp:Nat→Bool} {held:Bool} {A:Option Addr} {len cap:Nat} {d:DataW H} {p:List MemPlace}
    (h:DataW.Trod enc Tryz.prog W base sp held 22 (.slice A len cap) d p) :
    ∃ l:List S39,l.length=len∧len≤cap∧Kd.C k39 W A len l∧∀ B:Nat,(∀ n∈d.weights Tryz.prog 22,n≤B)→l.length≤B∧∀ s∈l,s.f1.length≤B∧∀ y∈s.f1,y.f0.size≤B∧y.f1.size≤B:=by
  have hinh:Inhabited S39:=⟨z39⟩
  obtain⟨fuel,hf⟩:=h
  rcases Deep.open_slice Tryz.underlying22 hf with ⟨hcs,hx⟩|⟨a,len',cap',m,n,D,Pl,hcs,hb,hl,hm,hmm,hx,hel⟩
  · simp [Value.cells] at hcs
    obtain⟨rfl,rfl,rfl⟩:=hcs
    exact⟨[],rfl,Nat.le_refl _,⟨rfl,by omega,fun h=>absurd h (by omega)⟩,fun B _=>⟨Nat.zero_le _,fun x hx=>by cases hx⟩⟩
  · simp [Value.cells] at hcs
    obtain⟨rfl,rfl,rfl⟩:=hcs
    have hlm:len≤m:=by rw[hmm];split <;> omega
    obtain⟨q,hq⟩:=Deep.choose_lt (α:=S39) (n:=len) (p:=fun i t=>∃ (A:Option Addr) (cap:Nat),t.f1.length≤cap∧Kd.C k41 W A t.f1.length t.f1∧(∀ j u,[Value.string t.f0,.slice A t.f1.length cap][j]?=some u→W.cell? ((a.add (i * 2)).add j)=some u) ∧
        ∀ B:Nat,(∀ n∈(D i).weights Tryz.prog 39,n≤B)→t.f1.length≤B∧∀ y∈t.f1,y.f0.size≤B∧y.f1.size≤B) (fun i hi=>by
      obtain⟨cs',h1,h2⟩:=hel i (by omega)
      rw[p_cells70] at h1
      exact open_step h1 h2)
    have hlen:((List.range len).map q).length=len:=by simp
    refine⟨(List.range len).map q,hlen,hl,⟨hlen,by unfold maxLen at hm;omega,fun _=>⟨a,rfl,fun j t hj=>?_⟩⟩,?_⟩
    · have hj2:j < len:=by
        rcases Nat.lt_or_ge j len with h|h
        · exact h
        · rw[List.getElem?_eq_none (by rw[hlen];exact h)] at hj;cases hj
      have ht:t=q j:=by
        rw[List.getElem?_map,List.getElem?_range hj2] at hj
        exact (Option.some.inj hj).symm
      subst ht
      obtain⟨A1,cap1,q1,q2,q3,-⟩:=hq j hj2
      refine⟨_,rfl,k39_mk W (q j) q1 q2,fun i u hu=>?_⟩
      have:=q3 i u hu
      rw[Deep.add_add] at this
      exact this
    · intro B hB
      have hd:d=.slice ((List.range len).map D) ((List.range (m - len)).map fun j=>D (len+j)):=congrArg Prod.fst hx
      rw[hd] at hB
      simp only[DataW.weights,Tryz.underlying22] at hB
      constructor
      · have:=hB _ List.mem_cons_self
        rw[p_bytes70,List.length_map,List.length_range] at this
        rw[hlen]
        omega
      · intro y hy
        obtain⟨i,hi,rfl⟩:=List.mem_map.1 hy
        have hi':=List.mem_range.1 hi
        obtain⟨A1,cap1,-,-,-,q4⟩:=hq i hi'
        exact q4 B fun z hz=>hB z (List.mem_cons_of_mem _ (List.mem_append_left _ (pweight_all (List.mem_map.2 ⟨i,hi,rfl⟩) hz)))
end Go.Proofs.YthimblhfjfngiaaGreat.PText

namespace Go.Proofs.YthimblhfjfngiaaGreat.pastBlames
open Go.ChangeShapes Go.WideShapes Go.ChangeAt Go.RowKit
open Go.ChangeMaps (open_string shut_string)
theorem own:ownKnob Tryz.prog.godebug=none:=by kernel_rfl
theorem no_laid (P:Program) (w:World):laidMet P [] w:=⟨[],rfl,List.nodup_nil,fun _ _ h=>by cases h⟩
theorem laidOut:laidOutB Tryz.prog=true:=by kernel_rfl
set_option maxRecDepth 100000 in
theorem contract (H:Type) (enc:TypeId × Value→H) (W:World) (base:Nat) (args:Array Value) (ds gs:List (DataW H)) (before:List MemPlace)
    (hval:∀ (j:Nat) t v,Tryz.f3.params[j]?=some t→args[j]?=some v→Value.okWide Tryz.prog W .any base t v)
    (hW:DataW.Whole enc Tryz.prog Tryz.f3.params.toList Rows.pastBlamesSpec.vars false W args.toList ds gs before)
    (hsz:(DataW.weightsEach Tryz.prog (Tryz.f3.params.toList++Rows.pastBlamesSpec.plain.varTypes Tryz.prog) (ds++gs)).all (·≤reachBytes)=true) :
    Calls Tryz.prog 3 args W fun e W'=>∃ v,e=.returned v∧Rows.pastBlamesSpec.post enc Tryz.prog Tryz.f3 false true false false W args v W':=by
  have hW':=hW
  obtain⟨p,q,hA0,hV,rfl,hfz,hnd⟩:=hW
  have hA:DataW.TrodAll enc Tryz.prog W 0 (fun _=>true) true Tryz.f3.params.toList args.toList ds p:=hA0
  rw[Tryz.params3] at hA hval hsz
  obtain⟨v0,vs0,d0,ds0,p0,q0,hargs,rfl,rfl,h0,r0⟩:=trodAll_cons hA
  obtain⟨v1,vs1,d1,ds1,p1,q1,rfl,rfl,rfl,h1,r1⟩:=trodAll_cons r0
  obtain⟨v2,vs2,d2,ds2,p2,q2,rfl,rfl,rfl,h2,r2⟩:=trodAll_cons r1
  obtain⟨rfl,rfl,rfl⟩:=trodAll_nil r2
  obtain rfl:args=#[v0,v1,v2]:=by cases args;simp_all
  obtain⟨rfl,rfl⟩:=trodVars_none hV
  obtain⟨a0,len0,cap0,rfl⟩:=okWide_slice Tryz.underlying22 (hval 0 22 v0 rfl rfl)
  have k0:=h0
  have lt0:∀ x∈p0,x.block < W.heap.size:=by
    obtain⟨m,hm⟩:=k0
    exact DataW.trod_lt m _ _ _ hm
  obtain⟨l0,rfl,c0,hC0,hb0⟩:=PText.open_steps h0
  have z0:=hb0 reachBytes (fun n hn=>of_decide_eq_true (List.all_eq_true.1 hsz n (DataW.weights_mem_each (j:=0) (t:=22) rfl rfl n hn)))
  obtain⟨a1,rfl,rfl,rfl,y1⟩:=open_string Tryz.underlying9 (hval 1 9 v1 rfl rfl) h1
  obtain⟨a2,rfl,rfl,rfl,y2⟩:=open_string Tryz.underlying9 (hval 2 9 v2 rfl rfl) h2
  have hr:reachBytes=140737488351232:=rfl
  have w2:a2.size≤140737488351232:=by
    have z:=sized_string hsz (j:=2) (t:=9) rfl rfl
    rw[Array.length_toList] at z
    exact z
  clear hA0 hsz
  have hH:PText.Held l0:=⟨by have:=z0.1;omega,fun s hs=>⟨by have:=(z0.2 s hs).1;omega,fun x hx=>⟨by have:=((z0.2 s hs).2 x hx).1;omega,by have:=((z0.2 s hs).2 x hx).2;omega⟩⟩⟩
  refine (PText.blames_calls a0 cap0 l0 a1 a2 W hC0 c0 hH (by omega)).mono fun e W' ⟨he,bel⟩=>?_
  subst he
  exact⟨_,rfl,_,_,_,[],_,[],hW',trodAll_mk1 (shut_bool Tryz.underlying4 _),(trodAll_cons_mk (Below.trod laidOut (by kernel_rfl) (of_decide_eq_true (by kernel_rfl)) k0 bel lt0) (trodAll_cons_mk (shut_string Tryz.underlying9 y1) (trodAll_cons_mk (shut_string Tryz.underlying9 y2) trodAll_mk0))),rfl,bel.frame _,fun h=>by cases h⟩
theorem reads (os:Os) {H:Type} (enc:TypeId × Value→H):∃ places,DataW.whole enc Tryz.prog ((World.holding Tryz.prog os ⟨#[],#[],[]⟩).forCall (fun _ _=>0) ⟨#[],#[.slice none 0 0,.string ⟨#[]⟩,.string ⟨#[]⟩],[]⟩).memory Tryz.f3.params.toList Rows.pastBlamesSpec.vars false #[Value.slice none 0 0,Value.string ⟨#[]⟩,Value.string ⟨#[]⟩].toList 8=some ([.nil,.lit (.string []),.lit (.string [])],[],places) :=
  ⟨[],by kernel_rfl⟩
set_option maxRecDepth 100000 in
theorem lifted (os:Os) (started:os.Started) (H:Type) (enc:TypeId × Value→H) (F:Stop.Interp) :
    ReturnsInHanded {} Tryz.checked os 3 .any ((OpenSpec.ofChange Rows.pastBlamesSpec).preRow enc Tryz.prog Tryz.f3 Rows.pastBlamesRow.domain false Rows.pastBlamesRow.laid) (((OpenSpec.ofChange Rows.pastBlamesSpec).at F).post enc Tryz.prog Tryz.f3 false true false false):=by
  obtain⟨places,hx⟩:=reads os enc
  refine returnsInHanded_of_row (C:=Tryz.checked) (s:=OpenSpec.ofChange Rows.pastBlamesSpec) own started (by kernel_rfl) Tryz.func3
    (witness_row_atRef (enc:=enc) (C:=Tryz.checked) false (World.holding Tryz.prog os ⟨#[],#[],[]⟩) #[.slice none 0 0,.string ⟨#[]⟩,.string ⟨#[]⟩] rfl (by kernel_rfl) (by kernel_rfl) (by kernel_rfl)
      (OpenSpec.preRow_of_cond 8 hx (by kernel_rfl) (fun k hk=>by cases hk) (by kernel_rfl) (no_laid _ _))) ?_
  intro W base args ds gs before hval hW _ _ hsz _ _ _
  exact contract H enc W base args ds gs before hval hW hsz
theorem said:Rows.PastBlamesSaid :=
  OpenClaim.holds_of_cond 3 Tryz.f3 rfl rfl rfl rfl rfl rfl rfl ⟨rfl,rfl,rfl,rfl,rfl⟩ rfl rfl rfl rfl rfl (by kernel_rfl) Tryz.func3 (by kernel_rfl)
    (of_decide_eq_true (by kernel_rfl)) (by unfold Func.isWrapper;first|(rw[if_pos (by decide +kernel)];kernel_rfl)|(rw[if_neg (by decide +kernel)];exact⟨rfl,rfl⟩))
    (fun os started H enc _ F=>by rw[OpenClaim.pre_eq_preRow];exact lifted os started H enc F)
end Go.Proofs.YthimblhfjfngiaaGreat.pastBlames
namespace Go.Proofs.YthimblhfjfngiaaGreat
theorem pastBlames_said:Rows.PastBlamesSaid:=pastBlames.said
end Go.Proofs.YthimblhfjfngiaaGreat

namespace Go.Proofs.YthimblhfjfngiaaGreat
#print axioms pastBlames_said
end Go.Proofs.YthimblhfjfngiaaGreat
