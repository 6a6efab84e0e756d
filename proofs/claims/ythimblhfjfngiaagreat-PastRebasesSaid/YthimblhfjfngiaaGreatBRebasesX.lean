/- PastRebases holds: for all steps, every number and all results the statement answers true. Part 24 of 24. -/
import Derived.Test.YthimblhfjfngiaaGreatBRebasesW
import Derived.Deep.Slices
import Derived.ChangeArms
import Derived.ChangeOld
import Derived.Test.YthimblhfjfngiaaGreatRows
import Derived.ProofKit
import Derived.OpenShut
import Derived.ShutString
import Derived.SizedLaws
import Derived.Deep.DeepHandedRow
import Derived.Deep.DeepWitnessRowRef
namespace Go.Proofs.YthimblhfjfngiaaGreat.PText
open Go.RowKit Go.Lib Go.Sort Go.Proofs.YthimblhfjfngiaaGreatW.PrintWords Go.Proofs.YthimblhfjfngiaaGreatW.PrintLast Go.Proofs.YthimblhfjfngiaaGreatW.PrintMore
set_option linter.unusedVariables false
set_option linter.unusedSimpArgs false
theorem Fair.toTiny {L:List Com} (h:Fair 6000 L):Tiny L:=fun c m=>⟨by have:=(h.neat c m).few;omega,fun x hx=>by have:=h.small c m x hx;omega⟩
end Go.Proofs.YthimblhfjfngiaaGreat.PText

namespace Go.Proofs.YthimblhfjfngiaaGreat.PText
open Go.RowKit Go.Lib Go.Sort Go.Proofs.YthimblhfjfngiaaGreatW.PrintWords Go.Proofs.YthimblhfjfngiaaGreatW.PrintLast Go.Proofs.YthimblhfjfngiaaGreatW.PrintMore
set_option linter.unusedVariables false
set_option linter.unusedSimpArgs false
/-- all results' files are there -/
def okB (now last rs:List S41):Bool:=rs.all fun r=>(findR now r.f0).2 && (findR last r.f0).2
/-- a text put into the files of a name, among the first j -/
def setTo (nm s:ByteArray) (l:List S41) (j:Nat):List S41:=(l.take j).map (fun f=>if f.f0.toList=nm.toList then ⟨f.f0,s⟩ else f)++l.drop j
def rebGo (now last:List S41):List S41→List S41→List S41 × Int
  | [],out=>(out,0)
  | r :: rs,out=>if (threeR (findR now r.f0).1 r.f1 (findR last r.f0).1).2=0 then rebGo now last rs (setTo r.f0 (threeR (findR now r.f0).1 r.f1 (findR last r.f0).1).1 out out.length) else ([],(threeR (findR now r.f0).1 r.f1 (findR last r.f0).1).2)
def rebX (now last rs:List S41):List S41 × Int:=if okB now last rs=true then rebGo now last rs last else ([],4)
theorem setTo_zero (nm s:ByteArray) (l:List S41):setTo nm s l 0=l:=rfl
theorem setTo_len (nm s:ByteArray) (l:List S41) (j:Nat):(setTo nm s l j).length=l.length:=by
  unfold setTo
  rw[List.length_append,List.length_map,List.length_take,List.length_drop];omega
theorem setTo_at (nm s:ByteArray) (l:List S41) (j:Nat) (h:j < l.length):(setTo nm s l j)[j]'(by rw[setTo_len];exact h)=l[j]:=by
  have e:(setTo nm s l j)[j]?=some l[j]:=by
    unfold setTo
    rw[List.getElem?_append_right (by rw[List.length_map,List.length_take];omega),List.length_map,List.length_take,Nat.min_eq_left (by omega),Nat.sub_self,List.getElem?_drop,Nat.add_zero,List.getElem?_eq_getElem h]
  exact (List.getElem?_eq_some_iff.1 e).2
theorem setTo_succ (nm s:ByteArray) (l:List S41) (j:Nat) (h:j < l.length):setTo nm s l (j+1)=if l[j].f0.toList=nm.toList then (setTo nm s l j).set j ⟨l[j].f0,s⟩ else setTo nm s l j:=by
  have e:(setTo nm s l j).set j ⟨l[j].f0,s⟩=(l.take j).map (fun f=>if f.f0.toList=nm.toList then ⟨f.f0,s⟩ else f)++⟨l[j].f0,s⟩ :: l.drop (j+1):=by
    unfold setTo
    rw[List.set_append_right _ _ (by rw[List.length_map,List.length_take];omega),List.length_map,List.length_take,Nat.min_eq_left (by omega),Nat.sub_self,List.drop_eq_getElem_cons h];rfl
  rw[e]
  unfold setTo
  rw[List.take_succ_eq_append_getElem h,List.map_append,List.append_assoc]
  by_cases c:l[j].f0.toList=nm.toList
  · rw[if_pos c];simp [c]
  rw[if_neg c,List.drop_eq_getElem_cons h];simp [c]
theorem okB_at {now last rs:List S41} (i:Nat) (hi:i < rs.length) (h:((findR now rs[i].f0).2 && (findR last rs[i].f0).2)=false):okB now last rs=false:=by
  unfold okB
  rw[List.all_eq_false]
  exact⟨rs[i],List.getElem_mem hi,by rw[h];decide⟩
theorem okB_succ {now last rs:List S41} (i:Nat) (hi:i < rs.length) (h0:okB now last (rs.take i)=true) (h:((findR now rs[i].f0).2 && (findR last rs[i].f0).2)=true):okB now last (rs.take (i+1))=true:=by
  unfold okB at h0 ⊢
  rw[List.take_succ_eq_append_getElem hi,List.all_append,h0]
  simp [h]
theorem rebGo_step (now last rs:List S41) (i:Nat) (hi:i < rs.length) (out:List S41):rebGo now last (rs.drop i) out=if (threeR (findR now rs[i].f0).1 rs[i].f1 (findR last rs[i].f0).1).2=0 then rebGo now last (rs.drop (i+1)) (setTo rs[i].f0 (threeR (findR now rs[i].f0).1 rs[i].f1 (findR last rs[i].f0).1).1 out out.length) else ([],(threeR (findR now rs[i].f0).1 rs[i].f1 (findR last rs[i].f0).1).2):=by
  rw[List.drop_eq_getElem_cons hi];rfl
/-- a row of files of one's own, out of its cells -/
theorem row41c {W:World} {base g cap:Nat} {cur:Array Value} {r:List S41} (hh:W.heap[g]?=some (.cells cur 41 (0,0))) (hb:base≤g) (hl:r.length≤cap) (hm:cap≤maxLen) (hs:cur.size=cap * 2)
    (hc:∀ t,∀ h:t < r.length,cur[t * 2]?=some (.string r[t].f0)∧cur[t * 2+1]?=some (.string r[t].f1)):Kd.R k41 41 W base (fun _=>True) (.slice (some ⟨g,0,none⟩) r.length cap) r:=by
  have hle:r.length * 2≤cur.size:=by omega
  refine⟨fun _ _=>trivial,cur.toList.take (r.length * 2),⟨by rw[List.length_take,Nat.min_eq_left (by rw[Array.length_toList];exact hle)];rfl,Or.inr ⟨g,cap,cur,rfl,hb,hh,hl,hm,hs,rfl⟩⟩,by rw[List.length_take,Nat.min_eq_left (by rw[Array.length_toList];exact hle)];rfl,fun j p hp=>?_⟩
  obtain⟨hj,rfl⟩:=List.getElem?_eq_some_iff.1 hp
  have key:((cur.toList.take (r.length * 2)).drop (j * 2)).take 2=[.string r[j].f0,.string r[j].f1]:=by
    obtain⟨z0,z1⟩:=hc j hj
    apply List.ext_getElem?
    intro c
    rw[List.getElem?_take]
    by_cases h3:c < 2
    rotate_left
    · rw[if_neg h3,List.getElem?_eq_none (by simp;omega)]
    rw[if_pos h3,List.getElem?_drop,List.getElem?_take,if_pos (by omega),Array.getElem?_toList]
    have:c=0∨c=1:=by omega
    rcases this with rfl|rfl
    · rw[Nat.add_zero,z0];rfl
    · rw[z1];rfl
  show k41.M W base _ r[j] (((cur.toList.take (r.length * 2)).drop (j * 2)).take 2)
  rw[key]
  exact k41_mkM _ _ _ _
/-- the text of a file of a row of one's own, put -/
theorem row_field {w:World} {base cap:Nat} {ad:Addr} {n:Nat} {l:List S41} (h:Kd.R k41 41 w base (fun _=>True) (.slice (some ad) n cap) l) (j:Nat) (hj:j < l.length) (s:ByteArray) :
    w.frozen? ⟨(ad.add (j * 2)).block,(ad.add (j * 2)).off+1,none⟩=false∧base≤(ad.add (j * 2)).block ∧
      Kd.R k41 41 (w.setCell ⟨(ad.add (j * 2)).block,(ad.add (j * 2)).off+1,none⟩ (.string s)) base (fun _=>True) (.slice (some ad) n cap) (l.set j ⟨l[j].f0,s⟩) ∧
      ∀ k,k≠ad.block→(w.setCell ⟨(ad.add (j * 2)).block,(ad.add (j * 2)).off+1,none⟩ (.string s)).heap[k]?=w.heap[k]?:=by
  have hn:l.length=n:=(Kd.yt_ h).1.symm
  subst hn
  have hC:=(Kd.yt_ h).2.2
  obtain⟨inner,hlen,hz|⟨g,cap',cur,e,g1,g2,g3,g4,g5,_⟩⟩:=Kd.R_own h
  · exact absurd hz.1 (by intro q;cases q)
  · cases e
    replace g5:cur.size=cap * 2:=g5
    have hat:∀ t,∀ ht:t < l.length,cur[t * 2]?=some (.string l[t].f0)∧cur[t * 2+1]?=some (.string l[t].f1):=fun t ht=>by
      obtain⟨ad,e,h0,h1⟩:=at_T41 hC (t:Int) (by omega) (by omega)
      cases e
      rw[Int.toNat_natCast,yBb_ l t ht] at h0 h1
      rw[Addr.add_lit,Nat.zero_add] at h0 h1
      unfold World.cell? at h0 h1
      rw[g2] at h0 h1
      exact⟨h0,h1⟩
    have ea:(⟨(Addr.add ⟨g,0,none⟩ (j * 2)).block,(Addr.add ⟨g,0,none⟩ (j * 2)).off+1,none⟩:Addr)=⟨g,j * 2+1,none⟩:=by rw[Addr.add_lit,Nat.zero_add]
    have hb2:base≤(Addr.add ⟨g,0,none⟩ (j * 2)).block:=by rw[Addr.add_lit];exact g1
    rw[ea]
    have hh:=blk_set g2 (j * 2+1) (.string s)
    refine⟨by simp [World.frozen?,g2],hb2,?_,fun k hk=>Below.heap_setCell _ _ _ _ hk⟩
    have:=row41c (r:=l.set j ⟨l[j].f0,s⟩) (base:=base) (cap:=cap) hh g1 (by rw[List.length_set];exact g3) g4 (by rw[Array.size_setIfInBounds];exact g5) (fun t ht=>by
      rw[List.length_set] at ht
      have hts:t * 2+1 < cur.size:=(Array.getElem?_eq_some_iff.1 (hat t ht).2).1
      rw[List.getElem_set]
      by_cases c:j=t
      · subst c
        rw[if_pos rfl]
        refine⟨?_,?_⟩
        · rw[Array.getElem?_setIfInBounds_ne (by omega)];exact (hat j ht).1
        · rw[Array.getElem?_setIfInBounds_self_of_lt hts]
      · rw[if_neg c]
        refine⟨?_,?_⟩
        · rw[Array.getElem?_setIfInBounds_ne (by omega)];exact (hat t ht).1
        · rw[Array.getElem?_setIfInBounds_ne (by omega)];exact (hat t ht).2)
    rw[List.length_set] at this
    exact this
theorem own_lt {w:World} {base n cap:Nat} {A:Option Addr} {l:List S41} (h:Kd.R k41 41 w base (fun _=>True) (.slice A n cap) l):∀ ad,A=some ad→ad.block < w.heap.size:=by
  rintro ad rfl
  obtain⟨inner,ho⟩:=Kd.R_own h
  obtain⟨cells,hc⟩:=ymb_ ho ad.block rfl
  exact (Array.getElem?_eq_some_iff.1 hc).1
theorem keepA {w w':World} {a b c:Addr} {u v x:Value} (hb:Below w.heap.size w w') (h1:w.cell? a=some u) (h2:w.cell? b=some v) (h3:w.cell? c=some x) :
    w'.cell? a=some u∧w'.cell? b=some v∧w'.cell? c=some x∧Below w.heap.size w w' :=
  ⟨(hb.cell (World.block_lt_of_cell? _ _ h1)).trans h1,(hb.cell (World.block_lt_of_cell? _ _ h2)).trans h2,(hb.cell (World.block_lt_of_cell? _ _ h3)).trans h3,hb⟩
end Go.Proofs.YthimblhfjfngiaaGreat.PText

namespace Go.Proofs.YthimblhfjfngiaaGreat.PText
open Go.RowKit Go.Lib Go.Sort Go.Proofs.YthimblhfjfngiaaGreatW.PrintWords Go.Proofs.YthimblhfjfngiaaGreatW.PrintLast Go.Proofs.YthimblhfjfngiaaGreatW.PrintMore
set_option linter.unusedVariables false
set_option linter.unusedSimpArgs false
set_option maxRecDepth 100000 in
set_option maxHeartbeats 2000000 in
theorem prebase_out (base p:Nat) (L:List Com) (k:Int) (Ar:Option Addr) (cr:Nat) (rs:List S41) (w:World) (hP:PastIs w base p L) (hk:¬ (0≤k∧k < (L.length:Int))) :
    Calls Tryz.prog 15 #[.pointer (some ⟨p,0,none⟩),.int .i64 k,.slice Ar rs.length cr] w fun e w'=>e=.returned (.tuple #[.slice none 0 0,.int .i64 1])∧Below w.heap.size w w':=by
  have H:=Aside0.mk (has_calls base p L k w hP)
  rw[decide_eq_false hk] at H
  clear hP hk
  go_enter Tryz.func15,Tryz.ntmps15
  go_wp2_with (go_at_call 39;with_reducible refine H.out.mono ?_;rintro e w1 ⟨rfl,hb⟩;have HB:=Aside0.mk hb;clear hb H)
  go_ret2
  exact⟨rfl,HB.out⟩
set_option maxRecDepth 100000 in
set_option maxHeartbeats 8000000 in
theorem prebase_in (base p:Nat) (L:List Com) (k m:Nat) (Ar:Option Addr) (cr:Nat) (rs:List S41) (w:World) (hP:PastIs w base p L) (hk:k < L.length) (hm:L.length=m+1) (hL:L.length≤1000) (hT:Tiny L)
    (hC:Kd.C k41 w Ar rs.length rs) (hc:rs.length≤cr) (hr:rs.length≤10000∧∀ x∈rs,x.f1.size≤20000) :
    Calls Tryz.prog 15 #[.pointer (some ⟨p,0,none⟩),.int .i64 (k:Int),.slice Ar rs.length cr] w fun e w'=>∃ v,e=.returned (.tuple #[v,.int .i64 (rebX L[k].files (L[m]'(by omega)).files rs).2])∧Kd.R k41 41 w' w.heap.size (fun _=>True) v (rebX L[k].files (L[m]'(by omega)).files rs).1∧Below w.heap.size w w':=by
  have H:=Aside0.mk (has_calls base p L (k:Int) w hP)
  rw[decide_eq_true (show 0≤(k:Int)∧(k:Int) < (L.length:Int) by omega)] at H
  obtain⟨g,cap,cs,l1,l2,b1,b2,hcap,hc1,hat⟩:=past_at hP (by omega)
  obtain⟨cn,hc2,hcn⟩:=hat k hk
  obtain⟨cl,hc5,Al,cpl,hcl3,hFl⟩:=hat m (by omega)
  have hlx:=(hT L[k] (List.getElem_mem hk))
  have hly:=(hT (L[m]'(by omega)) (List.getElem_mem _))
  have HFN:Aside0 (∀ nm wr,Below w.heap.size w wr→Calls Tryz.prog 28 #[.pointer (some ⟨cn,0,none⟩),.string nm] wr fun e w'=>e=.returned (.tuple #[.string (findR L[k].files nm).1,.bool (findR L[k].files nm).2])∧Below wr.heap.size wr w') :=
    ⟨fun nm wr hb=>find_calls cn L[k] nm wr (hcn.keep (PKept.of_below hb)) hlx.1⟩
  have HFL:Aside0 (∀ nm wr,Below w.heap.size w wr→Calls Tryz.prog 28 #[.pointer (some ⟨cl,0,none⟩),.string nm] wr fun e w'=>e=.returned (.tuple #[.string (findR (L[m]'(by omega)).files nm).1,.bool (findR (L[m]'(by omega)).files nm).2])∧Below wr.heap.size wr w') :=
    ⟨fun nm wr hb=>find_calls cl (L[m]'(by omega)) nm wr (ComAt.keep (x:=L[m]'(by omega)) ⟨Al,cpl,hcl3,hFl⟩ (PKept.of_below hb)) hly.1⟩
  have HCL:Aside0 (∀ wr,Below w.heap.size w wr→Calls Tryz.prog 40 #[.slice Al (L[m]'(by omega)).files.length cpl] wr fun e w'=>∃ v0_:Value,e=.returned v0_∧Kd.R k41 41 w' wr.heap.size (fun _=>True) v0_ (L[m]'(by omega)).files∧Below wr.heap.size wr w') :=
    ⟨fun wr hb=>clone53_calls Al cpl (L[m]'(by omega)).files wr (Kd.yR_ hFl.reads hb) hly.1⟩
  have HTX:Aside0 (∀ r∈rs,∀ wr,Calls Tryz.prog 38 #[.string (findR L[k].files r.f0).1,.string r.f1,.string (findR (L[m]'(by omega)).files r.f0).1] wr fun e w'=>e=.returned (.tuple #[.string (threeR (findR L[k].files r.f0).1 r.f1 (findR (L[m]'(by omega)).files r.f0).1).1,.int .i64 (threeR (findR L[k].files r.f0).1 r.f1 (findR (L[m]'(by omega)).files r.f0).1).2])∧Below wr.heap.size wr w'):=⟨fun r hrm wr=>by
    have z1:(findR L[k].files r.f0).1.size≤10000:=findR_size hlx.2
    have z2:(findR (L[m]'(by omega)).files r.f0).1.size≤10000:=findR_size hly.2
    have z3:=hr.2 r hrm
    exact yyb_.calls _ _ _ _ _ wr (three_f _ _ _ (by omega) (by omega) (by omega))⟩
  have hcl4:w.cell? ⟨cl,1,none⟩=some (.slice Al (L[m]'(by omega)).files.length cpl):=by unfold World.cell?;rw[hcl3];rfl
  have HC1:=Aside0.mk hc1
  have HC2:=Aside0.mk hc2
  have HC5:=Aside0.mk hc5
  have HC4:=Aside0.mk hcl4
  have HLT:Aside0 (p < w.heap.size∧g < w.heap.size∧cl < w.heap.size):=⟨l1,l2,(Array.getElem?_eq_some_iff.1 hcl3).1⟩
  have HRC:=Aside0.mk hC
  have HRL:Aside0 (rs.length≤10000):=⟨hr.1⟩
  have HNL:Aside0 ((L[m]'(by omega)).files.length≤10000):=⟨hly.1⟩
  have hk0:(0:Int)≤(k:Int):=by omega
  have hk1:(k:Int) < (L.length:Int):=by omega
  have hk2:decide ((0:Int)≤(k:Int))=true:=by simp
  have hk3:decide ((k:Int) < (L.length:Int))=true:=decide_eq_true hk1
  have hw0:wrap64 ((L.length:Int) - 1)=(m:Int):=by rw[w64 (by omega) (by omega)];omega
  have hw1:IntKind.i64.wrap ((L.length:Int) - 1)=(m:Int):=(i64_w _).trans hw0
  have hm0:(0:Int)≤(m:Int):=by omega
  have hm1:(m:Int) < (L.length:Int):=by omega
  have hm2:decide ((0:Int)≤(m:Int))=true:=by simp
  have hm3:decide ((m:Int) < (L.length:Int))=true:=decide_eq_true hm1
  clear hP hat hc1 hc2 hc5 hcn hcl3 hcl4 hFl hlx hly hcap b1 b2 l1 l2 hL hT hC hr
  generalize L[k].files=now at *
  generalize (L[m]'(by omega)).files=last at *
  clear hm hk
  go_enter Tryz.func15,Tryz.ntmps15
  go_wp2_with (go_at_call 39;with_reducible refine H.out.mono ?_;rintro e w1 ⟨rfl,hb⟩;have HB1:=Aside0.mk hb;have hd1:=(hb.cell (p:=⟨p,0,none⟩) HLT.out.1).trans HC1.out;have hd5:=(hb.cell (p:=⟨g,m,none⟩) HLT.out.2.1).trans HC5.out;have hd4:=(hb.cell (p:=⟨cl,1,none⟩) HLT.out.2.2).trans HC4.out;clear hb H)
  go_region_held3 (fun w'=>w'.cell? ⟨p,0,none⟩=some (.slice (some ⟨g,0,none⟩) L.length cap)∧w'.cell? ⟨g,m,none⟩=some (.pointer (some ⟨cl,0,none⟩))∧w'.cell? ⟨cl,1,none⟩=some (.slice Al last.length cpl)∧Below w1.heap.size w1 w')
    (first
      | exact keepA (Below.refl _ _) hd1 hd5 hd4
      | exact keepA (Below.refl _ _).drew hd1 hd5 hd4
      | (go_split_ands;exact keepA (Below.drew zd_) hd1 hd5 hd4))
    (fail)
  go_wp2_with (go_at_call 40;with_reducible refine (HCL.out _ HB1.out.drew).mono ?_;rintro e w2 ⟨v2,rfl,ho,hb⟩;obtain⟨Ao,co,rfl⟩:=Kd.yE_ ho;have HO2:=Aside0.mk (Kd.y0_ ho HB1.out.size);have HB2:=Aside0.mk (yn_ HB1.out.drew hb);clear ho hb HCL)
  clear hd1 hd5 hd4
  go_loopg [50] (rs.length+1) (fun kq v50 w'=>∃ i:Nat,v50=.int .i64 (i:Int)∧Aside0 (rs.length - i < kq∧i≤rs.length)∧Aside0 (Below w.heap.size w w')∧Aside0 (Kd.R k41 41 w' w.heap.size (fun _=>True) (.slice Ao last.length co) last)∧Aside0 (okB now last (rs.take i)=true))
  case atStart=>exact⟨0,rfl,⟨by omega,by omega⟩,HB2,HO2,⟨rfl⟩⟩
  case round =>
    obtain⟨i,rfl,HI,HBW,HR,HOK⟩:=hrel
    obtain⟨k1,rfl⟩:∃ k1,gk=k1+1:=⟨gk - 1,by have:=HI.out.1;omega⟩
    by_cases hlt:i < rs.length
    · have hb:decide ((i:Int) < (rs.length:Int))=true:=by simp;omega
      have hb2:decide ((0:Int)≤(i:Int))=true:=by simp
      have hi0:(0:Int)≤(i:Int):=by omega
      have hi1:(i:Int) < (rs.length:Int):=by omega
      obtain⟨ad,e0,hx,hy⟩:=at_T41 (Kd.yR_ HRC.out HBW.out) (i:Int) hi0 hi1
      cases e0
      rw[Int.toNat_natCast,yBb_ rs i hlt] at hx hy
      have HNO:Aside0 (((findR now rs[i].f0).2 && (findR last rs[i].f0).2)=false→rebX now last rs=([],4)):=⟨fun q=>by unfold rebX;rw[okB_at i hlt q];rfl⟩
      have HYE:Aside0 (((findR now rs[i].f0).2 && (findR last rs[i].f0).2)=true→okB now last (rs.take (i+1))=true):=⟨fun q=>okB_succ i hlt HOK.out q⟩
      clear HOK
      generalize rs[i]=f at *
      have HF1:Aside0 (∀ wr,Below w.heap.size w wr→Calls Tryz.prog 28 #[.pointer (some ⟨cn,0,none⟩),.string f.f0] wr fun e w'=>e=.returned (.tuple #[.string (findR now f.f0).1,.bool (findR now f.f0).2])∧Below wr.heap.size wr w'):=⟨HFN.out f.f0⟩
      have HF2:Aside0 (∀ wr,Below w.heap.size w wr→Calls Tryz.prog 28 #[.pointer (some ⟨cl,0,none⟩),.string f.f0] wr fun e w'=>e=.returned (.tuple #[.string (findR last f.f0).1,.bool (findR last f.f0).2])∧Below wr.heap.size wr w'):=⟨HFL.out f.f0⟩
      generalize (findR now f.f0).2=b1 at *
      generalize (findR last f.f0).2=b2 at *
      generalize (findR now f.f0).1=s1 at *
      generalize (findR last f.f0).1=s2 at *
      have HLT2:=Aside0.mk hlt
      have HBA:=Aside0.mk (HBW.out.alloc HBW.out.size (.cells #[.string f.f0,.string f.f1] 41))
      have hg0:(wr.alloc (.cells #[.string f.f0,.string f.f1] 41)).cell? ⟨wr.heap.size,0,none⟩=some (.string f.f0):=by unfold World.cell?;rw[yAb_];rfl
      have hg1:(wr.alloc (.cells #[.string f.f0,.string f.f1] 41)).cell? ⟨wr.heap.size,1,none⟩=some (.string f.f1):=by unfold World.cell?;rw[yAb_];rfl
      have HG:=Aside0.mk (And.intro hg0 hg1)
      have HHB:=Aside0.mk (yAb_ wr (.cells #[.string f.f0,.string f.f1] 41))
      have HRA:=Aside0.mk (Kd.yj_ HR.out (o:=.cells #[.string f.f0,.string f.f1] 41))
      have he1:=(HBA.out.cell (p:=⟨p,0,none⟩) HLT.out.1).trans HC1.out
      have he2:=(HBA.out.cell (p:=⟨g,k,none⟩) HLT.out.2.1).trans HC2.out
      clear hg0 hg1
      go_wp2_with fail
      generalize hW1:wr.alloc (.cells #[.string f.f0,.string f.f1] 41)=W1 at *
      have HSZ:Aside0 (wr.heap.size < W1.heap.size):=⟨by rw[← hW1];simp⟩
      clear hW1 hx hy
      have hg0:=HG.out.1
      go_region_held3 (fun w'=>w'.cell? ⟨p,0,none⟩=some (.slice (some ⟨g,0,none⟩) L.length cap)∧w'.cell? ⟨g,k,none⟩=some (.pointer (some ⟨cn,0,none⟩))∧w'.cell? ⟨wr.heap.size,0,none⟩=some (.string f.f0)∧Below W1.heap.size W1 w')
        (first
          | exact keepA (Below.refl _ _) he1 he2 hg0
          | exact keepA (Below.refl _ _).drew he1 he2 hg0
          | (go_split_ands;exact keepA (Below.drew zd_) he1 he2 hg0)
          | (go_split_ands;exact keepA (yn_ zd_ hb) he1 he2 hg0)
          | (go_split_ands;exact keepA (yn_ zd_ hb).drew he1 he2 hg0))
        (first
          | (go_at_call 28;with_reducible refine (HF1.out _ ?zb).mono ?_;(case zb=>(go_split_ands;exact yn_ HBA.out zd_));rintro e w4 ⟨rfl,hb⟩))
      go_split_ands
      have HX4:Aside0 (Below W1.heap.size W1 w4):=⟨by assumption⟩
      clear hb
      have HB4:=Aside0.mk (yn_ HBA.out HX4.out)
      have hq0:=(HX4.out.cell (p:=⟨wr.heap.size,0,none⟩) HSZ.out).trans HG.out.1
      have hq1:=(HX4.out.cell (p:=⟨wr.heap.size,1,none⟩) HSZ.out).trans HG.out.2
      have HRA4:=Aside0.mk (Kd.yH_ HRA.out HX4.out)
      have HHB4:=Aside0.mk ((HX4.out.block wr.heap.size HSZ.out).trans HHB.out)
      have HS4:Aside0 (wr.heap.size < w4.heap.size):=⟨Nat.lt_of_lt_of_le HSZ.out HX4.out.size⟩
      clear HX4 HF1 HG HHB HRA he1 he2 hg0
      cases b1
      · have HE:=Aside0.mk (HNO.out rfl)
        clear HNO HYE
        go_wp2_with (go_at_call 28;with_reducible refine (HF2.out _ HB4.out).mono ?_;rintro e w5 ⟨rfl,hb⟩;have HB5:=Aside0.mk (yn_ HB4.out hb);have hr0:=(hb.cell (p:=⟨wr.heap.size,0,none⟩) HS4.out).trans hq0;have hr1:=(hb.cell (p:=⟨wr.heap.size,1,none⟩) HS4.out).trans hq1;have HRA5:=Aside0.mk (Kd.yH_ HRA4.out hb);have HHB5:=Aside0.mk ((hb.block wr.heap.size HS4.out).trans HHB4.out);have HS5:Aside0 (wr.heap.size < w5.heap.size):=⟨Nat.lt_of_lt_of_le HS4.out hb.size⟩;clear hb HF2 hq0 hq1 HRA4 HHB4 HS4)
        go_ret2
        rw[HE.out]
        exact⟨_,rfl,Kd.R_nil _ _ _ _ _,HB5.out⟩
      · cases b2
        · have HE:=Aside0.mk (HNO.out rfl)
          clear HNO HYE
          go_wp2_with (go_at_call 28;with_reducible refine (HF2.out _ HB4.out).mono ?_;rintro e w5 ⟨rfl,hb⟩;have HB5:=Aside0.mk (yn_ HB4.out hb);have hr0:=(hb.cell (p:=⟨wr.heap.size,0,none⟩) HS4.out).trans hq0;have hr1:=(hb.cell (p:=⟨wr.heap.size,1,none⟩) HS4.out).trans hq1;have HRA5:=Aside0.mk (Kd.yH_ HRA4.out hb);have HHB5:=Aside0.mk ((hb.block wr.heap.size HS4.out).trans HHB4.out);have HS5:Aside0 (wr.heap.size < w5.heap.size):=⟨Nat.lt_of_lt_of_le HS4.out hb.size⟩;clear hb HF2 hq0 hq1 HRA4 HHB4 HS4)
          go_ret2
          rw[HE.out]
          exact⟨_,rfl,Kd.R_nil _ _ _ _ _,HB5.out⟩
        · have HE:=Aside0.mk (HYE.out rfl)
          clear HNO HYE
          go_wp2_with (go_at_call 28;with_reducible refine (HF2.out _ HB4.out).mono ?_;rintro e w5 ⟨rfl,hb⟩;have HB5:=Aside0.mk (yn_ HB4.out hb);have hr0:=(hb.cell (p:=⟨wr.heap.size,0,none⟩) HS4.out).trans hq0;have hr1:=(hb.cell (p:=⟨wr.heap.size,1,none⟩) HS4.out).trans hq1;have HRA5:=Aside0.mk (Kd.yH_ HRA4.out hb);have HHB5:=Aside0.mk ((hb.block wr.heap.size HS4.out).trans HHB4.out);have HS5:Aside0 (wr.heap.size < w5.heap.size):=⟨Nat.lt_of_lt_of_le HS4.out hb.size⟩;clear hb HF2 hq0 hq1 HRA4 HHB4 HS4)
          go_roundg k1
          case measure=>have:=HI.out.1;have:=HLT2.out;omega
          case rel=>exact⟨i+1,congrArg (Value.int .i64) (by first|exact nx i (by have:=HRL.out;have:=HLT2.out;omega)|(have:=HRL.out;have:=HLT2.out;omega)),⟨by have:=HI.out.1;have:=HLT2.out;omega,by have:=HLT2.out;omega⟩,HB5,HRA5,HE⟩
    have hb:decide ((i:Int) < (rs.length:Int))=false:=by simp;omega
    have hi:i=rs.length:=by have:=HI.out.2;omega
    subst hi
    rw[List.take_length] at HOK
    have HGO:Aside0 (rebX now last rs=rebGo now last rs last):=⟨by unfold rebX;rw[if_pos HOK.out]⟩
    have HRst:=HR
    have HBst:=HBW
    clear HI hlt HOK HR HBW
    go_wp2_with fail
    go_loopg [83] (rs.length+1) (fun kq v83 w'=>∃ (i:Nat) (out:List S41),v83=.int .i64 (i:Int)∧Aside0 (rs.length - i < kq∧i≤rs.length)∧Aside0 (Below w.heap.size w w')∧Aside0 (Kd.R k41 41 w' w.heap.size (fun _=>True) (.slice Ao last.length co) out)∧Aside0 (rebX now last rs=rebGo now last (rs.drop i) out))
    case atStart=>exact⟨0,last,rfl,⟨by omega,by omega⟩,HBst,HRst,HGO⟩
    case round =>
      clear HRst HBst HGO HO2 hb
      obtain⟨i,out,rfl,HI,HBW,HR,HGO⟩:=hrel
      obtain⟨k1,rfl⟩:∃ k1,gk=k1+1:=⟨gk - 1,by have:=HI.out.1;omega⟩
      have HOL:Aside0 (out.length=last.length):=⟨((Kd.yt_ HR.out).1).symm⟩
      have HOB:=Aside0.mk (own_lt HR.out)
      by_cases hlt:i < rs.length
      rotate_left
      · have hb:decide ((i:Int) < (rs.length:Int))=false:=by simp;omega
        have hi:i=rs.length:=by have:=HI.out.2;omega
        subst hi
        have HE:Aside0 (rebX now last rs=(out,0)):=⟨by rw[HGO.out,List.drop_length];rfl⟩
        clear HGO HI hlt
        go_wp2_with fail
        go_ret2
        rw[HE.out]
        exact⟨_,rfl,HR.out,HBW.out⟩
      have hb:decide ((i:Int) < (rs.length:Int))=true:=by simp;omega
      have hb2:decide ((0:Int)≤(i:Int))=true:=by simp
      have hi0:(0:Int)≤(i:Int):=by omega
      have hi1:(i:Int) < (rs.length:Int):=by omega
      obtain⟨ad,e0,hx,hy⟩:=at_T41 (Kd.yR_ HRC.out HBW.out) (i:Int) hi0 hi1
      cases e0
      rw[Int.toNat_natCast,yBb_ rs i hlt] at hx hy
      have HST:=Aside0.mk (HGO.out.trans (rebGo_step now last rs i hlt out))
      clear HGO
      have HTH:=Aside0.mk (HTX.out rs[i] (List.getElem_mem hlt))
      generalize rs[i]=f at *
      have HF1:Aside0 (∀ wr,Below w.heap.size w wr→Calls Tryz.prog 28 #[.pointer (some ⟨cn,0,none⟩),.string f.f0] wr fun e w'=>e=.returned (.tuple #[.string (findR now f.f0).1,.bool (findR now f.f0).2])∧Below wr.heap.size wr w'):=⟨HFN.out f.f0⟩
      have HF2:Aside0 (∀ wr,Below w.heap.size w wr→Calls Tryz.prog 28 #[.pointer (some ⟨cl,0,none⟩),.string f.f0] wr fun e w'=>e=.returned (.tuple #[.string (findR last f.f0).1,.bool (findR last f.f0).2])∧Below wr.heap.size wr w'):=⟨HFL.out f.f0⟩
      generalize (threeR (findR now f.f0).1 f.f1 (findR last f.f0).1).1=ts at *
      generalize (threeR (findR now f.f0).1 f.f1 (findR last f.f0).1).2=te at *
      generalize (findR now f.f0).2=b1 at *
      generalize (findR last f.f0).2=b2 at *
      generalize (findR now f.f0).1=s1 at *
      generalize (findR last f.f0).1=s2 at *
      have HLT2:=Aside0.mk hlt
      have HBA:=Aside0.mk (HBW.out.alloc HBW.out.size (.cells #[.string f.f0,.string f.f1] 41))
      have hg0:(wr.alloc (.cells #[.string f.f0,.string f.f1] 41)).cell? ⟨wr.heap.size,0,none⟩=some (.string f.f0):=by unfold World.cell?;rw[yAb_];rfl
      have hg1:(wr.alloc (.cells #[.string f.f0,.string f.f1] 41)).cell? ⟨wr.heap.size,1,none⟩=some (.string f.f1):=by unfold World.cell?;rw[yAb_];rfl
      have HG:=Aside0.mk (And.intro hg0 hg1)
      have HHB:=Aside0.mk (yAb_ wr (.cells #[.string f.f0,.string f.f1] 41))
      have HRA:=Aside0.mk (Kd.yj_ HR.out (o:=.cells #[.string f.f0,.string f.f1] 41))
      have he1:=(HBA.out.cell (p:=⟨p,0,none⟩) HLT.out.1).trans HC1.out
      have he2:=(HBA.out.cell (p:=⟨g,k,none⟩) HLT.out.2.1).trans HC2.out
      clear hg0 hg1
      go_wp2_with fail
      generalize hW1:wr.alloc (.cells #[.string f.f0,.string f.f1] 41)=W1 at *
      have HSZ:Aside0 (wr.heap.size < W1.heap.size):=⟨by rw[← hW1];simp⟩
      clear hW1 hx hy
      have hg0:=HG.out.1
      go_region_held3 (fun w'=>w'.cell? ⟨p,0,none⟩=some (.slice (some ⟨g,0,none⟩) L.length cap)∧w'.cell? ⟨g,k,none⟩=some (.pointer (some ⟨cn,0,none⟩))∧w'.cell? ⟨wr.heap.size,0,none⟩=some (.string f.f0)∧Below W1.heap.size W1 w')
        (first
          | exact keepA (Below.refl _ _) he1 he2 hg0
          | exact keepA (Below.refl _ _).drew he1 he2 hg0
          | (go_split_ands;exact keepA (Below.drew zd_) he1 he2 hg0)
          | (go_split_ands;exact keepA (yn_ zd_ hb) he1 he2 hg0)
          | (go_split_ands;exact keepA (yn_ zd_ hb).drew he1 he2 hg0))
        (first
          | (go_at_call 28;with_reducible refine (HF1.out _ ?zb).mono ?_;(case zb=>(go_split_ands;exact yn_ HBA.out zd_));rintro e w4 ⟨rfl,hb⟩))
      go_split_ands
      have HX4:Aside0 (Below W1.heap.size W1 w4):=⟨by assumption⟩
      clear hb
      have HB4:=Aside0.mk (yn_ HBA.out HX4.out)
      have hq0:=(HX4.out.cell (p:=⟨wr.heap.size,0,none⟩) HSZ.out).trans HG.out.1
      have hq1:=(HX4.out.cell (p:=⟨wr.heap.size,1,none⟩) HSZ.out).trans HG.out.2
      have HRA4:=Aside0.mk (Kd.yH_ HRA.out HX4.out)
      have HHB4:=Aside0.mk ((HX4.out.block wr.heap.size HSZ.out).trans HHB.out)
      have HS4:Aside0 (wr.heap.size < w4.heap.size):=⟨Nat.lt_of_lt_of_le HSZ.out HX4.out.size⟩
      clear HX4 HF1 HG HHB HRA he1 he2 hg0
      by_cases he:te=0
      rotate_left
      · have hz:(te == 0)=false:=beq_eq_false_iff_ne.2 he
        have HE:Aside0 (rebX now last rs=([],te)):=⟨by rw[HST.out,if_neg he]⟩
        clear HST he
        go_wp2_with (first
        | (go_at_call 28;with_reducible refine (HF2.out _ HB4.out).mono ?_;rintro e w5 ⟨rfl,hb⟩;have HB5:=Aside0.mk (yn_ HB4.out hb);have hr0:=(hb.cell (p:=⟨wr.heap.size,0,none⟩) HS4.out).trans hq0;have hr1:=(hb.cell (p:=⟨wr.heap.size,1,none⟩) HS4.out).trans hq1;have HRA5:=Aside0.mk (Kd.yH_ HRA4.out hb);have HHB5:=Aside0.mk ((hb.block wr.heap.size HS4.out).trans HHB4.out);have HS5:Aside0 (wr.heap.size < w5.heap.size):=⟨Nat.lt_of_lt_of_le HS4.out hb.size⟩;clear hb HF2 hq0 hq1 HRA4 HHB4 HS4)
        | (go_at_call 38;with_reducible refine (HTH.out _).mono ?_;rintro e w6 ⟨rfl,hb⟩;have HB6:=Aside0.mk (yn_ HB5.out hb);have hv0:=(hb.cell (p:=⟨wr.heap.size,0,none⟩) HS5.out).trans hr0;have HRA6:=Aside0.mk (Kd.yH_ HRA5.out hb);have HHB6:=Aside0.mk ((hb.block wr.heap.size HS5.out).trans HHB5.out);clear hb HTH hr0 hr1 HRA5 HHB5 HS5))
        go_ret2
        rw[HE.out]
        exact⟨_,rfl,Kd.R_nil _ _ _ _ _,HB6.out⟩
      subst he
      have HGN:Aside0 (rebX now last rs=rebGo now last (rs.drop (i+1)) (setTo f.f0 ts out out.length)):=⟨by rw[HST.out,if_pos rfl]⟩
      clear HST
      go_wp2_with (first
      | (go_at_call 28;with_reducible refine (HF2.out _ HB4.out).mono ?_;rintro e w5 ⟨rfl,hb⟩;have HB5:=Aside0.mk (yn_ HB4.out hb);have hr0:=(hb.cell (p:=⟨wr.heap.size,0,none⟩) HS4.out).trans hq0;have hr1:=(hb.cell (p:=⟨wr.heap.size,1,none⟩) HS4.out).trans hq1;have HRA5:=Aside0.mk (Kd.yH_ HRA4.out hb);have HHB5:=Aside0.mk ((hb.block wr.heap.size HS4.out).trans HHB4.out);have HS5:Aside0 (wr.heap.size < w5.heap.size):=⟨Nat.lt_of_lt_of_le HS4.out hb.size⟩;clear hb HF2 hq0 hq1 HRA4 HHB4 HS4)
      | (go_at_call 38;with_reducible refine (HTH.out _).mono ?_;rintro e w6 ⟨rfl,hb⟩;have HB6:=Aside0.mk (yn_ HB5.out hb);have hv0:=(hb.cell (p:=⟨wr.heap.size,0,none⟩) HS5.out).trans hr0;have HRA6:=Aside0.mk (Kd.yH_ HRA5.out hb);have HHB6:=Aside0.mk ((hb.block wr.heap.size HS5.out).trans HHB5.out);clear hb HTH hr0 hr1 HRA5 HHB5 HS5))
      clear HBW HR HBA HSZ
      generalize wr.heap.size=B at *
      have HNB:Aside0 (∀ ad,Ao=some ad→B≠ad.block):=⟨fun ad e q=>absurd (HOB.out ad e) (by rw[q];exact Nat.lt_irrefl _)⟩
      clear HOB
      go_loopg [120] (last.length+1) (fun kq v120 w'=>∃ j:Nat,v120=.int .i64 (j:Int)∧Aside0 (last.length - j < kq∧j≤last.length)∧Aside0 (Below w.heap.size w w')∧Aside0 (Kd.R k41 41 w' w.heap.size (fun _=>True) (.slice Ao last.length co) (setTo f.f0 ts out j))∧Aside0 (w'.heap[B]?=some (.cells #[.string f.f0,.string f.f1] 41 (0,0))))
      case atStart=>exact⟨0,rfl,⟨by omega,by omega⟩,HB6,⟨by rw[setTo_zero];exact HRA6.out⟩,HHB6⟩
      case round =>
        clear HB6 HRA6 HHB6 HB5 HB4 hv0
        obtain⟨j,rfl,HJ,HBJ,HRJ,HHJ⟩:=hrel
        obtain⟨k2,rfl⟩:∃ k2,gk=k2+1:=⟨gk - 1,by have:=HJ.out.1;omega⟩
        by_cases hjl:j < last.length
        rotate_left
        · have hb:decide ((j:Int) < (last.length:Int))=false:=by simp;omega
          have hj:j=last.length:=by have:=HJ.out.2;omega
          subst hj
          have HGN2:Aside0 (rebX now last rs=rebGo now last (rs.drop (i+1)) (setTo f.f0 ts out last.length)):=⟨by rw[← HOL.out];exact HGN.out⟩
          clear hjl HJ
          go_wp2_with fail
          go_roundg k1
          case measure=>have:=HI.out.1;have:=HLT2.out;omega
          case rel=>exact⟨i+1,_,congrArg (Value.int .i64) (by first|exact nx i (by have:=HRL.out;have:=HLT2.out;omega)|(have:=HRL.out;have:=HLT2.out;omega)),⟨by have:=HI.out.1;have:=HLT2.out;omega,by have:=HLT2.out;omega⟩,HBJ,HRJ,HGN2⟩
        have hb:decide ((j:Int) < (last.length:Int))=true:=by simp;omega
        have hb2:decide ((0:Int)≤(j:Int))=true:=by simp
        have hj0:(0:Int)≤(j:Int):=by omega
        have hj1:(j:Int) < (last.length:Int):=by omega
        have hjo:j < out.length:=by have:=HOL.out;omega
        have hjs:j < (setTo f.f0 ts out j).length:=by rw[setTo_len];exact hjo
        obtain⟨ad,e0,hx,hy⟩:=at_T41 (Kd.yt_ HRJ.out).2.2 (j:Int) hj0 (by omega)
        cases e0
        rw[Int.toNat_natCast,yBb_ _ j hjs,setTo_at _ _ _ _ hjo] at hx hy
        obtain⟨hfz,hba,hrw,hfr⟩:=row_field HRJ.out j hjs ts
        rw[setTo_at _ _ _ _ hjo] at hrw
        have HSS:=Aside0.mk (setTo_succ f.f0 ts out j hjo)
        have HRW:=Aside0.mk hrw
        have HHW:=Aside0.mk ((hfr B (HNB.out ad rfl)).trans HHJ.out)
        have HBS:Aside0 (Below w.heap.size w (wr.setCell ⟨(ad.add (j * 2)).block,(ad.add (j * 2)).off+1,none⟩ (.string ts))):=⟨HBJ.out.setCell (p:=⟨(ad.add (j * 2)).block,(ad.add (j * 2)).off+1,none⟩) hba _⟩
        have hv0:wr.cell? ⟨B,0,none⟩=some (.string f.f0):=by unfold World.cell?;rw[HHJ.out];rfl
        have HJL:=Aside0.mk hjl
        clear hrw hfr hba
        generalize out[j]=x at *
        clear hjo hjs
        by_cases hxe:x.f0.toList=f.f0.toList
        rotate_left
        · have hq:(x.f0.toList == f.f0.toList)=false:=beq_eq_false_iff_ne.2 hxe
          have HSN:Aside0 (setTo f.f0 ts out (j+1)=setTo f.f0 ts out j):=⟨by rw[HSS.out,if_neg hxe]⟩
          clear HSS hxe
          go_wp2_with fail
          go_big_quiet (fail)
          go_wp2_with fail
          go_roundg k2
          case measure=>have:=HJ.out.1;have:=HJL.out;omega
          case rel=>exact⟨j+1,congrArg (Value.int .i64) (by first|exact nx j (by have:=HNL.out;have:=HJL.out;omega)|(have:=HNL.out;have:=HJL.out;omega)),⟨by have:=HJ.out.1;have:=HJL.out;omega,by have:=HJL.out;omega⟩,⟨ya_ HBJ.out nq⟩,⟨by rw[HSN.out];exact Kd.yk_ HRJ.out nq⟩,HHJ⟩
        have hq:(x.f0.toList == f.f0.toList)=true:=beq_iff_eq.2 hxe
        have HSN:Aside0 (setTo f.f0 ts out (j+1)=(setTo f.f0 ts out j).set j ⟨x.f0,ts⟩):=⟨by rw[HSS.out,if_pos hxe]⟩
        clear HSS hxe
        go_wp2_with fail
        go_big_quiet (fail)
        go_wp2_with fail
        go_roundg k2
        case measure=>have:=HJ.out.1;have:=HJL.out;omega
        case rel=>exact⟨j+1,congrArg (Value.int .i64) (by first|exact nx j (by have:=HNL.out;have:=HJL.out;omega)|(have:=HNL.out;have:=HJL.out;omega)),⟨by have:=HJ.out.1;have:=HJL.out;omega,by have:=HJL.out;omega⟩,⟨ya_ HBS.out nq⟩,⟨by rw[HSN.out];exact Kd.yk_ HRW.out nq⟩,HHW⟩
end Go.Proofs.YthimblhfjfngiaaGreat.PText

namespace Go.Proofs.YthimblhfjfngiaaGreat.PText
open Go.RowKit Go.Lib Go.Sort Go.Proofs.YthimblhfjfngiaaGreatW.PrintWords Go.Proofs.YthimblhfjfngiaaGreatW.PrintLast Go.Proofs.YthimblhfjfngiaaGreatW.PrintMore
set_option linter.unusedVariables false
set_option linter.unusedSimpArgs false
set_option maxRecDepth 100000 in
set_option maxHeartbeats 1000000 in
theorem rrebase_out (base q:Nat) (L:List Com) (k:Int) (Ar:Option Addr) (cr:Nat) (rs:List S41) (w:World) (hR:RefIs w base q L) (hk:¬ (0≤k∧k < (L.length:Int))) :
    Calls Tryz.prog 16 #[.pointer (some ⟨q,0,none⟩),.int .i64 k,.slice Ar rs.length cr] w fun e w'=>e=.returned (.tuple #[.slice none 0 0,.int .i64 1])∧Below w.heap.size w w':=by
  obtain⟨A,c,hc1,hC⟩:=s58_cell (refIs_S hR)
  clear hR hC
  by_cases h0:k < 0
  · have d0:decide (k < 0)=true:=decide_eq_true h0
    clear hk h0
    go_enter Tryz.func16,Tryz.ntmps16
    go_wp2_with fail
    go_ret2
    exact⟨rfl,Below.refl _ _⟩
  have d0:decide (k < 0)=false:=decide_eq_false h0
  have d1:decide ((L.length:Int)≤k)=true:=decide_eq_true (by omega)
  clear hk h0
  go_enter Tryz.func16,Tryz.ntmps16
  go_wp2_with fail
  go_ret2
  exact⟨rfl,Below.refl _ _⟩
set_option maxRecDepth 100000 in
set_option maxHeartbeats 8000000 in
theorem rrebase_in (base q:Nat) (L:List Com) (k m:Nat) (Ar:Option Addr) (cr:Nat) (rs:List S41) (w:World) (hR:RefIs w base q L) (hk:k < L.length) (hm:L.length=m+1) (hL:L.length≤1000) (hT:Tiny L)
    (hC:Kd.C k41 w Ar rs.length rs) (hc:rs.length≤cr) (hr:rs.length≤10000∧∀ x∈rs,x.f1.size≤20000) :
    Calls Tryz.prog 16 #[.pointer (some ⟨q,0,none⟩),.int .i64 (k:Int),.slice Ar rs.length cr] w fun e w'=>∃ v,e=.returned (.tuple #[v,.int .i64 (rebX L[k].files (L[m]'(by omega)).files rs).2])∧Kd.R k41 41 w' w.heap.size (fun _=>True) v (rebX L[k].files (L[m]'(by omega)).files rs).1∧Below w.heap.size w w':=by
  obtain⟨A,c,hc1,hCC⟩:=s58_cell (refIs_S hR)
  obtain⟨ad,A0,c0,e0,hx0,hxc,hCN⟩:=at_L2 hCC (k:Int) (by omega) (by omega)
  obtain⟨ad2,Al,cpl,e2,hxl,hlc,hCL⟩:=at_L2 hCC (m:Int) (by omega) (by omega)
  rw[rdL2_at L k hk] at hx0 hxc hCN
  rw[rdL2_at L m (by omega)] at hxl hlc hCL
  cases e0
  cases e2
  have hlx:=(hT L[k] (List.getElem_mem hk))
  have hly:=(hT (L[m]'(by omega)) (List.getElem_mem _))
  have HFN:Aside0 (∀ nm wr,Below w.heap.size w wr→Calls Tryz.prog 30 #[.slice A0 L[k].files.length c0,.string nm] wr fun e w'=>e=.returned (.tuple #[.string (findR L[k].files nm).1,.bool (findR L[k].files nm).2])∧Below wr.heap.size wr w') :=
    ⟨fun nm wr hb=>(yG_.calls 20000 A0 c0 L[k].files nm _ _ wr (Kd.yR_ hCN hb) hxc (rfind_f _ nm (by omega) 20000 (by omega))).mono fun e w' h=>⟨h.1,h.2.below⟩⟩
  have HFL:Aside0 (∀ nm wr,Below w.heap.size w wr→Calls Tryz.prog 30 #[.slice Al (L[m]'(by omega)).files.length cpl,.string nm] wr fun e w'=>e=.returned (.tuple #[.string (findR (L[m]'(by omega)).files nm).1,.bool (findR (L[m]'(by omega)).files nm).2])∧Below wr.heap.size wr w') :=
    ⟨fun nm wr hb=>(yG_.calls 20000 Al cpl (L[m]'(by omega)).files nm _ _ wr (Kd.yR_ hCL hb) hlc (rfind_f _ nm (by omega) 20000 (by omega))).mono fun e w' h=>⟨h.1,h.2.below⟩⟩
  have HTX:Aside0 (∀ r∈rs,∀ wr,Calls Tryz.prog 41 #[.string (findR L[k].files r.f0).1,.string r.f1,.string (findR (L[m]'(by omega)).files r.f0).1] wr fun e w'=>e=.returned (.tuple #[.string (threeR (findR L[k].files r.f0).1 r.f1 (findR (L[m]'(by omega)).files r.f0).1).1,.int .i64 (threeR (findR L[k].files r.f0).1 r.f1 (findR (L[m]'(by omega)).files r.f0).1).2])∧Below wr.heap.size wr w'):=⟨fun r hrm wr=>by
    have z1:(findR L[k].files r.f0).1.size≤10000:=findR_size hlx.2
    have z2:(findR (L[m]'(by omega)).files r.f0).1.size≤10000:=findR_size hly.2
    have z3:=hr.2 r hrm
    exact yjb_.calls 400000000 _ _ _ _ _ wr (rthree_f _ _ _ (by omega) (by omega) (by omega) 400000000 (Nat.le_refl _))⟩
  have HC1:=Aside0.mk hc1
  have HC2:=Aside0.mk hx0
  have HCLL:=Aside0.mk hCL
  have HRC:=Aside0.mk hC
  have HRL:Aside0 (rs.length≤10000):=⟨hr.1⟩
  have HNL:Aside0 ((L[m]'(by omega)).files.length≤10000):=⟨hly.1⟩
  have hk0:(0:Int)≤(k:Int):=by omega
  have hk1:(k:Int) < (L.length:Int):=by omega
  have hk2:decide ((0:Int)≤(k:Int))=true:=decide_eq_true hk0
  have hk3:decide ((k:Int) < (L.length:Int))=true:=decide_eq_true hk1
  have d0:decide ((k:Int) < 0)=false:=decide_eq_false (by omega)
  have d1:decide ((L.length:Int)≤(k:Int))=false:=decide_eq_false (by omega)
  have hw0:wrap64 ((L.length:Int) - 1)=(m:Int):=by rw[w64 (by omega) (by omega)];omega
  have hw1:IntKind.i64.wrap ((L.length:Int) - 1)=(m:Int):=(i64_w _).trans hw0
  have hm0:(0:Int)≤(m:Int):=by omega
  have hm1:(m:Int) < (L.length:Int):=by omega
  have hm2:decide ((0:Int)≤(m:Int))=true:=decide_eq_true hm0
  have hm3:decide ((m:Int) < (L.length:Int))=true:=decide_eq_true hm1
  clear hR hCC hCN hCL hxc hlc hlx hly hL hT hC hr
  generalize L[k].files=now at *
  generalize (L[m]'(by omega)).files=last at *
  clear hm hk
  generalize (k:Int)=K at *
  generalize (m:Int)=M at *
  go_enter Tryz.func16,Tryz.ntmps16
  go_wp2_with fail
  go_region_held3 (fun w'=>w'.cell? ⟨q,1,none⟩=some (.slice (some ad) L.length c)∧w'.cell? (ad.add K.toNat)=some (.slice A0 now.length c0)∧w'.cell? (ad.add M.toNat)=some (.slice Al last.length cpl)∧Below w.heap.size w w')
    (first
      | exact keepA (Below.refl _ _) hc1 hx0 hxl
      | exact keepA (Below.refl _ _).drew hc1 hx0 hxl
      | (go_split_ands;exact keepA (Below.drew zd_) hc1 hx0 hxl))
    (fail)
  have HB2:=Aside0.mk (Below.refl w.heap.size w).drew
  clear hc1 hx0 hxl
  go_wp2_with fail
  go_loopg [9] (rs.length+1) (fun kq v9 w'=>∃ i:Nat,v9=.int .i64 (i:Int)∧Aside0 (rs.length - i < kq∧i≤rs.length)∧Aside0 (Below w.heap.size w w')∧Aside0 (okB now last (rs.take i)=true))
  case atStart=>exact⟨0,rfl,⟨by omega,by omega⟩,HB2,⟨rfl⟩⟩
  case round =>
    obtain⟨i,rfl,HI,HBW,HOK⟩:=hrel
    obtain⟨k1,rfl⟩:∃ k1,gk=k1+1:=⟨gk - 1,by have:=HI.out.1;omega⟩
    by_cases hlt:i < rs.length
    · have hb:decide ((i:Int) < (rs.length:Int))=true:=by simp;omega
      have hb2:decide ((0:Int)≤(i:Int))=true:=by simp
      have hi0:(0:Int)≤(i:Int):=by omega
      have hi1:(i:Int) < (rs.length:Int):=by omega
      obtain⟨ar,e0,hx,hy⟩:=at_T41 (Kd.yR_ HRC.out HBW.out) (i:Int) hi0 hi1
      cases e0
      rw[Int.toNat_natCast,yBb_ rs i hlt] at hx hy
      have HNO:Aside0 (((findR now rs[i].f0).2 && (findR last rs[i].f0).2)=false→rebX now last rs=([],4)):=⟨fun q=>by unfold rebX;rw[okB_at i hlt q];rfl⟩
      have HYE:Aside0 (((findR now rs[i].f0).2 && (findR last rs[i].f0).2)=true→okB now last (rs.take (i+1))=true):=⟨fun q=>okB_succ i hlt HOK.out q⟩
      clear HOK
      generalize rs[i]=f at *
      have HF1:Aside0 (∀ wr,Below w.heap.size w wr→Calls Tryz.prog 30 #[.slice A0 now.length c0,.string f.f0] wr fun e w'=>e=.returned (.tuple #[.string (findR now f.f0).1,.bool (findR now f.f0).2])∧Below wr.heap.size wr w'):=⟨HFN.out f.f0⟩
      have HF2:Aside0 (∀ wr,Below w.heap.size w wr→Calls Tryz.prog 30 #[.slice Al last.length cpl,.string f.f0] wr fun e w'=>e=.returned (.tuple #[.string (findR last f.f0).1,.bool (findR last f.f0).2])∧Below wr.heap.size wr w'):=⟨HFL.out f.f0⟩
      generalize (findR now f.f0).2=b1 at *
      generalize (findR last f.f0).2=b2 at *
      generalize (findR now f.f0).1=s1 at *
      generalize (findR last f.f0).1=s2 at *
      have HLT2:=Aside0.mk hlt
      have HXY:=Aside0.mk (And.intro hx hy)
      have he1:=(HBW.out.cell (World.block_lt_of_cell? _ _ HC1.out)).trans HC1.out
      have he2:=(HBW.out.cell (World.block_lt_of_cell? _ _ HC2.out)).trans HC2.out
      go_wp2_with fail
      go_region_held3 (fun w'=>w'.cell? ⟨q,1,none⟩=some (.slice (some ad) L.length c)∧w'.cell? (ad.add K.toNat)=some (.slice A0 now.length c0)∧w'.cell? (ar.add (i * 2))=some (.string f.f0)∧Below wr.heap.size wr w')
        (first
          | exact keepA (Below.refl _ _) he1 he2 hx
          | exact keepA (Below.refl _ _).drew he1 he2 hx
          | (go_split_ands;exact keepA (Below.drew zd_) he1 he2 hx)
          | (go_split_ands;exact keepA (yn_ zd_ hb) he1 he2 hx)
          | (go_split_ands;exact keepA (yn_ zd_ hb).drew he1 he2 hx))
        (first
          | (go_at_call 30;with_reducible refine (HF1.out _ ?zb).mono ?_;(case zb=>(go_split_ands;exact yn_ HBW.out zd_));rintro e w4 ⟨rfl,hb⟩))
      go_split_ands
      have HX4:Aside0 (Below wr.heap.size wr w4):=⟨by assumption⟩
      clear hb
      have HB4:=Aside0.mk (yn_ HBW.out HX4.out)
      have hq0:=(HX4.out.cell (World.block_lt_of_cell? _ _ HXY.out.1)).trans HXY.out.1
      have hq1:=(HX4.out.cell (World.block_lt_of_cell? _ _ HXY.out.2)).trans HXY.out.2
      clear HF1 he1 he2 hx hy
      cases b1
      · have HE:=Aside0.mk (HNO.out rfl)
        clear HNO HYE
        go_wp2_with (go_at_call 30;with_reducible refine (HF2.out _ HB4.out).mono ?_;rintro e w5 ⟨rfl,hb⟩;have HB5:=Aside0.mk (yn_ HB4.out hb);have HX5:=Aside0.mk (yn_ HX4.out hb);have hr0:=(hb.cell (World.block_lt_of_cell? _ _ hq0)).trans hq0;have hr1:=(hb.cell (World.block_lt_of_cell? _ _ hq1)).trans hq1;clear hb HF2 hq0 hq1)
        go_ret2
        rw[HE.out]
        exact⟨_,rfl,Kd.R_nil _ _ _ _ _,HB5.out⟩
      · cases b2
        · have HE:=Aside0.mk (HNO.out rfl)
          clear HNO HYE
          go_wp2_with (go_at_call 30;with_reducible refine (HF2.out _ HB4.out).mono ?_;rintro e w5 ⟨rfl,hb⟩;have HB5:=Aside0.mk (yn_ HB4.out hb);have HX5:=Aside0.mk (yn_ HX4.out hb);have hr0:=(hb.cell (World.block_lt_of_cell? _ _ hq0)).trans hq0;have hr1:=(hb.cell (World.block_lt_of_cell? _ _ hq1)).trans hq1;clear hb HF2 hq0 hq1)
          go_ret2
          rw[HE.out]
          exact⟨_,rfl,Kd.R_nil _ _ _ _ _,HB5.out⟩
        · have HE:=Aside0.mk (HYE.out rfl)
          clear HNO HYE
          go_wp2_with (go_at_call 30;with_reducible refine (HF2.out _ HB4.out).mono ?_;rintro e w5 ⟨rfl,hb⟩;have HB5:=Aside0.mk (yn_ HB4.out hb);have HX5:=Aside0.mk (yn_ HX4.out hb);have hr0:=(hb.cell (World.block_lt_of_cell? _ _ hq0)).trans hq0;have hr1:=(hb.cell (World.block_lt_of_cell? _ _ hq1)).trans hq1;clear hb HF2 hq0 hq1)
          go_roundg k1
          case measure=>have:=HI.out.1;have:=HLT2.out;omega
          case rel=>exact⟨i+1,congrArg (Value.int .i64) (by first|exact nx i (by have:=HRL.out;have:=HLT2.out;omega)|(have:=HRL.out;have:=HLT2.out;omega)),⟨by have:=HI.out.1;have:=HLT2.out;omega,by have:=HLT2.out;omega⟩,HB5,HE⟩
    have hb:decide ((i:Int) < (rs.length:Int))=false:=by simp;omega
    have hi:i=rs.length:=by have:=HI.out.2;omega
    subst hi
    rw[List.take_length] at HOK
    have HGO:Aside0 (rebX now last rs=rebGo now last rs last):=⟨by unfold rebX;rw[if_pos HOK.out]⟩
    clear HI hlt HOK
    have HCW:=Aside0.mk (Kd.yR_ HCLL.out HBW.out)
    go_wp2_with (first
      | ((with_reducible refine yO_ (N:=84) rfl ?_);refine Kd.R_lit k41 wr.heap.size 41 ?hg (N:=84) ?hd (xs:=([]:List S41)) (inner:=[]) (ok:=fun _=>True) (okp:=fun _=>True) ?hr ?hp (fun _ hk=>hk) trivial (Below.refl _ _) (Nat.le_refl _) (by simp) ?_;(case hd=>rfl);(case hg=>rfl);(case hr=>first|(go_simp;done)|(go_simp;rfl));(case hp=>exact (Reps.none _ _));intro v1 w1 ho hb hg_ hnew_;have HO1:=Aside0.mk ho;have HB1:=Aside0.mk hb;clear ho hb hg_ hnew_)
      | (at_builtin;refine Kd.yxb_ k41 (w0:=w1) wr.heap.size rfl (.tmp 84) (.tmp 85) 37 41 (.agg #[(.string ⟨#[]⟩),(.string ⟨#[]⟩)]) 32 rfl Tryz.underlying37 info41 rfl (by decide) (by omega) v1 [] last _ _ _ (fun _=>True) (fun _=>False) rfl rfl HO1.out (Kd.yR_ HCW.out HB1.out) (fun _ _ h=>h) (fun _ h=>h.elim) (fun _ _=>trivial) (Below.refl _ _) HB1.out.size (by have:=HNL.out;simp only[List.length_nil];omega) ?_;intro v2 w2 ho hb hg hat;have ho':Kd.R k41 41 w2 wr.heap.size (fun _=>True) v2 last:=ho;clear ho;obtain⟨Ao,co,rfl⟩:=Kd.yE_ ho';have HO2:=Aside0.mk (Kd.y0_ ho' HBW.out.size);have HB3:=Aside0.mk (yn_ HBW.out (HB1.out.trans hb));clear ho' hb hg hat)
      | fail)
    go_loopg [15] (rs.length+1) (fun kq v15 w'=>∃ (i:Nat) (out:List S41),v15=.int .i64 (i:Int)∧Aside0 (rs.length - i < kq∧i≤rs.length)∧Aside0 (Below w.heap.size w w')∧Aside0 (Kd.R k41 41 w' w.heap.size (fun _=>True) (.slice Ao last.length co) out)∧Aside0 (rebX now last rs=rebGo now last (rs.drop i) out))
    case atStart=>exact⟨0,last,rfl,⟨by omega,by omega⟩,HB3,HO2,HGO⟩
    case round =>
      clear HBW HGO HO2 HB3 HO1 HB1 HCW hb
      obtain⟨i,out,rfl,HI,HBW,HR,HGO⟩:=hrel
      obtain⟨k1,rfl⟩:∃ k1,gk=k1+1:=⟨gk - 1,by have:=HI.out.1;omega⟩
      have HOL:Aside0 (out.length=last.length):=⟨((Kd.yt_ HR.out).1).symm⟩
      by_cases hlt:i < rs.length
      rotate_left
      · have hb:decide ((i:Int) < (rs.length:Int))=false:=by simp;omega
        have hi:i=rs.length:=by have:=HI.out.2;omega
        subst hi
        have HE:Aside0 (rebX now last rs=(out,0)):=⟨by rw[HGO.out,List.drop_length];rfl⟩
        clear HGO HI hlt
        go_wp2_with fail
        go_ret2
        rw[HE.out]
        exact⟨_,rfl,HR.out,HBW.out⟩
      have hb:decide ((i:Int) < (rs.length:Int))=true:=by simp;omega
      have hb2:decide ((0:Int)≤(i:Int))=true:=by simp
      have hi0:(0:Int)≤(i:Int):=by omega
      have hi1:(i:Int) < (rs.length:Int):=by omega
      obtain⟨ar,e0,hx,hy⟩:=at_T41 (Kd.yR_ HRC.out HBW.out) (i:Int) hi0 hi1
      cases e0
      rw[Int.toNat_natCast,yBb_ rs i hlt] at hx hy
      have HST:=Aside0.mk (HGO.out.trans (rebGo_step now last rs i hlt out))
      clear HGO
      have HTH:=Aside0.mk (HTX.out rs[i] (List.getElem_mem hlt))
      have hfi:rs[i]=rs[i]:=rfl
      generalize hfe:rs[i]=f at *
      clear hfi
      have HFE:=Aside0.mk hfe
      clear hfe
      have HF1:Aside0 (∀ wr,Below w.heap.size w wr→Calls Tryz.prog 30 #[.slice A0 now.length c0,.string f.f0] wr fun e w'=>e=.returned (.tuple #[.string (findR now f.f0).1,.bool (findR now f.f0).2])∧Below wr.heap.size wr w'):=⟨HFN.out f.f0⟩
      have HF2:Aside0 (∀ wr,Below w.heap.size w wr→Calls Tryz.prog 30 #[.slice Al last.length cpl,.string f.f0] wr fun e w'=>e=.returned (.tuple #[.string (findR last f.f0).1,.bool (findR last f.f0).2])∧Below wr.heap.size wr w'):=⟨HFL.out f.f0⟩
      generalize (threeR (findR now f.f0).1 f.f1 (findR last f.f0).1).1=ts at *
      generalize (threeR (findR now f.f0).1 f.f1 (findR last f.f0).1).2=te at *
      generalize (findR now f.f0).2=b1 at *
      generalize (findR last f.f0).2=b2 at *
      generalize (findR now f.f0).1=s1 at *
      generalize (findR last f.f0).1=s2 at *
      have HLT2:=Aside0.mk hlt
      have HXY:=Aside0.mk (And.intro hx hy)
      have he1:=(HBW.out.cell (World.block_lt_of_cell? _ _ HC1.out)).trans HC1.out
      have he2:=(HBW.out.cell (World.block_lt_of_cell? _ _ HC2.out)).trans HC2.out
      go_wp2_with fail
      go_region_held3 (fun w'=>w'.cell? ⟨q,1,none⟩=some (.slice (some ad) L.length c)∧w'.cell? (ad.add K.toNat)=some (.slice A0 now.length c0)∧w'.cell? (ar.add (i * 2))=some (.string f.f0)∧Below wr.heap.size wr w')
        (first
          | exact keepA (Below.refl _ _) he1 he2 hx
          | exact keepA (Below.refl _ _).drew he1 he2 hx
          | (go_split_ands;exact keepA (Below.drew zd_) he1 he2 hx)
          | (go_split_ands;exact keepA (yn_ zd_ hb) he1 he2 hx)
          | (go_split_ands;exact keepA (yn_ zd_ hb).drew he1 he2 hx))
        (first
          | (go_at_call 30;with_reducible refine (HF1.out _ ?zb).mono ?_;(case zb=>(go_split_ands;exact yn_ HBW.out zd_));rintro e w4 ⟨rfl,hb⟩))
      go_split_ands
      have HX4:Aside0 (Below wr.heap.size wr w4):=⟨by assumption⟩
      clear hb
      have HB4:=Aside0.mk (yn_ HBW.out HX4.out)
      have hq0:=(HX4.out.cell (World.block_lt_of_cell? _ _ HXY.out.1)).trans HXY.out.1
      have hq1:=(HX4.out.cell (World.block_lt_of_cell? _ _ HXY.out.2)).trans HXY.out.2
      clear HF1 he1 he2 hx hy
      by_cases he:te=0
      rotate_left
      · have hz:(te == 0)=false:=beq_eq_false_iff_ne.2 he
        have HE:Aside0 (rebX now last rs=([],te)):=⟨by rw[HST.out,if_neg he]⟩
        clear HST he
        go_wp2_with (first
        | (go_at_call 30;with_reducible refine (HF2.out _ HB4.out).mono ?_;rintro e w5 ⟨rfl,hb⟩;have HB5:=Aside0.mk (yn_ HB4.out hb);have HX5:=Aside0.mk (yn_ HX4.out hb);have hr0:=(hb.cell (World.block_lt_of_cell? _ _ hq0)).trans hq0;have hr1:=(hb.cell (World.block_lt_of_cell? _ _ hq1)).trans hq1;clear hb HF2 hq0 hq1)
        | (go_at_call 41;with_reducible refine (HTH.out _).mono ?_;rintro e w6 ⟨rfl,hb⟩;have HB6:=Aside0.mk (yn_ HB5.out hb);have HR6:=Aside0.mk (Kd.yH_ (Kd.yH_ HR.out HX5.out) hb);clear hb HTH hr0 hr1))
        go_ret2
        rw[HE.out]
        exact⟨_,rfl,Kd.R_nil _ _ _ _ _,HB6.out⟩
      subst he
      have HGN:Aside0 (rebX now last rs=rebGo now last (rs.drop (i+1)) (setTo f.f0 ts out out.length)):=⟨by rw[HST.out,if_pos rfl]⟩
      clear HST
      go_wp2_with (first
      | (go_at_call 30;with_reducible refine (HF2.out _ HB4.out).mono ?_;rintro e w5 ⟨rfl,hb⟩;have HB5:=Aside0.mk (yn_ HB4.out hb);have HX5:=Aside0.mk (yn_ HX4.out hb);have hr0:=(hb.cell (World.block_lt_of_cell? _ _ hq0)).trans hq0;have hr1:=(hb.cell (World.block_lt_of_cell? _ _ hq1)).trans hq1;clear hb HF2 hq0 hq1)
      | (go_at_call 41;with_reducible refine (HTH.out _).mono ?_;rintro e w6 ⟨rfl,hb⟩;have HB6:=Aside0.mk (yn_ HB5.out hb);have HR6:=Aside0.mk (Kd.yH_ (Kd.yH_ HR.out HX5.out) hb);clear hb HTH hr0 hr1))
      go_loopg [22] (last.length+1) (fun kq v22 w'=>∃ j:Nat,v22=.int .i64 (j:Int)∧Aside0 (last.length - j < kq∧j≤last.length)∧Aside0 (Below w.heap.size w w')∧Aside0 (Kd.R k41 41 w' w.heap.size (fun _=>True) (.slice Ao last.length co) (setTo f.f0 ts out j)))
      case atStart=>exact⟨0,rfl,⟨by omega,by omega⟩,HB6,⟨by rw[setTo_zero];exact HR6.out⟩⟩
      case round =>
        clear HR6 HB6 HB5 HB4 HR HXY HX4 HX5
        obtain⟨j,rfl,HJ,HBJ,HRJ⟩:=hrel
        obtain⟨k2,rfl⟩:∃ k2,gk=k2+1:=⟨gk - 1,by have:=HJ.out.1;omega⟩
        by_cases hjl:j < last.length
        rotate_left
        · have hb:decide ((j:Int) < (last.length:Int))=false:=by simp;omega
          have hj:j=last.length:=by have:=HJ.out.2;omega
          subst hj
          have HGN2:Aside0 (rebX now last rs=rebGo now last (rs.drop (i+1)) (setTo f.f0 ts out last.length)):=⟨by rw[← HOL.out];exact HGN.out⟩
          clear hjl HJ
          go_wp2_with fail
          go_roundg k1
          case measure=>have:=HI.out.1;have:=HLT2.out;omega
          case rel=>exact⟨i+1,_,congrArg (Value.int .i64) (by first|exact nx i (by have:=HRL.out;have:=HLT2.out;omega)|(have:=HRL.out;have:=HLT2.out;omega)),⟨by have:=HI.out.1;have:=HLT2.out;omega,by have:=HLT2.out;omega⟩,HBJ,HRJ,HGN2⟩
        have hb:decide ((j:Int) < (last.length:Int))=true:=by simp;omega
        have hb2:decide ((0:Int)≤(j:Int))=true:=by simp
        have hj0:(0:Int)≤(j:Int):=by omega
        have hj1:(j:Int) < (last.length:Int):=by omega
        have hjo:j < out.length:=by have:=HOL.out;omega
        have hjs:j < (setTo f.f0 ts out j).length:=by rw[setTo_len];exact hjo
        obtain⟨ao,e0,hx,hy⟩:=at_T41 (Kd.yt_ HRJ.out).2.2 (j:Int) hj0 (by omega)
        cases e0
        rw[Int.toNat_natCast,yBb_ _ j hjs,setTo_at _ _ _ _ hjo] at hx hy
        obtain⟨ar',e1,hz0,-⟩:=at_T41 (Kd.yR_ HRC.out HBJ.out) (i:Int) hi0 hi1
        cases e1
        rw[Int.toNat_natCast,yBb_ rs i HLT2.out,HFE.out] at hz0
        obtain⟨hfz,hba,hrw,hfr⟩:=row_field HRJ.out j hjs ts
        rw[setTo_at _ _ _ _ hjo] at hrw
        have HSS:=Aside0.mk (setTo_succ f.f0 ts out j hjo)
        have HRW:=Aside0.mk hrw
        have HBS:Aside0 (Below w.heap.size w (wr.setCell ⟨(ao.add (j * 2)).block,(ao.add (j * 2)).off+1,none⟩ (.string ts))):=⟨HBJ.out.setCell (p:=⟨(ao.add (j * 2)).block,(ao.add (j * 2)).off+1,none⟩) hba _⟩
        have HJL:=Aside0.mk hjl
        clear hrw hfr hba
        generalize out[j]=x at *
        clear hjo hjs
        by_cases hxe:x.f0.toList=f.f0.toList
        rotate_left
        · have hq:(x.f0.toList == f.f0.toList)=false:=beq_eq_false_iff_ne.2 hxe
          have HSN:Aside0 (setTo f.f0 ts out (j+1)=setTo f.f0 ts out j):=⟨by rw[HSS.out,if_neg hxe]⟩
          clear HSS hxe
          go_wp2_with fail
          go_big_quiet (fail)
          go_wp2_with fail
          go_roundg k2
          case measure=>have:=HJ.out.1;have:=HJL.out;omega
          case rel=>exact⟨j+1,congrArg (Value.int .i64) (by first|exact nx j (by have:=HNL.out;have:=HJL.out;omega)|(have:=HNL.out;have:=HJL.out;omega)),⟨by have:=HJ.out.1;have:=HJL.out;omega,by have:=HJL.out;omega⟩,⟨ya_ HBJ.out nq⟩,⟨by rw[HSN.out];exact Kd.yk_ HRJ.out nq⟩⟩
        have hq:(x.f0.toList == f.f0.toList)=true:=beq_iff_eq.2 hxe
        have HSN:Aside0 (setTo f.f0 ts out (j+1)=(setTo f.f0 ts out j).set j ⟨x.f0,ts⟩):=⟨by rw[HSS.out,if_pos hxe]⟩
        clear HSS hxe
        go_wp2_with fail
        go_big_quiet (fail)
        go_wp2_with fail
        go_roundg k2
        case measure=>have:=HJ.out.1;have:=HJL.out;omega
        case rel=>exact⟨j+1,congrArg (Value.int .i64) (by first|exact nx j (by have:=HNL.out;have:=HJL.out;omega)|(have:=HNL.out;have:=HJL.out;omega)),⟨by have:=HJ.out.1;have:=HJL.out;omega,by have:=HJL.out;omega⟩,⟨ya_ HBS.out nq⟩,⟨by rw[HSN.out];exact Kd.yk_ HRW.out nq⟩⟩
end Go.Proofs.YthimblhfjfngiaaGreat.PText

namespace Go.Proofs.YthimblhfjfngiaaGreat.PText
open Go.RowKit Go.Lib Go.Sort Go.Proofs.YthimblhfjfngiaaGreatW.PrintWords Go.Proofs.YthimblhfjfngiaaGreatW.PrintLast Go.Proofs.YthimblhfjfngiaaGreatW.PrintMore
set_option linter.unusedVariables false
set_option linter.unusedSimpArgs false
theorem eqFiles_l0 (l:List S41) (hl:l.length≤1000000):∀ (m i k:Nat),l.length - i=m→i≤l.length→m+1≤k→yab_.l0 k l l (i:Int)=some true
  | 0,i,k,hm,hi,hk=>by
    obtain⟨k,rfl⟩:∃ q,k=q+1:=⟨k - 1,by omega⟩
    rw[yab_.l0,if_neg (by omega)]
  | m+1,i,k,hm,hi,hk=>by
    obtain⟨k,rfl⟩:∃ q,k=q+1:=⟨k - 1,by omega⟩
    rw[yab_.l0,if_pos (by omega),if_pos (by omega),if_pos (by omega),if_neg (by simp),nx i (by omega)]
    exact eqFiles_l0 l hl m (i+1) k (by omega) (by omega) (by omega)
theorem eqFiles_f (l:List S41) (hl:l.length≤1000000) (k:Nat) (hk:l.length+1≤k):yab_.f k l l=some true:=by
  unfold yab_.f
  rw[if_pos rfl]
  exact eqFiles_l0 l hl l.length 0 k (by omega) (Nat.zero_le _) hk
end Go.Proofs.YthimblhfjfngiaaGreat.PText

namespace Go.Proofs.YthimblhfjfngiaaGreat.PText
open Go.RowKit Go.Lib Go.Sort Go.Proofs.YthimblhfjfngiaaGreatW.PrintWords Go.Proofs.YthimblhfjfngiaaGreatW.PrintLast Go.Proofs.YthimblhfjfngiaaGreatW.PrintMore
set_option linter.unusedVariables false
set_option linter.unusedSimpArgs false
theorem getD_at (L:List Com) (i:Nat) (h:i < L.length):L.getD i noCom=L[i]:=by rw[List.getD_eq_getElem?_getD,List.getElem?_eq_getElem h];rfl
end Go.Proofs.YthimblhfjfngiaaGreat.PText

namespace Go.Proofs.YthimblhfjfngiaaGreat.PText
open Go.RowKit Go.Lib Go.Sort Go.Proofs.YthimblhfjfngiaaGreatW.PrintWords Go.Proofs.YthimblhfjfngiaaGreatW.PrintLast Go.Proofs.YthimblhfjfngiaaGreatW.PrintMore
set_option linter.unusedVariables false
set_option linter.unusedSimpArgs false
theorem heavy_l0_big (l:List S39) (n x:Int) (h:6000 < n):∀ k,yo_.l0 k l n x≠some false
  | 0=>fun q=>by cases q
  | 1=>fun q=>by
    rw[yo_.l0] at q
    split at q <;> (rw[yo_.j1] at q;cases q)
  | k+2=>fun q=>by
    rw[yo_.l0] at q
    have e:∀ b,b=false→yo_.j1 (k+1) l n x b=some true:=by
      intro b hb
      subst hb
      rw[yo_.j1,if_neg (by decide),if_pos h]
    split at q
    · rw[e _ (decide_eq_false (by omega))] at q;cases q
    · rw[e _ rfl] at q;cases q
theorem heavy_cnt (l:List S39) (h:Held l) (i:Nat) (hi:i < l.length):∀ (k j:Nat) (n:Int),0≤n→j≤l[i].f1.length→yo_.l1 k l n (i:Int) (j:Int)=some false→n+((l[i].f1.length:Int) - (j:Int))≤6000
  | 0,j,n,h0,hj,q=>by cases q
  | k+1,j,n,h0,hj,q=>by
    by_cases c:n≤6000∧j < l[i].f1.length
    · obtain⟨c1,c2⟩:=c
      rw[heavy_step l h i hi j k n h0 c1 c2] at q
      have:=heavy_cnt l h i hi k (j+1) _ (by omega) c2 q
      omega
    rw[heavy_stop l i hi j k n c] at q
    have hn:n≤6000:=by
      rcases Int.lt_or_le 6000 n with z|z
      · exact absurd q (heavy_l0_big l n _ z k)
      · exact z
    omega
theorem heavy_one (s:S39) (h:Held [s]) (k:Nat) (q:yo_.f k [s]=some false):s.f1.length≤6000:=by
  unfold yo_.f at q
  match k,q with
  | 0,q=>cases q
  | 1,q =>
    rw[yo_.l0] at q
    split at q <;> (rw[yo_.j1] at q;cases q)
  | k+2,q =>
    rw[yo_.l0,if_pos (by simp),yo_.j1,if_pos (by decide)] at q
    have:=heavy_cnt [s] h 0 (by simp) k 0 0 (Int.le_refl _) (Nat.zero_le _) q
    simp only[List.getElem_cons_zero] at this
    omega
/-- Rebase, in both ways -/
def rebA (L:List Com) (k:Int) (rs:List S41):List S41 × Int:=if 0≤k∧k < (L.length:Int) then rebX (L.getD k.toNat noCom).files (L.getD (L.length - 1) noCom).files rs else ([],1)
theorem rebGo_len (now last:List S41):∀ rs out:List S41,(rebGo now last rs out).1.length≤out.length
  | [],out=>Nat.le_refl _
  | r :: rs,out=>by
    unfold rebGo
    split
    · exact Nat.le_trans (rebGo_len now last rs _) (Nat.le_of_eq (setTo_len _ _ _ _))
    · exact Nat.zero_le _
theorem rebA_len {L:List Com} (hT:Tiny L) (k:Int) (rs:List S41):(rebA L k rs).1.length≤10000:=by
  unfold rebA
  split
  · unfold rebX
    split
    · refine Nat.le_trans (rebGo_len _ _ _ _) ?_
      rw[List.getD_eq_getElem?_getD]
      cases e:L[L.length - 1]? with
      | none=>exact Nat.zero_le _
      | some c=>exact (hT c (List.mem_of_getElem? e)).1
    · exact Nat.zero_le _
  · exact Nat.zero_le _
theorem prebA_calls (base p:Nat) (L:List Com) (k:Int) (Ar:Option Addr) (cr:Nat) (rs:List S41) (w:World) (hP:PastIs w base p L) (hL:L.length≤1000) (hT:Tiny L)
    (hC:Kd.C k41 w Ar rs.length rs) (hc:rs.length≤cr) (hr:rs.length≤10000∧∀ x∈rs,x.f1.size≤20000) :
    Calls Tryz.prog 15 #[.pointer (some ⟨p,0,none⟩),.int .i64 k,.slice Ar rs.length cr] w fun e w'=>∃ v,e=.returned (.tuple #[v,.int .i64 (rebA L k rs).2])∧Kd.R k41 41 w' w.heap.size (fun _=>True) v (rebA L k rs).1∧Below w.heap.size w w':=by
  unfold rebA
  by_cases h:0≤k∧k < (L.length:Int)
  rotate_left
  · rw[if_neg h]
    exact (prebase_out base p L k Ar cr rs w hP h).mono fun e w' q=>⟨_,q.1,Kd.R_nil _ _ _ _ _,q.2⟩
  obtain⟨n,rfl⟩:∃ n:Nat,k=n:=⟨k.toNat,by omega⟩
  have hn:n < L.length:=by omega
  obtain⟨m,hm⟩:∃ m,L.length=m+1:=⟨L.length - 1,by omega⟩
  have e:L.getD (L.length - 1) noCom=L[m]'(by omega):=by
    have hm2:L.length - 1=m:=by omega
    rw[hm2];exact getD_at L m (by omega)
  rw[if_pos h,Int.toNat_natCast,getD_at L n hn,e]
  exact prebase_in base p L n m Ar cr rs w hP hn hm hL hT hC hc hr
theorem rrebA_calls (base q:Nat) (L:List Com) (k:Int) (Ar:Option Addr) (cr:Nat) (rs:List S41) (w:World) (hR:RefIs w base q L) (hL:L.length≤1000) (hT:Tiny L)
    (hC:Kd.C k41 w Ar rs.length rs) (hc:rs.length≤cr) (hr:rs.length≤10000∧∀ x∈rs,x.f1.size≤20000) :
    Calls Tryz.prog 16 #[.pointer (some ⟨q,0,none⟩),.int .i64 k,.slice Ar rs.length cr] w fun e w'=>∃ v,e=.returned (.tuple #[v,.int .i64 (rebA L k rs).2])∧Kd.R k41 41 w' w.heap.size (fun _=>True) v (rebA L k rs).1∧Below w.heap.size w w':=by
  unfold rebA
  by_cases h:0≤k∧k < (L.length:Int)
  rotate_left
  · rw[if_neg h]
    exact (rrebase_out base q L k Ar cr rs w hR h).mono fun e w' q=>⟨_,q.1,Kd.R_nil _ _ _ _ _,q.2⟩
  obtain⟨n,rfl⟩:∃ n:Nat,k=n:=⟨k.toNat,by omega⟩
  have hn:n < L.length:=by omega
  obtain⟨m,hm⟩:∃ m,L.length=m+1:=⟨L.length - 1,by omega⟩
  have e:L.getD (L.length - 1) noCom=L[m]'(by omega):=by
    have hm2:L.length - 1=m:=by omega
    rw[hm2];exact getD_at L m (by omega)
  rw[if_pos h,Int.toNat_natCast,getD_at L n hn,e]
  exact rrebase_in base q L n m Ar cr rs w hR hn hm hL hT hC hc hr
/-- one step that holds files, made for the count -/
theorem one_step (w1:World) (Ar:Option Addr) (cr:Nat) (rs:List S41) (hC:Kd.C k41 w1 Ar rs.length rs) (hc:rs.length≤cr):Kd.C k39 (w1.alloc (.cells #[.string ⟨#[]⟩,.slice Ar rs.length cr] 39)) (some ⟨w1.heap.size,0,none⟩) [(⟨⟨#[]⟩,rs⟩:S39)].length [(⟨⟨#[]⟩,rs⟩:S39)]:=by
  refine⟨rfl,by simp,fun _=>⟨⟨w1.heap.size,0,none⟩,rfl,fun j p hj=>?_⟩⟩
  match j,hj with
  | 0,hj =>
    have e:p=⟨⟨#[]⟩,rs⟩:=(Option.some.inj hj).symm
    subst e
    refine⟨_,rfl,k39_mk _ (⟨⟨#[]⟩,rs⟩:S39) hc (Kd.yR_ hC ((Below.refl _ _).alloc (Nat.le_refl _) _)),fun i u hu=>?_⟩
    rw[Addr.add_lit]
    unfold World.cell?
    rw[yAb_]
    match i,hu with
    | 0,hu=>exact hu
    | 1,hu=>exact hu
    | i+2,hu=>simp at hu
  | j+1,hj=>simp at hj
set_option maxRecDepth 100000 in
set_option maxHeartbeats 8000000 in
theorem prebases_calls (A0:Option Addr) (c0:Nat) (l:List S39) (k:Int) (Ar:Option Addr) (cr:Nat) (rs:List S41) (w:World) (hC:Kd.C k39 w A0 l.length l) (hc:l.length≤c0) (hH:Held l) (hCr:Kd.C k41 w Ar rs.length rs) (hcr:rs.length≤cr) (hHr:Held [(⟨⟨#[]⟩,rs⟩:S39)]) :
    Calls Tryz.prog 4 #[.slice A0 l.length c0,.int .i64 k,.slice Ar rs.length cr] w fun e w'=>e=.returned (.bool true)∧Below w.heap.size w w':=by
  obtain⟨r,hr1,hr2⟩:=heavy_f l hH 6006 (Nat.le_refl _)
  obtain⟨r',hr3,hr4⟩:=heavy_f [(⟨⟨#[]⟩,rs⟩:S39)] hHr 6006 (Nat.le_refl _)
  have HV:=Aside0.mk (yo_.calls _ A0 c0 l r w hC hc hr1)
  have HV2:Aside0 (∀ w1,Below w.heap.size w w1→Calls Tryz.prog 7 #[.slice (some ⟨w1.heap.size,0,none⟩) 1 1] (w1.alloc (.cells #[.string ⟨#[]⟩,.slice Ar rs.length cr] 39)) fun e w'=>e=.returned (.bool r')∧Drawn0 (w1.alloc (.cells #[.string ⟨#[]⟩,.slice Ar rs.length cr] 39)) w') :=
    ⟨fun w1 hb=>yo_.calls _ _ 1 [(⟨⟨#[]⟩,rs⟩:S39)] r' _ (one_step w1 Ar cr rs (Kd.yR_ hCr hb) hcr) (Nat.le_refl _) hr3⟩
  have HAW:Aside0 (∀ w,Calls Tryz.prog 14 #[] w fun e w'=>e=.returned (.bool true)∧Below w.heap.size w w'):=⟨fun w=>smockinglaw25_awake.calls true w rfl⟩
  clear hr1 hH
  cases r
  · cases r'
    · obtain⟨hl,hsz⟩:=hr2 rfl
      have HRS:Aside0 (rs.length≤10000∧∀ x∈rs,x.f1.size≤20000):=⟨by have:=heavy_one _ hHr _ hr3;simp only at this;omega,fun x hx=>by have:=(hr4 rfl).2 ⟨⟨#[]⟩,rs⟩ (by simp) x hx;omega⟩
      have HFA:=Aside0.mk (fair_both 6000 l hsz l.length (Nat.le_refl _))
      rw[List.take_length] at HFA
      have HBL:Aside0 ((bothL l).length≤l.length):=⟨by have:=bothL_len l l.length (Nat.le_refl _);rwa [List.take_length] at this⟩
      have HL:=Aside0.mk hl
      have HBO:Aside0 (∀ w1,Below w.heap.size w w1→Calls Tryz.prog 8 #[.slice A0 l.length c0] w1 fun e w'=>∃ p q:Nat,e=.returned (.tuple #[.pointer (some ⟨p,0,none⟩),.pointer (some ⟨q,0,none⟩),.bool true])∧PastIs w' w1.heap.size p (bothL l)∧RefIs w' w1.heap.size q (bothL l)∧Below w1.heap.size w1 w') :=
        ⟨fun w1 hb=>both_calls A0 c0 l w1 (Kd.yR_ hC hb) hc (by omega)⟩
      have HCR:=Aside0.mk hCr
      have HCC:=Aside0.mk hcr
      clear hC hc hr2 hl hsz hr3 hr4 hHr hCr hcr
      generalize bothL l=L at *
      have HL3:Aside0 (L.length≤1000):=⟨by have:=HL.out;have:=HBL.out;omega⟩
      have HT:Aside0 (Tiny L):=⟨HFA.out.toTiny⟩
      have HPA:Aside0 (∀ b p wr,Below w.heap.size w wr→PastIs wr b p L→Calls Tryz.prog 15 #[.pointer (some ⟨p,0,none⟩),.int .i64 k,.slice Ar rs.length cr] wr fun e w'=>∃ v,e=.returned (.tuple #[v,.int .i64 (rebA L k rs).2])∧Kd.R k41 41 w' wr.heap.size (fun _=>True) v (rebA L k rs).1∧Below wr.heap.size wr w'):=⟨fun b p wr hb h=>prebA_calls b p L k Ar cr rs wr h HL3.out HT.out (Kd.yR_ HCR.out hb) HCC.out HRS.out⟩
      have HRA:Aside0 (∀ b q wr,Below w.heap.size w wr→RefIs wr b q L→Calls Tryz.prog 16 #[.pointer (some ⟨q,0,none⟩),.int .i64 k,.slice Ar rs.length cr] wr fun e w'=>∃ v,e=.returned (.tuple #[v,.int .i64 (rebA L k rs).2])∧Kd.R k41 41 w' wr.heap.size (fun _=>True) v (rebA L k rs).1∧Below wr.heap.size wr w'):=⟨fun b q wr hb h=>rrebA_calls b q L k Ar cr rs wr h HL3.out HT.out (Kd.yR_ HCR.out hb) HCC.out HRS.out⟩
      have HE2:=Aside0.mk (eqFiles_f (rebA L k rs).1 (by have:=rebA_len HT.out k rs;omega) 30000 (by have:=rebA_len HT.out k rs;omega))
      clear HFA HT
      generalize (rebA L k rs).1=fa at *
      generalize (rebA L k rs).2=e1 at *
      go_enter Tryz.func4,Tryz.ntmps4
      go_wp2_with (first
        | (go_at_call 7;refine HV.out.mono ?_;rintro e w1 ⟨rfl,hd⟩;have HB1:=Aside0.mk hd.below;clear hd HV)
        | (go_at_call 7;refine (HV2.out _ HB1.out).mono ?_;rintro e w2 ⟨rfl,hd⟩;have HB2:=Aside0.mk (yn_ (HB1.out.alloc HB1.out.size _) hd.below);clear hd HV2)
        | fail)
      go_loopg [7] (rs.length+1) (fun kq v7 w'=>∃ i:Nat,v7=.int .i64 (i:Int)∧Aside0 (rs.length - i < kq∧i≤rs.length)∧Aside0 (Below w.heap.size w w'))
      case atStart=>exact⟨0,rfl,⟨by omega,by omega⟩,HB2⟩
      case round =>
        clear HB2
        obtain⟨i,rfl,HI,HBe⟩:=hrel
        obtain⟨k1,rfl⟩:∃ k1,gk=k1+1:=⟨gk - 1,by have:=HI.out.1;omega⟩
        by_cases hlt:i < rs.length
        rotate_left
        · have hb:decide ((i:Int) < (rs.length:Int))=false:=by simp;omega
          have hi:i=rs.length:=by have:=HI.out.2;omega
          subst hi
          clear HI hlt
          go_wp2_with (first
            | (go_at_call 8;with_reducible refine (HBO.out _ HBe.out).mono ?_;rintro e w3 ⟨p,q,rfl,hp,hq,hb⟩;have HP3:=Aside0.mk hp;have HQ3:=Aside0.mk hq;have HB3:=Aside0.mk (HBe.out.trans (hb.mono HBe.out.size));clear hp hq hb HBO)
            | (go_at_call 15;with_reducible refine (HPA.out _ _ _ HB3.out HP3.out).mono ?_;rintro e w4 ⟨v4,rfl,ho,hb⟩;obtain⟨A4,c4,rfl⟩:=Kd.yE_ ho;have HO4:=Aside0.mk ho;have HB4:=Aside0.mk (yn_ HB3.out hb);have HQ4:=Aside0.mk (HQ3.out.below hb);clear ho hb HPA)
            | (go_at_call 16;with_reducible refine (HRA.out _ _ _ HB4.out HQ4.out).mono ?_;rintro e w5 ⟨v5,rfl,ho,hb⟩;obtain⟨A5,c5,rfl⟩:=Kd.yE_ ho;have HO5:=Aside0.mk (Kd.yt_ ho);have HO45:=Aside0.mk (Kd.yt_ (Kd.yH_ HO4.out hb));have HB5:=Aside0.mk (yn_ HB4.out hb);clear ho hb HRA)
            | (go_at_call 17;with_reducible refine (yab_.calls 30000 A4 c4 fa A5 c5 fa true _ HO45.out.2.2 HO45.out.2.1 HO5.out.2.2 HO5.out.2.1 HE2.out).mono ?_;rintro e w10 ⟨rfl,hd⟩;have HB10:=Aside0.mk (yn_ HB5.out hd.below);clear hd)
            | (go_at_call 14;refine (HAW.out _).mono ?_;rintro e w20 ⟨rfl,hb⟩;have HB20:=Aside0.mk hb;clear hb)
            | fail)
          go_ret
          exact⟨rfl,yn_ HB10.out HB20.out⟩
        have hb:decide ((i:Int) < (rs.length:Int))=true:=by simp;omega
        have hb2:decide ((0:Int)≤(i:Int))=true:=by simp
        have hi0:(0:Int)≤(i:Int):=by omega
        have hi1:(i:Int) < (rs.length:Int):=by omega
        have HLT2:=Aside0.mk hlt
        go_wp2_with fail
        go_loopg [8] (i+1) (fun kq v8 w'=>∃ j:Nat,v8=.int .i64 (j:Int)∧Aside0 (i - j < kq∧j≤i)∧Aside0 (Below w.heap.size w w'))
        case atStart=>exact⟨0,rfl,⟨by omega,by omega⟩,HBe⟩
        case round =>
          clear HBe
          obtain⟨j,rfl,HJ,HBj⟩:=hrel
          obtain⟨k2,rfl⟩:∃ k2,gk=k2+1:=⟨gk - 1,by have:=HJ.out.1;omega⟩
          by_cases hji:j < i
          rotate_left
          · have hb3:decide ((j:Int) < (i:Int))=false:=by simp;omega
            have hji2:j=i:=by have:=HJ.out.2;omega
            subst hji2
            clear hji HJ
            go_wp2_with fail
            go_roundg k1
            case measure=>have:=HI.out.1;have:=HLT2.out;omega
            case rel=>exact⟨j+1,congrArg (Value.int .i64) (by first|exact nx j (by have:=HRS.out.1;have:=HLT2.out;omega)|(have:=HRS.out.1;have:=HLT2.out;omega)),⟨by have:=HI.out.1;have:=HLT2.out;omega,by have:=HLT2.out;omega⟩,HBj⟩
          have hb3:decide ((j:Int) < (i:Int))=true:=by simp;omega
          have hj0:(0:Int)≤(j:Int):=by omega
          have hj1:(j:Int) < (rs.length:Int):=by omega
          have hj2:decide ((j:Int) < (rs.length:Int))=true:=decide_eq_true hj1
          obtain⟨ad,e0,hx,-⟩:=at_T41 (Kd.yR_ HCR.out HBj.out) (i:Int) hi0 hi1
          obtain⟨ad2,e2,hz,-⟩:=at_T41 (Kd.yR_ HCR.out HBj.out) (j:Int) hj0 hj1
          cases e0
          cases e2
          rw[Int.toNat_natCast] at hx hz
          have HJI:=Aside0.mk hji
          generalize rd_T41 rs (i:Int)=x at *
          generalize rd_T41 rs (j:Int)=y at *
          by_cases heq:x.f0.toList=y.f0.toList
          · have hbq:(x.f0.toList == y.f0.toList)=true:=beq_iff_eq.2 heq
            clear heq
            go_wp2_with fail
            go_big_quiet (fail)
            have HBZ:=Aside0.mk (ya_ HBj.out nq)
            go_wp2_with fail
            go_ret
            exact⟨rfl,HBZ.out⟩
          have hbq:(x.f0.toList == y.f0.toList)=false:=beq_eq_false_iff_ne.2 heq
          clear heq
          go_wp2_with fail
          go_big_quiet (fail)
          have HBZ:=Aside0.mk (ya_ HBj.out nq)
          go_wp2_with fail
          go_roundg k2
          case measure=>have:=HJ.out.1;have:=HJI.out;omega
          case rel=>exact⟨j+1,congrArg (Value.int .i64) (by first|exact nx j (by have:=HRS.out.1;have:=HJI.out;have:=HLT2.out;omega)|(have:=HRS.out.1;have:=HJI.out;have:=HLT2.out;omega)),⟨by have:=HJ.out.1;have:=HJI.out;omega,by have:=HJI.out;omega⟩,HBZ⟩
    · clear hr2 hr3 hr4 hHr
      go_enter Tryz.func4,Tryz.ntmps4
      go_wp2_with (first
        | (go_at_call 7;refine HV.out.mono ?_;rintro e w1 ⟨rfl,hd⟩;have HB1:=Aside0.mk hd.below;clear hd HV)
        | (go_at_call 7;refine (HV2.out _ HB1.out).mono ?_;rintro e w2 ⟨rfl,hd⟩;have HB2:=Aside0.mk (yn_ (HB1.out.alloc HB1.out.size _) hd.below);clear hd HV2)
        | fail)
      go_ret
      exact⟨rfl,HB2.out⟩
  · clear hr2 hr3 hr4 HV2 hHr
    go_enter Tryz.func4,Tryz.ntmps4
    go_wp2_with (first
      | (go_at_call 7;refine HV.out.mono ?_;rintro e w1 ⟨rfl,hd⟩;have HB1:=Aside0.mk hd.below;clear hd HV)
      | fail)
    go_ret
    exact⟨rfl,HB1.out⟩
end Go.Proofs.YthimblhfjfngiaaGreat.PText

namespace Go.Proofs.YthimblhfjfngiaaGreat.PText
open Go.RowKit Go.ChangeShapes Go.WideShapes Go.Proofs.YthimblhfjfngiaaGreatW.PrintWords Go.Proofs.YthimblhfjfngiaaGreatW.PrintLast Go.Proofs.YthimblhfjfngiaaGreatW.PrintMore
/-- a file as data -/
def fiD {H:Type} (x:S41):DataW H:=.agg [.lit (.string x.f0.data.toList),.lit (.string x.f1.data.toList)]
theorem p_cells53:Tryz.prog.cellsOf 41=2:=by kernel_rfl
theorem p_cells46:Tryz.prog.cellsOf 37=1:=by kernel_rfl
theorem p_cells9:Tryz.prog.cellsOf 9=1:=by kernel_rfl
theorem p_cells70:Tryz.prog.cellsOf 39=2:=by kernel_rfl
theorem p_bytes53:Tryz.prog.bytesOf 41=32:=by kernel_rfl
theorem p_bytes70:Tryz.prog.bytesOf 39=40:=by kernel_rfl
theorem p_one_cell {α:Type} {l:List α} {n:Nat} (i:Nat) (h:l.length=n) (hi:i < n):∃ v,l[i]?=some v∧(l.drop i).take 1=[v]:=by
  refine⟨l[i],List.getElem?_eq_getElem (by omega),?_⟩
  rw[List.drop_eq_getElem_cons (by omega)]
  rfl
theorem open_file {H:Type} {enc:TypeId × Value→H} {W:World} {base:Nat} {sp:Nat→Bool} {held:Bool} {n:Nat} {a:Addr} {cs:List Value} {x:DataW H × List MemPlace}
    (h1:W.cells? base a 2=some cs) (h2:DataW.trod enc Tryz.prog W base sp held n 41 cs=some x) :
    ∃ t:S41,x.1=fiD t∧∀ i u,[Value.string t.f0,.string t.f1][i]?=some u→W.cell? (a.add i)=some u:=by
  obtain⟨_,hlen,hcell⟩:=World.cells?_some h1
  obtain⟨xs,k,-,rfl,-,hxl,hf⟩:=DataW.trod_struct Tryz.underlying41 h2
  obtain⟨v0,e0,d0⟩:=p_one_cell 0 hlen (by omega)
  obtain⟨v1,e1,d1⟩:=p_one_cell 1 hlen (by omega)
  match xs,hxl with
  | [y0,y1],_ =>
    have g0:DataW.trod enc Tryz.prog W base sp held k 9 ((cs.drop 0).take (Tryz.prog.cellsOf 9))=some y0:=hf 0 _ rfl
    have g1:DataW.trod enc Tryz.prog W base sp held k 9 ((cs.drop 1).take (Tryz.prog.cellsOf 9))=some y1:=hf 1 _ rfl
    rw[p_cells9,d0] at g0
    rw[p_cells9,d1] at g1
    obtain⟨m0,q0,z0,-⟩:=DataW.trod_string Tryz.underlying9 g0
    obtain⟨m1,q1,z1,-⟩:=DataW.trod_string Tryz.underlying9 g1
    obtain rfl:v0=.string m0:=by simpa using q0
    obtain rfl:v1=.string m1:=by simpa using q1
    refine⟨⟨m0,m1⟩,by rw[z0,z1];rfl,?_⟩
    intro i u hu
    match i,hu with
    | 0,hu=>rw[hcell 0 (by omega),e0];exact hu
    | 1,hu=>rw[hcell 1 (by omega),e1];exact hu
    | (i+2),hu=>simp at hu
theorem pweight_all {H:Type} {P:Program} {e:TypeId} {n:Nat}:∀ {l:List (DataW H)} {d:DataW H},d∈l→n∈d.weights P e→n∈DataW.weightsAll P e l
  | x :: l,d,h,hn=>by
    simp only[DataW.weightsAll,List.mem_append]
    rcases List.mem_cons.1 h with h|h
    · subst h;exact .inl hn
    · exact .inr (pweight_all h hn)
/-- files that are read -/
theorem open_files {H:Type} {enc:TypeId × Value→H} {W:World} {base:Nat} {sp:Nat→Bool} {held:Bool} {fuel:Nat} {v:Value} {x:DataW H × List MemPlace} (hf:DataW.trod enc Tryz.prog W base sp held fuel 37 [v]=some x) :
    ∃ (A:Option Addr) (cap:Nat) (l:List S41),v=.slice A l.length cap∧l.length≤cap∧Kd.C k41 W A l.length l∧∀ B:Nat,(∀ n∈x.1.weights Tryz.prog 37,n≤B)→l.length≤B∧∀ y∈l,y.f0.size≤B∧y.f1.size≤B:=by
  have hinh:Inhabited S41:=⟨z41⟩
  rcases Deep.open_slice Tryz.underlying37 hf with ⟨hcs,hx⟩|⟨a,len,cap,m,n,D,Pl,hcs,hb,hl,hm,hmm,hx,hel⟩
  · obtain rfl:v=.slice none 0 0:=by simpa using hcs
    exact⟨none,0,[],rfl,Nat.le_refl _,⟨rfl,by simp,fun h=>absurd h (by simp)⟩,fun B _=>⟨Nat.zero_le _,fun y hy=>by cases hy⟩⟩
  · obtain rfl:v=.slice (some a) len cap:=by simpa using hcs
    have hlm:len≤m:=by rw[hmm];split <;> omega
    obtain⟨q,hq⟩:=Deep.choose_lt (α:=S41) (n:=len) (p:=fun i t=>D i=fiD t∧∀ j u,[Value.string t.f0,.string t.f1][j]?=some u→W.cell? ((a.add (i * 2)).add j)=some u) (fun i hi=>by
      obtain⟨cs',h1,h2⟩:=hel i (by omega)
      rw[p_cells53] at h1
      obtain⟨t,t1,t2⟩:=open_file h1 h2
      exact⟨t,t1,t2⟩)
    have hlen:((List.range len).map q).length=len:=by simp
    refine⟨some a,cap,(List.range len).map q,by rw[hlen],by rw[hlen];exact hl,⟨rfl,by rw[hlen];unfold maxLen at hm;omega,fun _=>⟨a,rfl,fun j t hj=>?_⟩⟩,?_⟩
    · have hj2:j < len:=by
        rcases Nat.lt_or_ge j len with h|h
        · exact h
        · rw[List.getElem?_eq_none (by rw[hlen];exact h)] at hj;cases hj
      have ht:t=q j:=by
        rw[List.getElem?_map,List.getElem?_range hj2] at hj
        exact (Option.some.inj hj).symm
      subst ht
      refine⟨_,rfl,k41_mk W (q j),fun i u hu=>?_⟩
      have:=(hq j hj2).2 i u hu
      rw[Deep.add_add] at this
      exact this
    · intro B hB
      have hd:x.1=.slice ((List.range len).map D) ((List.range (m - len)).map fun j=>D (len+j)):=congrArg Prod.fst hx
      rw[hd] at hB
      simp only[DataW.weights,Tryz.underlying37] at hB
      constructor
      · have:=hB _ List.mem_cons_self
        rw[p_bytes53,List.length_map,List.length_range] at this
        rw[hlen]
        omega
      · intro y hy
        obtain⟨i,hi,rfl⟩:=List.mem_map.1 hy
        have hi':=List.mem_range.1 hi
        have key:∀ z,z∈(fiD (H:=H) (q i)).weights Tryz.prog 41→z≤B:=fun z hz=>hB z (List.mem_cons_of_mem _ (List.mem_append_left _ (pweight_all (List.mem_map.2 ⟨i,hi,rfl⟩) (by rw[(hq i hi').1];exact hz))))
        have e0:(q i).f0.size=(q i).f0.data.toList.length:=by rw[Array.length_toList];rfl
        have e1:(q i).f1.size=(q i).f1.data.toList.length:=by rw[Array.length_toList];rfl
        constructor
        · refine key _ ?_
          rw[e0]
          simp only[fiD,DataW.weights,Tryz.underlying41]
          simp [DataW.weightsEach,DataW.weights]
        · refine key _ ?_
          rw[e1]
          simp only[fiD,DataW.weights,Tryz.underlying41]
          simp [DataW.weightsEach,DataW.weights]
theorem open_step {H:Type} {enc:TypeId × Value→H} {W:World} {base:Nat} {sp:Nat→Bool} {held:Bool} {n:Nat} {a:Addr} {cs:List Value} {x:DataW H × List MemPlace}
    (h1:W.cells? base a 2=some cs) (h2:DataW.trod enc Tryz.prog W base sp held n 39 cs=some x) :
    ∃ (t:S39) (A:Option Addr) (cap:Nat),t.f1.length≤cap∧Kd.C k41 W A t.f1.length t.f1∧(∀ i u,[Value.string t.f0,.slice A t.f1.length cap][i]?=some u→W.cell? (a.add i)=some u) ∧
      ∀ B:Nat,(∀ n∈x.1.weights Tryz.prog 39,n≤B)→t.f1.length≤B∧∀ y∈t.f1,y.f0.size≤B∧y.f1.size≤B:=by
  obtain⟨_,hlen,hcell⟩:=World.cells?_some h1
  obtain⟨xs,k,-,rfl,-,hxl,hf⟩:=DataW.trod_struct Tryz.underlying39 h2
  obtain⟨v0,e0,d0⟩:=p_one_cell 0 hlen (by omega)
  obtain⟨v1,e1,d1⟩:=p_one_cell 1 hlen (by omega)
  match xs,hxl with
  | [y0,y1],_ =>
    have g0:DataW.trod enc Tryz.prog W base sp held k 9 ((cs.drop 0).take (Tryz.prog.cellsOf 9))=some y0:=hf 0 _ rfl
    have g1:DataW.trod enc Tryz.prog W base sp held k 37 ((cs.drop 1).take (Tryz.prog.cellsOf 37))=some y1:=hf 1 _ rfl
    rw[p_cells9,d0] at g0
    rw[p_cells46,d1] at g1
    obtain⟨m0,q0,z0,-⟩:=DataW.trod_string Tryz.underlying9 g0
    obtain⟨A,cap,l,rfl,l1,l2,l3⟩:=open_files g1
    obtain rfl:v0=.string m0:=by simpa using q0
    refine⟨⟨m0,l⟩,A,cap,l1,l2,?_,fun B hB=>l3 B fun z hz=>hB z ?_⟩
    · intro i u hu
      match i,hu with
      | 0,hu=>rw[hcell 0 (by omega),e0];exact hu
      | 1,hu=>rw[hcell 1 (by omega),e1];exact hu
      | (i+2),hu=>simp at hu
    · simp only[DataW.weights,Tryz.underlying39]
      simp only[List.map_cons,List.map_nil]
      simp [DataW.weightsEach]
      exact .inr hz
/-- a slice of steps that is read -/
theorem open_steps {H:Type} {enc:TypeId × Value→H} {W:World} {base:Nat} {sp:Nat→Bool} {held:Bool} {A:Option Addr} {len cap:Nat} {d:DataW H} {p:List MemPlace}
    (h:DataW.Trod enc Tryz.prog W base sp held 22 (.slice A len cap) d p) :
    ∃ l:List S39,l.length=len∧len≤cap∧Kd.C k39 W A len l∧∀ B:Nat,(∀ n∈d.weights Tryz.prog 22,n≤B)→l.length≤B∧∀ s∈l,s.f1.length≤B∧∀ y∈s.f1,y.f0.size≤B∧y.f1.size≤B:=by
  have hinh:Inhabited S39:=⟨z39⟩
  obtain⟨fuel,hf⟩:=h
  rcases Deep.open_slice Tryz.underlying22 hf with ⟨hcs,hx⟩|⟨a,len',cap',m,n,D,Pl,hcs,hb,hl,hm,hmm,hx,hel⟩
  · simp [Value.cells] at hcs
    obtain⟨rfl,rfl,rfl⟩:=hcs
    exact⟨[],rfl,Nat.le_refl _,⟨rfl,by omega,fun h=>absurd h (by omega)⟩,fun B _=>⟨Nat.zero_le _,fun x hx=>by cases hx⟩⟩
  · simp [Value.cells] at hcs
    obtain⟨rfl,rfl,rfl⟩:=hcs
    have hlm:len≤m:=by rw[hmm];split <;> omega
    obtain⟨q,hq⟩:=Deep.choose_lt (α:=S39) (n:=len) (p:=fun i t=>∃ (A:Option Addr) (cap:Nat),t.f1.length≤cap∧Kd.C k41 W A t.f1.length t.f1∧(∀ j u,[Value.string t.f0,.slice A t.f1.length cap][j]?=some u→W.cell? ((a.add (i * 2)).add j)=some u) ∧
        ∀ B:Nat,(∀ n∈(D i).weights Tryz.prog 39,n≤B)→t.f1.length≤B∧∀ y∈t.f1,y.f0.size≤B∧y.f1.size≤B) (fun i hi=>by
      obtain⟨cs',h1,h2⟩:=hel i (by omega)
      rw[p_cells70] at h1
      exact open_step h1 h2)
    have hlen:((List.range len).map q).length=len:=by simp
    refine⟨(List.range len).map q,hlen,hl,⟨hlen,by unfold maxLen at hm;omega,fun _=>⟨a,rfl,fun j t hj=>?_⟩⟩,?_⟩
    · have hj2:j < len:=by
        rcases Nat.lt_or_ge j len with h|h
        · exact h
        · rw[List.getElem?_eq_none (by rw[hlen];exact h)] at hj;cases hj
      have ht:t=q j:=by
        rw[List.getElem?_map,List.getElem?_range hj2] at hj
        exact (Option.some.inj hj).symm
      subst ht
      obtain⟨A1,cap1,q1,q2,q3,-⟩:=hq j hj2
      refine⟨_,rfl,k39_mk W (q j) q1 q2,fun i u hu=>?_⟩
      have:=q3 i u hu
      rw[Deep.add_add] at this
      exact this
    · intro B hB
      have hd:d=.slice ((List.range len).map D) ((List.range (m - len)).map fun j=>D (len+j)):=congrArg Prod.fst hx
      rw[hd] at hB
      simp only[DataW.weights,Tryz.underlying22] at hB
      constructor
      · have:=hB _ List.mem_cons_self
        rw[p_bytes70,List.length_map,List.length_range] at this
        rw[hlen]
        omega
      · intro y hy
        obtain⟨i,hi,rfl⟩:=List.mem_map.1 hy
        have hi':=List.mem_range.1 hi
        obtain⟨A1,cap1,-,-,-,q4⟩:=hq i hi'
        exact q4 B fun z hz=>hB z (List.mem_cons_of_mem _ (List.mem_append_left _ (pweight_all (List.mem_map.2 ⟨i,hi,rfl⟩) hz)))
end Go.Proofs.YthimblhfjfngiaaGreat.PText

namespace Go.Proofs.YthimblhfjfngiaaGreat.pastRebases
open Go.ChangeShapes Go.WideShapes Go.ChangeAt Go.RowKit
open Go.ChangeMaps (open_string shut_string)
theorem own:ownKnob Tryz.prog.godebug=none:=by kernel_rfl
theorem no_laid (P:Program) (w:World):laidMet P [] w:=⟨[],rfl,List.nodup_nil,fun _ _ h=>by cases h⟩
theorem laidOut:laidOutB Tryz.prog=true:=by kernel_rfl
set_option maxHeartbeats 2000000 in
set_option maxRecDepth 100000 in
theorem contract (H:Type) (enc:TypeId × Value→H) (W:World) (base:Nat) (args:Array Value) (ds gs:List (DataW H)) (before:List MemPlace)
    (hval:∀ (j:Nat) t v,Tryz.f4.params[j]?=some t→args[j]?=some v→Value.okWide Tryz.prog W .any base t v)
    (hW:DataW.Whole enc Tryz.prog Tryz.f4.params.toList Rows.pastRebasesSpec.vars false W args.toList ds gs before)
    (hsz:(DataW.weightsEach Tryz.prog (Tryz.f4.params.toList++Rows.pastRebasesSpec.plain.varTypes Tryz.prog) (ds++gs)).all (·≤reachBytes)=true) :
    Calls Tryz.prog 4 args W fun e W'=>∃ v,e=.returned v∧Rows.pastRebasesSpec.post enc Tryz.prog Tryz.f4 false true false false W args v W':=by
  have hW':=hW
  obtain⟨p,q,hA0,hV,rfl,hfz,hnd⟩:=hW
  have hA:DataW.TrodAll enc Tryz.prog W 0 (fun _=>true) true Tryz.f4.params.toList args.toList ds p:=hA0
  rw[Tryz.params4] at hA hval hsz
  obtain⟨v0,vs0,d0,ds0,p0,q0,hargs,rfl,rfl,h0,r0⟩:=trodAll_cons hA
  obtain⟨v1,vs1,d1,ds1,p1,q1,rfl,rfl,rfl,h1,r1⟩:=trodAll_cons r0
  obtain⟨v2,vs2,d2,ds2,p2,q2,rfl,rfl,rfl,h2,r2⟩:=trodAll_cons r1
  obtain⟨rfl,rfl,rfl⟩:=trodAll_nil r2
  obtain rfl:args=#[v0,v1,v2]:=by cases args;simp_all
  obtain⟨rfl,rfl⟩:=trodVars_none hV
  obtain⟨a0,len0,cap0,rfl⟩:=okWide_slice Tryz.underlying22 (hval 0 22 v0 rfl rfl)
  have k0:=h0
  have lt0:∀ x∈p0,x.block < W.heap.size:=by
    obtain⟨m,hm⟩:=k0
    exact DataW.trod_lt m _ _ _ hm
  obtain⟨l0,rfl,c0,hC0,hb0⟩:=PText.open_steps h0
  have z0:=hb0 reachBytes (fun n hn=>of_decide_eq_true (List.all_eq_true.1 hsz n (DataW.weights_mem_each (j:=0) (t:=22) rfl rfl n hn)))
  obtain⟨a1,rfl,rfl,rfl,y1⟩:=open_int Tryz.underlying3 (hval 1 3 v1 rfl rfl) h1
  obtain⟨a2,len2,cap2,rfl⟩:=okWide_slice Tryz.underlying37 (hval 2 37 v2 rfl rfl)
  have k2:=h2
  have lt2:∀ x∈p2,x.block < W.heap.size:=by
    obtain⟨m,hm⟩:=k2
    exact DataW.trod_lt m _ _ _ hm
  obtain⟨fl2,hf2⟩:=h2
  obtain⟨A2,cc2,l2,e2,c2,hC2,hb2⟩:=PText.open_files hf2
  cases e2
  have z2:=hb2 reachBytes (fun n hn=>of_decide_eq_true (List.all_eq_true.1 hsz n (DataW.weights_mem_each (j:=2) (t:=37) rfl rfl n hn)))
  have hr:reachBytes=140737488351232:=rfl
  clear hA0 hsz
  have hH:PText.Held l0:=⟨by have:=z0.1;omega,fun s hs=>⟨by have:=(z0.2 s hs).1;omega,fun x hx=>⟨by have:=((z0.2 s hs).2 x hx).1;omega,by have:=((z0.2 s hs).2 x hx).2;omega⟩⟩⟩
  have hH2:PText.Held [(⟨⟨#[]⟩,l2⟩:PText.S39)]:=⟨by simp,fun s hs=>by
    obtain rfl:=List.mem_singleton.1 hs
    exact⟨by have:=z2.1;show l2.length≤_;omega,fun x hx=>⟨by have:=(z2.2 x hx).1;omega,by have:=(z2.2 x hx).2;omega⟩⟩⟩
  refine (PText.prebases_calls a0 cap0 l0 a1 a2 cap2 l2 W hC0 c0 hH hC2 c2 hH2).mono fun e W' ⟨he,bel⟩=>?_
  subst he
  exact⟨_,rfl,_,_,_,[],_,[],hW',trodAll_mk1 (shut_bool Tryz.underlying4 _),(trodAll_cons_mk (Below.trod laidOut ze_ (of_decide_eq_true ze_) k0 bel lt0) (trodAll_cons_mk (shut_int Tryz.underlying3 y1) (trodAll_cons_mk (Below.trod laidOut ze_ (of_decide_eq_true ze_) k2 bel lt2) trodAll_mk0))),rfl,bel.frame _,fun h=>by cases h⟩
theorem reads (os:Os) {H:Type} (enc:TypeId × Value→H):∃ places,DataW.whole enc Tryz.prog ((World.holding Tryz.prog os ⟨#[],#[],[]⟩).forCall (fun _ _=>0) ⟨#[],#[.slice none 0 0,.int .i64 0,.slice none 0 0],[]⟩).memory Tryz.f4.params.toList Rows.pastRebasesSpec.vars false #[Value.slice none 0 0,Value.int .i64 0,.slice none 0 0].toList 8=some ([.nil,.lit (.int .i64 0),.nil],[],places) :=
  ⟨[],by kernel_rfl⟩
set_option maxHeartbeats 2000000 in
set_option maxRecDepth 100000 in
theorem lifted (os:Os) (started:os.Started) (H:Type) (enc:TypeId × Value→H) (F:Stop.Interp) :
    ReturnsInHanded {} Tryz.checked os 4 .any ((OpenSpec.ofChange Rows.pastRebasesSpec).preRow enc Tryz.prog Tryz.f4 Rows.pastRebasesRow.domain false Rows.pastRebasesRow.laid) (((OpenSpec.ofChange Rows.pastRebasesSpec).at F).post enc Tryz.prog Tryz.f4 false true false false):=by
  obtain⟨places,hx⟩:=reads os enc
  refine returnsInHanded_of_row (C:=Tryz.checked) (s:=OpenSpec.ofChange Rows.pastRebasesSpec) own started ze_ Tryz.func4
    (witness_row_atRef (enc:=enc) (C:=Tryz.checked) false (World.holding Tryz.prog os ⟨#[],#[],[]⟩) #[.slice none 0 0,.int .i64 0,.slice none 0 0] rfl ze_ ze_ ze_
      (OpenSpec.preRow_of_cond 8 hx ze_ (fun k hk=>by cases hk) ze_ (no_laid _ _))) ?_
  intro W base args ds gs before hval hW _ _ hsz _ _ _
  exact contract H enc W base args ds gs before hval hW hsz
theorem said:Rows.PastRebasesSaid :=
  OpenClaim.holds_of_cond 4 Tryz.f4 rfl rfl rfl rfl rfl rfl rfl ⟨rfl,rfl,rfl,rfl,rfl⟩ rfl rfl rfl rfl rfl ze_ Tryz.func4 ze_
    (of_decide_eq_true ze_) (by unfold Func.isWrapper;first|(rw[if_pos (by decide +kernel)];kernel_rfl)|(rw[if_neg (by decide +kernel)];exact⟨rfl,rfl⟩))
    (fun os started H enc _ F=>by rw[OpenClaim.pre_eq_preRow];exact lifted os started H enc F)
end Go.Proofs.YthimblhfjfngiaaGreat.pastRebases
namespace Go.Proofs.YthimblhfjfngiaaGreat
theorem pastRebases_said:Rows.PastRebasesSaid:=pastRebases.said
end Go.Proofs.YthimblhfjfngiaaGreat

namespace Go.Proofs.YthimblhfjfngiaaGreat
#print axioms pastRebases_said
end Go.Proofs.YthimblhfjfngiaaGreat
