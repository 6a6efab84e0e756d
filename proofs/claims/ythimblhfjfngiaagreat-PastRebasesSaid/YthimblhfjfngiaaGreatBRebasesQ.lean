/- PastRebases holds: for all steps, every number and all results the statement answers true. Part 17 of 24. -/
import Derived.Test.YthimblhfjfngiaaGreatBRebasesP
namespace Go.Proofs.YthimblhfjfngiaaGreat.PText
open Go.RowKit Go.Lib Go.Proofs.YthimblhfjfngiaaGreatW.PrintWords Go.Proofs.YthimblhfjfngiaaGreatW.PrintLast Go.Proofs.YthimblhfjfngiaaGreatW.PrintMore
/-- a whole order of files that goes by names first -/
def ltFL (x y:S41):Bool:=decide (x.f0.toList < y.f0.toList) || (decide (x.f0.toList=y.f0.toList) && decide (x.f1.toList < y.f1.toList))
theorem ltFL_iff (x y:S41):ltFL x y=true↔x.f0.toList < y.f0.toList∨(x.f0.toList=y.f0.toList∧x.f1.toList < y.f1.toList):=by
  unfold ltFL
  simp only[Bool.or_eq_true,Bool.and_eq_true,decide_eq_true_eq]
theorem toList_inj {a b:ByteArray} (h:a.toList=b.toList):a=b:=by
  rw[Lib.toList_data,Lib.toList_data] at h
  exact ByteArray.ext (Array.toList_inj.1 h)
theorem ltFL_lin:Tx.Lin ltFL where
  irr a:=by
    cases h:ltFL a a with
    | false=>rfl
    | true =>
      rcases (ltFL_iff _ _).1 h with k|⟨_,k⟩
      · exact absurd k (List.lt_irrefl _)
      · exact absurd k (List.lt_irrefl _)
  tr:=by
    intro a b c h1 h2
    rw[ltFL_iff] at h1 h2 ⊢
    rcases h1 with h1|⟨e1,h1⟩
    · rcases h2 with h2|⟨e2,h2⟩
      · exact Or.inl (List.lt_trans h1 h2)
      · exact Or.inl (by rw[← e2];exact h1)
    · rcases h2 with h2|⟨e2,h2⟩
      · exact Or.inl (by rw[e1];exact h2)
      · exact Or.inr ⟨e1.trans e2,List.lt_trans h1 h2⟩
  tri:=by
    intro a b h1 h2
    have n1:¬ (a.f0.toList < b.f0.toList∨(a.f0.toList=b.f0.toList∧a.f1.toList < b.f1.toList)):=fun q=>by rw[(ltFL_iff _ _).2 q] at h1;cases h1
    have n2:¬ (b.f0.toList < a.f0.toList∨(b.f0.toList=a.f0.toList∧b.f1.toList < a.f1.toList)):=fun q=>by rw[(ltFL_iff _ _).2 q] at h2;cases h2
    have e0:a.f0.toList=b.f0.toList:=List.le_antisymm (List.not_lt.1 fun q=>n2 (Or.inl q)) (List.not_lt.1 fun q=>n1 (Or.inl q))
    have e1:a.f1.toList=b.f1.toList:=List.le_antisymm (List.not_lt.1 fun q=>n2 (Or.inr ⟨e0.symm,q⟩)) (List.not_lt.1 fun q=>n1 (Or.inr ⟨e0,q⟩))
    exact S41.ext' (toList_inj e0) (toList_inj e1)
/-- the names of files -/
def fnames (l:List S41):List (List UInt8):=l.map fun x=>x.f0.toList
/-- files by their names -/
def srtF (l:List S41):List S41:=Tx.ord ltFL l
/-- a row that is sorted by names -/
def SortedF (d:List S41):Prop:=∀ i j,i < j→∀ hj:j < d.length,∀ hi:i < d.length,ltF d[j] d[i]=false
theorem sorted_le {d:List S41} (h:SortedF d) {i j:Nat} (hij:i < j) (hj:j < d.length):d[i].f0.toList≤d[j].f0.toList :=
  List.not_lt.1 (of_decide_eq_false (h i j hij hj (by omega)))
/-- no two neighbours have one name -/
def NoNext (d:List S41):Prop:=∀ i,∀ h:i+1 < d.length,d[i+1].f0.toList≠d[i].f0.toList
theorem strict_of {d:List S41} (h:SortedF d) (hn:NoNext d):∀ (m i:Nat),∀ hj:i+m+1 < d.length,d[i].f0.toList < d[i+m+1].f0.toList:=by
  intro m
  induction m with
  | zero =>
    intro i hj
    have h1:=sorted_le h (show i < i+0+1 by omega) hj
    rcases List.le_iff_lt_or_eq.1 h1 with q|q
    · exact q
    · exact absurd q.symm (hn i hj)
  | succ m ih =>
    intro i hj
    have h1:=ih i (by omega)
    have h2:=sorted_le h (show i+m+1 < i+(m+1)+1 by omega) hj
    rcases List.le_iff_lt_or_eq.1 h2 with q|q
    · exact List.lt_trans h1 q
    · rw[← q];exact h1
theorem nodup_of {d:List S41} (h:SortedF d) (hn:NoNext d):(fnames d).Nodup:=by
  unfold fnames
  rw[List.nodup_iff_pairwise_ne,List.pairwise_iff_getElem]
  intro i j hi hj hij
  rw[List.getElem_map,List.getElem_map]
  rw[List.length_map] at hi hj
  obtain⟨m,rfl⟩:∃ m,j=i+m+1:=⟨j - i - 1,by omega⟩
  intro e
  have:=strict_of h hn m i hj
  rw[e] at this
  exact List.lt_irrefl _ this
theorem noNext_of {d:List S41} (h:(fnames d).Nodup):NoNext d:=by
  intro i hi e
  unfold fnames at h
  rw[List.nodup_iff_pairwise_ne,List.pairwise_iff_getElem] at h
  have:=h i (i+1) (by rw[List.length_map];omega) (by rw[List.length_map];omega) (by omega)
  rw[List.getElem_map,List.getElem_map] at this
  exact this e.symm
theorem perm_names {d l:List S41} (h:d.Perm l):(fnames d).Perm (fnames l):=h.map _
theorem srt_eq {d l:List S41} (hp:d.Perm l) (h:SortedF d) (hn:(fnames l).Nodup):d=srtF l:=by
  have hd:(fnames d).Nodup:=(perm_names hp).nodup_iff.2 hn
  have hs:=strict_of h (noNext_of hd)
  refine Tx.y0b_ ltFL_lin ?_ fun a=>hp.mem_iff
  unfold Tx.Asc
  rw[List.pairwise_iff_getElem]
  intro i j hi hj hij
  obtain⟨m,rfl⟩:∃ m,j=i+m+1:=⟨j - i - 1,by omega⟩
  exact (ltFL_iff _ _).2 (Or.inl (hs m i hj))
theorem first_empty {d l:List S41} (hp:d.Perm l) (h:SortedF d):(∃ hd:0 < d.length,d[0].f0.toList=[])↔∃ x∈l,x.f0.toList=[]:=by
  constructor
  · rintro ⟨hd,e⟩
    exact⟨d[0],hp.mem_iff.1 (List.getElem_mem hd),e⟩
  · rintro ⟨x,hx,e⟩
    obtain⟨j,hj,rfl⟩:=List.mem_iff_getElem.1 (hp.mem_iff.2 hx)
    refine⟨by omega,?_⟩
    by_cases h0:j=0
    · subst h0;exact e
    have:=sorted_le h (show 0 < j by omega) hj
    rw[e] at this
    cases q:d[0].f0.toList with
    | nil=>rfl
    | cons c r =>
      rw[q] at this
      exact absurd (List.nil_lt_cons c r) (List.not_lt.2 this)
end Go.Proofs.YthimblhfjfngiaaGreat.PText

namespace Go.Proofs.YthimblhfjfngiaaGreat.PText
open Go.RowKit Go.Proofs.YthimblhfjfngiaaGreatW.PrintWords Go.Proofs.YthimblhfjfngiaaGreatW.PrintLast Go.Proofs.YthimblhfjfngiaaGreatW.PrintMore
set_option linter.unusedVariables false
set_option linter.unusedSimpArgs false
theorem heap_newM (w:World) (o:Obj):(w.alloc o).drew.heap[w.heap.size]?=some o:=by
  show (w.heap.push o)[w.heap.size]?=some o
  exact Array.getElem?_push_size
set_option maxHeartbeats 4000000 in
set_option maxRecDepth 100000 in
theorem grow_calls (n:Nat) (w:World) (hn:n≤20000) :
    Calls Tryz.prog 103 #[.slice none 0 0,.int .i64 (n:Int)] w fun e w'=>∃ v,e=.returned v∧w'.ownsRow w.heap.size 91 3 v 0 []∧Below w.heap.size w w':=by
  by_cases h0:n=0
  · subst h0
    go_enter Tryz.func103,Tryz.ntmps103
    go_wp2
    go_ret
    exact⟨_,rfl,World.ownsRow_nil _ _ _ _,Below.refl _ _⟩
  have hp:(0:Int) < (n:Int):=by omega
  have hb:decide ((n:Int) < 0)=false:=decide_eq_false (by omega)
  have hb2:decide ((0:Int) < (n:Int))=true:=decide_eq_true hp
  have hby:Tryz.t91.bytes=32:=by kernel_rfl
  have hnx:Builtin.nextslicecap n 0=n:=by unfold Builtin.nextslicecap;rw[if_pos (by omega)]
  go_enter Tryz.func103,Tryz.ntmps103
  go_wp2
  all_goals (try (exfalso;simp only[hby,hnx] at *;omega))
  go_ret
  refine⟨_,rfl,⟨rfl,.inr ⟨w.heap.size,_,_,rfl,Nat.le_refl _,heap_newM w _,Nat.zero_le _,?_,?_,by simp⟩⟩,((Below.refl _ w).alloc (Nat.le_refl _) _).drew⟩
  · show n+_ % (2 ^ 63 - n)≤maxLen
    have:=Nat.mod_lt (w.tape w.drawn (Question.appendCap n 0 91)) (show 0 < 2 ^ 63 - n by omega)
    unfold maxLen
    omega
  · rw[Array.size_append,size_zeroCells,size_zeroCells]
    show n * 3+(n+_ % (2 ^ 63 - n) - n) * 3=(n+_ % (2 ^ 63 - n)) * 3
    omega
theorem grow_two (a b:Nat) (w:World) (hn:a+b≤20000) :
    Calls Tryz.prog 103 #[.slice none 0 0,.int .i64 ((a:Int)+(b:Int))] w fun e w'=>∃ v,e=.returned v∧w'.ownsRow w.heap.size 91 3 v 0 []∧Below w.heap.size w w':=by
  have h:((a:Int)+(b:Int))=((a+b:Nat):Int):=by omega
  rw[h]
  exact grow_calls (a+b) w hn
set_option maxHeartbeats 4000000 in
set_option maxRecDepth 100000 in
theorem concat_calls (B:Nat) (A1:Option Addr) (c1:Nat) (l1:List S91) (A2:Option Addr) (c2:Nat) (l2:List S91) (w:World) (hlen:l1.length+l2.length≤20000)
    (hC1:Kd.C k91 w A1 l1.length l1) (hC2:Kd.C k91 w A2 l2.length l2) (h0:w.cell? ⟨B,0,none⟩=some (.slice A1 l1.length c1)) (h1:w.cell? ⟨B,1,none⟩=some (.slice A2 l2.length c2)) :
    Calls Tryz.prog 73 #[.slice (some ⟨B,0,none⟩) 2 2] w fun e w'=>∃ v,e=.returned v∧Kd.R k91 91 w' w.heap.size (fun _=>True) v (l1++l2)∧Below w.heap.size w w':=by
  have HC1:=Aside0.mk hC1
  have HC2:=Aside0.mk hC2
  have HL:=Aside0.mk hlen
  have hBlt:B < w.heap.size:=World.block_lt_of_cell? w _ h0
  have s1:IntKind.i64.wrap ((l1.length:Int))=(l1.length:Int):=(i64_w _).trans (w64 (by omega) (by omega))
  have s2:IntKind.i64.wrap ((l1.length:Int)+(l2.length:Int))=(l1.length:Int)+(l2.length:Int):=(i64_w _).trans (w64 (by omega) (by omega))
  have s3:wrap64 ((l1.length:Int)+(l2.length:Int))=(l1.length:Int)+(l2.length:Int):=w64 (by omega) (by omega)
  have b1:decide ((l1.length:Int) < 0)=false:=decide_eq_false (by omega)
  have b2:decide ((l1.length:Int)+(l2.length:Int) < 0)=false:=decide_eq_false (by omega)
  clear hC1 hC2 hlen
  go_enter Tryz.func73,Tryz.ntmps73
  go_wp2_with fail
  go_loopg [3,11] 3 (fun kq v3 v11 wq=>(v3=.int .i64 0∧v11=.int .i64 0∧wq=w∧Aside0 (kq=3))∨(v3=.int .i64 (l1.length:Int)∧v11=.int .i64 1∧wq=w∧Aside0 (kq=2))∨(v3=.int .i64 ((l1.length:Int)+(l2.length:Int))∧v11=.int .i64 2∧wq=w))
  case atStart=>exact Or.inl ⟨rfl,rfl,rfl,⟨rfl⟩⟩
  case round =>
    rcases hrel with ⟨rfl,rfl,rfl,hk⟩|⟨rfl,rfl,rfl,hk⟩|⟨rfl,rfl,hw⟩
    · obtain⟨k1,rfl⟩:∃ k1,gk=k1+1:=⟨2,hk.out⟩
      go_wp2_with fail
      go_roundg k1
      case measure=>have:=hk.out;omega
      case rel=>exact Or.inr (Or.inl ⟨rfl,rfl,rfl,⟨by have:=hk.out;omega⟩⟩)
    · obtain⟨k1,rfl⟩:∃ k1,gk=k1+1:=⟨1,hk.out⟩
      go_wp2_with fail
      go_roundg k1
      case measure=>have:=hk.out;omega
      case rel=>exact Or.inr (Or.inr ⟨rfl,rfl,rfl⟩)
    · have hw':=hw.symm
      subst hw'
      go_wp2_with (go_at_call 103;refine (grow_two l1.length l2.length _ HL.out).mono ?_;rintro e w2 ⟨v,rfl,hown,hb⟩;have HO:Aside0 (Kd.R k91 91 w2 w.heap.size (fun _=>True) v []):=⟨⟨fun _ _=>trivial,[],hown,Reps.none _ _⟩⟩;have HB:=Aside0.mk hb;clear hown hb)
      go_loopg [6,27] 3 (fun kq v6 v27 wq=>(v27=.int .i64 0∧Aside0 (kq=3)∧Aside0 (Kd.R k91 91 wq w.heap.size (fun _=>True) v6 [])∧Aside0 (Below w.heap.size w wq))∨(v27=.int .i64 1∧Aside0 (kq=2)∧Aside0 (Kd.R k91 91 wq w.heap.size (fun _=>True) v6 l1)∧Aside0 (Below w.heap.size w wq))∨(v27=.int .i64 2∧Aside0 (Kd.R k91 91 wq w.heap.size (fun _=>True) v6 (l1++l2))∧Aside0 (Below w.heap.size w wq)))
      case atStart=>exact Or.inl ⟨rfl,⟨rfl⟩,HO,HB⟩
      case round =>
        rcases hrel with ⟨rfl,hk2,HO2,HB2⟩|⟨rfl,hk2,HO2,HB2⟩|⟨rfl,HO2,HB2⟩
        · obtain⟨k2,rfl⟩:∃ k2,gk=k2+1:=⟨2,hk2.out⟩
          have g0:=(HB2.out.cell (p:=⟨B,0,none⟩) hBlt).trans h0
          go_wp2_with (at_builtin;refine Kd.yxb_ k91 (w0:=w) w.heap.size rfl (.tmp 31) (.tmp 32) 68 91 (.agg #[(.int .i64 0),(.int .i64 0),(.string ⟨#[]⟩)]) 32 rfl Tryz.underlying68 info91 rfl (by decide) (by omega) _ ([]:List S91) l1 _ _ _ (fun _=>True) (fun _=>False) rfl rfl HO2.out (Kd.yR_ HC1.out HB2.out) (fun _ _ h=>h) (fun _ h=>h.elim) (fun _ _=>trivial) HB2.out HB2.out.size (by have:=HL.out;simp;omega) ?_;intro v1 w3 ho hb hg hat;have HO3:=Aside0.mk ho;have HB3:=Aside0.mk hb;clear ho hb hg hat)
          go_roundg k2
          case measure=>have:=hk2.out;omega
          case rel=>exact Or.inr (Or.inl ⟨rfl,⟨by have:=hk2.out;omega⟩,HO3,HB3⟩)
        · obtain⟨k2,rfl⟩:∃ k2,gk=k2+1:=⟨1,hk2.out⟩
          have g1:=(HB2.out.cell (p:=⟨B,1,none⟩) hBlt).trans h1
          go_wp2_with (at_builtin;refine Kd.yxb_ k91 (w0:=w) w.heap.size rfl (.tmp 31) (.tmp 32) 68 91 (.agg #[(.int .i64 0),(.int .i64 0),(.string ⟨#[]⟩)]) 32 rfl Tryz.underlying68 info91 rfl (by decide) (by omega) _ l1 l2 _ _ _ (fun _=>True) (fun _=>False) rfl rfl HO2.out (Kd.yR_ HC2.out HB2.out) (fun _ _ h=>h) (fun _ h=>h.elim) (fun _ _=>trivial) HB2.out HB2.out.size (by have:=HL.out;simp;omega) ?_;intro v1 w3 ho hb hg hat;have HO3:=Aside0.mk ho;have HB3:=Aside0.mk hb;clear ho hb hg hat)
          go_roundg k2
          case measure=>have:=hk2.out;omega
          case rel=>exact Or.inr (Or.inr ⟨rfl,HO3,HB3⟩)
        · go_wp2_with fail
          go_ret
          exact⟨_,rfl,HO2.out,HB2.out⟩
/-- what text.Merge answers -/
def mergeR (n:Nat) (l1 l2:List S91):List S91 × Int :=
  if fineE n l1≠0 then ([],fineE n l1) else if fineE n l2≠0 then ([],fineE n l2) else if fineE n (l1++l2)≠0 then ([],fineE n (l1++l2)) else (Tx.ord eltS (l1++l2),0)
def y2b_.f (a0:ByteArray) (l1 l2:List S91):Option (List S91 × Int):=if l1.length+l2.length≤20000 then some (mergeR a0.size l1 l2) else none
theorem concat_la (B:Nat) (A1:Option Addr) (c1:Nat) (l1:List S91) (A2:Option Addr) (c2:Nat) (l2 la:List S91) (hla:la=l1++l2) (w:World) (hlen:l1.length+l2.length≤20000)
    (hC1:Kd.C k91 w A1 l1.length l1) (hC2:Kd.C k91 w A2 l2.length l2) (h0:w.cell? ⟨B,0,none⟩=some (.slice A1 l1.length c1)) (h1:w.cell? ⟨B,1,none⟩=some (.slice A2 l2.length c2)) :
    Calls Tryz.prog 73 #[.slice (some ⟨B,0,none⟩) 2 2] w fun e w'=>∃ v,e=.returned v∧Kd.R k91 91 w' w.heap.size (fun _=>True) v la∧Below w.heap.size w w':=by
  subst hla
  exact concat_calls B A1 c1 l1 A2 c2 l2 w hlen hC1 hC2 h0 h1
set_option maxHeartbeats 8000000 in
set_option maxRecDepth 100000 in
theorem y2b_.calls (a0:ByteArray) (A1:Option Addr) (c1:Nat) (l1:List S91) (A2:Option Addr) (c2:Nat) (l2:List S91) (r1:List S91) (r2:Int) (w:World) (hr1:Kd.C k91 w A1 l1.length l1) (hc1:l1.length≤c1) (hr2:Kd.C k91 w A2 l2.length l2) (hc2:l2.length≤c2) (h:y2b_.f a0 l1 l2=some (r1,r2)) :
    Calls Tryz.prog 61 #[.string a0,.slice A1 l1.length c1,.slice A2 l2.length c2] w fun e w'=>∃ v0_:Value,e=.returned (.tuple #[v0_,.int .i64 r2])∧Kd.R k91 91 w' w.heap.size (fun _=>True) v0_ r1∧Below w.heap.size w w':=by
  unfold y2b_.f at h
  by_cases hlen:l1.length+l2.length≤20000
  rotate_left
  · rw[if_neg hlen] at h;cases h
  rw[if_pos hlen] at h
  have h':=Option.some.inj h
  have HR:=Aside0.mk h'
  have HC1:=Aside0.mk hr1
  have HC2:=Aside0.mk hr2
  have HL1:=Aside0.mk hc1
  have HL2:=Aside0.mk hc2
  have HL:=Aside0.mk hlen
  clear h h' hr1 hr2 hc1 hc2 hlen
  obtain⟨la,hla⟩:∃ la,la=l1++l2:=⟨_,rfl⟩
  have HLA:=Aside0.mk hla
  have hR0:=HR.out
  unfold mergeR at hR0
  rw[← hla] at hR0
  clear HR
  have HR:=Aside0.mk hR0
  clear hR0 hla
  go_enter Tryz.func61,Tryz.ntmps61
  go_wp2_with (go_at_call 73;refine (concat_la w.heap.size A1 c1 l1 A2 c2 l2 la HLA.out _ HL.out (Kd.yM_ HC1.out _) (Kd.yM_ HC2.out _) (by simp) (by simp)).mono ?_;rintro e w2 ⟨v,rfl,ho,hb⟩;obtain⟨A3,c3,rfl⟩:=Kd.yE_ ho;have HO:=Aside0.mk ho;have HB:=Aside0.mk hb;clear ho hb)
  have HBW:Aside0 (Below w.heap.size w w2):=⟨((Below.refl _ w).alloc (Nat.le_refl _) _).trans (HB.out.mono (by simp))⟩
  have hR3:=Kd.yt_ HO.out
  have HC3:Aside0 (Kd.C k91 (w2.alloc (.cells #[.slice A1 l1.length c1,.slice A2 l2.length c2,.slice A3 la.length c3] 68)) A3 la.length la):=⟨Kd.yM_ hR3.2.2 _⟩
  have HL3:Aside0 (la.length≤c3):=⟨hR3.2.1⟩
  have HD1:Aside0 (Kd.C k91 (w2.alloc (.cells #[.slice A1 l1.length c1,.slice A2 l2.length c2,.slice A3 la.length c3] 68)) A1 l1.length l1):=⟨Kd.yM_ (Kd.yR_ HC1.out HBW.out) _⟩
  have HD2:Aside0 (Kd.C k91 (w2.alloc (.cells #[.slice A1 l1.length c1,.slice A2 l2.length c2,.slice A3 la.length c3] 68)) A2 l2.length l2):=⟨Kd.yM_ (Kd.yR_ HC2.out HBW.out) _⟩
  clear HO HB hR3 HC1 HC2
  go_loopg [21] 4 (fun kq v21 wq=>(v21=.int .i64 0∧Aside0 (kq=4)∧Aside0 (Below (w2.alloc (.cells #[.slice A1 l1.length c1,.slice A2 l2.length c2,.slice A3 la.length c3] 68)).heap.size (w2.alloc (.cells #[.slice A1 l1.length c1,.slice A2 l2.length c2,.slice A3 la.length c3] 68)) wq))∨(v21=.int .i64 1∧Aside0 (kq=3)∧Aside0 (fineE a0.size l1=0)∧Aside0 (Below (w2.alloc (.cells #[.slice A1 l1.length c1,.slice A2 l2.length c2,.slice A3 la.length c3] 68)).heap.size (w2.alloc (.cells #[.slice A1 l1.length c1,.slice A2 l2.length c2,.slice A3 la.length c3] 68)) wq))∨(v21=.int .i64 2∧Aside0 (kq=2)∧Aside0 (fineE a0.size l1=0)∧Aside0 (fineE a0.size l2=0)∧Aside0 (Below (w2.alloc (.cells #[.slice A1 l1.length c1,.slice A2 l2.length c2,.slice A3 la.length c3] 68)).heap.size (w2.alloc (.cells #[.slice A1 l1.length c1,.slice A2 l2.length c2,.slice A3 la.length c3] 68)) wq))∨(v21=.int .i64 3∧Aside0 (fineE a0.size l1=0)∧Aside0 (fineE a0.size l2=0)∧Aside0 (fineE a0.size la=0)∧Aside0 (Below (w2.alloc (.cells #[.slice A1 l1.length c1,.slice A2 l2.length c2,.slice A3 la.length c3] 68)).heap.size (w2.alloc (.cells #[.slice A1 l1.length c1,.slice A2 l2.length c2,.slice A3 la.length c3] 68)) wq)))
  case atStart=>exact Or.inl ⟨rfl,⟨rfl⟩,⟨Below.refl _ _⟩⟩
  case round =>
    rcases hrel with ⟨rfl,hk,HBL⟩|⟨rfl,hk,HF0,HBL⟩|⟨rfl,hk,HF0,HF1,HBL⟩|⟨rfl,HF0,HF1,HF2,HBL⟩
    · obtain⟨k1,rfl⟩:∃ k1,gk=k1+1:=⟨3,hk.out⟩
      have g0:wr.cell? ⟨w2.heap.size,0,none⟩=some (.slice A1 l1.length c1):=(HBL.out.cell (p:=⟨w2.heap.size,0,none⟩) (by simp)).trans (by simp)
      have HX:=Aside0.mk (Kd.yR_ HD1.out HBL.out)
      by_cases hf:fineE a0.size (l1)=0
      · have H12:=Aside0.mk (ysb_.calls a0 A1 c1 (l1) 0 wr HX.out HL1.out (by unfold ysb_.f;rw[hf]))
        go_wp2_with (go_at_call 74;refine H12.out.mono ?_;rintro e w5 ⟨rfl,hb⟩;have HB5:Aside0 (Below (w2.alloc (.cells #[.slice A1 l1.length c1,.slice A2 l2.length c2,.slice A3 la.length c3] 68)).heap.size (w2.alloc (.cells #[.slice A1 l1.length c1,.slice A2 l2.length c2,.slice A3 la.length c3] 68)) w5):=⟨HBL.out.trans (hb.mono HBL.out.size)⟩;clear hb H12)
        go_roundg k1
        case measure=>have:=hk.out;omega
        case rel=>exact Or.inr (Or.inl ⟨rfl,⟨by have:=hk.out;omega⟩,⟨hf⟩,HB5⟩)
      have b1:(fineE a0.size (l1) != 0)=true:=by simpa using hf
      have b2:(fineE a0.size (l1) == 0)=false:=by simpa using hf
      have hR:=HR.out
      rw[if_pos (show fineE a0.size (l1)≠0 from hf)] at hR
      have e1:r1=[]:=(congrArg Prod.fst hR).symm
      have e2:r2=fineE a0.size (l1):=(congrArg Prod.snd hR).symm
      clear HR hR
      have H12:=Aside0.mk (ysb_.calls a0 A1 c1 (l1) (fineE a0.size (l1)) wr HX.out HL1.out rfl)
      generalize fineE a0.size (l1)=fe at *
      subst e1 e2
      go_wp2_with (go_at_call 74;refine H12.out.mono ?_;rintro e w5 ⟨rfl,hb⟩;have HB5:Aside0 (Below (w2.alloc (.cells #[.slice A1 l1.length c1,.slice A2 l2.length c2,.slice A3 la.length c3] 68)).heap.size (w2.alloc (.cells #[.slice A1 l1.length c1,.slice A2 l2.length c2,.slice A3 la.length c3] 68)) w5):=⟨HBL.out.trans (hb.mono HBL.out.size)⟩;clear hb H12)
      go_ret2
      exact⟨_,rfl,Kd.R_nil _ _ _ _ _,(HBW.out.alloc HBW.out.size _).trans (HB5.out.mono (by have:=HBW.out.size;simp;omega))⟩
    · obtain⟨k1,rfl⟩:∃ k1,gk=k1+1:=⟨2,hk.out⟩
      have g0:wr.cell? ⟨w2.heap.size,1,none⟩=some (.slice A2 l2.length c2):=(HBL.out.cell (p:=⟨w2.heap.size,1,none⟩) (by simp)).trans (by simp)
      have HX:=Aside0.mk (Kd.yR_ HD2.out HBL.out)
      by_cases hf:fineE a0.size (l2)=0
      · have H12:=Aside0.mk (ysb_.calls a0 A2 c2 (l2) 0 wr HX.out HL2.out (by unfold ysb_.f;rw[hf]))
        go_wp2_with (go_at_call 74;refine H12.out.mono ?_;rintro e w5 ⟨rfl,hb⟩;have HB5:Aside0 (Below (w2.alloc (.cells #[.slice A1 l1.length c1,.slice A2 l2.length c2,.slice A3 la.length c3] 68)).heap.size (w2.alloc (.cells #[.slice A1 l1.length c1,.slice A2 l2.length c2,.slice A3 la.length c3] 68)) w5):=⟨HBL.out.trans (hb.mono HBL.out.size)⟩;clear hb H12)
        go_roundg k1
        case measure=>have:=hk.out;omega
        case rel=>exact Or.inr (Or.inr (Or.inl ⟨rfl,⟨by have:=hk.out;omega⟩,HF0,⟨hf⟩,HB5⟩))
      have b1:(fineE a0.size (l2) != 0)=true:=by simpa using hf
      have b2:(fineE a0.size (l2) == 0)=false:=by simpa using hf
      have hR:=HR.out
      rw[if_neg (show ¬ (fineE a0.size l1≠0) from fun q=>q HF0.out),if_pos (show fineE a0.size (l2)≠0 from hf)] at hR
      have e1:r1=[]:=(congrArg Prod.fst hR).symm
      have e2:r2=fineE a0.size (l2):=(congrArg Prod.snd hR).symm
      clear HR hR
      have H12:=Aside0.mk (ysb_.calls a0 A2 c2 (l2) (fineE a0.size (l2)) wr HX.out HL2.out rfl)
      generalize fineE a0.size (l2)=fe at *
      subst e1 e2
      go_wp2_with (go_at_call 74;refine H12.out.mono ?_;rintro e w5 ⟨rfl,hb⟩;have HB5:Aside0 (Below (w2.alloc (.cells #[.slice A1 l1.length c1,.slice A2 l2.length c2,.slice A3 la.length c3] 68)).heap.size (w2.alloc (.cells #[.slice A1 l1.length c1,.slice A2 l2.length c2,.slice A3 la.length c3] 68)) w5):=⟨HBL.out.trans (hb.mono HBL.out.size)⟩;clear hb H12)
      go_ret2
      exact⟨_,rfl,Kd.R_nil _ _ _ _ _,(HBW.out.alloc HBW.out.size _).trans (HB5.out.mono (by have:=HBW.out.size;simp;omega))⟩
    · obtain⟨k1,rfl⟩:∃ k1,gk=k1+1:=⟨1,hk.out⟩
      have g0:wr.cell? ⟨w2.heap.size,2,none⟩=some (.slice A3 la.length c3):=(HBL.out.cell (p:=⟨w2.heap.size,2,none⟩) (by simp)).trans (by simp)
      have HX:=Aside0.mk (Kd.yR_ HC3.out HBL.out)
      by_cases hf:fineE a0.size la=0
      · have H12:=Aside0.mk (ysb_.calls a0 A3 c3 la 0 wr HX.out HL3.out (by unfold ysb_.f;rw[hf]))
        go_wp2_with (go_at_call 74;refine H12.out.mono ?_;rintro e w5 ⟨rfl,hb⟩;have HB5:Aside0 (Below (w2.alloc (.cells #[.slice A1 l1.length c1,.slice A2 l2.length c2,.slice A3 la.length c3] 68)).heap.size (w2.alloc (.cells #[.slice A1 l1.length c1,.slice A2 l2.length c2,.slice A3 la.length c3] 68)) w5):=⟨HBL.out.trans (hb.mono HBL.out.size)⟩;clear hb H12)
        go_roundg k1
        case measure=>have:=hk.out;omega
        case rel=>exact Or.inr (Or.inr (Or.inr ⟨rfl,HF0,HF1,⟨hf⟩,HB5⟩))
      have b1:(fineE a0.size la != 0)=true:=by simpa using hf
      have b2:(fineE a0.size la == 0)=false:=by simpa using hf
      have hR:=HR.out
      rw[if_neg (show ¬ (fineE a0.size l1≠0) from fun q=>q HF0.out),if_neg (show ¬ (fineE a0.size l2≠0) from fun q=>q HF1.out),if_pos (show fineE a0.size la≠0 from hf)] at hR
      have e1:r1=[]:=(congrArg Prod.fst hR).symm
      have e2:r2=fineE a0.size la:=(congrArg Prod.snd hR).symm
      clear HR hR
      have H12:=Aside0.mk (ysb_.calls a0 A3 c3 la (fineE a0.size la) wr HX.out HL3.out rfl)
      generalize fineE a0.size la=fe at *
      subst e1 e2
      go_wp2_with (go_at_call 74;refine H12.out.mono ?_;rintro e w5 ⟨rfl,hb⟩;have HB5:Aside0 (Below (w2.alloc (.cells #[.slice A1 l1.length c1,.slice A2 l2.length c2,.slice A3 la.length c3] 68)).heap.size (w2.alloc (.cells #[.slice A1 l1.length c1,.slice A2 l2.length c2,.slice A3 la.length c3] 68)) w5):=⟨HBL.out.trans (hb.mono HBL.out.size)⟩;clear hb H12)
      go_ret2
      exact⟨_,rfl,Kd.R_nil _ _ _ _ _,(HBW.out.alloc HBW.out.size _).trans (HB5.out.mono (by have:=HBW.out.size;simp;omega))⟩
    · have hR:=HR.out
      rw[if_neg (show ¬ (fineE a0.size l1≠0) from fun q=>q HF0.out),if_neg (show ¬ (fineE a0.size l2≠0) from fun q=>q HF1.out),if_neg (show ¬ (fineE a0.size la≠0) from fun q=>q HF2.out)] at hR
      have e1:r1=Tx.ord eltS la:=(congrArg Prod.fst hR).symm
      have e2:r2=0:=(congrArg Prod.snd hR).symm
      clear HR hR
      subst e1 e2
      have H32:=Aside0.mk (yqb_.calls A3 c3 la (Tx.ord eltS la) wr (Kd.yR_ HC3.out HBL.out) HL3.out (by unfold yqb_.f;rw[if_pos (by
        have:=HF2.out
        unfold fineE at this
        by_cases q:200000 < a0.size∨10000 < la.length
        · rw[if_pos q] at this;cases this
        · omega)]))
      go_wp2_with (go_at_call 75;refine H32.out.mono ?_;rintro e w5 ⟨v5,rfl,ho,hb⟩;have HO5:=Aside0.mk ho;have HB5:=Aside0.mk hb;clear ho hb H32)
      go_ret2
      have hsz:w.heap.size≤wr.heap.size:=by have:=HBW.out.size;have:=HBL.out.size;simp at this;omega
      exact⟨_,rfl,Kd.y0_ HO5.out hsz,((HBW.out.alloc HBW.out.size _).trans (HBL.out.mono (by have:=HBW.out.size;simp;omega))).trans (HB5.out.mono hsz)⟩
end Go.Proofs.YthimblhfjfngiaaGreat.PText

