/- PastRebases holds: for all steps, every number and all results the statement answers true. Part 23 of 24. -/
import Derived.Test.YthimblhfjfngiaaGreatBRebasesV
import Derived.Sort.EncStr
namespace Go.Proofs.YthimblhfjfngiaaGreat.PText
open Go.RowKit Go.Lib Go.Sort Go.Proofs.YthimblhfjfngiaaGreatW.PrintWords Go.Proofs.YthimblhfjfngiaaGreatW.PrintLast Go.Proofs.YthimblhfjfngiaaGreatW.PrintMore
set_option linter.unusedVariables false
set_option linter.unusedSimpArgs false
def noCom:Com:=⟨⟨#[]⟩,[]⟩
end Go.Proofs.YthimblhfjfngiaaGreat.PText

namespace Go.Proofs.YthimblhfjfngiaaGreat.PText
open Go.RowKit Go.Lib Go.Sort Go.Proofs.YthimblhfjfngiaaGreatW.PrintWords Go.Proofs.YthimblhfjfngiaaGreatW.PrintLast Go.Proofs.YthimblhfjfngiaaGreatW.PrintMore
set_option linter.unusedVariables false
set_option linter.unusedSimpArgs false
/-- a slice's value, in a row -/
def kL:Kd (Option Addr × Nat × Nat):=Kd.scalar (fun x:Option Addr × Nat × Nat=>Value.slice x.1 x.2.1 x.2.2) (fun _=>rfl)
theorem info46:(Tryz.prog.info? 37).map (fun i=>(i.zero,i.size,i.bytes))=some (some (.slice none 0 0),1,24):=by kernel_rfl
/-- whatever lies in blocks of other types than the document's past's own (itself, its rows of names and of files) stands -/
def RKept (w w':World):Prop:=∀ (k:Nat) (o:Obj),w.heap[k]?=some o→(∀ c fz,o≠.cells c 58 fz)→(∀ c fz,o≠.cells c 9 fz)→(∀ c fz,o≠.cells c 37 fz)→w'.heap[k]?=some o
theorem RKept.refl (w:World):RKept w w:=fun _ _ h _ _ _=>h
theorem RKept.trans {a b c:World} (h:RKept a b) (k:RKept b c):RKept a c:=fun i o hi h1 h2 h3=>k i o (h i o hi h1 h2 h3) h1 h2 h3
theorem RKept.of_below {w w':World} (h:Below w.heap.size w w'):RKept w w':=fun k o hk _ _ _=>(h.block k (Array.getElem?_eq_some_iff.1 hk).1).trans hk
theorem RKept.grown {w w':World} {base n t:Nat} {v:Value} {inner:List Value} {sz:Nat} (hg:w.grownBy w' v.ownBlock) (ho:w.ownsRow base t sz v n inner) (ht:t=58∨t=9∨t=37):RKept w w':=fun k o hk h1 h2 h3=>by
  rw[hg.block k (Array.getElem?_eq_some_iff.1 hk).1 ?_,hk]
  intro e
  obtain⟨cells,hc⟩:=ymb_ ho k e.symm
  rw[hk] at hc
  cases hc
  rcases ht with rfl|rfl|rfl
  · exact h1 _ _ rfl
  · exact h2 _ _ rfl
  · exact h3 _ _ rfl
theorem RKept.set {w:World} {q i:Nat} {cs:Array Value} {x:Value} (hq:w.heap[q]?=some (.cells cs 58 (0,0))):RKept w (w.setCell ⟨q,i,none⟩ x):=fun k o hk h1 h2 h3=>by
  rw[Below.heap_setCell _ _ _ _ (fun e=>?_),hk]
  subst e
  rw[hq] at hk
  cases hk
  exact h1 _ _ rfl
theorem FRow.rkeep {w w':World} {A:Option Addr} {cap:Nat} {l:List S41} (h:FRow w A cap l) (hk:RKept w w'):FRow w' A cap l:=by
  rcases h.lies with e|⟨b,cs,e,hb⟩
  · subst e
    exact⟨h.cap,⟨rfl,by simp,fun q=>absurd q (by simp)⟩,.inl rfl⟩
  · have hb':=hk b _ hb (fun c fz q=>by cases q) (fun c fz q=>by cases q) (fun c fz q=>by cases q)
    exact⟨h.cap,C_kept53 h.reads e (by rw[hb,hb']),.inr ⟨b,cs,e,hb'⟩⟩
theorem ComAt.rkeep {w w':World} {c:Nat} {x:Com} (h:ComAt w c x) (hk:RKept w w'):ComAt w' c x:=by
  obtain⟨A,cap,h1,h2⟩:=h
  exact⟨A,cap,hk c _ h1 (fun c fz q=>by cases q) (fun c fz q=>by cases q) (fun c fz q=>by cases q),h2.rkeep hk⟩
theorem R_types' {α:Type} {d:Kd α} {e:Nat} {w w':World} {base:Nat} {v:Value} {xs:List α} (h:Kd.R d e w base (fun _=>True) v xs) (hm:∀ (k q:Nat) (cs:Array Value),q∈e :: d.E→w.heap[k]?=some (.cells cs q (0,0))→w'.heap[k]?=some (.cells cs q (0,0))):Kd.R d e w' base (fun _=>True) v xs :=
  Kd.R_mono (Kd.R_step (Kd.yPb_ h) (fun k hk hk2=>by
    obtain⟨-,-,-,q,hq,cs,hc⟩:=hk
    rw[hm k q cs hq hc,hc])) (fun _ _=>trivial)
/-- the program's past stands where the document's is written -/
theorem PastIs.rkeep {w w':World} {base p:Nat} {L:List Com} (h:PastIs w base p L) (hk:RKept w w'):PastIs w' base p L:=by
  obtain⟨A,cap,ps,h1,h2,h3,h4,h5⟩:=h
  refine⟨A,cap,ps,h1,h2,hk p _ h3 (fun c fz q=>by cases q) (fun c fz q=>by cases q) (fun c fz q=>by cases q),R_types' h4 (fun k q cs hq hc=>?_),fun i a b=>(h5 i a b).rkeep hk⟩
  have e:q=63:=by rcases List.mem_cons.1 hq with h|h;exact h;cases h
  subst e
  exact hk k _ hc (fun c fz q=>by cases q) (fun c fz q=>by cases q) (fun c fz q=>by cases q)
/-- the document's past: names and files of its commits -/
def RefIs (w:World) (base q:Nat) (L:List Com):Prop :=
  ∃ (A1 A2:Option Addr) (c1 c2:Nat) (ps:List (Option Addr × Nat × Nat)),ps.length=L.length∧base≤q∧w.heap[q]?=some (.cells #[.slice A1 L.length c1,.slice A2 L.length c2] 58 (0,0))∧Kd.R Kd.string 9 w base (fun _=>True) (.slice A1 L.length c1) (L.map (·.name)) ∧
    Kd.R kL 37 w base (fun _=>True) (.slice A2 L.length c2) ps∧∀ i,∀ h:i < L.length,∀ h':i < ps.length,ps[i].2.1=L[i].files.length∧FRow w ps[i].1 ps[i].2.2 L[i].files
theorem RefIs.keep {w w':World} {base q:Nat} {L:List Com} (h:RefIs w base q L) (hk:PKept w w'):RefIs w' base q L:=by
  obtain⟨A1,A2,c1,c2,ps,h1,h2,h3,h4,h5,h6⟩:=h
  have one:∀ (t:Nat) (e:List Nat),e=[]→t≠61→t≠63→∀ (k q:Nat) (cs:Array Value),q∈t :: e→w.heap[k]?=some (.cells cs q (0,0))→w'.heap[k]?=some (.cells cs q (0,0)):=fun t e he n1 n2 k q cs hq hc=>by
    subst he
    have e:q=t:=by rcases List.mem_cons.1 hq with h|h;exact h;cases h
    subst e
    exact hk k _ hc (fun c fz z=>by cases z;exact n1 rfl) (fun c fz z=>by cases z;exact n2 rfl)
  exact⟨A1,A2,c1,c2,ps,h1,h2,hk q _ h3 (fun c fz z=>by cases z) (fun c fz z=>by cases z),R_types' h4 (one 9 _ rfl (by decide) (by decide)),R_types' h5 (one 37 _ rfl (by decide) (by decide)),fun i a b=>⟨(h6 i a b).1,(h6 i a b).2.keep hk⟩⟩
theorem RefIs.below {w w':World} {base q:Nat} {L:List Com} (h:RefIs w base q L) (hb:Below w.heap.size w w'):RefIs w' base q L:=h.keep (PKept.of_below hb)
end Go.Proofs.YthimblhfjfngiaaGreat.PText

namespace Go.Proofs.YthimblhfjfngiaaGreat.PText
open Go.RowKit Go.Lib Go.Sort Go.Proofs.YthimblhfjfngiaaGreatW.PrintWords Go.Proofs.YthimblhfjfngiaaGreatW.PrintLast Go.Proofs.YthimblhfjfngiaaGreatW.PrintMore
set_option linter.unusedVariables false
set_option linter.unusedSimpArgs false
theorem files_row {w:World} {base:Nat} {A2:Option Addr} {c2:Nat} {L:List Com} {ps:List (Option Addr × Nat × Nat)} (h1:ps.length=L.length) (h5:Kd.R kL 37 w base (fun _=>True) (.slice A2 L.length c2) ps)
    (h6:∀ i,∀ h:i < L.length,∀ h':i < ps.length,ps[i].2.1=L[i].files.length∧FRow w ps[i].1 ps[i].2.2 L[i].files):Kd.C (Kd.slice 41 k41) w A2 (L.map (·.files)).length (L.map (·.files)):=by
  rw[← h1] at h5
  obtain⟨q1,q2,q3⟩:=(Kd.yt_ h5).2.2
  refine⟨rfl,by rw[List.length_map,← h1];exact q2,fun hl=>?_⟩
  rw[List.length_map] at hl
  obtain⟨ad,e,q4⟩:=q3 (by omega)
  refine⟨ad,e,fun j p hj=>?_⟩
  obtain⟨hj1,hj2⟩:=List.getElem?_eq_some_iff.1 hj
  have hjL:j < L.length:=by rwa [List.length_map] at hj1
  have hjp:j < ps.length:=by omega
  obtain⟨c,e1,e2,e3⟩:=q4 j ps[j] (List.getElem?_eq_getElem hjp)
  obtain⟨f1,f2⟩:=h6 j hjL hjp
  rw[List.getElem_map] at hj2
  subst hj2
  refine⟨c,e1,?_,e3⟩
  have e2':c=[.slice ps[j].1 ps[j].2.1 ps[j].2.2]:=e2
  rw[f1] at e2'
  exact⟨ps[j].1,ps[j].2.2,e2',f2.cap,f2.reads⟩
theorem refIs_S {w:World} {base q:Nat} {L:List Com} (h:RefIs w base q L):IsS58 w w q (L.map (·.name)) (L.map (·.files)):=by
  obtain⟨A1,A2,c1,c2,ps,h1,h2,h3,h4,h5,h6⟩:=h
  have hn:(L.map (·.name)).length=L.length:=List.length_map _
  refine⟨A1,c1,A2,c2,by rw[List.length_map,List.length_map];exact h3,trivial,?_,files_row h1 h5 h6⟩
  have h4':Kd.R Kd.string 9 w base (fun _=>True) (.slice A1 (L.map (·.name)).length c1) (L.map (·.name)):=by rw[hn];exact h4
  exact (Kd.yt_ h4').2.2
end Go.Proofs.YthimblhfjfngiaaGreat.PText

namespace Go.Proofs.YthimblhfjfngiaaGreat.PText
open Go.RowKit Go.Lib Go.Proofs.YthimblhfjfngiaaGreatW.PrintWords Go.Proofs.YthimblhfjfngiaaGreatW.PrintLast Go.Proofs.YthimblhfjfngiaaGreatW.PrintMore
set_option linter.unusedVariables false
set_option linter.unusedSimpArgs false
end Go.Proofs.YthimblhfjfngiaaGreat.PText

namespace Go.Proofs.YthimblhfjfngiaaGreat.PText
open Go.RowKit Go.Lib Go.Sort Go.Proofs.YthimblhfjfngiaaGreatW.PrintWords Go.Proofs.YthimblhfjfngiaaGreatW.PrintLast Go.Proofs.YthimblhfjfngiaaGreatW.PrintMore
set_option linter.unusedVariables false
set_option linter.unusedSimpArgs false
/-- commits of small files -/
def Tiny (L:List Com):Prop:=∀ c∈L,c.files.length≤10000∧∀ x∈c.files,x.f1.size≤10000
theorem Tiny.small {L:List Com} (h:Tiny L):Small L:=fun c m=>⟨(h c m).1,fun x hx=>by have:=(h c m).2 x hx;omega⟩
theorem rfind_l0 (l:List S41) (file:ByteArray) (hl:l.length≤100000):∀ (m i k:Nat),l.length - i=m→i≤l.length→m+1≤k→yG_.l0 k l file (i:Int)=some (findR (l.drop i) file)
  | 0,i,k,hm,hi,hk=>by
    obtain⟨k,rfl⟩:∃ q,k=q+1:=⟨k - 1,by omega⟩
    rw[yG_.l0,if_neg (by omega),List.drop_eq_nil_of_le (by omega)]
    rfl
  | m+1,i,k,hm,hi,hk=>by
    obtain⟨k,rfl⟩:∃ q,k=q+1:=⟨k - 1,by omega⟩
    have hil:i < l.length:=by omega
    rw[yG_.l0,if_pos (by omega),if_pos (by omega),yBb_ l i hil,List.drop_eq_getElem_cons hil]
    by_cases c:l[i].f0.toList=file.toList
    · rw[if_pos c]
      have q:nameP file l[i]=true:=beq_iff_eq.2 c
      unfold findR
      rw[List.find?_cons,q]
    rw[if_neg c,nx i (by omega),rfind_l0 l file hl m (i+1) k (by omega) (by omega) (by omega)]
    have q:nameP file l[i]=false:=beq_eq_false_iff_ne.2 c
    have e:findR (l[i] :: l.drop (i+1)) file=findR (l.drop (i+1)) file:=by unfold findR;rw[List.find?_cons,q]
    rw[e]
theorem rfind_f (l:List S41) (file:ByteArray) (hl:l.length≤100000) (k:Nat) (hk:l.length+1≤k):yG_.f k l file=some (findR l file):=by
  have h:=rfind_l0 l file hl l.length 0 k (by omega) (Nat.zero_le _) hk
  rw[List.drop_zero] at h
  exact h
theorem rdL2_at (L:List Com) (i:Nat) (h:i < L.length):rd_L2 (L.map (·.files)) (i:Int)=L[i].files:=by
  unfold rd_L2
  rw[Int.toNat_natCast,List.getD_eq_getElem?_getD,List.getElem?_map,List.getElem?_eq_getElem h]
  rfl
theorem s58_cell {w0 w:World} {g:Nat} {L:List Com} (h:IsS58 w0 w g (L.map (·.name)) (L.map (·.files))):∃ A c,w.cell? ⟨g,1,none⟩=some (.slice A L.length c)∧Kd.C (Kd.slice 41 k41) w0 A L.length (L.map (·.files)):=by
  obtain⟨A0,c0,A1,c1,h1,-,h3,h4⟩:=h
  rw[List.length_map] at h4
  refine⟨A1,c1,?_,h4⟩
  have:=cellS58_1 h1
  rwa [List.length_map] at this
end Go.Proofs.YthimblhfjfngiaaGreat.PText

namespace Go.Proofs.YthimblhfjfngiaaGreat.PText
open Go.RowKit Go.Lib Go.Sort Go.Proofs.YthimblhfjfngiaaGreatW.PrintWords Go.Proofs.YthimblhfjfngiaaGreatW.PrintLast Go.Proofs.YthimblhfjfngiaaGreatW.PrintMore
set_option linter.unusedVariables false
set_option linter.unusedSimpArgs false
end Go.Proofs.YthimblhfjfngiaaGreat.PText

namespace Go.Proofs.YthimblhfjfngiaaGreat.PText
open Go.RowKit Go.Lib Go.Sort Go.Proofs.YthimblhfjfngiaaGreatW.PrintWords Go.Proofs.YthimblhfjfngiaaGreatW.PrintLast Go.Proofs.YthimblhfjfngiaaGreatW.PrintMore
set_option linter.unusedVariables false
set_option linter.unusedSimpArgs false
/-- no two of the first files have one name -/
def NoDupTo (fs:List S41) (i:Nat):Prop:=∀ a b,a < b→b < i→∀ hb:b < fs.length,∀ ha:a < fs.length,fs[b].f0.toList≠fs[a].f0.toList
theorem noDup_all {fs:List S41} (h:NoDupTo fs fs.length):(fnames fs).Nodup:=by
  unfold fnames
  rw[List.nodup_iff_pairwise_ne,List.pairwise_iff_getElem]
  intro i j hi hj hij
  rw[List.getElem_map,List.getElem_map]
  rw[List.length_map] at hi hj
  exact fun e=>h i j hij hj hj hi e.symm
theorem dup_not {fs:List S41} {a b:Nat} (hab:a < b) (hb:b < fs.length) (h:fs[b].f0.toList=fs[a].f0.toList):¬ (fnames fs).Nodup:=fun q=>by
  unfold fnames at q
  rw[List.nodup_iff_pairwise_ne,List.pairwise_iff_getElem] at q
  have:=q a b (by rw[List.length_map];omega) (by rw[List.length_map];omega) hab
  rw[List.getElem_map,List.getElem_map] at this
  exact this h.symm
/-- what is read below a place, and is read still -/
theorem below_setq {base:Nat} {a w:World} {q i:Nat} {x:Value} (h:Below base a w) (hq:base≤q):Below base a (w.setCell ⟨q,i,none⟩ x):=h.setCell (p:=⟨q,i,none⟩) hq x
/-- behind the names' append and its store -/
theorem ref_named {w w5:World} {base q:Nat} {L:List Com} {A1 A2 A5:Option Addr} {c1 c2 c5:Nat} {ps:List (Option Addr × Nat × Nat)} {name:ByteArray}
    (h1:ps.length=L.length) (h2:base≤q) (h3:w.heap[q]?=some (.cells #[.slice A1 L.length c1,.slice A2 L.length c2] 58 (0,0))) (h4:Kd.R Kd.string 9 w base (fun _=>True) (.slice A1 L.length c1) (L.map (·.name))) (h5:Kd.R kL 37 w base (fun _=>True) (.slice A2 L.length c2) ps)
    (h6:∀ i,∀ h:i < L.length,∀ h':i < ps.length,ps[i].2.1=L[i].files.length∧FRow w ps[i].1 ps[i].2.2 L[i].files) (hbw:base≤w.heap.size)
    (ho:Kd.R Kd.string 9 w5 base (fun _=>True) (.slice A5 (L.length+1) c5) (L.map (·.name)++[name])) (hb:Below base w w5) (hg:w.grownBy w5 (Value.slice A1 L.length c1).ownBlock) :
    Below base w (w5.setCell ⟨q,0,none⟩ (.slice A5 (L.length+1) c5))∧RKept w (w5.setCell ⟨q,0,none⟩ (.slice A5 (L.length+1) c5))∧w5.heap[q]?=some (.cells #[.slice A1 L.length c1,.slice A2 L.length c2] 58 (0,0)) ∧
    (w5.setCell ⟨q,0,none⟩ (.slice A5 (L.length+1) c5)).heap[q]?=some (.cells #[.slice A5 (L.length+1) c5,.slice A2 L.length c2] 58 (0,0))∧Kd.R Kd.string 9 (w5.setCell ⟨q,0,none⟩ (.slice A5 (L.length+1) c5)) base (fun _=>True) (.slice A5 (L.length+1) c5) (L.map (·.name)++[name]) ∧
    Kd.R kL 37 (w5.setCell ⟨q,0,none⟩ (.slice A5 (L.length+1) c5)) base (fun _=>True) (.slice A2 L.length c2) ps∧(∀ i,∀ h:i < L.length,∀ h':i < ps.length,ps[i].2.1=L[i].files.length∧FRow (w5.setCell ⟨q,0,none⟩ (.slice A5 (L.length+1) c5)) ps[i].1 ps[i].2.2 L[i].files):=by
  have hqlt:=(Array.getElem?_eq_some_iff.1 h3).1
  obtain⟨inner,hown⟩:=Kd.R_own h4
  have hne:some q≠(Value.slice A1 L.length c1).ownBlock:=fun e=>by
    obtain⟨i0,ho0⟩:=Kd.R_own h4
    obtain⟨cells,hc⟩:=ymb_ ho0 q e.symm
    rw[h3] at hc;cases hc
  have hq5:w5.heap[q]?=some (.cells #[.slice A1 L.length c1,.slice A2 L.length c2] 58 (0,0)):=(hg.block q hqlt hne).trans h3
  have hK:RKept w w5:=RKept.grown hg hown (.inr (.inl rfl))
  have hK2:RKept w (w5.setCell ⟨q,0,none⟩ (.slice A5 (L.length+1) c5)):=hK.trans (RKept.set hq5)
  have hself:(w5.setCell ⟨q,0,none⟩ (.slice A5 (L.length+1) c5)).heap[q]?=some (.cells #[.slice A5 (L.length+1) c5,.slice A2 L.length c2] 58 (0,0)):=by
    unfold World.setCell
    simp only
    rw[Array.getElem?_modify,if_pos rfl,hq5]
    rfl
  refine⟨below_setq hb h2,hK2,hq5,hself,Kd.R_set ho hq5 (fun z hz=>by rcases List.mem_cons.1 hz with h|h;subst h;decide;cases h) 0 _,?_,fun i a b=>⟨(h6 i a b).1,(h6 i a b).2.rkeep hK2⟩⟩
  refine Kd.R_set ?_ hq5 (fun z hz=>by rcases List.mem_cons.1 hz with h|h;subst h;decide;cases h) 0 _
  refine R_types' h5 (fun k t cs ht hc=>?_)
  have e:t=37:=by rcases List.mem_cons.1 ht with h|h;exact h;cases h
  subst e
  rw[hg.block k (Array.getElem?_eq_some_iff.1 hc).1 ?_,hc]
  intro e
  obtain⟨cells,hc'⟩:=ymb_ hown k e.symm
  rw[hc] at hc';cases hc'
/-- behind the files' append and its store -/
theorem ref_filed {w w5:World} {base q:Nat} {L:List Com} {A1 A2 A5 A':Option Addr} {c1 c2 c5 c':Nat} {ps:List (Option Addr × Nat × Nat)} {x:Com}
    (h1:ps.length=L.length) (h2:base≤q) (h3:w.heap[q]?=some (.cells #[.slice A1 (L.length+1) c1,.slice A2 L.length c2] 58 (0,0))) (h4:Kd.R Kd.string 9 w base (fun _=>True) (.slice A1 (L.length+1) c1) (L.map (·.name)++[x.name])) (h5:Kd.R kL 37 w base (fun _=>True) (.slice A2 ps.length c2) ps)
    (h6:∀ i,∀ h:i < L.length,∀ h':i < ps.length,ps[i].2.1=L[i].files.length∧FRow w ps[i].1 ps[i].2.2 L[i].files) (hbw:base≤w.heap.size) (hF:FRow w A' c' x.files)
    (ho:Kd.R kL 37 w5 base (fun _=>True) (.slice A5 (ps.length+1) c5) (ps++[(A',x.files.length,c')])) (hb:Below base w w5) (hg:w.grownBy w5 (Value.slice A2 ps.length c2).ownBlock) :
    Below base w (w5.setCell ⟨q,1,none⟩ (.slice A5 (ps.length+1) c5))∧RKept w (w5.setCell ⟨q,1,none⟩ (.slice A5 (ps.length+1) c5))∧w5.heap[q]?=some (.cells #[.slice A1 (L.length+1) c1,.slice A2 L.length c2] 58 (0,0)) ∧
    RefIs (w5.setCell ⟨q,1,none⟩ (.slice A5 (ps.length+1) c5)) base q (L++[x]):=by
  have hqlt:=(Array.getElem?_eq_some_iff.1 h3).1
  obtain⟨inner,hown⟩:=Kd.R_own h5
  have hne:some q≠(Value.slice A2 ps.length c2).ownBlock:=fun e=>by
    obtain⟨i0,ho0⟩:=Kd.R_own h5
    obtain⟨cells,hc⟩:=ymb_ ho0 q e.symm
    rw[h3] at hc;cases hc
  have hq5:w5.heap[q]?=some (.cells #[.slice A1 (L.length+1) c1,.slice A2 L.length c2] 58 (0,0)):=(hg.block q hqlt hne).trans h3
  have hK:RKept w w5:=RKept.grown hg hown (.inr (.inr rfl))
  have hK2:RKept w (w5.setCell ⟨q,1,none⟩ (.slice A5 (ps.length+1) c5)):=hK.trans (RKept.set hq5)
  have hself:(w5.setCell ⟨q,1,none⟩ (.slice A5 (ps.length+1) c5)).heap[q]?=some (.cells #[.slice A1 (L.length+1) c1,.slice A5 (ps.length+1) c5] 58 (0,0)):=by
    unfold World.setCell
    simp only
    rw[Array.getElem?_modify,if_pos rfl,hq5]
    rfl
  refine⟨below_setq hb h2,hK2,hq5,A1,A5,c1,c5,ps++[(A',x.files.length,c')],by rw[List.length_append,List.length_append,h1];rfl,h2,?_,?_,?_,?_⟩
  · rw[hself,h1,List.length_append];rfl
  · rw[List.map_append,List.length_append]
    refine Kd.R_set ?_ hq5 (fun z hz=>by rcases List.mem_cons.1 hz with h|h;subst h;decide;cases h) 1 _
    refine R_types' h4 (fun k t cs ht hc=>?_)
    have e:t=9:=by rcases List.mem_cons.1 ht with h|h;exact h;cases h
    subst e
    rw[hg.block k (Array.getElem?_eq_some_iff.1 hc).1 ?_,hc]
    intro e
    obtain⟨cells,hc'⟩:=ymb_ hown k e.symm
    rw[hc] at hc';cases hc'
  · rw[h1,List.length_append] at *
    exact Kd.R_set (by rw[h1] at ho;exact ho) hq5 (fun z hz=>by rcases List.mem_cons.1 hz with h|h;subst h;decide;cases h) 1 _
  · intro i h h'
    by_cases hi:i < L.length
    · rw[List.getElem_append_left (by omega),List.getElem_append_left hi]
      exact⟨(h6 i hi (by omega)).1,(h6 i hi (by omega)).2.rkeep hK2⟩
    have e1:i=L.length:=by rw[List.length_append,List.length_singleton] at h;omega
    subst e1
    rw[List.getElem_append_right (by omega),List.getElem_append_right (Nat.le_refl _)]
    simp only[h1,Nat.sub_self,List.getElem_cons_zero]
    exact⟨trivial,by rw[h1] at hK2;exact hF.rkeep hK2⟩
/-- to append a commit's files, in a region that draws its order -/
theorem append_file {ops:Array Oper} {o:Oper} {a:Act} {Q:Exit→Act→World→Prop} {Kc:Act→World→Prop} {w W:World} (base q:Nat) {L:List Com} {A1 A2 A':Option Addr} {c1 c2 c':Nat} {ps:List (Option Addr × Nat × Nat)} {x:Com} (hw:Region.wanted o (yielded ops a.tmps)=true)
    (ho:o.op=.call { callee:=.builtin .append,args:=#[.tmp 70,.tmp 73],argTypes:=#[56,56] }) (hs:a.eval (.tmp 70)=.slice A2 L.length c2) (hx:a.eval (.tmp 73)=.slice (some ⟨w.heap.size,0,none⟩) 1 1) (hW:W=w.alloc (.cells #[.slice A' x.files.length c'] 37))
    (h1:ps.length=L.length) (h2:base≤q) (h3:w.heap[q]?=some (.cells #[.slice A1 (L.length+1) c1,.slice A2 L.length c2] 58 (0,0))) (h4:Kd.R Kd.string 9 w base (fun _=>True) (.slice A1 (L.length+1) c1) (L.map (·.name)++[x.name])) (h5:Kd.R kL 37 w base (fun _=>True) (.slice A2 ps.length c2) ps)
    (h6:∀ i,∀ h:i < L.length,∀ h':i < ps.length,ps[i].2.1=L[i].files.length∧FRow w ps[i].1 ps[i].2.2 L[i].files) (hbw:base≤w.heap.size) (hF:FRow w A' c' x.files) (hL:L.length≤1000)
    (h:∀ A5 c5 w5,Below base w w5→(Below base w (w5.setCell ⟨q,1,none⟩ (.slice A5 (L.length+1) c5))∧RKept w (w5.setCell ⟨q,1,none⟩ (.slice A5 (L.length+1) c5))∧RefIs (w5.setCell ⟨q,1,none⟩ (.slice A5 (L.length+1) c5)) base q (L++[x]))→w5.cell? ⟨q,1,none⟩=some (.slice A2 L.length c2)→w5.frozen? ⟨q,1,none⟩=false→(w5.setCell ⟨q,1,none⟩ (.slice A5 (L.length+1) c5)).cell? ⟨q,0,none⟩=some (.slice A1 (L.length+1) c1) →
      Kc (a.put o.dst (.slice A5 (L.length+1) c5)) w5) :
    if Region.wanted o (yielded ops a.tmps)=true then Oper.wp Tryz.prog o a W Kc Q else Kc (a.put o.dst undef) W:=by
  subst hW
  have hs':a.eval (.tmp 70)=.slice A2 ps.length c2:=by rw[h1];exact hs
  refine Kd.R_append_step kL (w0:=w) base hw (.tmp 70) (.tmp 73) 56 37 (.slice none 0 0) 24 ho Tryz.underlying56 info46 rfl (by decide) (by omega) (.slice A2 ps.length c2) ps (A',x.files.length,c') [.slice A' x.files.length c'] (fun _=>True) (fun _=>False) hs' hx rfl (fun _ hk=>hk.elim) (fun _ _=>trivial) h5 (Below.refl base w) hbw (by omega) ?_
  intro v1 w5 ho hb hg hat
  obtain⟨A5,c5,rfl⟩:=Kd.yE_ ho
  have e:(ps++[(A',x.files.length,c')]).length=L.length+1:=by rw[List.length_append,h1];rfl
  have e2:(ps++[(A',x.files.length,c')]).length=ps.length+1:=by rw[List.length_append];rfl
  rw[e2] at ho
  obtain⟨q1,q2,q3,q4⟩:=ref_filed (A5:=A5) (c5:=c5) h1 h2 h3 h4 h5 h6 hbw hF ho hb hg
  rw[h1] at q1 q2 q4
  rw[e]
  exact h A5 c5 w5 hb ⟨q1,q2,q4⟩ (by unfold World.cell?;rw[q3];rfl) (by simp [World.frozen?,q3]) (by unfold World.cell? World.setCell;simp only;rw[Array.getElem?_modify,if_pos rfl,q3];rfl)
end Go.Proofs.YthimblhfjfngiaaGreat.PText

namespace Go.Proofs.YthimblhfjfngiaaGreat.PText
open Go.RowKit Go.Lib Go.Sort Go.Proofs.YthimblhfjfngiaaGreatW.PrintWords Go.Proofs.YthimblhfjfngiaaGreatW.PrintLast Go.Proofs.YthimblhfjfngiaaGreatW.PrintMore
set_option linter.unusedVariables false
set_option linter.unusedSimpArgs false
set_option maxRecDepth 100000 in
set_option maxHeartbeats 8000000 in
theorem rcommit_calls (base q:Nat) (L:List Com) (name:ByteArray) (A0:Option Addr) (c0:Nat) (fs:List S41) (w:World) (hR:RefIs w base q L) (hC:∀ w',Below base w w'→Kd.C k41 w' A0 fs.length fs) (hc:fs.length≤c0) (hL:L.length≤200) (hbase:base≤w.heap.size) :
    Calls Tryz.prog 27 #[.pointer (some ⟨q,0,none⟩),.string name,.slice A0 fs.length c0] w fun e w'=>e=.returned (.tuple #[.int .i64 (commitR L name fs).1,.int .i64 (commitR L name fs).2.1])∧RefIs w' base q (commitR L name fs).2.2∧Below base w w'∧RKept w w':=by
  have HR:=Aside0.mk hR
  obtain⟨A1,A2,c1,c2,ps,h1,h2,h3,h4,h5,h6⟩:=hR
  have hx0:w.cell? ⟨q,0,none⟩=some (.slice A1 L.length c1):=by unfold World.cell?;rw[h3];rfl
  have hx1:w.cell? ⟨q,1,none⟩=some (.slice A2 L.length c2):=by unfold World.cell?;rw[h3];rfl
  have HX0:=Aside0.mk hx0
  have HX1:=Aside0.mk hx1
  have HQL:=Aside0.mk (Array.getElem?_eq_some_iff.1 h3).1
  have HLL:=Aside0.mk hL
  have HCC:=Aside0.mk hC
  have HBS:=Aside0.mk hbase
  have HCP:=Aside0.mk hc
  clear h1 h2 h3 h4 h5 h6 hC hL hbase hc hx1
  by_cases g1:L.length=200
  · have e:commitR L name fs=(0,2,L):=by unfold commitR;rw[if_pos (Or.inl g1)]
    have d1:decide ((L.length:Int) ≥ 200)=true:=decide_eq_true (by omega)
    have d1':decide ((200:Int)≤(L.length:Int))=true:=decide_eq_true (by omega)
    rw[e]
    go_enter Tryz.func27,Tryz.ntmps27
    go_wp2_with fail
    go_ret2
    exact⟨rfl,HR.out,Below.refl _ _,RKept.refl _⟩
  have d1:decide ((L.length:Int) ≥ 200)=false:=decide_eq_false (by have:=HLL.out;omega)
  have d1':decide ((200:Int)≤(L.length:Int))=false:=decide_eq_false (by have:=HLL.out;omega)
  by_cases g2:60 < fs.length
  · have e:commitR L name fs=(0,2,L):=by unfold commitR;rw[if_pos (Or.inr g2)]
    have d2:decide ((60:Int) < (fs.length:Int))=true:=decide_eq_true (by omega)
    have d3:¬ ((200:Int)≤(L.length:Int)):=by have:=HLL.out;omega
    rw[e]
    go_enter Tryz.func27,Tryz.ntmps27
    go_wp2_with fail
    go_ret2
    exact⟨rfl,HR.out,Below.refl _ _,RKept.refl _⟩
  have d2:decide ((60:Int) < (fs.length:Int))=false:=decide_eq_false (by omega)
  have d3:¬ ((200:Int)≤(L.length:Int)):=by have:=HLL.out;omega
  have HG1:=Aside0.mk g1
  have HG2:=Aside0.mk g2
  have HB0:=Aside0.mk (Below.refl w.heap.size w)
  clear g1 g2
  go_enter Tryz.func27,Tryz.ntmps27
  go_wp2_with fail
  go_loopg [8] (fs.length+1) (fun kq v8 w'=>∃ i:Nat,v8=.int .i64 (i:Int)∧Aside0 (fs.length - i < kq∧i≤fs.length)∧Aside0 (Below w.heap.size w w')∧Aside0 (NoDupTo fs i))
  case atStart=>exact⟨0,rfl,⟨by omega,by omega⟩,HB0,⟨fun a b _ hb=>absurd hb (Nat.not_lt_zero _)⟩⟩
  case round =>
    obtain⟨i,rfl,HI,HBe,HN⟩:=hrel
    obtain⟨k1,rfl⟩:∃ k1,gk=k1+1:=⟨gk - 1,by have:=HI.out.1;omega⟩
    by_cases hlt:i < fs.length
    · have hb:decide ((i:Int) < (fs.length:Int))=true:=by simp;omega
      have HLT:=Aside0.mk hlt
      go_wp2_with fail
      go_loopg [9] (i+1) (fun kq v9 w'=>∃ k:Nat,v9=.int .i64 (k:Int)∧Aside0 (i - k < kq∧k≤i)∧Aside0 (Below w.heap.size w w')∧Aside0 (∀ a,a < k→∀ ha:a < fs.length,fs[i].f0.toList≠fs[a].f0.toList))
      case atStart=>exact⟨0,rfl,⟨by omega,by omega⟩,HBe,⟨fun a ha=>absurd ha (Nat.not_lt_zero _)⟩⟩
      case round =>
        obtain⟨k,rfl,HK,HBk,HNk⟩:=hrel
        obtain⟨k2,rfl⟩:∃ k2,gk=k2+1:=⟨gk - 1,by have:=HK.out.1;omega⟩
        have HCk:Aside0 (Kd.C k41 wr A0 fs.length fs):=⟨HCC.out wr (HBk.out.mono HBS.out)⟩
        by_cases hkl:k < i
        rotate_left
        · have hb3:decide ((k:Int) < (i:Int))=false:=by simp;omega
          have hki:k=i:=by have:=HK.out.2;omega
          subst hki
          have HN3:Aside0 (NoDupTo fs (k+1)):=⟨fun a b hab hbi hb ha=>by
            by_cases e:b=k
            · subst e;exact HNk.out a hab ha
            · exact HN.out a b hab (by omega) hb ha⟩
          go_wp2_with fail
          go_roundg k1
          case measure=>have:=HI.out.1;omega
          case rel=>exact⟨k+1,congrArg (Value.int .i64) (by first|exact nx k (by have:=HG2.out;have:=HLT.out;omega)|(have:=HG2.out;have:=HLT.out;omega)),⟨by have:=HI.out.1;omega,by have:=HLT.out;omega⟩,HBk,HN3⟩
        have hb3:decide ((k:Int) < (i:Int))=true:=by simp;omega
        have hkn:k < fs.length:=by omega
        have hi0:decide ((0:Int)≤(i:Int))=true:=by simp
        have hk0:decide ((0:Int)≤(k:Int))=true:=by simp
        have hk1:decide ((k:Int) < (fs.length:Int))=true:=by simp;omega
        have pi0:(0:Int)≤(i:Int):=by omega
        have pi1:(i:Int) < (fs.length:Int):=by omega
        have pk0:(0:Int)≤(k:Int):=by omega
        have pk1:(k:Int) < (fs.length:Int):=by omega
        obtain⟨ad,e0,hx,-⟩:=at_T41 HCk.out (i:Int) pi0 pi1
        cases e0
        obtain⟨ad',e0,hz,-⟩:=at_T41 HCk.out (k:Int) pk0 pk1
        cases e0
        rw[Int.toNat_natCast,yBb_ fs i hlt] at hx
        rw[Int.toNat_natCast,yBb_ fs k hkn] at hz
        have HDU:Aside0 (fs[i].f0.toList=fs[k].f0.toList→¬ (fnames fs).Nodup):=⟨fun e=>dup_not hkl hlt e⟩
        have HNS:Aside0 (fs[i].f0.toList≠fs[k].f0.toList→∀ a,a < k+1→∀ ha:a < fs.length,fs[i].f0.toList≠fs[a].f0.toList):=⟨fun z a ha ha'=>by
          by_cases e:a=k
          · subst e;exact z
          · exact HNk.out a (by omega) ha'⟩
        generalize fs[i]=x at *
        generalize fs[k]=y at *
        by_cases heq:x.f0.toList=y.f0.toList
        · have hbq:(x.f0.toList == y.f0.toList)=true:=beq_iff_eq.2 heq
          have e:commitR L name fs=(0,5,L):=by unfold commitR;rw[if_neg (by have:=HG1.out;have:=HG2.out;omega),if_pos (HDU.out heq)]
          have HE:=Aside0.mk e
          clear heq e
          go_wp2_with fail
          go_big_quiet (fail)
          have HBZ:=Aside0.mk (HBk.out.trans ((ya_ (Below.refl wr.heap.size wr) nq).mono HBk.out.size))
          go_wp2_with fail
          go_ret2
          exact⟨by rw[HE.out];rfl,by rw[HE.out];exact HR.out.below HBZ.out,HBZ.out.mono HBS.out,RKept.of_below HBZ.out⟩
        have hbq:(x.f0.toList == y.f0.toList)=false:=beq_eq_false_iff_ne.2 heq
        have HN2:=Aside0.mk (HNS.out heq)
        clear heq
        go_wp2_with fail
        go_big_quiet (fail)
        have HBZ:=Aside0.mk (HBk.out.trans ((ya_ (Below.refl wr.heap.size wr) nq).mono HBk.out.size))
        go_wp2_with fail
        go_roundg k2
        case measure=>have:=HK.out.1;omega
        case rel=>exact⟨k+1,congrArg (Value.int .i64) (by first|exact nx k (by have:=HG2.out;have:=HLT.out;omega)|(have:=HG2.out;have:=HLT.out;omega)),⟨by have:=HK.out.1;omega,by omega⟩,HBZ,HN2⟩
    have hb:decide ((i:Int) < (fs.length:Int))=false:=by simp;omega
    have hie:i=fs.length:=by have:=HI.out.2;omega
    subst hie
    have HND:=Aside0.mk (noDup_all HN.out)
    clear HN
    go_wp2_with fail
    go_loopg [10] (fs.length+1) (fun kq v10 w'=>∃ i:Nat,v10=.int .i64 (i:Int)∧Aside0 (fs.length - i < kq∧i≤fs.length)∧Aside0 (Below w.heap.size w w')∧Aside0 (∀ a,a < i→∀ ha:a < fs.length,fs[a].f0.toList≠[]))
    case atStart=>exact⟨0,rfl,⟨by omega,by omega⟩,HBe,⟨fun a ha=>absurd ha (Nat.not_lt_zero _)⟩⟩
    case round =>
      clear hx0 HBe HI
      obtain⟨i,rfl,HI,HBe,HN⟩:=hrel
      obtain⟨k2,rfl⟩:∃ k2,gk=k2+1:=⟨gk - 1,by have:=HI.out.1;omega⟩
      have HCk:Aside0 (Kd.C k41 wr A0 fs.length fs):=⟨HCC.out wr (HBe.out.mono HBS.out)⟩
      by_cases hlt:i < fs.length
      · have hb:decide ((i:Int) < (fs.length:Int))=true:=by simp;omega
        have hi0:decide ((0:Int)≤(i:Int))=true:=by simp
        have pi0:(0:Int)≤(i:Int):=by omega
        have pi1:(i:Int) < (fs.length:Int):=by omega
        have HLT:=Aside0.mk hlt
        obtain⟨ad,e0,hx,-⟩:=at_T41 HCk.out (i:Int) pi0 pi1
        cases e0
        rw[Int.toNat_natCast,yBb_ fs i hlt] at hx
        have HEM:Aside0 (fs[i].f0.toList=[]→∃ x∈fs,x.f0.toList=[]):=⟨fun e=>⟨fs[i],List.getElem_mem hlt,e⟩⟩
        have HNS:Aside0 (fs[i].f0.toList≠[]→∀ a,a < i+1→∀ ha:a < fs.length,fs[a].f0.toList≠[]):=⟨fun z a ha ha'=>by
          by_cases e:a=i
          · subst e;exact z
          · exact HN.out a (by omega) ha'⟩
        generalize fs[i]=x at *
        by_cases hem:x.f0.toList=[]
        · have hbq:(x.f0.toList == [])=true:=beq_iff_eq.2 hem
          have e:commitR L name fs=(0,3,L):=by unfold commitR;rw[if_neg (by have:=HG1.out;have:=HG2.out;omega),if_neg (fun q=>q HND.out),if_pos (HEM.out hem)]
          have HE:=Aside0.mk e
          clear hem e
          go_wp2_with fail
          go_ret2
          exact⟨by rw[HE.out];rfl,by rw[HE.out];exact HR.out.below HBe.out,HBe.out.mono HBS.out,RKept.of_below HBe.out⟩
        have hbq:(x.f0.toList == [])=false:=beq_eq_false_iff_ne.2 hem
        have HN2:=Aside0.mk (HNS.out hem)
        clear hem
        go_wp2_with fail
        go_roundg k2
        case measure=>have:=HI.out.1;omega
        case rel=>exact⟨i+1,congrArg (Value.int .i64) (by first|exact nx i (by have:=HG2.out;have:=HLT.out;omega)|(have:=HG2.out;have:=HLT.out;omega)),⟨by have:=HI.out.1;omega,by have:=HLT.out;omega⟩,HBe,HN2⟩
      have hb:decide ((i:Int) < (fs.length:Int))=false:=by simp;omega
      have hno:¬ ∃ x∈fs,x.f0.toList=[]:=by
        rintro ⟨x,hx,e⟩
        obtain⟨j,hj,rfl⟩:=List.mem_iff_getElem.1 hx
        exact HN.out j (by have:=HI.out.2;omega) hj e
      have e:commitR L name fs=((L.length:Int),0,L++[⟨name,srtF fs⟩]):=by unfold commitR;rw[if_neg (by have:=HG1.out;have:=HG2.out;omega),if_neg (fun q=>q HND.out),if_neg hno]
      have HE:=Aside0.mk e
      have HSF:=Aside0.mk (rsorted_f fs (by have:=HG2.out;omega) HND.out 4000 (by have h1:=HG2.out;have h2:fs.length * (fs.length+3)≤60 * 63:=Nat.mul_le_mul (by omega) (by omega);omega))
      have hsl:(srtF fs).length≤fs.length:=Tx.ord_len fs
      have HSL:=Aside0.mk hsl
      clear e hno HN hsl
      obtain⟨A1',A2',c1',c2',ps,h1,h2,h3,h4,h5,h6⟩:=HR.out.below HBe.out
      have hx0:wr.cell? ⟨q,0,none⟩=some (.slice A1' L.length c1'):=by unfold World.cell?;rw[h3];rfl
      have HBW:=Aside0.mk (show base≤wr.heap.size by have:=HBe.out.size;have:=HBS.out;omega)
      have HQ1:=Aside0.mk h1
      have HQ2:=Aside0.mk h2
      have HQ3:=Aside0.mk h3
      have HQ4:=Aside0.mk h4
      have HQ5:=Aside0.mk h5
      have HQ6:=Aside0.mk h6
      have hml:(L.map (·.name)).length=L.length:=List.length_map _
      have HML:=Aside0.mk hml
      clear h1 h2 h3 h4 h5 h6 hml
      go_wp2_with (at_builtin;go_loud (refine Kd.ydb_ Kd.string (w0:=wr) base rfl (.tmp 60) (.tmp 62) 47 9 (.string ⟨#[]⟩) 16 rfl Tryz.underlying47 info9 rfl (by decide) (by omega) _ (L.map (fun x:Com=>x.name)) name [.string name] (fun _=>True) (fun _=>False) rfl (by first|rfl|(simp;done)|(go_simp;done)) rfl (fun _ hk=>hk.elim) (fun _ _=>trivial) HQ4.out (Below.refl base wr) HBW.out (by have:=HML.out;have:=HLL.out;omega) ?_);intro v1 w5 ho hb5 hg hat;go_loud (obtain⟨A5,c5,rfl⟩:=Kd.yE_ ho;rw[show (L.map (fun x:Com=>x.name)++[name]).length=L.length+1 by rw[List.length_append,HML.out];rfl] at ho;obtain⟨n1,n2,n3,n4,n5,n6,n7⟩:=ref_named HQ1.out HQ2.out HQ3.out HQ4.out HQ5.out HQ6.out HBW.out ho hb5 hg;have HN1:=Aside0.mk n1;have HN2:=Aside0.mk n2;have HN4:=Aside0.mk n4;have HN5:=Aside0.mk n5;have HN6:=Aside0.mk n6;have HN7:=Aside0.mk n7;have hc5:w5.cell? ⟨q,0,none⟩=some (.slice A1' L.length c1'):=(by unfold World.cell?;rw[n3];rfl);have hf5:w5.frozen? ⟨q,0,none⟩=false:=(by simp [World.frozen?,n3]);clear ho hb5 hg hat n1 n2 n3 n4 n5 n6 n7))
      have hps:ps.length=L.length:=HQ1.out
      have hq0:(w5.setCell ⟨q,0,none⟩ (.slice A5 (L.length+1) c5)).cell? ⟨q,0,none⟩=some (.slice A5 (L.length+1) c5):=by unfold World.cell?;rw[HN4.out];rfl
      have hq1:(w5.setCell ⟨q,0,none⟩ (.slice A5 (L.length+1) c5)).cell? ⟨q,1,none⟩=some (.slice A2' L.length c2'):=by unfold World.cell?;rw[HN4.out];rfl
      clear hc5 hf5 hx0
      generalize w5.setCell ⟨q,0,none⟩ (.slice A5 (L.length+1) c5)=W6 at *
      have HQ0:=Aside0.mk hq0
      have HQQ:=Aside0.mk hq1
      have HB6:Aside0 (Below base w W6∧RKept w W6):=⟨(HBe.out.mono HBS.out).trans HN1.out,(RKept.of_below HBe.out).trans HN2.out⟩
      have HW6:Aside0 (base≤W6.heap.size):=⟨by have h1:=HN1.out.size;have h2:=HBW.out;omega⟩
      have hqw:q < W6.heap.size:=(Array.getElem?_eq_some_iff.1 HN4.out).1
      have HSO:Aside0 (∀ wr,Below W6.heap.size W6 wr→Calls Tryz.prog 47 #[.slice A0 fs.length c0] wr fun e w'=>∃ A c,e=.returned (.slice A (srtF fs).length c)∧FRow w' A c (srtF fs)∧Below W6.heap.size W6 w'∧w'.cell? ⟨q,1,none⟩=some (.slice A2' L.length c2')) :=
        ⟨fun wr hb=>(yx_.calls 4000 A0 c0 fs (srtF fs) wr (HCC.out wr (HB6.out.1.trans (hb.mono HW6.out))) HCP.out HSF.out).mono fun e w' ⟨v,he,ho,hb2⟩=>by
          obtain⟨A,c,rfl⟩:=Kd.yE_ ho
          have hb3:=hb.trans (hb2.mono hb.size)
          exact⟨A,c,he,FRow.of_R ho,hb3,(hb3.cell (p:=⟨q,1,none⟩) hqw).trans HQQ.out⟩⟩
      have HQW:=Aside0.mk hqw
      have HPS:Aside0 (ps.length=L.length):=HQ1
      clear hps hqw
      go_wp2_with fail
      refine start_ (n:=12) (S:=fun w'=>w'.cell? ⟨q,1,none⟩=some (.slice A2' L.length c2')) (ds:=[11]) #[false,false,false,false,false,false,false,false,false,false,false,false] ze_ rfl rfl HQQ.out (fun hHeld=>?_)
      refine pure_ (i:=0) (N:=some 66) (v:=?_) (a':=?_) #[true,false,false,false,false,false,false,false,false,false,false,false] rfl rfl ze_ (fun _ _ _ h=>h) (Or.inl ⟨by rfl,?_⟩) ?_ ?_
      rotate_left
      · intro w'
        go_simp
        with_reducible rfl
      rotate_left
      · simp only[Act.put,List.setIfInBounds_toArray,List.set_cons_zero,List.set_cons_succ,i64_w,i32_w]
        rfl
      refine pure_ (i:=1) (N:=some 67) (v:=?_) (a':=?_) #[true,true,false,false,false,false,false,false,false,false,false,false] rfl rfl ze_ (fun _ _ _ h=>h) (Or.inl ⟨by rfl,?_⟩) ?_ ?_
      rotate_left
      · intro w'
        go_simp
        with_reducible rfl
      rotate_left
      · simp only[Act.put,List.setIfInBounds_toArray,List.set_cons_zero,List.set_cons_succ,i64_w,i32_w]
        rfl
      refine pure_ (i:=2) (N:=some 68) (v:=?_) (a':=?_) #[true,true,true,false,false,false,false,false,false,false,false,false] rfl rfl ze_ (fun _ _ _ h=>h) (Or.inl ⟨by rfl,?_⟩) ?_ ?_
      rotate_left
      · intro w'
        go_simp
        with_reducible rfl
      rotate_left
      · simp only[Act.put,List.setIfInBounds_toArray,List.set_cons_zero,List.set_cons_succ,i64_w,i32_w]
        rfl
      refine pure_ (i:=3) (N:=some 69) (v:=?_) (a':=?_) #[true,true,true,true,false,false,false,false,false,false,false,false] rfl rfl ze_ (fun _ _ _ h=>h) (Or.inl ⟨by rfl,?_⟩) ?_ ?_
      rotate_left
      · intro w'
        go_simp
        with_reducible rfl
      rotate_left
      · simp only[Act.put,List.setIfInBounds_toArray,List.set_cons_zero,List.set_cons_succ,i64_w,i32_w]
        rfl
      refine pure_ (i:=5) (N:=some 71) (v:=?_) (a':=?_) #[true,true,true,true,false,true,false,false,false,false,false,false] rfl rfl ze_ (fun _ _ _ h=>h) (Or.inl ⟨by rfl,?_⟩) ?_ ?_
      rotate_left
      · intro w'
        go_simp
        with_reducible rfl
      rotate_left
      · simp only[Act.put,List.setIfInBounds_toArray,List.set_cons_zero,List.set_cons_succ,i64_w,i32_w]
        rfl
      refine take_ (i:=4) (N:=some 70) (v:=?_) (a':=?_) #[true,true,true,true,true,true,false,false,false,false,false,false] rfl rfl ze_ (fun _ _ _ h=>h) (Or.inl ⟨by rfl,?_⟩) hHeld ?_ ?_
      rotate_left
      · intro w' s0
        go_simp
        with_reducible rfl
      rotate_left
      · simp only[Act.put,List.setIfInBounds_toArray,List.set_cons_zero,List.set_cons_succ,i64_w,i32_w]
        rfl
      refine one_ (i:=6) (N:=some 72) #[true,true,true,true,true,true,true,false,false,false,false,false] rfl rfl ze_ (by decide) (fun K hK=>?_)
      refine goes_ Tryz.func47 ze_ rfl #[.slice A0 fs.length c0] (by rfl) rfl rfl (by (try simp only[List.map_toArray,List.map_cons,List.map_nil]);first|done|rfl) ?_
      refine (HSO.out _ ((Below.refl _ _).drew)).mono ?_
      rintro e w7 ⟨A7,c7,rfl,hf7,hb7,hq7⟩
      have HF7:=Aside0.mk hf7
      have HB7:=Aside0.mk hb7
      have hq7b:(w7.alloc (.cells #[.slice A7 (srtF fs).length c7] 37)).cell? ⟨q,1,none⟩=some (.slice A2' L.length c2'):=(World.cell?_alloc_some w7 _ _ (by rw[hq7,Option.isSome_some])).trans hq7
      clear hf7 hb7
      refine⟨_,rfl,?_⟩
      refine hK.out _ _ (hq7) (fun hHeld=>?_)
      clear hK K
      refine norm_ (a':=?_) ?_ ?_
      rotate_left
      · show Act.put _ (some 72) _=_
        simp only[Act.put,List.setIfInBounds_toArray,List.set_cons_zero,List.set_cons_succ,i64_w,i32_w]
        rfl
      refine one_ (i:=7) (N:=some 73) #[true,true,true,true,true,true,true,true,false,false,false,false] rfl rfl ze_ (by decide) (fun K hK=>?_)
      go_simp
      refine hK.out _ _ (hq7b) (fun hHeld=>?_)
      clear hK K
      try simp only[Act.put,List.setIfInBounds_toArray,List.set_cons_zero,List.set_cons_succ,i64_w,i32_w]
      refine one_ (i:=8) (N:=some 74) #[true,true,true,true,true,true,true,true,true,false,false,false] rfl rfl ze_ (by decide) (fun K hK=>?_)
      refine append_file (x:=⟨name,srtF fs⟩) (w:=w7) base q (A1:=A5) (c1:=c5) (c':=c7) (A':=A7) (L:=L) (A2:=A2') (c2:=c2') (ps:=ps) ?hw1 ?hg1 ?hs1 ?hx1 ?hW1 HPS.out HQ2.out ((HB7.out.block q HQW.out).trans HN4.out) (Kd.yH_ HN5.out HB7.out) (by rw[HPS.out];exact Kd.yH_ HN6.out HB7.out) (fun i a b=>⟨(HN7.out i a b).1,(HN7.out i a b).2.rkeep (RKept.of_below HB7.out)⟩) (Nat.le_trans HW6.out HB7.out.size) HF7.out (by have:=HLL.out;omega) (fun A8 c8 w8 h0 h1 h2 h3 h4=>?_)
      (case hw1=>rfl)
      (case hg1=>rfl)
      (case hs1=>rfl)
      (case hx1=>rfl)
      (case hW1=>rfl)
      have HB8:=Aside0.mk h0
      have HF8:=Aside0.mk h1
      have hc8:=h2
      have hf8:=h3
      have hd8:=h4
      clear h0 h1 h2 h3 h4
      refine hK.out _ _ (hc8) (fun hHeld=>?_)
      clear hK K
      refine norm_ (a':=?_) ?_ ?_
      rotate_left
      · show Act.put _ (some 74) _=_
        simp only[Act.put,List.setIfInBounds_toArray,List.set_cons_zero,List.set_cons_succ,i64_w,i32_w]
        rfl
      refine pure_ (i:=9) (N:=some 75) (v:=?_) (a':=?_) #[true,true,true,true,true,true,true,true,true,true,false,false] rfl rfl ze_ (fun _ _ _ h=>h) (Or.inl ⟨by rfl,?_⟩) ?_ ?_
      rotate_left
      · intro w'
        go_simp
        with_reducible rfl
      rotate_left
      · simp only[Act.put,List.setIfInBounds_toArray,List.set_cons_zero,List.set_cons_succ,i64_w,i32_w]
        rfl
      refine pure_ (i:=10) (N:=some 76) (v:=?_) (a':=?_) #[true,true,true,true,true,true,true,true,true,true,true,false] rfl rfl ze_ (fun _ _ _ h=>h) (Or.inl ⟨by rfl,?_⟩) ?_ ?_
      rotate_left
      · intro w'
        go_simp
        with_reducible rfl
      rotate_left
      · simp only[Act.put,List.setIfInBounds_toArray,List.set_cons_zero,List.set_cons_succ,i64_w,i32_w]
        rfl
      refine last_ (i:=11) (N:=none) #[true,true,true,true,true,true,true,true,true,true,true,true] rfl rfl ze_ (by decide) (fun K hK=>?_)
      refine skip_ (w1:=?_) (by rfl) rfl ?_ ?_
      rotate_left
      · go_simp
        rfl
      refine hK.out _ _ ?_
      clear hK K
      refine done_ ze_ ?_
      all_goals (
        have HFN:Aside0 (RefIs (w8.setCell ⟨q,1,none⟩ (.slice A8 (L.length+1) c8)) base q (L++[⟨name,srtF fs⟩])∧Below base w (w8.setCell ⟨q,1,none⟩ (.slice A8 (L.length+1) c8))∧RKept w (w8.setCell ⟨q,1,none⟩ (.slice A8 (L.length+1) c8))):=⟨HF8.out.2.2,(HB6.out.1.trans (HB7.out.mono HW6.out)).trans HF8.out.1,(HB6.out.2.trans (RKept.of_below HB7.out)).trans HF8.out.2.1⟩
        have hw0:wrap64 (((L.length+1:Nat):Int) - 1)=(L.length:Int):=by rw[w64 (by omega) (by have:=HLL.out;omega)];omega
        have hw1:IntKind.i64.wrap (((L.length+1:Nat):Int) - 1)=(L.length:Int):=(i64_w _).trans hw0
        generalize w8.setCell ⟨q,1,none⟩ (.slice A8 (L.length+1) c8)=W9 at *
        go_wp2_with fail
        go_ret2
        rw[HE.out]
        exact⟨by first|rfl|(simp;done)|(simp [*];done),HFN.out⟩)
end Go.Proofs.YthimblhfjfngiaaGreat.PText

namespace Go.Proofs.YthimblhfjfngiaaGreat.PText
open Go.RowKit Go.Lib Go.Sort Go.Proofs.YthimblhfjfngiaaGreatW.PrintWords Go.Proofs.YthimblhfjfngiaaGreatW.PrintLast Go.Proofs.YthimblhfjfngiaaGreatW.PrintMore
set_option linter.unusedVariables false
set_option linter.unusedSimpArgs false
/-- what commits come to -/
def bothL (l:List S39):List Com:=l.foldl (fun L s=>(commitR L s.f0 s.f1).2.2) []
theorem commitR_len (L:List Com) (name:ByteArray) (fs:List S41):(commitR L name fs).2.2.length≤L.length+1:=by
  unfold commitR
  split
  · simp
  · split
    · simp
    · split
      · simp
      · simp
theorem bothL_succ (l:List S39) (i:Nat) (h:i < l.length):bothL (l.take (i+1))=(commitR (bothL (l.take i)) l[i].f0 l[i].f1).2.2:=by
  unfold bothL
  rw[List.take_succ_eq_append_getElem h,List.foldl_append]
  rfl
theorem bothL_len (l:List S39):∀ i,i≤l.length→(bothL (l.take i)).length≤i
  | 0,_=>by rw[List.take_zero];exact Nat.le_refl _
  | i+1,h=>by
    rw[bothL_succ l i (by omega)]
    have:=bothL_len l i (by omega)
    have:=commitR_len (bothL (l.take i)) l[i].f0 l[i].f1
    omega
theorem keepS {w w':World} {p q:Addr} {u v:Value} (hb:Below w.heap.size w w') (h1:w.cell? p=some u) (h2:w.cell? q=some v) :
    w'.cell? p=some u∧w'.cell? q=some v∧Below w.heap.size w w':=⟨(hb.cell (World.block_lt_of_cell? w _ h1)).trans h1,(hb.cell (World.block_lt_of_cell? w _ h2)).trans h2,hb⟩
theorem ref_new {w:World} {base:Nat} (hb:base≤w.heap.size):RefIs (w.alloc (.cells #[.slice none 0 0,.slice none 0 0] 58)) base w.heap.size [] :=
  ⟨none,none,0,0,[],rfl,hb,yAb_ _ _,Kd.R_nil _ _ _ _ _,Kd.R_nil _ _ _ _ _,fun i h=>absurd h (Nat.not_lt_zero _)⟩
theorem rd70_at (l:List S39) (i:Nat) (h:i < l.length):rd_T39 l (i:Int)=l[i]:=by
  unfold rd_T39
  rw[Int.toNat_natCast,List.getD_eq_getElem?_getD,List.getElem?_eq_getElem h];rfl
set_option maxRecDepth 100000 in
set_option maxHeartbeats 4000000 in
theorem both_calls (A0:Option Addr) (c0:Nat) (l:List S39) (w:World) (hC:Kd.C k39 w A0 l.length l) (hc:l.length≤c0) (hl:l.length≤100) :
    Calls Tryz.prog 8 #[.slice A0 l.length c0] w fun e w'=>∃ p q:Nat,e=.returned (.tuple #[.pointer (some ⟨p,0,none⟩),.pointer (some ⟨q,0,none⟩),.bool true])∧PastIs w' w.heap.size p (bothL l)∧RefIs w' w.heap.size q (bothL l)∧Below w.heap.size w w':=by
  have HC:=Aside0.mk hC
  have HL:=Aside0.mk hl
  have HCC:=Aside0.mk hc
  clear hC hl hc
  go_enter Tryz.func8,Tryz.ntmps8
  go_wp2_with (go_at_call 26;refine (new_calls _).mono ?_;rintro e w1 ⟨rfl,hp,hb,hk⟩;have HP1:=Aside0.mk hp;have HB1:=Aside0.mk hb;clear hp hb hk)
  have HR2:=Aside0.mk (ref_new (w:=w1) HB1.out.size)
  have HP2:Aside0 (PastIs (w1.alloc (.cells #[.slice none 0 0,.slice none 0 0] 58)) w.heap.size w.heap.size []):=⟨HP1.out.below ((Below.refl _ w1).alloc (Nat.le_refl _) _)⟩
  have HB2:Aside0 (Below w.heap.size w (w1.alloc (.cells #[.slice none 0 0,.slice none 0 0] 58))):=⟨HB1.out.alloc HB1.out.size _⟩
  generalize w1.alloc (.cells #[.slice none 0 0,.slice none 0 0] 58)=W2 at *
  generalize w1.heap.size=q at *
  clear HP1 HB1
  go_loopg [7] (l.length+1) (fun kq v7 w'=>∃ i:Nat,v7=.int .i64 (i:Int)∧Aside0 (l.length - i < kq∧i≤l.length)∧Aside0 (PastIs w' w.heap.size w.heap.size (bothL (l.take i)))∧Aside0 (RefIs w' w.heap.size q (bothL (l.take i)))∧Aside0 (Below w.heap.size w w'))
  case atStart=>exact⟨0,rfl,⟨by omega,by omega⟩,⟨by rw[List.take_zero];exact HP2.out⟩,⟨by rw[List.take_zero];exact HR2.out⟩,HB2⟩
  case round =>
    obtain⟨i,rfl,HI,HPi,HRi,HBi⟩:=hrel
    obtain⟨k1,rfl⟩:∃ k1,gk=k1+1:=⟨gk - 1,by have:=HI.out.1;omega⟩
    by_cases hlt:i < l.length
    rotate_left
    · have hb:decide ((i:Int) < (l.length:Int))=false:=by simp;omega
      have hi:l.take i=l:=List.take_of_length_le (by omega)
      rw[hi] at HPi HRi
      clear hi
      go_wp2_with fail
      go_ret3
      exact⟨_,_,rfl,HPi.out,HRi.out,HBi.out⟩
    have hb:decide ((i:Int) < (l.length:Int))=true:=by simp;omega
    have hb2:decide ((0:Int)≤(i:Int))=true:=by simp
    have pi0:(0:Int)≤(i:Int):=by omega
    have pi1:(i:Int) < (l.length:Int):=by omega
    obtain⟨ad,A1,c1,e0,hx,hy,hf1,hf2⟩:=at_T39 HC.out (i:Int) pi0 pi1
    cases e0
    rw[Int.toNat_natCast] at hx hy
    rw[rd70_at l i hlt] at hx hy hf1 hf2
    have HSU:=Aside0.mk (bothL_succ l i hlt)
    have HLN:Aside0 ((bothL (l.take i)).length≤200):=⟨by have:=bothL_len l i (by omega);have:=HL.out;omega⟩
    have HLT:=Aside0.mk hlt
    generalize bothL (l.take i)=L at *
    generalize hL':bothL (l.take (i+1))=L' at *
    have HL':=Aside0.mk hL'
    clear hL'
    generalize l[i]=x at *
    have HX:=Aside0.mk hx
    have HY:=Aside0.mk hy
    have HF:=Aside0.mk hf2
    have HF1:=Aside0.mk hf1
    have HCM:Aside0 (∀ wr,Below w.heap.size w wr→PastIs wr w.heap.size w.heap.size L→Calls Tryz.prog 25 #[.pointer (some ⟨w.heap.size,0,none⟩),.string x.f0,.slice A1 x.f1.length c1] wr fun e w'=>e=.returned (.tuple #[.int .i64 (commitR L x.f0 x.f1).1,.int .i64 (commitR L x.f0 x.f1).2.1])∧PastIs w' w.heap.size w.heap.size (commitR L x.f0 x.f1).2.2∧Below w.heap.size wr w'∧PKept wr w') :=
      ⟨fun wr hb hp=>commit_calls w.heap.size w.heap.size L x.f0 A1 c1 x.f1 wr hp (Kd.yR_ HF.out hb) HF1.out HLN.out hb.size⟩
    have HRM:Aside0 (∀ wr,Below w.heap.size w wr→RefIs wr w.heap.size q L→Calls Tryz.prog 27 #[.pointer (some ⟨q,0,none⟩),.string x.f0,.slice A1 x.f1.length c1] wr fun e w'=>e=.returned (.tuple #[.int .i64 (commitR L x.f0 x.f1).1,.int .i64 (commitR L x.f0 x.f1).2.1])∧RefIs w' w.heap.size q (commitR L x.f0 x.f1).2.2∧Below w.heap.size wr w'∧RKept wr w') :=
      ⟨fun wr hb hr=>rcommit_calls w.heap.size q L x.f0 A1 c1 x.f1 wr hr (fun w' hb'=>Kd.yR_ HF.out (hb.trans hb')) HF1.out HLN.out hb.size⟩
    rw[← HSU.out] at HCM HRM
    generalize (commitR L x.f0 x.f1).1=r1 at *
    generalize (commitR L x.f0 x.f1).2.1=r2 at *
    clear hx hy hf1 hf2 HSU
    have hx':=(keepS HBi.out HX.out HY.out).1
    go_wp2_with fail
    go_region_held3 (fun w'=>w'.cell? (ad.add (i * 2))=some (.string x.f0)∧w'.cell? ⟨(ad.add (i * 2)).block,(ad.add (i * 2)).off+1,none⟩=some (.slice A1 x.f1.length c1)∧Below w.heap.size w w')
      (first
        | exact keepS HBi.out HX.out HY.out
        | exact keepS HBi.out.drew HX.out HY.out
        | exact keepS HB6.out HX.out HY.out
        | exact keepS HB6.out.drew HX.out HY.out
        | fail)
      (first
        | (go_at_call 25;with_reducible refine (HCM.out _ ?zb ?zc).mono ?_;(case zb=>first|exact HBi.out|exact HBi.out.drew);(case zc=>first|exact HPi.out|exact HPi.out.below (Below.refl _ _).drew);rintro e w6 ⟨rfl,hp6,hb6,hk6⟩;have HP6:=Aside0.mk hp6;have HB6:=Aside0.mk (HBi.out.trans (Below.trans (by first|exact Below.refl _ _|exact (Below.refl _ _).drew) hb6));have HR6:=Aside0.mk ((HRi.out.below (by first|exact Below.refl _ _|exact (Below.refl _ _).drew)).keep hk6);clear hp6 hb6 hk6)
        | fail)
    go_split_ands
    go_wp2_with fail
    go_region_held3 (fun w'=>w'.cell? (ad.add (i * 2))=some (.string x.f0)∧w'.cell? ⟨(ad.add (i * 2)).block,(ad.add (i * 2)).off+1,none⟩=some (.slice A1 x.f1.length c1)∧Below w.heap.size w w')
      (first
        | exact keepS HB6.out HX.out HY.out
        | exact keepS HB6.out.drew HX.out HY.out
        | exact keepS HB8.out HX.out HY.out
        | exact keepS HB8.out.drew HX.out HY.out
        | fail)
      (first
        | (go_at_call 27;with_reducible refine (HRM.out _ ?zb ?zc).mono ?_;(case zb=>first|exact HB6.out|exact HB6.out.drew);(case zc=>first|exact HR6.out|exact HR6.out.below (Below.refl _ _).drew);rintro e w8 ⟨rfl,hr8,hb8,hk8⟩;have HR8:=Aside0.mk hr8;have HB8:=Aside0.mk (HB6.out.trans (Below.trans (by first|exact Below.refl _ _|exact (Below.refl _ _).drew) hb8));have HP8:=Aside0.mk ((HP6.out.below (by first|exact Below.refl _ _|exact (Below.refl _ _).drew)).rkeep hk8);clear hr8 hb8 hk8)
        | fail)
    go_split_ands
    go_wp2_with fail
    go_roundg k1
    case measure=>have:=HI.out.1;have:=HLT.out;omega
    case rel=>exact⟨i+1,congrArg (Value.int .i64) (by first|exact nx i (by have:=HL.out;have:=HLT.out;omega)|(have:=HL.out;have:=HLT.out;omega)),⟨by have:=HI.out.1;have:=HLT.out;omega,by have:=HLT.out;omega⟩,⟨by rw[HL'.out];exact HP8.out⟩,⟨by rw[HL'.out];exact HR8.out⟩,HB8⟩
end Go.Proofs.YthimblhfjfngiaaGreat.PText

namespace Go.Proofs.YthimblhfjfngiaaGreat.PText
open Go.RowKit Go.Lib Go.Sort Go.Proofs.YthimblhfjfngiaaGreatW.PrintWords Go.Proofs.YthimblhfjfngiaaGreatW.PrintLast Go.Proofs.YthimblhfjfngiaaGreatW.PrintMore
set_option linter.unusedVariables false
set_option linter.unusedSimpArgs false
end Go.Proofs.YthimblhfjfngiaaGreat.PText

namespace Go.Proofs.YthimblhfjfngiaaGreat.PText
open Go.RowKit Go.Lib Go.Sort Go.Proofs.YthimblhfjfngiaaGreatW.PrintWords Go.Proofs.YthimblhfjfngiaaGreatW.PrintLast Go.Proofs.YthimblhfjfngiaaGreatW.PrintMore
set_option linter.unusedVariables false
set_option linter.unusedSimpArgs false
end Go.Proofs.YthimblhfjfngiaaGreat.PText

namespace Go.Proofs.YthimblhfjfngiaaGreat.PText
open Go.RowKit Go.Lib Go.Sort Go.Proofs.YthimblhfjfngiaaGreatW.PrintWords Go.Proofs.YthimblhfjfngiaaGreatW.PrintLast Go.Proofs.YthimblhfjfngiaaGreatW.PrintMore
set_option linter.unusedVariables false
set_option linter.unusedSimpArgs false
end Go.Proofs.YthimblhfjfngiaaGreat.PText

namespace Go.Proofs.YthimblhfjfngiaaGreat.PText
open Go.RowKit Go.Lib Go.Sort Go.Proofs.YthimblhfjfngiaaGreatW.PrintWords Go.Proofs.YthimblhfjfngiaaGreatW.PrintLast Go.Proofs.YthimblhfjfngiaaGreatW.PrintMore
set_option linter.unusedVariables false
set_option linter.unusedSimpArgs false
end Go.Proofs.YthimblhfjfngiaaGreat.PText

namespace Go.Proofs.YthimblhfjfngiaaGreat.PText
open Go.RowKit Go.Lib Go.Sort Go.Proofs.YthimblhfjfngiaaGreatW.PrintWords Go.Proofs.YthimblhfjfngiaaGreatW.PrintLast Go.Proofs.YthimblhfjfngiaaGreatW.PrintMore
set_option linter.unusedVariables false
set_option linter.unusedSimpArgs false
/-- the files of a commit, as a commit leaves them -/
structure Neat (fs:List S41):Prop where
  few:fs.length≤60
  names:(fnames fs).Nodup
  full:¬ ∃ x∈fs,x.f0.toList=[]
  srt:srtF fs=fs
theorem srt_perm (fs:List S41) (hf:fs.length≤10000) (h:(fnames fs).Nodup):(srtF fs).Perm fs:=by
  obtain⟨d,-,h2,h3⟩:=sorted_l0 fs hf (fs.length+3) (Nat.le_refl _) fs.length 0 _ [] (by omega) (by omega) (Nat.le_refl _) (by rw[List.take_zero]) List.Pairwise.nil
  rw[← srt_eq h2 (sortedF_of h3) h];exact h2
theorem neat_srt (fs:List S41) (h1:fs.length≤60) (h2:(fnames fs).Nodup) (h3:¬ ∃ x∈fs,x.f0.toList=[]):Neat (srtF fs):=by
  have hp:=srt_perm fs (by omega) h2
  refine⟨by rw[hp.length_eq];exact h1,(perm_names hp).nodup_iff.2 h2,?_,Tx.ord_ord ltFL_lin (Tx.y6b_ ltFL_lin)⟩
  rintro ⟨x,hx,e⟩
  exact h3 ⟨x,hp.mem_iff.1 hx,e⟩
/-- what a commit leaves -/
theorem commit_cases (L:List Com) (name:ByteArray) (fs:List S41):(commitR L name fs).2.2=L∨((commitR L name fs).2.2=L++[⟨name,srtF fs⟩]∧fs.length≤60∧(fnames fs).Nodup∧¬ ∃ x∈fs,x.f0.toList=[]):=by
  unfold commitR
  by_cases h1:L.length=200∨60 < fs.length
  · rw[if_pos h1];exact .inl rfl
  rw[if_neg h1]
  by_cases h2:¬ (fnames fs).Nodup
  · rw[if_pos h2];exact .inl rfl
  rw[if_neg h2]
  by_cases h3:∃ x∈fs,x.f0.toList=[]
  · rw[if_pos h3];exact .inl rfl
  rw[if_neg h3]
  exact .inr ⟨rfl,by omega,Decidable.of_not_not h2,h3⟩
/-- the commits of steps that are not large -/
structure Fair (B:Nat) (L:List Com):Prop where
  neat:∀ c∈L,Neat c.files
  small:∀ c∈L,∀ x∈c.files,x.f1.size≤B
theorem fair_both (B:Nat) (l:List S39) (h:∀ s∈l,∀ x∈s.f1,x.f1.size≤B):∀ i,i≤l.length→Fair B (bothL (l.take i))
  | 0,_=>by rw[List.take_zero];exact⟨fun c m=>(by cases m),fun c m=>(by cases m)⟩
  | i+1,hi=>by
    have ih:=fair_both B l h i (by omega)
    rw[bothL_succ l i (by omega)]
    rcases commit_cases (bothL (l.take i)) l[i].f0 l[i].f1 with e|⟨e,h1,h2,h3⟩
    · rw[e];exact ih
    · rw[e]
      refine⟨fun c m=>?_,fun c m x hx=>?_⟩
      · rcases List.mem_append.1 m with m|m
        · exact ih.neat c m
        · rw[List.mem_singleton.1 m];exact neat_srt _ h1 h2 h3
      · rcases List.mem_append.1 m with m|m
        · exact ih.small c m x hx
        · rw[List.mem_singleton.1 m] at hx
          exact h l[i] (List.getElem_mem _) x ((srt_perm l[i].f1 (by omega) h2).mem_iff.1 hx)
end Go.Proofs.YthimblhfjfngiaaGreat.PText

namespace Go.Proofs.YthimblhfjfngiaaGreat.PText
open Go.RowKit Go.Lib Go.Sort Go.Proofs.YthimblhfjfngiaaGreatW.PrintWords Go.Proofs.YthimblhfjfngiaaGreatW.PrintLast Go.Proofs.YthimblhfjfngiaaGreatW.PrintMore
set_option linter.unusedVariables false
set_option linter.unusedSimpArgs false
/-- steps of an argument: no text is longer than memory -/
def Held (l:List S39):Prop:=l.length≤140737488355328∧∀ s∈l,s.f1.length≤140737488355328∧∀ x∈s.f1,x.f0.size≤140737488355328∧x.f1.size≤140737488355328
theorem w4 (n a b:Int) (h0:0≤n) (h1:n≤6000) (ha:0≤a) (ha2:a≤140737488355328) (hb:0≤b) (hb2:b≤140737488355328):wrap64 (wrap64 (wrap64 (n+1)+a)+b)=n+1+a+b:=by
  rw[w64 (x:=n+1) (by omega) (by omega),w64 (x:=n+1+a) (by omega) (by omega),w64 (by omega) (by omega)]
theorem nx48 (j:Nat) (h:j≤140737488355328):wrap64 ((j:Int)+1)=((j+1:Nat):Int):=by rw[w64 (by omega) (by omega)];omega
theorem heavy_step (l:List S39) (h:Held l) (i:Nat) (hi:i < l.length) (j k:Nat) (n:Int) (h0:0≤n) (h1:n≤6000) (hj:j < l[i].f1.length) :
    yo_.l1 (k+1) l n (i:Int) (j:Int)=yo_.l1 k l (n+1+(l[i].f1[j].f0.size:Int)+(l[i].f1[j].f1.size:Int)) (i:Int) ((j+1:Nat):Int):=by
  have hr:rd_T39 l (i:Int)=l[i]:=rd70_at l i hi
  have hs:=(h.2 l[i] (List.getElem_mem hi))
  have hx:=hs.2 l[i].f1[j] (List.getElem_mem hj)
  rw[yo_.l1,if_pos (by omega),if_pos (by omega),hr,if_pos (by omega),if_pos h1,if_pos (by omega),yBb_ _ j hj,w4 n _ _ h0 h1 (by omega) (by have:=hx.1;omega) (by omega) (by have:=hx.2;omega),nx48 j (by have:=hs.1;omega)]
theorem heavy_stop (l:List S39) (i:Nat) (hi:i < l.length) (j k:Nat) (n:Int) (h:¬ (n≤6000∧j < l[i].f1.length)) :
    yo_.l1 (k+1) l n (i:Int) (j:Int)=yo_.l0 k l n (wrap64 ((i:Int)+1)):=by
  have hr:rd_T39 l (i:Int)=l[i]:=rd70_at l i hi
  rw[yo_.l1,if_pos (by omega),if_pos (by omega),hr]
  by_cases c1:(j:Int) < (l[i].f1.length:Int)
  rotate_left
  · rw[if_neg c1]
  rw[if_pos c1,if_neg (by omega)]
theorem heavy_l1 (l:List S39) (h:Held l) (i:Nat) (hi:i < l.length):∀ (M j k:Nat) (n:Int),6001 - n≤(M:Int)→0≤n→j≤l[i].f1.length→M+3≤k →
    ∃ (n':Int) (k':Nat),k≤k'+M+2∧0≤n'∧n≤n'∧(n'≤6000→∀ x∈l[i].f1.drop j,x.f1.size≤6000)∧yo_.l1 k l n (i:Int) (j:Int)=yo_.l0 k' l n' (wrap64 ((i:Int)+1))
  | M,j,0,n,hM,h0,hj,hk=>absurd hk (by omega)
  | M,j,k+1,n,hM,h0,hj,hk=>by
    by_cases c:n≤6000∧j < l[i].f1.length
    rotate_left
    · rw[heavy_stop l i hi j k n c]
      refine⟨n,k,by omega,h0,Int.le_refl _,fun hn x hx=>?_,rfl⟩
      rw[List.drop_eq_nil_of_le (by omega)] at hx;cases hx
    obtain⟨c1,c2⟩:=c
    have hM0:M≠0:=by intro e;subst e;omega
    obtain⟨M',rfl⟩:∃ M',M=M'+1:=Nat.exists_eq_succ_of_ne_zero hM0
    rw[heavy_step l h i hi j k n h0 c1 c2]
    obtain⟨n',k',q1,q2,q4,q5,q6⟩:=heavy_l1 l h i hi M' (j+1) k (n+1+(l[i].f1[j].f0.size:Int)+(l[i].f1[j].f1.size:Int)) (by omega) (by omega) (by omega) (by omega)
    refine⟨n',k',by omega,q2,by omega,fun hn x hx'=>?_,q6⟩
    rw[List.drop_eq_getElem_cons c2] at hx'
    rcases List.mem_cons.1 hx' with rfl|hx'
    · omega
    · exact q5 hn x hx'
theorem heavy_l0 (l:List S39) (h:Held l) (F:Nat) (hF:6006≤F):∀ (m i k:Nat) (n:Int),l.length - i=m→i≤l.length→0≤n→m * F+10≤k→∃ r,yo_.l0 k l n (i:Int)=some r∧(r=false→n≤6000∧l.length≤30∧∀ s∈l.drop i,∀ x∈s.f1,x.f1.size≤6000)
  | 0,i,k,n,hm,hi,h0,hk=>by
    obtain⟨k,rfl⟩:∃ q,k=q+1+1:=⟨k - 2,by omega⟩
    rw[yo_.l0,if_neg (by omega),yo_.j1,if_neg (by decide)]
    by_cases c:n > 6000
    · rw[if_pos c];exact⟨true,rfl,fun q=>by cases q⟩
    rw[if_neg c]
    refine⟨_,rfl,fun q=>⟨by omega,by have:=of_decide_eq_false q;omega,fun s hs=>?_⟩⟩
    rw[List.drop_eq_nil_of_le (by omega)] at hs;cases hs
  | m+1,i,k,n,hm,hi,h0,hk=>by
    have hil:i < l.length:=by omega
    rw[Nat.succ_mul] at hk
    obtain⟨k,rfl⟩:∃ q,k=q+1+1:=⟨k - 2,by omega⟩
    rw[yo_.l0,if_pos (by omega),yo_.j1]
    by_cases c:n≤6000
    rotate_left
    · rw[if_neg (by simpa using c)]
      by_cases c2:n > 6000
      rotate_left
      · omega
      rw[if_pos c2];exact⟨true,rfl,fun q=>by cases q⟩
    obtain⟨n',k',q1,q2,q4,q5,q6⟩:=heavy_l1 l h i hil 6001 0 k n (by omega) h0 (Nat.zero_le _) (by omega)
    rw[if_pos (by simpa using c)]
    rw[show ((0:Nat):Int)=0 from rfl] at q6
    rw[q6,nx48 i (by have:=h.1;omega)]
    obtain⟨r,r1,r2⟩:=heavy_l0 l h F hF m (i+1) k' n' (by omega) (by omega) q2 (by omega)
    refine⟨r,r1,fun e=>?_⟩
    obtain⟨z1,z2,z3⟩:=r2 e
    refine⟨c,z2,fun s hs x hx=>?_⟩
    rw[List.drop_eq_getElem_cons hil] at hs
    rcases List.mem_cons.1 hs with rfl|hs
    · exact q5 z1 x (by rwa [List.drop_zero])
    · exact z3 s hs x hx
theorem heavy_f (l:List S39) (h:Held l) (F:Nat) (hF:6006≤F):∃ r,yo_.f (l.length * F+10) l=some r∧(r=false→l.length≤30∧∀ s∈l,∀ x∈s.f1,x.f1.size≤6000):=by
  obtain⟨r,r1,r2⟩:=heavy_l0 l h F hF l.length 0 _ 0 (by omega) (by omega) (by omega) (Nat.le_refl _)
  refine⟨r,r1,fun e=>?_⟩
  have:=r2 e
  rw[List.drop_zero] at this
  exact this.2
end Go.Proofs.YthimblhfjfngiaaGreat.PText

