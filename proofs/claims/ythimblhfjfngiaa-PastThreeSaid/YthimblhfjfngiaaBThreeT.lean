/- PastThree holds: for every three texts the statement answers true. Part 20 of 25. -/
import Derived.Test.YthimblhfjfngiaaBThreeS
import Derived.Shelf.SlicesQ.IndexFunc
namespace Go.Proofs.Ythimblhfjfngiaa.PText
open Go.RowKit Go.Lib Go.Sort Go.Proofs.YthimblhfjfngiaaW.PrintWords Go.Proofs.YthimblhfjfngiaaW.PrintLast Go.Proofs.YthimblhfjfngiaaW.PrintMore
set_option linter.unusedVariables false
set_option linter.unusedSimpArgs false
instance:Inhabited S53:=⟨z53⟩
theorem S53.ext' {a b:S53} (h0:a.f0=b.f0) (h1:a.f1=b.f1):a=b:=by cases a;cases b;simp_all
instance:DecidableEq S53:=fun a b=>decidable_of_iff (a.f0=b.f0∧a.f1=b.f1) ⟨fun h=>S53.ext' h.1 h.2,fun h=>by subst h;exact⟨rfl,rfl⟩⟩
def enc53 (x:S53):List Value:=[.string x.f0,.string x.f1]
theorem enc53_len (x:S53):(enc53 x).length=2:=rfl
theorem enc53_one (x:S53):∀ v∈enc53 x,v.oneCell'=true:=by
  intro v hv
  simp [enc53] at hv
  rcases hv with rfl|rfl <;> rfl
theorem isAgg53:∀ w,(isAgg 53).run Try.prog w=.ok true w:=fun w=>by simp [isAgg,run_underlying Try.underlying53]
theorem sizeOf53:∀ w,(Go.sizeOf 53).run Try.prog w=.ok 2 w:=fun w=>by
  obtain⟨i0,hi,hz0,hz1,hz2⟩:=info_parts info53
  simp [Go.sizeOf,typeInfo,hi,hz1]
/-- a row of one's own, out of its cells -/
theorem row53 {W:World} {base g cap:Nat} {cur:Array Value} {r:List S53} (hh:W.heap[g]?=some (.cells cur 53 (0,0))) (hb:base≤g) (hl:r.length≤cap) (hm:cap≤maxLen) (hs:cur.size=cap * 2)
    (hc:∀ t,t < r.length * 2→cur[t]! = (Sort.flatK enc53 2 r.toArray)[t]!):Kd.R k53 53 W base (fun _=>True) (.slice (some ⟨g,0,none⟩) r.length cap) r:=by
  have hle:r.length * 2≤cur.size:=by omega
  refine⟨fun _ _=>trivial,cur.toList.take (r.length * 2),⟨by rw[List.length_take,Nat.min_eq_left (by rw[Array.length_toList];exact hle)];rfl,Or.inr ⟨g,cap,cur,rfl,hb,hh,hl,hm,hs,rfl⟩⟩,by rw[List.length_take,Nat.min_eq_left (by rw[Array.length_toList];exact hle)];rfl,fun j p hp=>?_⟩
  obtain⟨hj,rfl⟩:=List.getElem?_eq_some_iff.1 hp
  have key:((cur.toList.take (r.length * 2)).drop (j * 2)).take 2=[.string r[j].f0,.string r[j].f1]:=by
    have one:∀ c,c < 2→cur[j * 2+c]?=some (enc53 r[j])[c]! := by
      intro c hcc
      have h1:=hc (j * 2+c) (by omega)
      rw[Sort.get_flatK _ _ _ _ (by rw[List.size_toArray];omega),show (j * 2+c) / 2=j by omega,show (j * 2+c) % 2=c by omega] at h1
      rw[Array.getElem?_eq_getElem (by omega),← getElem!_pos cur (j * 2+c) (by omega),h1,getElem!_pos r.toArray j (by rw[List.size_toArray];exact hj),List.getElem_toArray]
    have z0:=one 0 (by omega)
    have z1:=one 1 (by omega)
    apply List.ext_getElem?
    intro c
    rw[List.getElem?_take]
    by_cases h3:c < 2
    rotate_left
    · rw[if_neg h3,List.getElem?_eq_none (by simp;omega)]
    rw[if_pos h3,List.getElem?_drop,List.getElem?_take,if_pos (by omega),Array.getElem?_toList]
    have:c=0∨c=1:=by omega
    rcases this with rfl|rfl
    · rw[z0];rfl
    · rw[z1];rfl
  show k53.M W base _ r[j] (((cur.toList.take (r.length * 2)).drop (j * 2)).take 2)
  rw[key]
  exact k53_mkM _ _ _ _
/-- the cells of a row of one's own -/
theorem holds_of_row53 {W:World} {base g cap:Nat} {ok:Nat→Prop} {l:List S53} (h:Kd.R k53 53 W base ok (.slice (some ⟨g,0,none⟩) l.length cap) l) (hg:∃ cur,W.heap[g]?=some (.cells cur 53 (0,0))):Sort.HoldsK enc53 2 W g 0 l.toArray:=by
  intro t ht
  rw[Sort.size_flatK,List.size_toArray] at ht
  have hC:=(Kd.ys_ h).2.2
  obtain⟨ad,e,h0,h1⟩:=at_T53 hC ((t / 2:Nat):Int) (by omega) (by omega)
  cases e
  obtain⟨cur,hcur⟩:=hg
  refine⟨?_,by simp [World.frozen?,hcur]⟩
  rw[Sort.get_flatK _ _ _ _ (by rw[List.size_toArray];exact ht)]
  have hx:(l.toArray)[t / 2]! = rd_T53 l ((t / 2:Nat):Int):=by
    unfold rd_T53
    rw[Int.toNat_natCast,getElem!_pos l.toArray (t / 2) (by rw[List.size_toArray];omega),List.getElem_toArray,List.getD_eq_getElem?_getD,List.getElem?_eq_getElem (by omega)]
    rfl
  rw[hx]
  simp only[Int.toNat_natCast,add_plain] at h0 h1
  have:t % 2=0∨t % 2=1:=by omega
  rcases this with c|c
  · rw[c,show 0+t=t / 2 * 2 by omega];exact h0
  · rw[c,show 0+t=t / 2 * 2+1 by omega];exact h1
theorem C_none53 {w:World} {l:List S53} (h:Kd.C k53 w none l.length l):l=[]:=by
  cases l with
  | nil=>rfl
  | cons x r =>
    obtain⟨ad,_,q,_⟩:=Kd.C_get h z53 0 (Int.le_refl _) (by rw[List.length_cons];omega)
    cases q
set_option maxHeartbeats 8000000 in
set_option maxRecDepth 100000 in
theorem clone53_calls (A0:Option Addr) (c0:Nat) (l0:List S53) (w:World) (hr0:Kd.C k53 w A0 l0.length l0) (hl:l0.length≤10000) :
    Calls Try.prog 37 #[.slice A0 l0.length c0] w fun e w'=>∃ v0_:Value,e=.returned v0_∧Kd.R k53 53 w' w.heap.size (fun _=>True) v0_ l0∧Below w.heap.size w w':=by
  have hnil:∀ w',Sem.run Try.prog (binOp .eql 46 (.slice A0 l0.length c0) (.slice none 0 0)) w'=.ok (.bool A0.isNone) w':=fun w'=>Go.Lib.run_eql_slice_nil w' 46 53 A0 l0.length c0 0 0 Try.underlying46
  have HR1:=Aside0.mk hr0
  clear hr0
  cases hA:A0.isNone with
  | true =>
    obtain rfl:A0=none:=by cases A0 with|none=>rfl|some a=>cases hA
    obtain rfl:=C_none53 HR1.out
    rw[hA] at hnil
    simp only[List.length_nil] at hnil ⊢
    go_enter Try.func37,Try.ntmps37
    go_wp2
    go_ret
    exact⟨_,rfl,Kd.R_nil _ _ _ _ _,Below.refl _ _⟩
  | false =>
    rw[hA] at hnil
    have HB:=Aside0.mk (Below.refl w.heap.size w)
    obtain⟨y467,hy467⟩:∃ y_:List (S53),y_=(([]:List (S53))):=⟨_,rfl⟩
    have Ny467:=Aside0.mk hy467
    have LMc8:=Aside0.mk (show y467.length+l0.length < 4398046511104 by rw[hy467];simp;omega)
    clear hy467
    obtain⟨y470,hy470⟩:∃ y_:List (S53),y_=(y467++l0):=⟨_,rfl⟩
    have Ny470:=Aside0.mk hy470
    clear hy470
    go_enter Try.func37,Try.ntmps37
    go_wp2_with (first|((with_reducible refine yL_ (N:=5) rfl ?_);refine Kd.R_lit k53 _ 53 ?hg (N:=5) ?hd (xs:=([]:List (S53))) (inner:=[]) (ok:=fun _=>True) (okp:=fun _=>True) ?hr ?hp (fun _ hk=>hk) trivial (Below.refl _ _) (Nat.le_refl _) (by simp) ?_;(case hd=>rfl);(case hg=>rfl);(case hr=>first|(go_simp;done)|(go_simp;rfl));(case hp=>exact (Reps.none _ _));intro v468 w13 ho14 hb hg_ hnew_;clear hg_ hnew_;(first|rw[← Ny467.out] at ho14|(simp only[Int.reduceToNat] at ho14;rw[← Ny467.out] at ho14));have n0_:=Aside0.mk (Kd.yJ_ ho14 (yn_ (by repeat (first|(with_reducible first|exact HB.out|apply yc_|apply ya_|apply yb_)|exact HB.out))));have n1_:=Aside0.mk (yp_ (by repeat (first|(with_reducible first|exact HB.out|apply yc_|apply ya_|apply yb_)|exact HB.out)) hb);clear HB;have HO469:=n0_;have HB:=n1_;clear n0_ n1_;clear hb ho14)|((with_reducible refine yF_ (b:=.append) (xs:=#[.tmp 5,.tmp 6]) rfl ?_);at_builtin;refine Kd.yOb_ k53 (w0:=w) w.heap.size rfl (.tmp 5) (.tmp 6) 46 53 (.agg #[(.string ⟨#[]⟩),(.string ⟨#[]⟩)]) 32 rfl Try.underlying46 info53 rfl (by decide) (by omega) v468 y467 l0 _ _ _ (fun _=>True) (fun _=>False) rfl rfl ?aO ?aR (fun _ _ h=>h) (fun _ h=>h.elim) ?aF ?aB ?aS ?aL ?_;(case aR=>repeat (first|exact (Kd.ynb_ HR1.out HB.out)|(with_reducible refine Kd.yK_ ?_ _)|(with_reducible refine Kd.y1_ ?_ _)|(with_reducible refine Kd.C_drew ?_)));(case aB=>exact (by repeat (first|(with_reducible first|exact HB.out|apply yc_|apply ya_|apply yb_)|exact HB.out)));(case aF=>exact (fun _ _=>trivial));(case aO=>exact (by (with_reducible repeat (first|apply Kd.yg_|apply Kd.yh_|apply Kd.R_drew));exact HO469.out));(case aS=>exact (yn_ (by repeat (first|(with_reducible first|exact HB.out|apply yc_|apply ya_|apply yb_)|exact HB.out))));(case aL=>have:=LMc8.out;omega);intro v471 w15 ho hb hg hat;rw[← Ny470.out] at ho;have n0_:=Aside0.mk (hb);have n1_:=Aside0.mk (ho);clear HB;clear HO469;have HB:=n0_;have HO472:=n1_;clear n0_ n1_;clear ho hb hg hat))
    go_ret
    have e:y470=l0:=by rw[Ny470.out,Ny467.out];rfl
    rw[e] at HO472
    exact⟨_,rfl,HO472.out,HB.out⟩
/-- the order of files: by their names -/
def cfF (x y:S53):Int:=cS x.f0.toList y.f0.toList
def ltF (x y:S53):Bool:=decide (x.f0.toList < y.f0.toList)
theorem ltOf_cfF:ltOf cfF=ltF:=by
  funext x y
  show decide (cfF x y < 0)=ltF x y
  unfold cfF cS ltF
  by_cases h:x.f0.toList < y.f0.toList
  · rw[if_pos h,decide_eq_true h];rfl
  rw[if_neg h,decide_eq_false h]
  by_cases h2:y.f0.toList < x.f0.toList
  rotate_left
  · rw[if_neg h2];rfl
  rw[if_pos h2];rfl
theorem ltF_swo:Sort.SWO ltF where
  irrefl x:=decide_eq_false (List.lt_irrefl _)
  trans x y z h1 h2:=decide_eq_true (List.lt_trans (of_decide_eq_true h1) (of_decide_eq_true h2))
  ntrans x y z h1 h2:=decide_eq_false (fun q=>by
    have a1:=of_decide_eq_false h1
    have a2:=of_decide_eq_false h2
    have b1:y.f0.toList≤x.f0.toList:=List.not_lt.1 a1
    have b2:z.f0.toList≤y.f0.toList:=List.not_lt.1 a2
    exact absurd q (List.not_lt.2 (List.le_trans b2 b1)))
theorem order53_grows (x y:S53) (w:World):Calls Try.prog 39 #[.agg #[.string x.f0,.string x.f1],.agg #[.string y.f0,.string y.f1]] w fun e w'=>e=.returned (.int .i64 (cfF x y))∧∃ q os',w'=Sort.grow (w.drewN q) os':=by
  go_enter Try.func39,Try.ntmps39
  go_wp2_with (go_at_call 40;refine (yI_.calls x.f0 y.f0 (cfF x y) _ (cmpS_f x.f0 y.f0)).mono ?_;rintro e w2 ⟨rfl,hd⟩)
  go_ret
  obtain⟨q,rfl⟩:=hd
  exact⟨rfl,grow_of_below (ya_ (((Below.refl _ w).alloc (Nat.le_refl _) _).alloc (by simp) _) _) (by simp [World.drewN])⟩
theorem sort53_calls (g cap:Nat) (l:List S53) (w:World) (hH:Sort.HoldsK enc53 2 w g 0 l.toArray) (hb:g < w.heap.size) (hl:l.length≤10000) :
    Calls Try.prog 38 #[.slice (some ⟨g,0,none⟩) l.length cap,.func (.func 39) #[] #[]] w fun e w'=>e=.returned (.tuple #[]) ∧
      ∃ (d':Array S53) (n:Nat) (os:Array Obj),d'.size=l.length∧d'.toList.Perm l∧(∀ i j,i < j→j < d'.size→ltF d'[j]! d'[i]! = false)∧w'=Sort.grow (Sort.putRowK enc53 2 (Sort.ahead w n) g 0 d') os:=by
  have eg:∀ args w,(callFunc 39 args).run Try.prog w=.ok (.enter 39 args) w:=enters_of Try.func39 (by kernel_rfl) rfl
  have hcmp:CmpLays Try.prog 39 #[] enc53 2 cfF g 0 l.toArray.size w:=fun m os dk _ x y=>order53_grows x y _
  have h:=AnyQ.slices_SortFunc Try.sortFi 2 isAgg53 sizeOf53 enc53 enc53_len enc53_one cfF (by rw[ltOf_cfF];exact ltF_swo) 39 #[] g 0 cap l.toArray w eg hcmp hH hb (by rw[List.size_toArray];omega)
  rw[List.size_toArray] at h
  refine h.mono ?_
  rintro e w' ⟨he,d',n,os,hp,hs,hw⟩
  obtain⟨p1,_,p3⟩:=hp
  replace p1:d'.size=l.length:=p1.trans (by simp)
  refine⟨he,d',n,os,p1,?_,fun i j hij hj=>?_,hw⟩
  · have e1:(d'.extract 0 l.length).toList=d'.toList:=by rw[show l.length=d'.size from p1.symm];simp
    have e2:(l.toArray.extract 0 l.length).toList=l:=by simp
    rw[e1,e2] at p3
    exact p3
  · have:=hs i j (Nat.zero_le _) hij (by omega)
    rwa [ltOf_cfF] at this
/-- a row of one's own, sorted -/
theorem sort53_row (A:Option Addr) (cap:Nat) (l:List S53) (w:World) (base:Nat) (h:Kd.R k53 53 w base (fun _=>True) (.slice A l.length cap) l) (hl:l.length≤10000) :
    Calls Try.prog 38 #[.slice A l.length cap,.func (.func 39) #[] #[]] w fun e w'=>e=.returned (.tuple #[]) ∧
      ∃ d:List S53,d.length=l.length∧d.Perm l∧(∀ i j,i < j→∀ hj:j < d.length,∀ hi:i < d.length,ltF d[j] d[i]=false)∧Kd.R k53 53 w' base (fun _=>True) (.slice A l.length cap) d∧Below base w w':=by
  by_cases h0:l=[]
  · subst h0
    refine (AnyF.slices_SortFunc_none Try.sortFi A cap (.func (.func 39) #[] #[]) w).mono ?_
    rintro e w' ⟨rfl,rfl⟩
    exact⟨rfl,[],rfl,List.Perm.refl _,fun i j h1 hj=>absurd hj (Nat.not_lt_zero _),h,Below.refl _ _⟩
  obtain⟨inner,hlen,hz|⟨g,cap',cur,e,g1,g2,g3,g4,g5,_⟩⟩:=Kd.R_own h
  · exact absurd (List.eq_nil_of_length_eq_zero hz.2) h0
  · cases e
    replace g5:cur.size=cap * 2:=g5
    have hg:=(Array.getElem?_eq_some_iff.1 g2).1
    have hH:=holds_of_row53 h ⟨cur,g2⟩
    refine (sort53_calls g cap l w hH hg hl).mono ?_
    rintro e w' ⟨he,d',n,os,p1,p2,p3,rfl⟩
    have hh0:(Sort.ahead w n).heap[g]?=some (.cells cur 53 (0,0)):=g2
    obtain⟨cur1,hh1,s1⟩:=putRow_heap id (off:=0) (F:=Sort.flatK enc53 2 d') hh0
    have H1:Sort.HoldsK enc53 2 (Sort.putRowK enc53 2 (Sort.ahead w n) g 0 d') g 0 d':=Sort.holdsK_putRowK enc53 2 _ g 0 l.toArray d' (Sort.holdsK_ahead enc53 2 w n g 0 _ hH) (by rw[p1];simp)
    have hh2:(Sort.grow (Sort.putRowK enc53 2 (Sort.ahead w n) g 0 d') os).heap[g]?=some (.cells cur1 53 (0,0)):=grow_heap os hh1
    have H2:Sort.HoldsK enc53 2 (Sort.grow (Sort.putRowK enc53 2 (Sort.ahead w n) g 0 d') os) g 0 d':=Sort.holdsK_grow enc53 2 _ os g 0 d' (Array.getElem?_eq_some_iff.1 hh1).1 H1
    have hlen':d'.toList.length=l.length:=by rw[Array.length_toList,p1]
    refine⟨he,d'.toList,hlen',p2,fun i j hij hj hi=>?_,?_,?_⟩
    · have:=p3 i j hij (by simpa using hj)
      rw[getElem!_pos d' j (by simpa using hj),getElem!_pos d' i (by simpa using hi)] at this
      simpa using this
    · have:=row53 (W:=Sort.grow (Sort.putRowK enc53 2 (Sort.ahead w n) g 0 d') os) (base:=base) (g:=g) (cap:=cap) (cur:=cur1) (r:=d'.toList) hh2 g1 (by omega) g4 (by rw[s1,g5]) (fun t ht=>by
        have h4:=(H2 t (by rw[Sort.size_flatK];simpa using ht)).1
        have ht2:t < cur1.size:=by rw[s1,g5];rw[hlen'] at ht;omega
        simp only[World.cell?,hh2,Nat.zero_add] at h4
        have h5:cur1[t]?=some (Sort.flatK enc53 2 d')[t]! := h4
        rw[getElem!_pos cur1 t ht2]
        rw[Array.getElem?_eq_getElem ht2] at h5
        simpa using Option.some.inj h5)
      rw[hlen'] at this
      exact this
    · refine ((below_ahead _ w n).trans ((below_putRow id _ 0 (Sort.flatK enc53 2 d') g1).trans ?_))
      refine below_grow ?_ os
      have:=(Array.getElem?_eq_some_iff.1 hh1).1
      show base≤(Sort.putRow id _ g 0 _).heap.size
      omega
end Go.Proofs.Ythimblhfjfngiaa.PText

namespace Go.Proofs.Ythimblhfjfngiaa.PText
open Go.RowKit Go.Lib Go.Proofs.YthimblhfjfngiaaW.PrintWords Go.Proofs.YthimblhfjfngiaaW.PrintLast Go.Proofs.YthimblhfjfngiaaW.PrintMore
set_option linter.unusedVariables false
set_option linter.unusedSimpArgs false
def yAb_.f (a0:ByteArray) (l1:List S59):Option Int:=some (fineE a0.size l1)
theorem fine_pred (s:ByteArray) (B:Nat) (w:World) (hB:B < w.heap.size) (hcell:w.cell? ⟨B,0,none⟩=some (.string s)) :
    PredBelow Try.prog 62 #[.pointer (some ⟨B,0,none⟩)] (fun x=>.agg (enc34 x).toArray) (badE s.size) w:=fun W x hb=>by
  have hc:W.cell? ⟨B,0,none⟩=some (.string s):=(hb.cell (p:=⟨B,0,none⟩) hB).trans hcell
  have hBW:B < W.heap.size:=Nat.lt_of_lt_of_le hB hb.size
  have hne:B≠W.heap.size:=by omega
  have hu34:=Try.underlying59
  show Calls Try.prog 62 #[.agg #[.int .i64 x.f0,.int .i64 x.f1,.string x.f2],.pointer (some ⟨B,0,none⟩)] W _
  unfold badE
  by_cases h1:x.f0 < 0
  · go_enter Try.func62,Try.ntmps62
    go_wp2
    go_ret
    exact⟨by simp [h1],hb.alloc hb.size _⟩
  by_cases h2:(s.size:Int) < x.f1
  · go_enter Try.func62,Try.ntmps62
    go_wp2
    go_ret
    exact⟨by simp [h1,h2],hb.alloc hb.size _⟩
  go_enter Try.func62,Try.ntmps62
  go_wp2
  go_ret
  exact⟨by first|(simp [h1,h2];done)|(simp;omega),hb.alloc hb.size _⟩
set_option maxHeartbeats 1000000 in
theorem index_empty (p:Option Addr) (c g:Nat) (lb:Array Value) (w:World):Calls Try.prog 42 #[.slice p 0 c,.func (.func g) #[] lb] w fun e w'=>e=.returned (.int .i64 (-1))∧Below w.heap.size w w':=by
  go_enter Try.func42,Try.ntmps42
  go_wp2
  go_loopg [5,8] 0 (fun _ _ s8 wr=>s8=.int .i64 0∧wr=w)
  case atStart=>exact⟨rfl,rfl⟩
  case round =>
    obtain⟨rfl,rfl⟩:=hrel
    go_wp2
    go_ret
    exact⟨rfl,Below.refl _ _⟩
set_option maxHeartbeats 1000000 in
theorem contains_empty (p:Option Addr) (c g:Nat) (lb:Array Value) (w:World):Calls Try.prog 24 #[.slice p 0 c,.func (.func g) #[] lb] w fun e w'=>e=.returned (.bool false)∧Below w.heap.size w w':=by
  go_enter Try.func24,Try.ntmps24
  go_wp2_with (go_at_call 42;refine (index_empty p c g lb _).mono ?_;rintro e w' ⟨rfl,hb⟩)
  go_ret
  exact⟨rfl,hb⟩
theorem C_addr34 {w:World} {A:Option Addr} {l:List S59} (h:Kd.C k59 w A l.length l) (hp:0 < l.length) :
    ∃ b o,A=some ⟨b,o,none⟩∧b < w.heap.size∧∀ j,j < l.length→∀ i v,(enc34 l[j]!)[i]?=some v→w.cell? ⟨b,o+j * 3+i,none⟩=some v:=by
  obtain⟨⟨b,o,sp⟩,rfl,h0,_⟩:=at_T59 h 0 (by omega) (by omega)
  have hsp:sp=none:=by
    cases sp with
    | none=>rfl
    | some q =>
      unfold World.cell? at h0
      simp only[Addr.add] at h0
      split at h0 <;> simp at h0
  subst hsp
  have hb:b < w.heap.size:=World.block_lt_of_cell? w _ h0
  refine⟨b,o,rfl,hb,fun j hj i v hv=>?_⟩
  obtain⟨ad,e,h1,h2,h3⟩:=at_T59 h (j:Int) (by omega) (by omega)
  cases e
  rw[yxb_ l j hj] at h1 h2 h3
  rw[getElem!_pos l j hj] at hv
  simp only[Int.toNat_natCast,Addr.add_lit] at h1 h2 h3
  match i,hv with
  | 0,hv=>simp [enc34] at hv;subst hv;exact h1
  | 1,hv=>simp [enc34] at hv;subst hv;exact h2
  | 2,hv=>simp [enc34] at hv;subst hv;exact h3
  | i+3,hv=>simp [enc34] at hv
theorem contains_calls (a0:ByteArray) (A1:Option Addr) (c1 B:Nat) (l1:List S59) (w:World) (hC:Kd.C k59 w A1 l1.length l1) (hB:B < w.heap.size) (hcell:w.cell? ⟨B,0,none⟩=some (.string a0)) (hl:l1.length≤10000) :
    Calls Try.prog 24 #[.slice A1 l1.length c1,.func (.func 62) #[] #[.pointer (some ⟨B,0,none⟩)]] w fun e w'=>e=.returned (.bool (l1.any (badE a0.size)))∧Below w.heap.size w w':=by
  by_cases hp:l1.length=0
  · obtain rfl:=List.eq_nil_of_length_eq_zero hp
    exact contains_empty A1 c1 62 _ w
  obtain⟨b,o,rfl,hb,hc⟩:=C_addr34 hC (by omega)
  have eg:∀ args w,(callFunc 62 args).run Try.prog w=.ok (.enter 62 args) w:=enters_of Try.func62 (by kernel_rfl) rfl
  have h:=AnyQ.slices_ContainsFunc Try.containsEd 3 isAgg34 sizeOf34 enc34 enc34_len (badE a0.size) 62 #[.pointer (some ⟨B,0,none⟩)] eg b o l1.length c1 l1 w (fine_pred a0 B w hB hcell) (Nat.le_refl _) (by omega) hb hc
  rw[List.take_length] at h
  exact h
set_option maxHeartbeats 8000000 in
set_option maxRecDepth 100000 in
theorem yAb_.calls (a0:ByteArray) (A1:Option Addr) (c1:Nat) (l1:List S59) (r:Int) (w:World) (hr1:Kd.C k59 w A1 l1.length l1) (hc1:l1.length≤c1) (h:yAb_.f a0 l1=some r) :
    Calls Try.prog 44 #[.string a0,.slice A1 l1.length c1] w fun e w'=>e=.returned (.int .i64 r)∧Below w.heap.size w w':=by
  have hr:=Option.some.inj h
  clear h
  have HR:=Aside0.mk hr
  have HC:=Aside0.mk hr1
  have HL:=Aside0.mk hc1
  clear hr hr1 hc1
  by_cases g1:200000 < a0.size
  · go_enter Try.func44,Try.ntmps44
    go_wp2
    go_ret
    refine⟨?_,(Below.refl _ w).alloc (Nat.le_refl _) _⟩
    rw[← HR.out]
    unfold fineE
    rw[if_pos (Or.inl g1)]
    rfl
  by_cases g2:10000 < l1.length
  · go_enter Try.func44,Try.ntmps44
    go_wp2
    go_ret
    refine⟨?_,(Below.refl _ w).alloc (Nat.le_refl _) _⟩
    rw[← HR.out]
    unfold fineE
    rw[if_pos (Or.inr g2)]
    rfl
  have W1:=Aside0.mk ((Below.refl w.heap.size w).alloc (Nat.le_refl _) (.cells #[.string a0] 9))
  have H37:=Aside0.mk (contains_calls a0 A1 c1 w.heap.size l1 (w.alloc (.cells #[.string a0] 9)) (Kd.ynb_ HC.out W1.out) (by simp) (by simp) (by omega))
  have H32:=Aside0.mk (fun w2 (h2:Kd.C k59 w2 A1 l1.length l1)=>yyb_.calls A1 c1 l1 (Tx.ord eltS l1) w2 h2 HL.out (by unfold yyb_.f;rw[if_pos (by omega)]))
  have hlo:(Tx.ord eltS l1).length≤10000:=Nat.le_trans (Tx.ord_len l1) (by omega)
  have HLO:=Aside0.mk hlo
  clear hlo
  obtain⟨cl,hcl⟩:∃ b,b=Tx.clash 0 (-1) ((Tx.ord eltS l1).map toE):=⟨_,rfl⟩
  have H39:=Aside0.mk (fun A c w3 (h3:Kd.C k59 w3 A (Tx.ord eltS l1).length (Tx.ord eltS l1)) (h4:(Tx.ord eltS l1).length≤c)=>yR_.calls 20001 A c (Tx.ord eltS l1) cl w3 h3 h4 (by rw[clash_f _ HLO.out,hcl]))
  have HCL:=Aside0.mk hcl
  clear hcl
  cases hany:l1.any (badE a0.size) with
  | true =>
    rw[hany] at H37
    have HA:=Aside0.mk hany
    clear hany H32 H39
    go_enter Try.func44,Try.ntmps44
    go_wp2_with (go_at_call 24;refine H37.out.mono ?_;rintro e w2 ⟨rfl,hb⟩;have HB:=Aside0.mk hb;clear hb H37)
    go_ret
    refine⟨?_,W1.out.trans (HB.out.mono (by simp))⟩
    rw[← HR.out]
    unfold fineE
    rw[if_neg (by omega),if_pos HA.out]
    rfl
  | false =>
    rw[hany] at H37
    have HA:=Aside0.mk hany
    clear hany
    have fin:(if cl=true then (10:Int) else 0)=r:=by
      rw[← HR.out]
      unfold fineE
      rw[if_neg (show ¬ (200000 < a0.size∨10000 < l1.length) by omega),if_neg (show ¬ (l1.any (badE a0.size)=true) by rw[HA.out];decide),← HCL.out]
    have FIN:=Aside0.mk fin
    clear fin
    cases cl with
    | true =>
      go_enter Try.func44,Try.ntmps44
      go_wp2_with (first
        | (go_at_call 24;refine H37.out.mono ?_;rintro e w2 ⟨rfl,hb⟩;have HB:=Aside0.mk (W1.out.trans (hb.mono (by simp)));clear hb H37)
        | (go_at_call 45;refine (H32.out w2 (Kd.ynb_ HC.out HB.out)).mono ?_;rintro e w3 ⟨v3,rfl,ho,hb⟩;obtain⟨A3,c3,rfl⟩:=Kd.yC_ ho;have HO:=Aside0.mk ho;have HB3:=Aside0.mk (HB.out.trans (hb.mono HB.out.size));clear ho hb H32)
        | (go_at_call 63;refine (H39.out A3 c3 w3 (Kd.ys_ HO.out).2.2 (Kd.ys_ HO.out).2.1).mono ?_;rintro e w4 ⟨rfl,hb⟩;have HB4:=Aside0.mk (HB3.out.trans (hb.mono HB3.out.size));clear hb H39))
      go_ret
      exact⟨by rw[← FIN.out];rfl,HB4.out⟩
    | false =>
      go_enter Try.func44,Try.ntmps44
      go_wp2_with (first
        | (go_at_call 24;refine H37.out.mono ?_;rintro e w2 ⟨rfl,hb⟩;have HB:=Aside0.mk (W1.out.trans (hb.mono (by simp)));clear hb H37)
        | (go_at_call 45;refine (H32.out w2 (Kd.ynb_ HC.out HB.out)).mono ?_;rintro e w3 ⟨v3,rfl,ho,hb⟩;obtain⟨A3,c3,rfl⟩:=Kd.yC_ ho;have HO:=Aside0.mk ho;have HB3:=Aside0.mk (HB.out.trans (hb.mono HB.out.size));clear ho hb H32)
        | (go_at_call 63;refine (H39.out A3 c3 w3 (Kd.ys_ HO.out).2.2 (Kd.ys_ HO.out).2.1).mono ?_;rintro e w4 ⟨rfl,hb⟩;have HB4:=Aside0.mk (HB3.out.trans (hb.mono HB3.out.size));clear hb H39))
      go_ret
      exact⟨by rw[← FIN.out];rfl,HB4.out⟩
end Go.Proofs.Ythimblhfjfngiaa.PText

namespace Go.Proofs.Ythimblhfjfngiaa.PText
open Go.RowKit Go.Lib Go.Proofs.YthimblhfjfngiaaW.PrintWords Go.Proofs.YthimblhfjfngiaaW.PrintLast Go.Proofs.YthimblhfjfngiaaW.PrintMore
/-- a whole order of files that goes by names first -/
def ltFL (x y:S53):Bool:=decide (x.f0.toList < y.f0.toList) || (decide (x.f0.toList=y.f0.toList) && decide (x.f1.toList < y.f1.toList))
theorem ltFL_iff (x y:S53):ltFL x y=true↔x.f0.toList < y.f0.toList∨(x.f0.toList=y.f0.toList∧x.f1.toList < y.f1.toList):=by
  unfold ltFL
  simp only[Bool.or_eq_true,Bool.and_eq_true,decide_eq_true_eq]
theorem yZb_ {a b:ByteArray} (h:a.toList=b.toList):a=b:=by
  rw[Lib.toList_data,Lib.toList_data] at h
  exact ByteArray.ext (Array.toList_inj.1 h)
theorem ltFL_lin:Tx.Lin ltFL where
  irr a:=by
    cases h:ltFL a a with
    | false=>rfl
    | true =>
      rcases (ltFL_iff _ _).1 h with k|⟨_,k⟩
      · exact absurd k (List.lt_irrefl _)
      · exact absurd k (List.lt_irrefl _)
  tr:=by
    intro a b c h1 h2
    rw[ltFL_iff] at h1 h2 ⊢
    rcases h1 with h1|⟨e1,h1⟩
    · rcases h2 with h2|⟨e2,h2⟩
      · exact Or.inl (List.lt_trans h1 h2)
      · exact Or.inl (by rw[← e2];exact h1)
    · rcases h2 with h2|⟨e2,h2⟩
      · exact Or.inl (by rw[e1];exact h2)
      · exact Or.inr ⟨e1.trans e2,List.lt_trans h1 h2⟩
  tri:=by
    intro a b h1 h2
    have n1:¬ (a.f0.toList < b.f0.toList∨(a.f0.toList=b.f0.toList∧a.f1.toList < b.f1.toList)):=fun q=>by rw[(ltFL_iff _ _).2 q] at h1;cases h1
    have n2:¬ (b.f0.toList < a.f0.toList∨(b.f0.toList=a.f0.toList∧b.f1.toList < a.f1.toList)):=fun q=>by rw[(ltFL_iff _ _).2 q] at h2;cases h2
    have e0:a.f0.toList=b.f0.toList:=List.le_antisymm (List.not_lt.1 fun q=>n2 (Or.inl q)) (List.not_lt.1 fun q=>n1 (Or.inl q))
    have e1:a.f1.toList=b.f1.toList:=List.le_antisymm (List.not_lt.1 fun q=>n2 (Or.inr ⟨e0.symm,q⟩)) (List.not_lt.1 fun q=>n1 (Or.inr ⟨e0,q⟩))
    exact S53.ext' (yZb_ e0) (yZb_ e1)
/-- the names of files -/
def fnames (l:List S53):List (List UInt8):=l.map fun x=>x.f0.toList
/-- files by their names -/
def srtF (l:List S53):List S53:=Tx.ord ltFL l
/-- a row that is sorted by names -/
def SortedF (d:List S53):Prop:=∀ i j,i < j→∀ hj:j < d.length,∀ hi:i < d.length,ltF d[j] d[i]=false
theorem sorted_le {d:List S53} (h:SortedF d) {i j:Nat} (hij:i < j) (hj:j < d.length):d[i].f0.toList≤d[j].f0.toList :=
  List.not_lt.1 (of_decide_eq_false (h i j hij hj (by omega)))
/-- no two neighbours have one name -/
def NoNext (d:List S53):Prop:=∀ i,∀ h:i+1 < d.length,d[i+1].f0.toList≠d[i].f0.toList
theorem strict_of {d:List S53} (h:SortedF d) (hn:NoNext d):∀ (m i:Nat),∀ hj:i+m+1 < d.length,d[i].f0.toList < d[i+m+1].f0.toList:=by
  intro m
  induction m with
  | zero =>
    intro i hj
    have h1:=sorted_le h (show i < i+0+1 by omega) hj
    rcases List.le_iff_lt_or_eq.1 h1 with q|q
    · exact q
    · exact absurd q.symm (hn i hj)
  | succ m ih =>
    intro i hj
    have h1:=ih i (by omega)
    have h2:=sorted_le h (show i+m+1 < i+(m+1)+1 by omega) hj
    rcases List.le_iff_lt_or_eq.1 h2 with q|q
    · exact List.lt_trans h1 q
    · rw[← q];exact h1
theorem nodup_of {d:List S53} (h:SortedF d) (hn:NoNext d):(fnames d).Nodup:=by
  unfold fnames
  rw[List.nodup_iff_pairwise_ne,List.pairwise_iff_getElem]
  intro i j hi hj hij
  rw[List.getElem_map,List.getElem_map]
  rw[List.length_map] at hi hj
  obtain⟨m,rfl⟩:∃ m,j=i+m+1:=⟨j - i - 1,by omega⟩
  intro e
  have:=strict_of h hn m i hj
  rw[e] at this
  exact List.lt_irrefl _ this
theorem noNext_of {d:List S53} (h:(fnames d).Nodup):NoNext d:=by
  intro i hi e
  unfold fnames at h
  rw[List.nodup_iff_pairwise_ne,List.pairwise_iff_getElem] at h
  have:=h i (i+1) (by rw[List.length_map];omega) (by rw[List.length_map];omega) (by omega)
  rw[List.getElem_map,List.getElem_map] at this
  exact this e.symm
theorem perm_names {d l:List S53} (h:d.Perm l):(fnames d).Perm (fnames l):=h.map _
theorem srt_eq {d l:List S53} (hp:d.Perm l) (h:SortedF d) (hn:(fnames l).Nodup):d=srtF l:=by
  have hd:(fnames d).Nodup:=(perm_names hp).nodup_iff.2 hn
  have hs:=strict_of h (noNext_of hd)
  refine Tx.yMb_ ltFL_lin ?_ fun a=>hp.mem_iff
  unfold Tx.Asc
  rw[List.pairwise_iff_getElem]
  intro i j hi hj hij
  obtain⟨m,rfl⟩:∃ m,j=i+m+1:=⟨j - i - 1,by omega⟩
  exact (ltFL_iff _ _).2 (Or.inl (hs m i hj))
theorem first_empty {d l:List S53} (hp:d.Perm l) (h:SortedF d):(∃ hd:0 < d.length,d[0].f0.toList=[])↔∃ x∈l,x.f0.toList=[]:=by
  constructor
  · rintro ⟨hd,e⟩
    exact⟨d[0],hp.mem_iff.1 (List.getElem_mem hd),e⟩
  · rintro ⟨x,hx,e⟩
    obtain⟨j,hj,rfl⟩:=List.mem_iff_getElem.1 (hp.mem_iff.2 hx)
    refine⟨by omega,?_⟩
    by_cases h0:j=0
    · subst h0;exact e
    have:=sorted_le h (show 0 < j by omega) hj
    rw[e] at this
    cases q:d[0].f0.toList with
    | nil=>rfl
    | cons c r =>
      rw[q] at this
      exact absurd (List.nil_lt_cons c r) (List.not_lt.2 this)
end Go.Proofs.Ythimblhfjfngiaa.PText

namespace Go.Proofs.Ythimblhfjfngiaa.PText
open Go.RowKit Go.Proofs.YthimblhfjfngiaaW.PrintWords Go.Proofs.YthimblhfjfngiaaW.PrintLast Go.Proofs.YthimblhfjfngiaaW.PrintMore
set_option linter.unusedVariables false
set_option linter.unusedSimpArgs false
theorem heap_newM (w:World) (o:Obj):(w.alloc o).drew.heap[w.heap.size]?=some o:=by
  show (w.heap.push o)[w.heap.size]?=some o
  exact Array.getElem?_push_size
set_option maxHeartbeats 4000000 in
set_option maxRecDepth 100000 in
theorem grow_calls (n:Nat) (w:World) (hn:n≤20000) :
    Calls Try.prog 61 #[.slice none 0 0,.int .i64 (n:Int)] w fun e w'=>∃ v,e=.returned v∧w'.ownsRow w.heap.size 59 3 v 0 []∧Below w.heap.size w w':=by
  by_cases h0:n=0
  · subst h0
    go_enter Try.func61,Try.ntmps61
    go_wp2
    go_ret
    exact⟨_,rfl,World.ownsRow_nil _ _ _ _,Below.refl _ _⟩
  have hp:(0:Int) < (n:Int):=by omega
  have hb:decide ((n:Int) < 0)=false:=decide_eq_false (by omega)
  have hb2:decide ((0:Int) < (n:Int))=true:=decide_eq_true hp
  have hby:Try.t59.bytes=32:=by kernel_rfl
  have hnx:Builtin.nextslicecap n 0=n:=by unfold Builtin.nextslicecap;rw[if_pos (by omega)]
  go_enter Try.func61,Try.ntmps61
  go_wp2
  all_goals (try (exfalso;simp only[hby,hnx] at *;omega))
  go_ret
  refine⟨_,rfl,⟨rfl,.inr ⟨w.heap.size,_,_,rfl,Nat.le_refl _,heap_newM w _,Nat.zero_le _,?_,?_,by simp⟩⟩,((Below.refl _ w).alloc (Nat.le_refl _) _).drew⟩
  · show n+_ % (2 ^ 63 - n)≤maxLen
    have:=Nat.mod_lt (w.tape w.drawn (Question.appendCap n 0 59)) (show 0 < 2 ^ 63 - n by omega)
    unfold maxLen
    omega
  · rw[Array.size_append,size_zeroCells,size_zeroCells]
    show n * 3+(n+_ % (2 ^ 63 - n) - n) * 3=(n+_ % (2 ^ 63 - n)) * 3
    omega
theorem grow_two (a b:Nat) (w:World) (hn:a+b≤20000) :
    Calls Try.prog 61 #[.slice none 0 0,.int .i64 ((a:Int)+(b:Int))] w fun e w'=>∃ v,e=.returned v∧w'.ownsRow w.heap.size 59 3 v 0 []∧Below w.heap.size w w':=by
  have h:((a:Int)+(b:Int))=((a+b:Nat):Int):=by omega
  rw[h]
  exact grow_calls (a+b) w hn
set_option maxHeartbeats 4000000 in
set_option maxRecDepth 100000 in
theorem concat_calls (B:Nat) (A1:Option Addr) (c1:Nat) (l1:List S59) (A2:Option Addr) (c2:Nat) (l2:List S59) (w:World) (hlen:l1.length+l2.length≤20000)
    (hC1:Kd.C k59 w A1 l1.length l1) (hC2:Kd.C k59 w A2 l2.length l2) (h0:w.cell? ⟨B,0,none⟩=some (.slice A1 l1.length c1)) (h1:w.cell? ⟨B,1,none⟩=some (.slice A2 l2.length c2)) :
    Calls Try.prog 43 #[.slice (some ⟨B,0,none⟩) 2 2] w fun e w'=>∃ v,e=.returned v∧Kd.R k59 59 w' w.heap.size (fun _=>True) v (l1++l2)∧Below w.heap.size w w':=by
  have HC1:=Aside0.mk hC1
  have HC2:=Aside0.mk hC2
  have HL:=Aside0.mk hlen
  have hBlt:B < w.heap.size:=World.block_lt_of_cell? w _ h0
  have s1:IntKind.i64.wrap ((l1.length:Int))=(l1.length:Int):=(i64_w _).trans (w64 (by omega) (by omega))
  have s2:IntKind.i64.wrap ((l1.length:Int)+(l2.length:Int))=(l1.length:Int)+(l2.length:Int):=(i64_w _).trans (w64 (by omega) (by omega))
  have s3:wrap64 ((l1.length:Int)+(l2.length:Int))=(l1.length:Int)+(l2.length:Int):=w64 (by omega) (by omega)
  have b1:decide ((l1.length:Int) < 0)=false:=decide_eq_false (by omega)
  have b2:decide ((l1.length:Int)+(l2.length:Int) < 0)=false:=decide_eq_false (by omega)
  clear hC1 hC2 hlen
  go_enter Try.func43,Try.ntmps43
  go_wp2_with fail
  go_loopg [3,11] 3 (fun kq v3 v11 wq=>(v3=.int .i64 0∧v11=.int .i64 0∧wq=w∧Aside0 (kq=3))∨(v3=.int .i64 (l1.length:Int)∧v11=.int .i64 1∧wq=w∧Aside0 (kq=2))∨(v3=.int .i64 ((l1.length:Int)+(l2.length:Int))∧v11=.int .i64 2∧wq=w))
  case atStart=>exact Or.inl ⟨rfl,rfl,rfl,⟨rfl⟩⟩
  case round =>
    rcases hrel with ⟨rfl,rfl,rfl,hk⟩|⟨rfl,rfl,rfl,hk⟩|⟨rfl,rfl,hw⟩
    · obtain⟨k1,rfl⟩:∃ k1,gk=k1+1:=⟨2,hk.out⟩
      go_wp2_with fail
      go_roundg k1
      case measure=>have:=hk.out;omega
      case rel=>exact Or.inr (Or.inl ⟨rfl,rfl,rfl,⟨by have:=hk.out;omega⟩⟩)
    · obtain⟨k1,rfl⟩:∃ k1,gk=k1+1:=⟨1,hk.out⟩
      go_wp2_with fail
      go_roundg k1
      case measure=>have:=hk.out;omega
      case rel=>exact Or.inr (Or.inr ⟨rfl,rfl,rfl⟩)
    · have hw':=hw.symm
      subst hw'
      go_wp2_with (go_at_call 61;refine (grow_two l1.length l2.length _ HL.out).mono ?_;rintro e w2 ⟨v,rfl,hown,hb⟩;have HO:Aside0 (Kd.R k59 59 w2 w.heap.size (fun _=>True) v []):=⟨⟨fun _ _=>trivial,[],hown,Reps.none _ _⟩⟩;have HB:=Aside0.mk hb;clear hown hb)
      go_loopg [6,27] 3 (fun kq v6 v27 wq=>(v27=.int .i64 0∧Aside0 (kq=3)∧Aside0 (Kd.R k59 59 wq w.heap.size (fun _=>True) v6 [])∧Aside0 (Below w.heap.size w wq))∨(v27=.int .i64 1∧Aside0 (kq=2)∧Aside0 (Kd.R k59 59 wq w.heap.size (fun _=>True) v6 l1)∧Aside0 (Below w.heap.size w wq))∨(v27=.int .i64 2∧Aside0 (Kd.R k59 59 wq w.heap.size (fun _=>True) v6 (l1++l2))∧Aside0 (Below w.heap.size w wq)))
      case atStart=>exact Or.inl ⟨rfl,⟨rfl⟩,HO,HB⟩
      case round =>
        rcases hrel with ⟨rfl,hk2,HO2,HB2⟩|⟨rfl,hk2,HO2,HB2⟩|⟨rfl,HO2,HB2⟩
        · obtain⟨k2,rfl⟩:∃ k2,gk=k2+1:=⟨2,hk2.out⟩
          have g0:=(HB2.out.cell (p:=⟨B,0,none⟩) hBlt).trans h0
          go_wp2_with (at_builtin;refine Kd.yOb_ k59 (w0:=w) w.heap.size rfl (.tmp 31) (.tmp 32) 55 59 (.agg #[(.int .i64 0),(.int .i64 0),(.string ⟨#[]⟩)]) 32 rfl Try.underlying55 info59 rfl (by decide) (by omega) _ ([]:List S59) l1 _ _ _ (fun _=>True) (fun _=>False) rfl rfl HO2.out (Kd.ynb_ HC1.out HB2.out) (fun _ _ h=>h) (fun _ h=>h.elim) (fun _ _=>trivial) HB2.out HB2.out.size (by have:=HL.out;simp;omega) ?_;intro v1 w3 ho hb hg hat;have HO3:=Aside0.mk ho;have HB3:=Aside0.mk hb;clear ho hb hg hat)
          go_roundg k2
          case measure=>have:=hk2.out;omega
          case rel=>exact Or.inr (Or.inl ⟨rfl,⟨by have:=hk2.out;omega⟩,HO3,HB3⟩)
        · obtain⟨k2,rfl⟩:∃ k2,gk=k2+1:=⟨1,hk2.out⟩
          have g1:=(HB2.out.cell (p:=⟨B,1,none⟩) hBlt).trans h1
          go_wp2_with (at_builtin;refine Kd.yOb_ k59 (w0:=w) w.heap.size rfl (.tmp 31) (.tmp 32) 55 59 (.agg #[(.int .i64 0),(.int .i64 0),(.string ⟨#[]⟩)]) 32 rfl Try.underlying55 info59 rfl (by decide) (by omega) _ l1 l2 _ _ _ (fun _=>True) (fun _=>False) rfl rfl HO2.out (Kd.ynb_ HC2.out HB2.out) (fun _ _ h=>h) (fun _ h=>h.elim) (fun _ _=>trivial) HB2.out HB2.out.size (by have:=HL.out;simp;omega) ?_;intro v1 w3 ho hb hg hat;have HO3:=Aside0.mk ho;have HB3:=Aside0.mk hb;clear ho hb hg hat)
          go_roundg k2
          case measure=>have:=hk2.out;omega
          case rel=>exact Or.inr (Or.inr ⟨rfl,HO3,HB3⟩)
        · go_wp2_with fail
          go_ret
          exact⟨_,rfl,HO2.out,HB2.out⟩
/-- what text.Merge answers -/
def mergeR (n:Nat) (l1 l2:List S59):List S59 × Int :=
  if fineE n l1≠0 then ([],fineE n l1) else if fineE n l2≠0 then ([],fineE n l2) else if fineE n (l1++l2)≠0 then ([],fineE n (l1++l2)) else (Tx.ord eltS (l1++l2),0)
def y8b_.f (a0:ByteArray) (l1 l2:List S59):Option (List S59 × Int):=if l1.length+l2.length≤20000 then some (mergeR a0.size l1 l2) else none
theorem concat_la (B:Nat) (A1:Option Addr) (c1:Nat) (l1:List S59) (A2:Option Addr) (c2:Nat) (l2 la:List S59) (hla:la=l1++l2) (w:World) (hlen:l1.length+l2.length≤20000)
    (hC1:Kd.C k59 w A1 l1.length l1) (hC2:Kd.C k59 w A2 l2.length l2) (h0:w.cell? ⟨B,0,none⟩=some (.slice A1 l1.length c1)) (h1:w.cell? ⟨B,1,none⟩=some (.slice A2 l2.length c2)) :
    Calls Try.prog 43 #[.slice (some ⟨B,0,none⟩) 2 2] w fun e w'=>∃ v,e=.returned v∧Kd.R k59 59 w' w.heap.size (fun _=>True) v la∧Below w.heap.size w w':=by
  subst hla
  exact concat_calls B A1 c1 l1 A2 c2 l2 w hlen hC1 hC2 h0 h1
set_option maxHeartbeats 8000000 in
set_option maxRecDepth 100000 in
theorem y8b_.calls (a0:ByteArray) (A1:Option Addr) (c1:Nat) (l1:List S59) (A2:Option Addr) (c2:Nat) (l2:List S59) (r1:List S59) (r2:Int) (w:World) (hr1:Kd.C k59 w A1 l1.length l1) (hc1:l1.length≤c1) (hr2:Kd.C k59 w A2 l2.length l2) (hc2:l2.length≤c2) (h:y8b_.f a0 l1 l2=some (r1,r2)) :
    Calls Try.prog 27 #[.string a0,.slice A1 l1.length c1,.slice A2 l2.length c2] w fun e w'=>∃ v0_:Value,e=.returned (.tuple #[v0_,.int .i64 r2])∧Kd.R k59 59 w' w.heap.size (fun _=>True) v0_ r1∧Below w.heap.size w w':=by
  unfold y8b_.f at h
  by_cases hlen:l1.length+l2.length≤20000
  rotate_left
  · rw[if_neg hlen] at h;cases h
  rw[if_pos hlen] at h
  have h':=Option.some.inj h
  have HR:=Aside0.mk h'
  have HC1:=Aside0.mk hr1
  have HC2:=Aside0.mk hr2
  have HL1:=Aside0.mk hc1
  have HL2:=Aside0.mk hc2
  have HL:=Aside0.mk hlen
  clear h h' hr1 hr2 hc1 hc2 hlen
  obtain⟨la,hla⟩:∃ la,la=l1++l2:=⟨_,rfl⟩
  have HLA:=Aside0.mk hla
  have hR0:=HR.out
  unfold mergeR at hR0
  rw[← hla] at hR0
  clear HR
  have HR:=Aside0.mk hR0
  clear hR0 hla
  go_enter Try.func27,Try.ntmps27
  go_wp2_with (go_at_call 43;refine (concat_la w.heap.size A1 c1 l1 A2 c2 l2 la HLA.out _ HL.out (Kd.yK_ HC1.out _) (Kd.yK_ HC2.out _) (by simp) (by simp)).mono ?_;rintro e w2 ⟨v,rfl,ho,hb⟩;obtain⟨A3,c3,rfl⟩:=Kd.yC_ ho;have HO:=Aside0.mk ho;have HB:=Aside0.mk hb;clear ho hb)
  have HBW:Aside0 (Below w.heap.size w w2):=⟨((Below.refl _ w).alloc (Nat.le_refl _) _).trans (HB.out.mono (by simp))⟩
  have hR3:=Kd.ys_ HO.out
  have HC3:Aside0 (Kd.C k59 (w2.alloc (.cells #[.slice A1 l1.length c1,.slice A2 l2.length c2,.slice A3 la.length c3] 55)) A3 la.length la):=⟨Kd.yK_ hR3.2.2 _⟩
  have HL3:Aside0 (la.length≤c3):=⟨hR3.2.1⟩
  have HD1:Aside0 (Kd.C k59 (w2.alloc (.cells #[.slice A1 l1.length c1,.slice A2 l2.length c2,.slice A3 la.length c3] 55)) A1 l1.length l1):=⟨Kd.yK_ (Kd.ynb_ HC1.out HBW.out) _⟩
  have HD2:Aside0 (Kd.C k59 (w2.alloc (.cells #[.slice A1 l1.length c1,.slice A2 l2.length c2,.slice A3 la.length c3] 55)) A2 l2.length l2):=⟨Kd.yK_ (Kd.ynb_ HC2.out HBW.out) _⟩
  clear HO HB hR3 HC1 HC2
  go_loopg [21] 4 (fun kq v21 wq=>(v21=.int .i64 0∧Aside0 (kq=4)∧Aside0 (Below (w2.alloc (.cells #[.slice A1 l1.length c1,.slice A2 l2.length c2,.slice A3 la.length c3] 55)).heap.size (w2.alloc (.cells #[.slice A1 l1.length c1,.slice A2 l2.length c2,.slice A3 la.length c3] 55)) wq))∨(v21=.int .i64 1∧Aside0 (kq=3)∧Aside0 (fineE a0.size l1=0)∧Aside0 (Below (w2.alloc (.cells #[.slice A1 l1.length c1,.slice A2 l2.length c2,.slice A3 la.length c3] 55)).heap.size (w2.alloc (.cells #[.slice A1 l1.length c1,.slice A2 l2.length c2,.slice A3 la.length c3] 55)) wq))∨(v21=.int .i64 2∧Aside0 (kq=2)∧Aside0 (fineE a0.size l1=0)∧Aside0 (fineE a0.size l2=0)∧Aside0 (Below (w2.alloc (.cells #[.slice A1 l1.length c1,.slice A2 l2.length c2,.slice A3 la.length c3] 55)).heap.size (w2.alloc (.cells #[.slice A1 l1.length c1,.slice A2 l2.length c2,.slice A3 la.length c3] 55)) wq))∨(v21=.int .i64 3∧Aside0 (fineE a0.size l1=0)∧Aside0 (fineE a0.size l2=0)∧Aside0 (fineE a0.size la=0)∧Aside0 (Below (w2.alloc (.cells #[.slice A1 l1.length c1,.slice A2 l2.length c2,.slice A3 la.length c3] 55)).heap.size (w2.alloc (.cells #[.slice A1 l1.length c1,.slice A2 l2.length c2,.slice A3 la.length c3] 55)) wq)))
  case atStart=>exact Or.inl ⟨rfl,⟨rfl⟩,⟨Below.refl _ _⟩⟩
  case round =>
    rcases hrel with ⟨rfl,hk,HBL⟩|⟨rfl,hk,HF0,HBL⟩|⟨rfl,hk,HF0,HF1,HBL⟩|⟨rfl,HF0,HF1,HF2,HBL⟩
    · obtain⟨k1,rfl⟩:∃ k1,gk=k1+1:=⟨3,hk.out⟩
      have g0:wr.cell? ⟨w2.heap.size,0,none⟩=some (.slice A1 l1.length c1):=(HBL.out.cell (p:=⟨w2.heap.size,0,none⟩) (by simp)).trans (by simp)
      have HX:=Aside0.mk (Kd.ynb_ HD1.out HBL.out)
      by_cases hf:fineE a0.size (l1)=0
      · have H12:=Aside0.mk (yAb_.calls a0 A1 c1 (l1) 0 wr HX.out HL1.out (by unfold yAb_.f;rw[hf]))
        go_wp2_with (go_at_call 44;refine H12.out.mono ?_;rintro e w5 ⟨rfl,hb⟩;have HB5:Aside0 (Below (w2.alloc (.cells #[.slice A1 l1.length c1,.slice A2 l2.length c2,.slice A3 la.length c3] 55)).heap.size (w2.alloc (.cells #[.slice A1 l1.length c1,.slice A2 l2.length c2,.slice A3 la.length c3] 55)) w5):=⟨HBL.out.trans (hb.mono HBL.out.size)⟩;clear hb H12)
        go_roundg k1
        case measure=>have:=hk.out;omega
        case rel=>exact Or.inr (Or.inl ⟨rfl,⟨by have:=hk.out;omega⟩,⟨hf⟩,HB5⟩)
      have b1:(fineE a0.size (l1) != 0)=true:=by simpa using hf
      have b2:(fineE a0.size (l1) == 0)=false:=by simpa using hf
      have hR:=HR.out
      rw[if_pos (show fineE a0.size (l1)≠0 from hf)] at hR
      have e1:r1=[]:=(congrArg Prod.fst hR).symm
      have e2:r2=fineE a0.size (l1):=(congrArg Prod.snd hR).symm
      clear HR hR
      have H12:=Aside0.mk (yAb_.calls a0 A1 c1 (l1) (fineE a0.size (l1)) wr HX.out HL1.out rfl)
      generalize fineE a0.size (l1)=fe at *
      subst e1 e2
      go_wp2_with (go_at_call 44;refine H12.out.mono ?_;rintro e w5 ⟨rfl,hb⟩;have HB5:Aside0 (Below (w2.alloc (.cells #[.slice A1 l1.length c1,.slice A2 l2.length c2,.slice A3 la.length c3] 55)).heap.size (w2.alloc (.cells #[.slice A1 l1.length c1,.slice A2 l2.length c2,.slice A3 la.length c3] 55)) w5):=⟨HBL.out.trans (hb.mono HBL.out.size)⟩;clear hb H12)
      go_ret2
      exact⟨_,rfl,Kd.R_nil _ _ _ _ _,(HBW.out.alloc HBW.out.size _).trans (HB5.out.mono (by have:=HBW.out.size;simp;omega))⟩
    · obtain⟨k1,rfl⟩:∃ k1,gk=k1+1:=⟨2,hk.out⟩
      have g0:wr.cell? ⟨w2.heap.size,1,none⟩=some (.slice A2 l2.length c2):=(HBL.out.cell (p:=⟨w2.heap.size,1,none⟩) (by simp)).trans (by simp)
      have HX:=Aside0.mk (Kd.ynb_ HD2.out HBL.out)
      by_cases hf:fineE a0.size (l2)=0
      · have H12:=Aside0.mk (yAb_.calls a0 A2 c2 (l2) 0 wr HX.out HL2.out (by unfold yAb_.f;rw[hf]))
        go_wp2_with (go_at_call 44;refine H12.out.mono ?_;rintro e w5 ⟨rfl,hb⟩;have HB5:Aside0 (Below (w2.alloc (.cells #[.slice A1 l1.length c1,.slice A2 l2.length c2,.slice A3 la.length c3] 55)).heap.size (w2.alloc (.cells #[.slice A1 l1.length c1,.slice A2 l2.length c2,.slice A3 la.length c3] 55)) w5):=⟨HBL.out.trans (hb.mono HBL.out.size)⟩;clear hb H12)
        go_roundg k1
        case measure=>have:=hk.out;omega
        case rel=>exact Or.inr (Or.inr (Or.inl ⟨rfl,⟨by have:=hk.out;omega⟩,HF0,⟨hf⟩,HB5⟩))
      have b1:(fineE a0.size (l2) != 0)=true:=by simpa using hf
      have b2:(fineE a0.size (l2) == 0)=false:=by simpa using hf
      have hR:=HR.out
      rw[if_neg (show ¬ (fineE a0.size l1≠0) from fun q=>q HF0.out),if_pos (show fineE a0.size (l2)≠0 from hf)] at hR
      have e1:r1=[]:=(congrArg Prod.fst hR).symm
      have e2:r2=fineE a0.size (l2):=(congrArg Prod.snd hR).symm
      clear HR hR
      have H12:=Aside0.mk (yAb_.calls a0 A2 c2 (l2) (fineE a0.size (l2)) wr HX.out HL2.out rfl)
      generalize fineE a0.size (l2)=fe at *
      subst e1 e2
      go_wp2_with (go_at_call 44;refine H12.out.mono ?_;rintro e w5 ⟨rfl,hb⟩;have HB5:Aside0 (Below (w2.alloc (.cells #[.slice A1 l1.length c1,.slice A2 l2.length c2,.slice A3 la.length c3] 55)).heap.size (w2.alloc (.cells #[.slice A1 l1.length c1,.slice A2 l2.length c2,.slice A3 la.length c3] 55)) w5):=⟨HBL.out.trans (hb.mono HBL.out.size)⟩;clear hb H12)
      go_ret2
      exact⟨_,rfl,Kd.R_nil _ _ _ _ _,(HBW.out.alloc HBW.out.size _).trans (HB5.out.mono (by have:=HBW.out.size;simp;omega))⟩
    · obtain⟨k1,rfl⟩:∃ k1,gk=k1+1:=⟨1,hk.out⟩
      have g0:wr.cell? ⟨w2.heap.size,2,none⟩=some (.slice A3 la.length c3):=(HBL.out.cell (p:=⟨w2.heap.size,2,none⟩) (by simp)).trans (by simp)
      have HX:=Aside0.mk (Kd.ynb_ HC3.out HBL.out)
      by_cases hf:fineE a0.size la=0
      · have H12:=Aside0.mk (yAb_.calls a0 A3 c3 la 0 wr HX.out HL3.out (by unfold yAb_.f;rw[hf]))
        go_wp2_with (go_at_call 44;refine H12.out.mono ?_;rintro e w5 ⟨rfl,hb⟩;have HB5:Aside0 (Below (w2.alloc (.cells #[.slice A1 l1.length c1,.slice A2 l2.length c2,.slice A3 la.length c3] 55)).heap.size (w2.alloc (.cells #[.slice A1 l1.length c1,.slice A2 l2.length c2,.slice A3 la.length c3] 55)) w5):=⟨HBL.out.trans (hb.mono HBL.out.size)⟩;clear hb H12)
        go_roundg k1
        case measure=>have:=hk.out;omega
        case rel=>exact Or.inr (Or.inr (Or.inr ⟨rfl,HF0,HF1,⟨hf⟩,HB5⟩))
      have b1:(fineE a0.size la != 0)=true:=by simpa using hf
      have b2:(fineE a0.size la == 0)=false:=by simpa using hf
      have hR:=HR.out
      rw[if_neg (show ¬ (fineE a0.size l1≠0) from fun q=>q HF0.out),if_neg (show ¬ (fineE a0.size l2≠0) from fun q=>q HF1.out),if_pos (show fineE a0.size la≠0 from hf)] at hR
      have e1:r1=[]:=(congrArg Prod.fst hR).symm
      have e2:r2=fineE a0.size la:=(congrArg Prod.snd hR).symm
      clear HR hR
      have H12:=Aside0.mk (yAb_.calls a0 A3 c3 la (fineE a0.size la) wr HX.out HL3.out rfl)
      generalize fineE a0.size la=fe at *
      subst e1 e2
      go_wp2_with (go_at_call 44;refine H12.out.mono ?_;rintro e w5 ⟨rfl,hb⟩;have HB5:Aside0 (Below (w2.alloc (.cells #[.slice A1 l1.length c1,.slice A2 l2.length c2,.slice A3 la.length c3] 55)).heap.size (w2.alloc (.cells #[.slice A1 l1.length c1,.slice A2 l2.length c2,.slice A3 la.length c3] 55)) w5):=⟨HBL.out.trans (hb.mono HBL.out.size)⟩;clear hb H12)
      go_ret2
      exact⟨_,rfl,Kd.R_nil _ _ _ _ _,(HBW.out.alloc HBW.out.size _).trans (HB5.out.mono (by have:=HBW.out.size;simp;omega))⟩
    · have hR:=HR.out
      rw[if_neg (show ¬ (fineE a0.size l1≠0) from fun q=>q HF0.out),if_neg (show ¬ (fineE a0.size l2≠0) from fun q=>q HF1.out),if_neg (show ¬ (fineE a0.size la≠0) from fun q=>q HF2.out)] at hR
      have e1:r1=Tx.ord eltS la:=(congrArg Prod.fst hR).symm
      have e2:r2=0:=(congrArg Prod.snd hR).symm
      clear HR hR
      subst e1 e2
      have H32:=Aside0.mk (yyb_.calls A3 c3 la (Tx.ord eltS la) wr (Kd.ynb_ HC3.out HBL.out) HL3.out (by unfold yyb_.f;rw[if_pos (by
        have:=HF2.out
        unfold fineE at this
        by_cases q:200000 < a0.size∨10000 < la.length
        · rw[if_pos q] at this;cases this
        · omega)]))
      go_wp2_with (go_at_call 45;refine H32.out.mono ?_;rintro e w5 ⟨v5,rfl,ho,hb⟩;have HO5:=Aside0.mk ho;have HB5:=Aside0.mk hb;clear ho hb H32)
      go_ret2
      have hsz:w.heap.size≤wr.heap.size:=by have:=HBW.out.size;have:=HBL.out.size;simp at this;omega
      exact⟨_,rfl,Kd.yJ_ HO5.out hsz,((HBW.out.alloc HBW.out.size _).trans (HBL.out.mono (by have:=HBW.out.size;simp;omega))).trans (HB5.out.mono hsz)⟩
end Go.Proofs.Ythimblhfjfngiaa.PText

namespace Go.Proofs.Ythimblhfjfngiaa.PText
open Go.RowKit Go.Lib Go.Proofs.YthimblhfjfngiaaW.PrintWords Go.Proofs.YthimblhfjfngiaaW.PrintLast Go.Proofs.YthimblhfjfngiaaW.PrintMore
/-- the text that edits make, told to a bound that no machine reaches -/
def madeE (s:ByteArray) (l:List S59):List UInt8:=Tx.ap s.data.toList 0 ((Tx.ord eltS l).map toE)
def yNb_.f (a0:ByteArray) (l1:List S59):Option (ByteArray × Int) :=
  if fineE a0.size l1≠0 then some ((⟨#[]⟩:ByteArray),fineE a0.size l1)
  else if (madeE a0 l1).length≤140737488351232 then (if 200000 < (madeE a0 l1).length then some ((⟨#[]⟩:ByteArray),2) else some (⟨(madeE a0 l1).toArray⟩,0)) else none
theorem fineE_le (n:Nat) (l:List S59):fineE n l=0∨fineE n l=1∨fineE n l=2∨fineE n l=10:=by
  unfold fineE
  split
  · omega
  split
  · omega
  split <;> omega
/-- fine edits are one behind the other -/
theorem fine_chain (n:Nat) (l:List S59) (h:fineE n l=0):l.length≤10000∧n≤200000∧Tx.Ch n 0 ((Tx.ord eltS l).map toE):=by
  unfold fineE at h
  by_cases h1:200000 < n∨10000 < l.length
  · rw[if_pos h1] at h;cases h
  rw[if_neg h1] at h
  by_cases h2:l.any (badE n)=true
  · rw[if_pos h2] at h;cases h
  rw[if_neg h2] at h
  by_cases h3:Tx.clash 0 (-1) ((Tx.ord eltS l).map toE)=true
  · rw[if_pos h3] at h;cases h
  refine⟨by omega,by omega,Tx.clash_ch _ 0 (-1) ?_ (by omega) (by simpa using h3)⟩
  intro e he
  obtain⟨x,hx,rfl⟩:=List.mem_map.1 he
  have hx':=(Tx.yGb_ yab_).1 hx
  have hb:badE n x=false:=by
    cases q:badE n x with
    | false=>rfl
    | true=>exact absurd (List.any_eq_true.2 ⟨x,hx',q⟩) h2
  unfold badE at hb
  simp only[Bool.or_eq_false_iff,decide_eq_false_iff_not] at hb
  show 0≤x.f0∧x.f0≤x.f1∧x.f1≤(n:Int)
  omega
end Go.Proofs.Ythimblhfjfngiaa.PText

namespace Go.Proofs.Ythimblhfjfngiaa.PText
open Go.RowKit Go.Lib Go.Proofs.YthimblhfjfngiaaW.PrintWords Go.Proofs.YthimblhfjfngiaaW.PrintLast Go.Proofs.YthimblhfjfngiaaW.PrintMore
def nums (l:List UInt8):List Int:=l.map fun b=>(b.toNat:Int)
theorem nums_bytesOf (s:ByteArray):Go.Proofs.YthimblhfjfngiaaW.PrintWords.bytesOf s=nums s.data.toList:=rfl
theorem nums_app (a b:List UInt8):nums a++nums b=nums (a++b):=(List.map_append ..).symm
theorem nums_len (a:List UInt8):(nums a).length=a.length:=List.length_map ..
theorem str_nums (l:List UInt8):strOfNums (nums l)=⟨l.toArray⟩:=by
  unfold strOfNums nums
  rw[List.map_map]
  have:(fun n:Int=>UInt8.ofNat n.toNat) ∘ (fun b:UInt8=>(b.toNat:Int))=id:=by
    funext b
    simp
  rw[this,List.map_id]
theorem yjb_ (s:ByteArray):s.size=s.data.toList.length:=by rw[Array.length_toList];rfl
theorem ext_sl (s:ByteArray) (a b:Int):(s.extract a.toNat b.toNat).data.toList=Tx.sl s.data.toList a b:=by
  rw[ByteArray.data_extract,Array.toList_extract,List.extract_eq_take_drop];rfl
theorem ext_end (s:ByteArray) (a:Int):(s.extract a.toNat s.size).data.toList=s.data.toList.drop a.toNat:=by
  rw[ByteArray.data_extract,Array.toList_extract,List.extract_eq_take_drop]
  exact List.take_of_length_le (by rw[List.length_drop,yjb_];exact Nat.le_refl _)
def sumS (l:List S59):Nat:=(l.map fun x=>x.f2.size).sum
theorem y5b_ (x:S59) (l:List S59):sumS (x :: l)=x.f2.size+sumS l:=by simp [sumS]
theorem sumS_app (l m:List S59):sumS (l++m)=sumS l+sumS m:=by simp [sumS]
theorem sumS_ins (x:S59):∀ l:List S59,sumS (Tx.ord.ins eltS x l)≤x.f2.size+sumS l
  | []=>by unfold Tx.ord.ins;rw[y5b_];exact Nat.le_refl _
  | y :: l=>by
    have:=sumS_ins x l
    unfold Tx.ord.ins
    split
    · simp only[y5b_];omega
    · split
      · simp only[y5b_];omega
      · simp only[y5b_];omega
theorem sumS_ord:∀ l:List S59,sumS (Tx.ord eltS l)≤sumS l
  | []=>Nat.le_refl _
  | x :: l=>by
    have h1:=sumS_ins x (Tx.ord eltS l)
    have h2:=sumS_ord l
    have e:Tx.ord eltS (x :: l)=Tx.ord.ins eltS x (Tx.ord eltS l):=rfl
    rw[e,y5b_]
    omega
def invS (s:ByteArray):Int→List S59→List S59
  | _,[]=>[]
  | sh,x :: l=>⟨x.f0+sh,x.f0+sh+(x.f2.size:Int),s.extract x.f0.toNat x.f1.toNat⟩ :: invS s (sh+((x.f2.size:Int) - (x.f1 - x.f0))) l
theorem toE_x (x:S59):(toE x).x=x.f2.data.toList:=Lib.toList_data x.f2
theorem inv_toE (s:ByteArray):∀ (l:List S59) (sh:Int),(invS s sh l).map toE=Tx.inv s.data.toList sh (l.map toE)
  | [],_=>rfl
  | x :: l,sh=>by
    have hx:=toE_x x
    have e2:toE (⟨x.f0+sh,x.f0+sh+(x.f2.size:Int),s.extract x.f0.toNat x.f1.toNat⟩:S59)=⟨x.f0+sh,x.f0+sh+(toE x).x.length,Tx.sl s.data.toList x.f0 x.f1⟩:=by
      unfold toE
      rw[Lib.toList_data,Lib.toList_data,ext_sl,yjb_ x.f2]
    have e3:Tx.gain (toE x)=(x.f2.size:Int) - (x.f1 - x.f0):=by
      unfold Tx.gain
      rw[hx,yjb_ x.f2];rfl
    show toE _ :: (invS s _ l).map toE=⟨(toE x).f+sh,(toE x).f+sh+(toE x).x.length,Tx.sl s.data.toList (toE x).f (toE x).t⟩ :: Tx.inv s.data.toList (sh+Tx.gain (toE x)) (l.map toE)
    rw[e2,inv_toE s l,e3]
    rfl
theorem invS_len (s:ByteArray):∀ (l:List S59) (sh:Int),(invS s sh l).length=l.length
  | [],_=>rfl
  | x :: l,sh=>by show (invS s _ l).length+1=_;rw[invS_len s l];rfl
theorem invS_sum (s:ByteArray):∀ (l:List S59) (sh:Int),sumS (invS s sh l)≤l.length * s.size
  | [],_=>by simp [invS,sumS]
  | x :: l,sh=>by
    have h1:=invS_sum s l (sh+((x.f2.size:Int) - (x.f1 - x.f0)))
    have h2:(s.extract x.f0.toNat x.f1.toNat).size≤s.size:=by rw[ByteArray.size_extract];omega
    have e:invS s sh (x :: l)=⟨x.f0+sh,x.f0+sh+(x.f2.size:Int),s.extract x.f0.toNat x.f1.toNat⟩ :: invS s (sh+((x.f2.size:Int) - (x.f1 - x.f0))) l:=rfl
    rw[e,y5b_,List.length_cons,Nat.succ_mul]
    show (s.extract x.f0.toNat x.f1.toNat).size+_≤_
    omega
def jgoS (c:S59):List S59→List S59
  | []=>[c]
  | x :: l=>if x.f0=x.f1∧c.f0=x.f0∧c.f1=x.f0 then jgoS ⟨c.f0,c.f1,c.f2++x.f2⟩ l else c :: jgoS x l
def jnS:List S59→List S59
  | []=>[]
  | x :: l=>jgoS x l
theorem jgo_toE:∀ (l:List S59) (c:S59),(jgoS c l).map toE=Tx.jgo (toE c) (l.map toE)
  | [],c=>rfl
  | x :: l,c=>by
    show (if x.f0=x.f1∧c.f0=x.f0∧c.f1=x.f0 then jgoS ⟨c.f0,c.f1,c.f2++x.f2⟩ l else c :: jgoS x l).map toE=if x.f0=x.f1∧c.f0=x.f0∧c.f1=x.f0 then Tx.jgo ⟨c.f0,c.f1,(toE c).x++(toE x).x⟩ (l.map toE) else toE c :: Tx.jgo (toE x) (l.map toE)
    by_cases h:x.f0=x.f1∧c.f0=x.f0∧c.f1=x.f0
    rotate_left
    · rw[if_neg h,if_neg h,List.map_cons,jgo_toE l]
    rw[if_pos h,if_pos h,jgo_toE l]
    congr 1
    unfold toE
    simp only[Lib.toList_data,ByteArray.data_append,Array.toList_append]
theorem jn_toE (l:List S59):(jnS l).map toE=Tx.jn (l.map toE):=by
  cases l with
  | nil=>rfl
  | cons x l=>exact jgo_toE l x
theorem last_rd (D:List S59) (c:S59) (hD:D.length≤1000000):wrap64 (((D++[c]).length:Int) - 1)=(D.length:Int)∧rd_T59 (D++[c]) (D.length:Int)=c∧((D.length:Int) < ((D++[c]).length:Int)):=by
  have e:(D++[c]).length=D.length+1:=by rw[List.length_append,List.length_singleton]
  refine⟨by rw[w64 (by omega) (by omega)];omega,?_,by omega⟩
  rw[yxb_ _ _ (by omega),List.getElem_append_right (Nat.le_refl _)]
  simp
theorem set_last (D:List S59) (c d:S59):(D++[c]).set D.length d=D++[d]:=by
  rw[List.set_append_right _ _ (Nat.le_refl _)];simp
theorem neg1:wrap64 (((([]:List S59).length:Nat):Int) - 1)=-1:=by
  show wrap64 (0 - 1)=-1
  unfold wrap64;omega
end Go.Proofs.Ythimblhfjfngiaa.PText

namespace Go.Proofs.Ythimblhfjfngiaa.PText
open Go.RowKit Go.Lib Go.Proofs.YthimblhfjfngiaaW.PrintWords Go.Proofs.YthimblhfjfngiaaW.PrintLast Go.Proofs.YthimblhfjfngiaaW.PrintMore
theorem gains_le {n:Int}:∀ {l:List S59} {p:Int},Tx.Ch n p (l.map toE)→Tx.gains (l.map toE)≤(sumS l:Int)
  | [],_,_=>by simp [Tx.gains,sumS]
  | x :: l,p,h=>by
    have h1:(toE x).f≤(toE x).t:=h.2.1
    have h2:=gains_le (l:=l) h.2.2
    have e:Tx.gains ((x :: l).map toE)=Tx.gain (toE x)+Tx.gains (l.map toE):=rfl
    have e2:Tx.gain (toE x)=((toE x).x.length:Int) - ((toE x).t - (toE x).f):=rfl
    rw[e,e2,y5b_,toE_x,← yjb_]
    omega
theorem made_len {s:ByteArray} {l:List S59} (h:fineE s.size l=0):(madeE s l).length≤s.size+sumS l:=by
  have hc:=(fine_chain s.size l h).2.2
  rw[yjb_] at hc
  have h1:=Tx.ap_len (s:=s.data.toList) (Int.le_refl 0) hc
  have h2:=gains_le hc
  have h3:=sumS_ord l
  unfold madeE
  rw[yjb_]
  omega
/-- what making edits answers -/
def applyR (s:ByteArray) (l:List S59):ByteArray × Int:=if fineE s.size l≠0 then (⟨#[]⟩,fineE s.size l) else if 200000 < (madeE s l).length then (⟨#[]⟩,2) else (⟨(madeE s l).toArray⟩,0)
theorem apply_f (s:ByteArray) (l:List S59) (h:s.size+sumS l≤100000000000):yNb_.f s l=some (applyR s l):=by
  unfold yNb_.f applyR
  by_cases hf:fineE s.size l=0
  rotate_left
  · rw[if_pos hf,if_pos hf]
  have:=made_len hf
  rw[if_neg (show ¬ (fineE s.size l≠0) from fun q=>q hf),if_neg (show ¬ (fineE s.size l≠0) from fun q=>q hf),if_pos (by omega)]
  by_cases hb:200000 < (madeE s l).length
  rotate_left
  · rw[if_neg hb,if_neg hb]
  rw[if_pos hb,if_pos hb]
theorem apply_zero {s:ByteArray} {l:List S59} (h:(applyR s l).2=0):fineE s.size l=0∧applyR s l=(⟨(madeE s l).toArray⟩,0):=by
  unfold applyR at h ⊢
  by_cases hf:fineE s.size l=0
  rotate_left
  · rw[if_pos hf] at h;exact absurd h hf
  rw[if_neg (show ¬ (fineE s.size l≠0) from fun q=>q hf)] at h ⊢
  by_cases hb:200000 < (madeE s l).length
  · rw[if_pos hb] at h;cases h
  rw[if_neg hb];exact⟨hf,rfl⟩
theorem made_l0 (s:ByteArray) (l:List S59) (hl:l.length≤1000000):∀ (m i k:Nat) (P:List UInt8) (back:List S59) (p sh:Int),l.length - i=m→i≤l.length→m+1≤k→0≤p →
    Tx.Ch (s.size:Int) p ((l.drop i).map toE)→(P.length:Int)=p+sh→(P++Tx.ap s.data.toList p ((l.drop i).map toE)).length≤100000000000000→back.length≤i →
    yz_.l0 k s l (nums P) back p (i:Int)=some (⟨(P++Tx.ap s.data.toList p ((l.drop i).map toE)).toArray⟩,back++invS s sh (l.drop i)):=by
  intro m
  induction m with
  | zero =>
    intro i k P back p sh hm hi hk hp hc hP hlen hb
    obtain⟨k,rfl⟩:∃ q,k=q+1:=⟨k - 1,by omega⟩
    have hd:l.drop i=[]:=List.drop_of_length_le (by omega)
    rw[hd] at hc hlen ⊢
    have hc':p≤(s.size:Int):=hc
    have e1:Tx.ap s.data.toList p (([]:List S59).map toE)=s.data.toList.drop p.toNat:=rfl
    rw[e1] at hlen ⊢
    have e2:(s.extract p.toNat s.size).size=(s.data.toList.drop p.toNat).length:=by rw[yjb_,ext_end]
    rw[List.length_append] at hlen
    rw[yz_.l0,if_neg (by omega),if_pos hp,if_pos hc',if_pos (by rw[nums_len,e2];omega),nums_bytesOf,ext_end,nums_app,str_nums]
    simp [invS]
  | succ m ih =>
    intro i k P back p sh hm hi hk hp hc hP hlen hb
    obtain⟨k,rfl⟩:∃ q,k=q+1:=⟨k - 1,by omega⟩
    have hlt:i < l.length:=by omega
    have hd:l.drop i=l[i] :: l.drop (i+1):=List.drop_eq_getElem_cons hlt
    rw[hd] at hc hlen ⊢
    obtain⟨hc1,hc2,hc3⟩:=hc
    replace hc1:p≤l[i].f0:=hc1
    replace hc2:l[i].f0≤l[i].f1:=hc2
    replace hc3:Tx.Ch (s.size:Int) l[i].f1 ((l.drop (i+1)).map toE):=hc3
    have hc4:=Tx.ch_le hc3
    have e0:Tx.ap s.data.toList p ((l[i] :: l.drop (i+1)).map toE)=Tx.sl s.data.toList p l[i].f0++l[i].f2.data.toList++Tx.ap s.data.toList l[i].f1 ((l.drop (i+1)).map toE):=by
      rw[← toE_x];rfl
    rw[e0] at hlen ⊢
    have hsl:((Tx.sl s.data.toList p l[i].f0).length:Int)=l[i].f0 - p:=Tx.sl_len hp hc1 (by rw[← yjb_];omega)
    have e1:P++(Tx.sl s.data.toList p l[i].f0++l[i].f2.data.toList++Tx.ap s.data.toList l[i].f1 ((l.drop (i+1)).map toE))=(P++Tx.sl s.data.toList p l[i].f0++l[i].f2.data.toList)++Tx.ap s.data.toList l[i].f1 ((l.drop (i+1)).map toE):=by simp
    rw[e1] at hlen ⊢
    have hlen':=hlen
    rw[List.length_append,List.length_append,List.length_append,← yjb_] at hlen
    have g1:(s.extract p.toNat l[i].f0.toNat).size=(Tx.sl s.data.toList p l[i].f0).length:=by rw[yjb_,ext_sl]
    have ih1:=ih (i+1) k (P++Tx.sl s.data.toList p l[i].f0++l[i].f2.data.toList) (back++[(⟨l[i].f0+sh,l[i].f0+sh+(l[i].f2.size:Int),s.extract l[i].f0.toNat l[i].f1.toNat⟩:S59)]) l[i].f1 (sh+((l[i].f2.size:Int) - (l[i].f1 - l[i].f0))) (by omega) (by omega) (by omega) (by omega) hc3
      (by rw[List.length_append,List.length_append,← yjb_];omega) hlen' (by rw[List.length_append,List.length_singleton];omega)
    rw[yz_.l0,if_pos (by omega),if_pos (by omega),if_pos hp,yxb_ l i hlt,if_pos hc1,if_pos (by omega),if_pos (by rw[nums_len,g1];omega),Option.bind_some,nums_bytesOf,ext_sl,nums_app,
      if_pos (by rw[nums_len,List.length_append];omega),Option.bind_some,nums_bytesOf,nums_app,if_pos (by omega),if_pos hc2,if_pos hc4,if_pos (by omega),nx i (by omega)]
    have n1:((nums (P++Tx.sl s.data.toList p l[i].f0)).length:Int)=l[i].f0+sh:=by rw[nums_len,List.length_append];omega
    have n2:((nums (P++Tx.sl s.data.toList p l[i].f0++l[i].f2.data.toList)).length:Int)=l[i].f0+sh+(l[i].f2.size:Int):=by rw[nums_len,List.length_append,List.length_append,← yjb_];omega
    rw[n1,n2,ih1]
    have e4:invS s sh (l[i] :: l.drop (i+1))=(⟨l[i].f0+sh,l[i].f0+sh+(l[i].f2.size:Int),s.extract l[i].f0.toNat l[i].f1.toNat⟩:S59) :: invS s (sh+((l[i].f2.size:Int) - (l[i].f1 - l[i].f0))) (l.drop (i+1)):=rfl
    rw[e4,List.append_assoc back,List.singleton_append]
theorem made_f (s:ByteArray) (l:List S59) (N:Nat) (hN:l.length≤N) (hN2:N≤10000) (h:s.size+sumS l≤100000000000) (hf:fineE s.size l=0) (k:Nat) (hk:N * (2 * N+5)+N+2≤k) :
    yz_.f k s l=some (⟨(madeE s l).toArray⟩,invS s 0 (Tx.ord eltS l)):=by
  have hc:=(fine_chain s.size l hf).2.2
  have hl:=made_len hf
  have ho:(Tx.ord eltS l).length≤N:=Nat.le_trans (Tx.ord_len l) hN
  unfold yz_.f
  rw[ordered_f l N hN (by omega) k (by omega),Option.bind_some]
  have h:=made_l0 s (Tx.ord eltS l) (by omega) (Tx.ord eltS l).length 0 k [] [] 0 0 (by omega) (by omega) (by omega) (Int.le_refl 0) (by rw[List.drop_zero];exact hc) (by simp) (by rw[List.drop_zero,List.nil_append];exact Nat.le_trans hl (by omega)) (Nat.le_refl _)
  rw[List.drop_zero,List.nil_append,List.nil_append] at h
  exact h
theorem rapply_f (s:ByteArray) (l:List S59) (N:Nat) (hN:l.length≤N) (hN2:N≤10000) (h:s.size+sumS l≤100000000000) (k:Nat) (hk:N * (2 * N+5)+5 * N+10≤k) :
    yX_.f k s l=some (applyR s l):=by
  have hm:N * (N+4)≤N * (2 * N+5):=Nat.mul_le_mul_left _ (by omega)
  unfold yX_.f applyR
  rw[fine_f s l N hN (by omega) k (by omega),Option.bind_some]
  by_cases hf:fineE s.size l=0
  rotate_left
  · rw[if_neg hf,if_pos hf]
  rw[if_pos hf,made_f s l N hN hN2 h hf k (by omega),Option.bind_some,if_neg (show ¬ (fineE s.size l≠0) from fun q=>q hf)]
  have e:(((⟨(madeE s l).toArray⟩:ByteArray),invS s 0 (Tx.ord eltS l)).1).size=(madeE s l).length:=by
    show (madeE s l).toArray.size=_
    simp
  rw[e]
  by_cases hb:200000 < (madeE s l).length
  rotate_left
  · rw[if_neg (by omega),if_neg hb]
  rw[if_pos (by omega),if_pos hb]
end Go.Proofs.Ythimblhfjfngiaa.PText

