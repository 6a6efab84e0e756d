/- PastThree holds: for every three texts the statement answers true. Part 10 of 25. -/
import Derived.Test.YthimblhfjfngiaaBThreeI
import Derived.ChangeKeysEq
namespace Go.Proofs.Ythimblhfjfngiaa.PText
open Go.RowKit Go.Proofs.YthimblhfjfngiaaW.PrintWords Go.Proofs.YthimblhfjfngiaaW.PrintLast Go.Proofs.YthimblhfjfngiaaW.PrintMore
attribute [local go_sem] y2_ y3_ yfb_ ygb_ yS_ yT_ y4_ y5_   -- for this text's walks alone
set_option linter.unusedVariables false
set_option linter.unusedSimpArgs false

theorem eqA67 (d:Nat) (w:World) (x0 y0:Int) (x1 y1:Int) :
  (Op.equalIn (d+2) 67 (.agg #[.int .i64 x0,.int .i64 x1]) (.agg #[.int .i64 y0,.int .i64 y1])).run Try.prog w=.ok (x0 == y0 && (x1 == y1)) w:=by
 obtain ⟨i,hi⟩:∃ i,Try.prog.info? 3=some i:=by
  cases h:Try.prog.info? 3 with
  | some i=>exact ⟨i,rfl⟩
  | none=>exact absurd (info3.symm.trans (congrArg (Option.map _) h)) (by simp)
 rw [run_equalIn_array (d:=d+1) (hu:=Try.underlying67) (hi:=hi),show Try.prog.cellsOf 3=1 by kernel_rfl,show List.range 2=[0,1] from rfl]
 simp only [Op.eqItems]
 go_simp
 by_cases h0:x0=y0 <;> by_cases h1:x1=y1 <;> simp [h0,h1]
end Go.Proofs.Ythimblhfjfngiaa.PText

namespace Go.Proofs.Ythimblhfjfngiaa.PText
open Go.RowKit Go.Proofs.YthimblhfjfngiaaW.PrintWords Go.Proofs.YthimblhfjfngiaaW.PrintLast Go.Proofs.YthimblhfjfngiaaW.PrintMore
attribute [local go_sem] y2_ y3_ yfb_ ygb_ yS_ yT_ y4_ y5_   -- for this text's walks alone
set_option linter.unusedVariables false
set_option linter.unusedSimpArgs false

attribute [local go_sem high] eqA67
def y6_.l0:Nat→List (S67)→List (S67)→Int→Option (Bool)
 | 0,_,_,_=>none
 | k+1,x0,x1,x5=>if x5 < (x0.length:Int) then (if 0≤x5 then (if x5 < (x1.length:Int) then (if (!(((rd_T67 x0 x5).f0) == ((rd_T67 x1 x5).f0)) || (!(((rd_T67 x0 x5).f1) == ((rd_T67 x1 x5).f1))))=true then (some false) else (y6_.l0 k x0 x1 (wrap64 (x5+1)))) else (none)) else (none)) else (some true)
def y6_.f (k:Nat) (l0:List (S67)) (l1:List (S67)):Option (Bool):=if (l0.length:Int)=(l1.length:Int) then (y6_.l0 k l0 l1 0) else (some false)
set_option maxHeartbeats 8000000 in
set_option maxRecDepth 100000 in
theorem y6_.calls (k:Nat) (A0:Option Addr) (c0:Nat) (l0:List (S67)) (A1:Option Addr) (c1:Nat) (l1:List (S67)) (r:Bool) (w:World) (hr0:Kd.C k67 w A0 l0.length l0) (hc0:l0.length≤c0) (hr1:Kd.C k67 w A1 l1.length l1) (hc1:l1.length≤c1) (h:y6_.f k l0 l1=some r) :
  Calls Try.prog 10 #[.slice A0 l0.length c0,.slice A1 l1.length c1] w fun e w'=>e=.returned (.bool r)∧Drawn0 w w':=by
 have hu67:=Try.underlying67
 have HR0:=Aside0.mk hr0
 have HC0:=Aside0.mk hc0
 clear hr0 hc0
 have HR1:=Aside0.mk hr1
 have HC1:=Aside0.mk hc1
 clear hr1 hc1
 have H:(if (l0.length:Int)=(l1.length:Int) then (y6_.l0 k l0 l1 0) else (some false))=some r:=h
 clear h
 by_cases c3:(l0.length:Int)=(l1.length:Int)
 rotate_left
 ·rw [if_neg c3] at H
  have c3b0:((l0.length:Int) == (l1.length:Int))=false:=beq_eq_false_iff_ne.mpr c3
  have c3b1:((l0.length:Int) != (l1.length:Int))=true:=bne_iff_ne.mpr c3
  have c3b2:(l0.length == l1.length)=false:=by first|simpa using c3|(simp at c3 ⊢;omega)
  obtain rfl:=Option.some.inj H
  go_enter Try.func10,Try.ntmps10
  go_wp2
  repeat (go_quiet (fail);try go_wp2)
  go_ret
  exact ⟨by first|rfl|(simp;done)|(simp [*];done),by repeat (first|exact Drawn0.refl _|apply Drawn0.step)⟩
 rw [if_pos c3] at H
 have c3b0:((l0.length:Int) == (l1.length:Int))=true:=beq_iff_eq.mpr c3
 have c3b1:((l0.length:Int) != (l1.length:Int))=false:=bne_eq_false_iff_eq.mpr c3
 have c3b2:(l0.length == l1.length)=true:=by first|simpa using c3|(simp at c3 ⊢;omega)
 clear c3
 have H':=Aside0.mk H
 clear H
 go_enter Try.func10,Try.ntmps10
 go_wp2
 repeat (go_quiet (fail);try go_wp2)
 try simp only [Act.put,List.setIfInBounds_toArray,List.set_cons_succ,List.set_cons_zero]
 go_loopg [5] k (fun kq v5 w'=>∃ (x5_1:Int),v5=.int .i64 x5_1∧Aside0 (y6_.l0 kq l0 l1 x5_1=some r)∧Aside0 (kq≤k)∧Drawn0 w w')
 case atStart=>exact ⟨(0),(by first|rfl|(simp;done)|(simp [*];done)),H',⟨Nat.le_refl _⟩,by repeat (first|exact Drawn0.refl _|apply Drawn0.step)⟩
 case round =>
  clear H'
  try clear c1
  try clear p2
  try clear c3
  try clear c3b0
  try clear c3b1
  try clear c3b2
  obtain ⟨x5_1,rfl,HA,HK1,⟨m1,rfl⟩⟩:=hrel
  cases gk with
  | zero=>exact absurd HA.out (by simp [y6_.l0])
  | succ k1 =>
   have H:=HA.out
   clear HA
   simp only [y6_.l0] at H
   by_cases c4:x5_1 < (l0.length:Int)
   rotate_left
   ·rw [if_neg c4] at H
    have c4b0:decide (x5_1 < (l0.length:Int))=false:=decide_eq_false c4
    clear c4
    obtain rfl:=Option.some.inj H
    go_wp2
    repeat (go_quiet (fail);try go_wp2)
    go_ret
    exact ⟨by first|rfl|(simp;done)|(simp [*];done),by repeat (first|exact Drawn0.refl _|apply Drawn0.step)⟩
   rw [if_pos c4] at H
   have c4b0:decide (x5_1 < (l0.length:Int))=true:=decide_eq_true c4
   clear c4
   by_cases c5:0≤x5_1
   rotate_left
   ·rw [if_neg c5] at H
    exact absurd H (by simp)
   rw [if_pos c5] at H
   have c5b0:decide (0≤x5_1)=true:=decide_eq_true c5
   clear c5
   by_cases c6:x5_1 < (l1.length:Int)
   rotate_left
   ·rw [if_neg c6] at H
    exact absurd H (by simp)
   rw [if_pos c6] at H
   have c6b0:decide (x5_1 < (l1.length:Int))=true:=decide_eq_true c6
   clear c6
   by_cases c7:(!(((rd_T67 l0 x5_1).f0) == ((rd_T67 l1 x5_1).f0)) || (!(((rd_T67 l0 x5_1).f1) == ((rd_T67 l1 x5_1).f1))))=true
   ·rw [if_pos c7] at H
    have c7b0:(!(((rd_T67 l0 x5_1).f0) == ((rd_T67 l1 x5_1).f0)) || (!(((rd_T67 l0 x5_1).f1) == ((rd_T67 l1 x5_1).f1))))=true:=c7
    clear c7
    obtain rfl:=Option.some.inj H
    have p402:0≤(x5_1:Int):=of_decide_eq_true (by assumption)
    have q402:x5_1 < (l0.length:Int):=of_decide_eq_true (by assumption)
    obtain ⟨ad402,e402,hx402_0,hx402_1⟩:=at_T67 HR0.out x5_1 p402 q402
    cases e402
    replace p402:=eq_true p402
    replace q402:=eq_true q402
    have p403:0≤(x5_1:Int):=of_decide_eq_true (by assumption)
    have q403:x5_1 < (l1.length:Int):=of_decide_eq_true (by assumption)
    obtain ⟨ad403,e403,hx403_0,hx403_1⟩:=at_T67 HR1.out x5_1 p403 q403
    cases e403
    replace p403:=eq_true p403
    replace q403:=eq_true q403
    go_wp2
    repeat (go_quiet (fail);try go_wp2)
    go_ret
    exact ⟨by first|rfl|(simp;done)|(simp [*];done),by repeat (first|exact Drawn0.refl _|apply Drawn0.step)⟩
   rw [if_neg c7] at H
   have c7b0:(!(((rd_T67 l0 x5_1).f0) == ((rd_T67 l1 x5_1).f0)) || (!(((rd_T67 l0 x5_1).f1) == ((rd_T67 l1 x5_1).f1))))=false:=by simpa using c7
   clear c7
   have H':=Aside0.mk H
   clear H
   have p402:0≤(x5_1:Int):=of_decide_eq_true (by assumption)
   have q402:x5_1 < (l0.length:Int):=of_decide_eq_true (by assumption)
   obtain ⟨ad402,e402,hx402_0,hx402_1⟩:=at_T67 HR0.out x5_1 p402 q402
   cases e402
   replace p402:=eq_true p402
   replace q402:=eq_true q402
   have p403:0≤(x5_1:Int):=of_decide_eq_true (by assumption)
   have q403:x5_1 < (l1.length:Int):=of_decide_eq_true (by assumption)
   obtain ⟨ad403,e403,hx403_0,hx403_1⟩:=at_T67 HR1.out x5_1 p403 q403
   cases e403
   replace p403:=eq_true p403
   replace q403:=eq_true q403
   go_wp2
   repeat (go_quiet (fail);try go_wp2)
   go_roundg k1
   case measure=>have:=HK1.out;omega
   case rel=>exact ⟨(wrap64 (x5_1+1)),(by first|rfl|(simp;done)|(simp [*];done)),H',⟨by have:=HK1.out;omega⟩,by repeat (first|exact Drawn0.refl _|apply Drawn0.step)⟩

end Go.Proofs.Ythimblhfjfngiaa.PText

namespace Go.Proofs.Ythimblhfjfngiaa.Tx
section
variable {α : Type} [DecidableEq α] {lt : α → α → Bool}
structure Lin (lt:α→α→Bool):Prop where
  irr:∀ a,lt a a=false
  tr:∀ {a b c},lt a b=true→lt b c=true→lt a c=true
  tri:∀ {a b},lt a b=false→lt b a=false→a=b
omit [DecidableEq α] in
theorem Lin.asym (h:Lin lt) {a b:α} (q:lt a b=true):lt b a=false:=by
  cases e:lt b a with
  | false=>rfl
  | true=>have:=h.tr q e;rw [h.irr] at this;cases this
def Asc (lt:α→α→Bool) (l:List α):Prop:=l.Pairwise fun a b=>lt a b=true
def Srt (lt:α→α→Bool) (l:List α):Prop:=l.Pairwise fun a b=>lt b a=false
omit [DecidableEq α] in
theorem Asc.nil:Asc lt ([]:List α):=List.Pairwise.nil
omit [DecidableEq α] in
theorem yQb_ {a:α} {l:List α}:Asc lt (a :: l) ↔ (∀ b ∈ l,lt a b=true)∧Asc lt l:=List.pairwise_cons
omit [DecidableEq α] in
theorem ySb_ {l m:List α}:Asc lt (l++m) ↔ Asc lt l∧Asc lt m∧∀ a ∈ l,∀ b ∈ m,lt a b=true:=List.pairwise_append
omit [DecidableEq α] in
theorem asc_nodup (h:Lin lt) {l:List α} (q:Asc lt l):l.Nodup:=q.imp fun {a b} e c=>by subst c;rw [h.irr] at e;cases e
omit [DecidableEq α] in
theorem asc_unique (h:Lin lt):∀ {l m:List α},Asc lt l→Asc lt m→(∀ a,a ∈ l ↔ a ∈ m)→l=m
  | [],[],_,_,_=>rfl
  | [],b :: m,_,_,q=>by have:=(q b).2 List.mem_cons_self;cases this
  | a :: l,[],_,_,q=>by have:=(q a).1 List.mem_cons_self;cases this
  | a :: l,b :: m,p1,p2,q=>by
    obtain ⟨u1,v1⟩:=yQb_.1 p1
    obtain ⟨u2,v2⟩:=yQb_.1 p2
    have e:a=b:=by
      rcases List.mem_cons.1 ((q a).1 List.mem_cons_self) with e|e
      · exact e
      rcases List.mem_cons.1 ((q b).2 List.mem_cons_self) with e'|e'
      · exact e'.symm
      have:=h.asym (u2 a e)
      rw [u1 b e'] at this;cases this
    subst e
    rw [asc_unique h v1 v2 fun c=>⟨fun k=>?_,fun k=>?_⟩]
    · rcases List.mem_cons.1 ((q c).1 (List.mem_cons_of_mem _ k)) with e|e
      · subst e;have:=u1 c k;rw [h.irr] at this;cases this
      · exact e
    · rcases List.mem_cons.1 ((q c).2 (List.mem_cons_of_mem _ k)) with e|e
      · subst e;have:=u2 c k;rw [h.irr] at this;cases this
      · exact e
/-- each of equal neighbours once -/
def dd:List α→List α
  | []=>[]
  | [a]=>[a]
  | a :: b :: l=>if a=b then dd (b :: l) else a :: dd (b :: l)
theorem mem_dd:∀ {l:List α} {a:α},a ∈ dd l ↔ a ∈ l
  | [],_=>Iff.rfl
  | [_],_=>Iff.rfl
  | x :: y :: l,a=>by
    unfold dd
    by_cases e:x=y
    rotate_left
    · rw [if_neg e,List.mem_cons,mem_dd (l:=y :: l)]
      exact List.mem_cons.symm
    rw [if_pos e,mem_dd (l:=y :: l)]
    subst e
    exact ⟨List.mem_cons_of_mem _,fun k=>(List.mem_cons.1 k).elim (fun e=>e ▸ List.mem_cons_self) id⟩
theorem srt_dd (h:Lin lt):∀ {l:List α},Srt lt l→Asc lt (dd l)
  | [],_=>List.Pairwise.nil
  | [_],_=>List.pairwise_singleton _ _
  | x :: y :: l,q=>by
    obtain ⟨u,v⟩:=List.pairwise_cons.1 q
    unfold dd
    by_cases e:x=y
    · rw [if_pos e];exact srt_dd h v
    rw [if_neg e]
    refine yQb_.2 ⟨fun b hb=>?_,srt_dd h v⟩
    have hxy:lt x y=true:=by
      cases k:lt x y with
      | true=>rfl
      | false=>exact absurd (h.tri k (u y List.mem_cons_self)) e
    rcases List.mem_cons.1 (mem_dd.1 hb) with e'|e'
    · subst e';exact hxy
    · have hyb:lt b y=false:=(List.pairwise_cons.1 v).1 b e'
      cases k:lt y b with
      | true=>exact h.tr hxy k
      | false=>rw [← h.tri k hyb];exact hxy
/-- The ascending list of a list's members. -/
def ord (lt:α→α→Bool):List α→List α
  | []=>[]
  | a :: l=>ins a (ord lt l)
where ins (a:α):List α→List α
  | []=>[a]
  | b :: l=>if lt a b then a :: b :: l else if a=b then b :: l else b :: ins a l
theorem mem_ins (h:Lin lt) {a c:α}:∀ {l:List α},c ∈ ord.ins lt a l ↔ c=a ∨ c ∈ l
  | []=>by simp [ord.ins]
  | b :: l=>by
    unfold ord.ins
    by_cases e:lt a b=true
    · rw [if_pos e,List.mem_cons]
    rw [if_neg e]
    by_cases e':a=b
    · rw [if_pos e'];subst e';simp
    rw [if_neg e',List.mem_cons,mem_ins h,List.mem_cons]
    constructor <;> rintro (k|k|k) <;> simp [k]
theorem asc_ins (h:Lin lt) {a:α}:∀ {l:List α},Asc lt l→Asc lt (ord.ins lt a l)
  | [],_=>List.pairwise_singleton _ _
  | b :: l,q=>by
    obtain ⟨u,v⟩:=yQb_.1 q
    unfold ord.ins
    by_cases e:lt a b=true
    · rw [if_pos e]
      exact yQb_.2 ⟨fun c hc=>(List.mem_cons.1 hc).elim (fun k=>k ▸ e) fun k=>h.tr e (u c k),q⟩
    rw [if_neg e]
    by_cases e':a=b
    · rw [if_pos e'];exact q
    rw [if_neg e']
    refine yQb_.2 ⟨fun c hc=>?_,asc_ins h v⟩
    rcases (mem_ins h).1 hc with k|k
    · subst k
      cases k:lt b c with
      | true=>rfl
      | false=>exact absurd (h.tri (by simpa using e) k) e'
    · exact u c k
theorem yGb_ (h:Lin lt) {c:α}:∀ {l:List α},c ∈ ord lt l ↔ c ∈ l
  | []=>Iff.rfl
  | a :: l=>by unfold ord;rw [mem_ins h,yGb_ h,List.mem_cons]
theorem ybc_ (h:Lin lt):∀ {l:List α},Asc lt (ord lt l)
  | []=>List.Pairwise.nil
  | a :: l=>by unfold ord;exact asc_ins h (ybc_ h)
theorem yMb_ (h:Lin lt) {l m:List α} (q:Asc lt m) (k:∀ a,a ∈ m ↔ a ∈ l):m=ord lt l :=
  asc_unique h q (ybc_ h) fun a=>by rw [yGb_ h];exact k a
theorem ord_dd (h:Lin lt) {l m:List α} (p:Srt lt m) (k:∀ a,a ∈ m ↔ a ∈ l):dd m=ord lt l :=
  yMb_ h (srt_dd h p) fun a=>by rw [mem_dd];exact k a
theorem ord_ord (h:Lin lt) {l:List α} (q:Asc lt l):ord lt l=l:=(yMb_ h q fun _=>Iff.rfl).symm
theorem ord_snoc_mem (h:Lin lt) {l:List α} {a:α} (k:a ∈ l):ord lt (l++[a])=ord lt l :=
  (yMb_ h (ybc_ h) fun c=>by rw [yGb_ h,List.mem_append,List.mem_singleton];exact ⟨Or.inl,fun q=>Or.elim q id fun e=>e ▸ k⟩).symm
theorem ord_congr (h:Lin lt) {l m:List α} (k:∀ a,a ∈ l ↔ a ∈ m):ord lt l=ord lt m :=
  yMb_ h (ybc_ h) fun a=>by rw [yGb_ h];exact k a
theorem ord_len (l:List α):(ord lt l).length≤l.length:=by
  have hi:∀ (a:α) (m:List α),(ord.ins lt a m).length≤m.length+1:=by
    intro a m
    induction m with
    | nil=>simp [ord.ins]
    | cons b m ih =>
      unfold ord.ins
      split
      · simp
      split
      · simp
      · simp only [List.length_cons];omega
  induction l with
  | nil=>exact Nat.le_refl _
  | cons a l ih=>unfold ord;have:=hi a (ord lt l);simp only [List.length_cons];omega
end
end Go.Proofs.Ythimblhfjfngiaa.Tx

namespace Go.Proofs.Ythimblhfjfngiaa.Tx
structure Ed where
  f:Int
  t:Int
  x:List UInt8
theorem Ed.ext' {a b:Ed} (h1:a.f=b.f) (h2:a.t=b.t) (h3:a.x=b.x):a=b:=by cases a;cases b;simp_all
instance:DecidableEq Ed:=fun a b=>decidable_of_iff (a.f=b.f∧a.t=b.t∧a.x=b.x) ⟨fun h=>Ed.ext' h.1 h.2.1 h.2.2,fun h=>by subst h;exact ⟨rfl,rfl,rfl⟩⟩
/-- the order of edits -/
def elt (a b:Ed):Bool:=decide (a.f < b.f) || (decide (a.f=b.f) && (decide (a.t < b.t) || (decide (a.t=b.t) && decide (a.x < b.x))))
theorem ycc_ {a b:Ed}:elt a b=true ↔ a.f < b.f ∨ (a.f=b.f∧(a.t < b.t ∨ (a.t=b.t∧a.x < b.x))):=by
  unfold elt
  simp only [Bool.or_eq_true,Bool.and_eq_true,decide_eq_true_eq]
theorem elt_lin:Lin elt where
  irr a:=by
    cases h:elt a a with
    | false=>rfl
    | true =>
      rcases ycc_.1 h with k|⟨_,k|⟨_,k⟩⟩
      · omega
      · omega
      · exact absurd k (List.lt_irrefl _)
  tr:=by
    intro a b c h1 h2
    rw [ycc_] at h1 h2 ⊢
    rcases h1 with h1|⟨e1,h1|⟨e1',h1⟩⟩
    · rcases h2 with h2|⟨e2,h2⟩
      · exact Or.inl (by omega)
      · exact Or.inl (by omega)
    · rcases h2 with h2|⟨e2,h2|⟨e2',h2⟩⟩
      · exact Or.inl (by omega)
      · exact Or.inr ⟨by omega,Or.inl (by omega)⟩
      · exact Or.inr ⟨by omega,Or.inl (by omega)⟩
    · rcases h2 with h2|⟨e2,h2|⟨e2',h2⟩⟩
      · exact Or.inl (by omega)
      · exact Or.inr ⟨by omega,Or.inl (by omega)⟩
      · exact Or.inr ⟨by omega,Or.inr ⟨by omega,List.lt_trans h1 h2⟩⟩
  tri:=by
    intro a b h1 h2
    have n1:¬ (elt a b=true):=by rw [h1];decide
    have n2:¬ (elt b a=true):=by rw [h2];decide
    rw [ycc_] at n1 n2
    have ef:a.f=b.f:=by
      rcases Int.lt_trichotomy a.f b.f with k|k|k
      · exact absurd (Or.inl k) n1
      · exact k
      · exact absurd (Or.inl k) n2
    have et:a.t=b.t:=by
      rcases Int.lt_trichotomy a.t b.t with k|k|k
      · exact absurd (Or.inr ⟨ef,Or.inl k⟩) n1
      · exact k
      · exact absurd (Or.inr ⟨ef.symm,Or.inl k⟩) n2
    have n1':¬ a.x < b.x:=fun k=>n1 (Or.inr ⟨ef,Or.inr ⟨et,k⟩⟩)
    have n2':¬ b.x < a.x:=fun k=>n2 (Or.inr ⟨ef.symm,Or.inr ⟨et.symm,k⟩⟩)
    exact Ed.ext' ef et (List.le_antisymm (List.not_lt.1 n2') (List.not_lt.1 n1'))
/-- two edits touch -/
def touch (a b:Ed):Bool :=
  if a.f=a.t∧b.f=b.t then decide (a.f=b.f)
  else if a.f=a.t then decide (b.f < a.f) && decide (a.f < b.t)
  else if b.f=b.t then decide (a.f < b.f) && decide (b.f < a.t)
  else decide (a.f < b.t) && decide (b.f < a.t)
theorem y3b_ {a b:Ed}:touch a b=true ↔ (a.f=a.t∧b.f=b.t∧a.f=b.f) ∨ (a.f=a.t∧b.f ≠ b.t∧b.f < a.f∧a.f < b.t) ∨ (a.f ≠ a.t∧b.f=b.t∧a.f < b.f∧b.f < a.t) ∨ (a.f ≠ a.t∧b.f ≠ b.t∧a.f < b.t∧b.f < a.t):=by
  unfold touch
  by_cases h1:a.f=a.t <;> by_cases h2:b.f=b.t
  · rw [if_pos ⟨h1,h2⟩,decide_eq_true_eq];omega
  · rw [if_neg (by omega),if_pos h1,Bool.and_eq_true,decide_eq_true_eq,decide_eq_true_eq];omega
  · rw [if_neg (by omega),if_neg h1,if_pos h2,Bool.and_eq_true,decide_eq_true_eq,decide_eq_true_eq];omega
  · rw [if_neg (by omega),if_neg h1,if_neg h2,Bool.and_eq_true,decide_eq_true_eq,decide_eq_true_eq];omega
theorem touch_symm (a b:Ed):touch a b=touch b a:=by
  rw [Bool.eq_iff_iff,y3b_,y3b_];omega
def Okay (n:Int) (l:List Ed):Prop:=∀ e ∈ l,0≤e.f∧e.f≤e.t∧e.t≤n
/-- does one of the sorted edits touch one before it -/
def clash (e last:Int):List Ed→Bool
  | []=>false
  | x :: l=>if x.f < e ∨ (x.f=x.t∧x.f=last) then true else clash (max e x.t) (if x.f=x.t then x.f else last) l
theorem clash_one {pre:List Ed} {x:Ed} {n e last:Int} (ho:Okay n (pre++[x])) (ha:∀ a ∈ pre,elt a x=true)
    (he1:∀ a ∈ pre,a.t≤e) (he2:e=0 ∨ ∃ a ∈ pre,a.t=e) (hl1:∀ a ∈ pre,a.f=a.t→a.f≤last) (hl2:last=-1 ∨ ∃ a ∈ pre,a.f=a.t∧a.f=last) :
    (x.f < e ∨ (x.f=x.t∧x.f=last)) ↔ ∃ a ∈ pre,touch a x=true:=by
  have hx:=ho x (List.mem_append_right _ List.mem_cons_self)
  constructor
  · rintro (h|⟨h1,h2⟩)
    · rcases he2 with k|⟨a,ma,k⟩
      · omega
      · refine ⟨a,ma,?_⟩
        have:=ho a (List.mem_append_left _ ma)
        have q:=ycc_.1 (ha a ma)
        rw [y3b_]
        rcases q with q|⟨q,q'|⟨q',-⟩⟩ <;> omega
    · rcases hl2 with k|⟨a,ma,k1,k2⟩
      · omega
      · refine ⟨a,ma,?_⟩
        rw [y3b_];omega
  · rintro ⟨a,ma,k⟩
    have h0:=ho a (List.mem_append_left _ ma)
    have h1:=he1 a ma
    have h2:=hl1 a ma
    have q:=ycc_.1 (ha a ma)
    have q':a.f≤x.f:=by rcases q with q|⟨q,-⟩ <;> omega
    rw [y3b_] at k
    rcases k with k|k|k|k
    · right
      refine ⟨by omega,?_⟩
      rcases hl2 with z|⟨b,mb,z1,z2⟩
      · omega
      · have qb:=ycc_.1 (ha b mb)
        have qb':b.f≤x.f:=by rcases qb with q|⟨q,-⟩ <;> omega
        omega
    · omega
    · left;omega
    · left;omega
theorem clash_go {n:Int}:∀ (l pre:List Ed) (e last:Int),Okay n (pre++l)→Asc elt (pre++l) →
    (∀ a ∈ pre,a.t≤e)→(e=0 ∨ ∃ a ∈ pre,a.t=e)→(∀ a ∈ pre,a.f=a.t→a.f≤last)→(last=-1 ∨ ∃ a ∈ pre,a.f=a.t∧a.f=last) →
    (∀ a ∈ pre,∀ b ∈ pre,a ≠ b→touch a b=false) →
    (clash e last l=true ↔ ∃ a ∈ pre++l,∃ b ∈ pre++l,a ≠ b∧touch a b=true)
  | [],pre,e,last,ho,ha,he1,he2,hl1,hl2,hn=>by
    rw [List.append_nil]
    constructor
    · intro h;cases h
    · rintro ⟨a,ma,b,mb,h1,h2⟩
      rw [hn a ma b mb h1] at h2;cases h2
  | x :: l,pre,e,last,ho,ha,he1,he2,hl1,hl2,hn=>by
    have hsp:pre++x :: l=(pre++[x])++l:=by simp
    have hax:∀ a ∈ pre,elt a x=true:=fun a ma=>(ySb_.1 ha).2.2 a ma x List.mem_cons_self
    have one:=clash_one (x:=x) (n:=n) (fun c hc=>ho c (by rw [hsp];exact List.mem_append_left _ hc)) hax he1 he2 hl1 hl2
    have hx:=ho x (List.mem_append_right _ List.mem_cons_self)
    unfold clash
    by_cases hc:x.f < e ∨ (x.f=x.t∧x.f=last)
    · rw [if_pos hc]
      obtain ⟨a,ma,k⟩:=one.1 hc
      refine ⟨fun _=>⟨a,List.mem_append_left _ ma,x,List.mem_append_right _ List.mem_cons_self,?_,k⟩,fun _=>rfl⟩
      intro q
      have:=hax a ma
      rw [q,elt_lin.irr] at this;cases this
    rw [if_neg hc]
    rw [hsp] at ho ha ⊢
    have no:∀ a ∈ pre,touch a x=false:=fun a ma=>by
      cases k:touch a x with
      | false=>rfl
      | true=>exact absurd (one.2 ⟨a,ma,k⟩) hc
    refine clash_go l (pre++[x]) _ _ ho ha ?_ ?_ ?_ ?_ ?_
    · intro a ma
      rcases List.mem_append.1 ma with m|m
      · have:=he1 a m;omega
      · rw [List.mem_singleton.1 m];omega
    · rcases Int.le_total x.t e with q|q
      · rcases he2 with k|⟨a,ma,k⟩
        · left;omega
        · right;exact ⟨a,List.mem_append_left _ ma,by omega⟩
      · right;exact ⟨x,List.mem_append_right _ List.mem_cons_self,by omega⟩
    · intro a ma k
      rcases List.mem_append.1 ma with m|m
      · have h1:=hl1 a m k
        have q:=ycc_.1 (hax a m)
        have q':a.f≤x.f:=by rcases q with q|⟨q,-⟩ <;> omega
        by_cases z:x.f=x.t
        rotate_left
        · rw [if_neg z];exact h1
        rw [if_pos z];exact q'
      · have e1:=List.mem_singleton.1 m
        subst e1
        rw [if_pos k];exact Int.le_refl _
    · by_cases z:x.f=x.t
      · rw [if_pos z];right;exact ⟨x,List.mem_append_right _ List.mem_cons_self,z,rfl⟩
      · rw [if_neg z]
        rcases hl2 with k|⟨a,ma,k⟩
        · exact Or.inl k
        · exact Or.inr ⟨a,List.mem_append_left _ ma,k⟩
    · intro a ma b mb hab
      rcases List.mem_append.1 ma with m|m <;> rcases List.mem_append.1 mb with m'|m'
      · exact hn a m b m' hab
      · rw [List.mem_singleton.1 m'];exact no a m
      · rw [List.mem_singleton.1 m,touch_symm];exact no b m'
      · rw [List.mem_singleton.1 m,List.mem_singleton.1 m'] at hab;exact absurd rfl hab
theorem clash_iff {n:Int} {l:List Ed} (ho:Okay n l) (ha:Asc elt l):clash 0 (-1) l=true ↔ ∃ a ∈ l,∃ b ∈ l,a ≠ b∧touch a b=true :=
  clash_go l [] 0 (-1) ho ha (fun _ h=>by cases h) (Or.inl rfl) (fun _ h=>by cases h) (Or.inl rfl) (fun _ h=>by cases h)
/-- edits one behind the other -/
def Ch (n:Int):Int→List Ed→Prop
  | p,[]=>p≤n
  | p,e :: l=>p≤e.f∧e.f≤e.t∧Ch n e.t l
theorem clash_ch {n:Int}:∀ (l:List Ed) (e last:Int),Okay n l→e≤n→clash e last l=false→Ch n e l
  | [],e,last,_,h,_=>h
  | x :: l,e,last,ho,hn,hc=>by
    have hx:=ho x List.mem_cons_self
    unfold clash at hc
    by_cases k:x.f < e ∨ (x.f=x.t∧x.f=last)
    · rw [if_pos k] at hc;cases hc
    rw [if_neg k] at hc
    have e1:max e x.t=x.t:=by omega
    rw [e1] at hc
    exact ⟨by omega,hx.2.1,clash_ch l x.t _ (fun a m=>ho a (List.mem_cons_of_mem _ m)) hx.2.2 hc⟩
end Go.Proofs.Ythimblhfjfngiaa.Tx

namespace Go.Proofs.Ythimblhfjfngiaa.Tx
/-- a part of a text -/
def sl (s:List UInt8) (a b:Int):List UInt8:=(s.drop a.toNat).take (b.toNat - a.toNat)
theorem sl_len {s:List UInt8} {a b:Int} (h0:0≤a) (h1:a≤b) (h2:b≤s.length):((sl s a b).length:Int)=b - a:=by
  unfold sl
  rw [List.length_take,List.length_drop];omega
theorem sl_drop {s:List UInt8} {a b:Int} (h1:a≤b):sl s a b++s.drop b.toNat=s.drop a.toNat:=by
  unfold sl
  have e:s.drop b.toNat=(s.drop a.toNat).drop (b.toNat - a.toNat):=by rw [List.drop_drop];congr 1;omega
  rw [e,List.take_append_drop]
theorem sl_sl {s:List UInt8} {a b c:Int} (h1:a≤b) (h2:b≤c):sl s a b++sl s b c=sl s a c:=by
  unfold sl
  have e:(s.drop b.toNat)=(s.drop a.toNat).drop (b.toNat - a.toNat):=by rw [List.drop_drop];congr 1;omega
  have e2:c.toNat - a.toNat=(b.toNat - a.toNat)+(c.toNat - b.toNat):=by omega
  rw [e,e2,List.take_add]
theorem sl_same (s:List UInt8) (a:Int):sl s a a=[]:=by unfold sl;rw [Nat.sub_self,List.take_zero]
theorem sl_all (s:List UInt8):sl s 0 s.length=s:=by unfold sl;simp
theorem sl_pre {p r:List UInt8} {q c:Int} (h0:0≤q) (h1:q≤p.length) (h2:(p.length:Int)≤c):sl (p++r) q c=p.drop q.toNat++r.take (c.toNat - p.length):=by
  unfold sl
  rw [List.drop_append_of_le_length (by omega),List.take_append,List.length_drop,List.take_of_length_le (by rw [List.length_drop];omega)]
  congr 2;omega
/-- the text from a place on, behind edits -/
def ap (s:List UInt8):Int→List Ed→List UInt8
  | p,[]=>s.drop p.toNat
  | p,e :: l=>sl s p e.f++e.x++ap s e.t l
theorem ch_le {n:Int}:∀ {l:List Ed} {p:Int},Ch n p l→p≤n
  | [],_,h=>h
  | e :: l,p,h=>by have:=ch_le h.2.2;have:=h.1;have:=h.2.1;omega
theorem ch_mono {n:Int} {l:List Ed} {p q:Int} (h:Ch n p l) (k:q≤p):Ch n q l:=by
  cases l with
  | nil=>exact Int.le_trans k h
  | cons e l=>exact ⟨by have:=h.1;omega,h.2⟩
theorem ch_okay {n:Int}:∀ {l:List Ed} {p:Int},0≤p→Ch n p l→Okay n l
  | [],_,_,_=>fun _ h=>by cases h
  | e :: l,p,h0,h=>fun a ma=>by
    have h1:=h.1;have h2:=h.2.1;have h3:=ch_le h.2.2
    rcases List.mem_cons.1 ma with m|m
    · subst m;omega
    · exact ch_okay (by omega) h.2.2 a m
theorem ch_filter {n:Int} (D:Ed→Bool):∀ {l:List Ed} {p:Int},Ch n p l→Ch n p (l.filter D)
  | [],_,h=>h
  | e :: l,p,h=>by
    by_cases k:D e=true
    · rw [List.filter_cons_of_pos k];exact ⟨h.1,h.2.1,ch_filter D h.2.2⟩
    rw [List.filter_cons_of_neg k]
    exact ch_mono (ch_filter D h.2.2) (by have:=h.1;have:=h.2.1;omega)
/-- how much longer a text gets -/
def gain (e:Ed):Int:=e.x.length - (e.t - e.f)
def gains:List Ed→Int
  | []=>0
  | e :: l=>gain e+gains l
theorem ap_len {s:List UInt8}:∀ {l:List Ed} {p:Int},0≤p→Ch s.length p l→((ap s p l).length:Int)=s.length - p+gains l
  | [],p,h0,h=>by
    have h':p≤s.length:=h
    show ((s.drop p.toNat).length:Int)=_+gains []
    rw [List.length_drop];simp only [gains];omega
  | e :: l,p,h0,h=>by
    have h1:=h.1;have h2:=h.2.1;have h3:=ch_le h.2.2
    have ih:=ap_len (l:=l) (p:=e.t) (by omega) h.2.2
    have hs:=sl_len (s:=s) h0 h1 (by omega)
    show ((sl s p e.f++e.x++ap s e.t l).length:Int)=_+gains (e :: l)
    rw [List.length_append,List.length_append]
    simp only [gains,gain];omega
theorem ap_skip {s:List UInt8} {l:List Ed} {p k:Int} (h1:p≤k) (h:Ch s.length k l):ap s p l=sl s p k++ap s k l:=by
  cases l with
  | nil=>exact (sl_drop h1).symm
  | cons e l =>
    show sl s p e.f++e.x++ap s e.t l=sl s p k++(sl s k e.f++e.x++ap s e.t l)
    rw [← List.append_assoc,← List.append_assoc,sl_sl h1 h.1]
/-- the inverse, not joined -/
def inv (s:List UInt8):Int→List Ed→List Ed
  | _,[]=>[]
  | sh,e :: l=>⟨e.f+sh,e.f+sh+e.x.length,sl s e.f e.t⟩ :: inv s (sh+gain e) l
theorem inv_back (s:List UInt8):∀ (l:List Ed) (p sh:Int) (pre:List UInt8),0≤p→Ch s.length p l→(pre.length:Int)=p+sh →
    ap (pre++ap s p l) (p+sh) (inv s sh l)=s.drop p.toNat
  | [],p,sh,pre,h0,h,hp=>by
    show (pre++s.drop p.toNat).drop (p+sh).toNat=_
    rw [← hp,Int.toNat_natCast,List.drop_left]
  | e :: l,p,sh,pre,h0,h,hp=>by
    have h1:=h.1;have h2:=h.2.1;have h3:=ch_le h.2.2
    have hs:=sl_len (s:=s) h0 h1 (by omega)
    have ih:=inv_back s l e.t (sh+gain e) (pre++sl s p e.f++e.x) (by omega) h.2.2 (by
      rw [List.length_append,List.length_append];unfold gain;omega)
    have et:e.t+(sh+gain e)=e.f+sh+e.x.length:=by unfold gain;omega
    rw [et] at ih
    show sl (pre++(sl s p e.f++e.x++ap s e.t l)) (p+sh) (e.f+sh)++sl s e.f e.t++ap (pre++(sl s p e.f++e.x++ap s e.t l)) (e.f+sh+e.x.length) (inv s (sh+gain e) l)=_
    have ea:pre++(sl s p e.f++e.x++ap s e.t l)=pre++sl s p e.f++e.x++ap s e.t l:=by simp only [List.append_assoc]
    have eb:pre++(sl s p e.f++e.x++ap s e.t l)=pre++(sl s p e.f++(e.x++ap s e.t l)):=by simp only [List.append_assoc]
    have e1:sl (pre++(sl s p e.f++e.x++ap s e.t l)) (p+sh) (e.f+sh)=sl s p e.f:=by
      rw [eb,sl_pre (by omega) (by omega) (by omega),← hp,Int.toNat_natCast,List.drop_length,List.nil_append]
      have:(e.f+sh).toNat - pre.length=(sl s p e.f).length:=by omega
      rw [this,List.take_left]
    rw [e1,ea,ih,List.append_assoc,sl_drop h2,sl_drop h1]
theorem inv_ch (s:List UInt8) (N:Int):∀ (l:List Ed) (p sh:Int),0≤p→Ch s.length p l→(s.length:Int)+sh+gains l≤N→Ch N (p+sh) (inv s sh l)
  | [],p,sh,h0,h,hN=>by
    have h':p≤s.length:=h
    show p+sh≤N
    simp only [gains] at hN;omega
  | e :: l,p,sh,h0,h,hN=>by
    have h1:=h.1;have h2:=h.2.1;have h3:=ch_le h.2.2
    have ih:=inv_ch s N l e.t (sh+gain e) (by omega) h.2.2 (by simp only [gains] at hN;omega)
    have et:e.t+(sh+gain e)=e.f+sh+e.x.length:=by unfold gain;omega
    rw [et] at ih
    exact ⟨show p+sh≤e.f+sh by omega,show e.f+sh≤e.f+sh+e.x.length by omega,ih⟩
/-- edits without bytes at one place, joined -/
def jgo (c:Ed):List Ed→List Ed
  | []=>[c]
  | x :: l=>if x.f=x.t∧c.f=x.f∧c.t=x.f then jgo ⟨c.f,c.t,c.x++x.x⟩ l else c :: jgo x l
def jn:List Ed→List Ed
  | []=>[]
  | e :: l=>jgo e l
theorem jgo_ap (s:List UInt8):∀ (l:List Ed) (c:Ed) (p:Int),ap s p (jgo c l)=ap s p (c :: l)
  | [],c,p=>rfl
  | x :: l,c,p=>by
    unfold jgo
    by_cases k:x.f=x.t∧c.f=x.f∧c.t=x.f
    rotate_left
    · rw [if_neg k]
      show sl s p c.f++c.x++ap s c.t (jgo x l)=_
      rw [jgo_ap s l];rfl
    rw [if_pos k,jgo_ap s l]
    show sl s p c.f++(c.x++x.x)++ap s c.t l=sl s p c.f++c.x++(sl s c.t x.f++x.x++ap s x.t l)
    rw [k.2.2,← k.1,sl_same]
    simp only [List.append_assoc,List.nil_append]
theorem jn_ap (s:List UInt8) (p:Int) (l:List Ed):ap s p (jn l)=ap s p l:=by
  cases l with
  | nil=>rfl
  | cons e l=>exact jgo_ap s l e p
/-- no two neighbours without bytes at one place -/
def Sep:List Ed→Prop
  | []=>True
  | [_]=>True
  | a :: b :: l=>¬ (b.f=b.t∧a.f=b.f∧a.t=b.f)∧Sep (b :: l)
theorem jgo_head (l:List Ed) (c:Ed):∃ y r,jgo c l=y :: r∧y.f=c.f∧y.t=c.t:=by
  induction l generalizing c with
  | nil=>exact ⟨c,[],rfl,rfl,rfl⟩
  | cons x l ih =>
    unfold jgo
    by_cases k:x.f=x.t∧c.f=x.f∧c.t=x.f
    rotate_left
    · rw [if_neg k];exact ⟨c,_,rfl,rfl,rfl⟩
    rw [if_pos k];exact ih ⟨c.f,c.t,c.x++x.x⟩
theorem jgo_sep:∀ (l:List Ed) (c:Ed),Sep (jgo c l)
  | [],c=>trivial
  | x :: l,c=>by
    unfold jgo
    by_cases k:x.f=x.t∧c.f=x.f∧c.t=x.f
    · rw [if_pos k];exact jgo_sep l _
    rw [if_neg k]
    obtain ⟨y,r,h,h1,h2⟩:=jgo_head l x
    have ih:=jgo_sep l x
    rw [h] at ih ⊢
    exact ⟨by rw [h1,h2];exact k,ih⟩
theorem jn_sep (l:List Ed):Sep (jn l):=by
  cases l with
  | nil=>trivial
  | cons e l=>exact jgo_sep l e
theorem jgo_ch {n:Int}:∀ (l:List Ed) (c:Ed) (p:Int),Ch n p (c :: l)→Ch n p (jgo c l)
  | [],c,p,h=>h
  | x :: l,c,p,h=>by
    unfold jgo
    by_cases k:x.f=x.t∧c.f=x.f∧c.t=x.f
    rotate_left
    · rw [if_neg k]
      exact ⟨h.1,h.2.1,jgo_ch l x c.t h.2.2⟩
    rw [if_pos k]
    exact jgo_ch l _ p ⟨h.1,h.2.1,ch_mono h.2.2.2.2 (show c.t≤x.t by omega)⟩
theorem jn_ch {n p:Int} {l:List Ed} (h:Ch n p l):Ch n p (jn l):=by
  cases l with
  | nil=>exact h
  | cons e l=>exact jgo_ch l e p h
theorem jgo_len:∀ (l:List Ed) (c:Ed),(jgo c l).length≤l.length+1
  | [],c=>Nat.le_refl _
  | x :: l,c=>by
    unfold jgo
    by_cases k:x.f=x.t∧c.f=x.f∧c.t=x.f
    rotate_left
    · rw [if_neg k];have:=jgo_len l x;simp only [List.length_cons];omega
    rw [if_pos k];have:=jgo_len l ⟨c.f,c.t,c.x++x.x⟩;simp only [List.length_cons];omega
theorem jn_len (l:List Ed):(jn l).length≤l.length:=by
  cases l with
  | nil=>exact Nat.le_refl _
  | cons e l=>exact jgo_len l e
theorem inv_len (s:List UInt8):∀ (l:List Ed) (sh:Int),(inv s sh l).length=l.length
  | [],_=>rfl
  | e :: l,sh=>by show (inv s _ l).length+1=_;rw [inv_len s l];rfl
theorem asc_of_next {l:List Ed}:∀ {a:Ed},Asc elt l→(∀ b ∈ l.head?,elt a b=true)→Asc elt (a :: l):=by
  intro a h k
  cases l with
  | nil=>exact List.pairwise_singleton _ _
  | cons b l =>
    have hab:=k b rfl
    refine yQb_.2 ⟨fun c hc=>?_,h⟩
    rcases List.mem_cons.1 hc with m|m
    · subst m;exact hab
    · exact elt_lin.tr hab ((yQb_.1 h).1 c m)
theorem sep_asc {n:Int}:∀ {l:List Ed} {p:Int},Ch n p l→Sep l→Asc elt l
  | [],_,_,_=>List.Pairwise.nil
  | [_],_,_,_=>List.pairwise_singleton _ _
  | a :: b :: l,p,h,hs=>by
    refine asc_of_next (sep_asc h.2.2 hs.2) fun c hc=>?_
    cases hc
    have h1:=h.2.1;have h2:=h.2.2.1;have h3:=h.2.2.2.1;have h4:=hs.1
    rw [ycc_]
    omega
theorem sep_clash {n:Int}:∀ {l:List Ed} {e last:Int},Ch n e l→Sep l→last≤e→(∀ b ∈ l.head?,b.f=b.t→b.f ≠ last)→clash e last l=false
  | [],_,_,_,_,_,_=>rfl
  | x :: l,e,last,h,hs,hl,hh=>by
    have h1:=h.1;have h2:=h.2.1
    unfold clash
    have hx:=hh x rfl
    rw [if_neg (by omega),show max e x.t=x.t by omega]
    refine sep_clash h.2.2 (by cases l with|nil=>trivial|cons y l=>exact hs.2) (by by_cases k:x.f=x.t <;> simp only [k,if_true,if_false] <;> omega) ?_
    intro b hb hbt
    cases l with
    | nil=>cases hb
    | cons y l =>
      cases hb
      have h3:=hs.1;have h4:=h.2.2.1
      by_cases k:x.f=x.t
      rotate_left
      · rw [if_neg k];omega
      rw [if_pos k];omega
/-- what an inverse is -/
theorem jn_good {n:Int} {l:List Ed} (h:Ch n 0 l):Okay n (jn l)∧Asc elt (jn l)∧clash 0 (-1) (jn l)=false∧Ch n 0 (jn l):=by
  have hc:=jn_ch h
  refine ⟨ch_okay (Int.le_refl _) hc,sep_asc hc (jn_sep l),sep_clash hc (jn_sep l) (by decide) ?_,hc⟩
  intro b hb hbt
  cases e:jn l with
  | nil=>rw [e] at hb;cases hb
  | cons y r =>
    rw [e] at hb hc;cases hb
    have:=hc.1;omega
end Go.Proofs.Ythimblhfjfngiaa.Tx

namespace Go.Proofs.Ythimblhfjfngiaa.Tx
/-- the edits that are not done, moved -/
def ov (D:Ed→Bool):Int→List Ed→List Ed
  | _,[]=>[]
  | sh,e :: l=>if D e=true then ov D (sh+gain e) l else ⟨e.f+sh,e.t+sh,e.x⟩ :: ov D sh l
theorem ov_len (D:Ed→Bool):∀ (l:List Ed) (sh:Int),(ov D sh l).length≤l.length
  | [],_=>Nat.le_refl _
  | e :: l,sh=>by
    unfold ov
    split
    · have:=ov_len D l (sh+gain e);simp only [List.length_cons];omega
    · have:=ov_len D l sh;simp only [List.length_cons];omega
theorem gains_filter_cons (D:Ed→Bool) (e:Ed) (l:List Ed):gains ((e :: l).filter D)=(if D e=true then gain e else 0)+gains (l.filter D):=by
  by_cases k:D e=true
  · rw [List.filter_cons_of_pos k,if_pos k];rfl
  rw [List.filter_cons_of_neg k,if_neg k,Int.zero_add]
theorem ov_ch (s:List UInt8) (D:Ed→Bool) (N:Int):∀ (l:List Ed) (p sh q:Int),0≤p→Ch s.length p l→q≤p+sh→(s.length:Int)+sh+gains (l.filter D)≤N→Ch N q (ov D sh l)
  | [],p,sh,q,h0,h,hq,hN=>by
    have h':p≤s.length:=h
    show q≤N
    have:gains (([]:List Ed).filter D)=0:=rfl
    omega
  | e :: l,p,sh,q,h0,h,hq,hN=>by
    have h1:=h.1;have h2:=h.2.1;have h3:=ch_le h.2.2
    rw [gains_filter_cons] at hN
    unfold ov
    by_cases k:D e=true
    · rw [if_pos k] at hN ⊢
      exact ov_ch s D N l e.t (sh+gain e) q (by omega) h.2.2 (by unfold gain;omega) (by omega)
    rw [if_neg k] at hN ⊢
    exact ⟨show q≤e.f+sh by omega,show e.f+sh≤e.t+sh by omega,ov_ch s D N l e.t sh (e.t+sh) (by omega) h.2.2 (by omega) (by omega)⟩
theorem ov_ap (s:List UInt8) (D:Ed→Bool):∀ (l:List Ed) (p sh q:Int) (pre:List UInt8),0≤p→Ch s.length p l→0≤q→q≤p+sh→(pre.length:Int)=p+sh →
    ap (pre++ap s p (l.filter D)) q (ov D sh l)=pre.drop q.toNat++ap s p l
  | [],p,sh,q,pre,h0,h,hq0,hq,hp=>by
    show (pre++s.drop p.toNat).drop q.toNat=pre.drop q.toNat++s.drop p.toNat
    rw [List.drop_append_of_le_length (by omega)]
  | e :: l,p,sh,q,pre,h0,h,hq0,hq,hp=>by
    have h1:=h.1;have h2:=h.2.1;have h3:=ch_le h.2.2
    have hs:=sl_len (s:=s) h0 h1 (by omega)
    by_cases k:D e=true
    · rw [List.filter_cons_of_pos k]
      have ih:=ov_ap s D l e.t (sh+gain e) q (pre++sl s p e.f++e.x) (by omega) h.2.2 hq0 (by unfold gain;omega) (by
        rw [List.length_append,List.length_append];unfold gain;omega)
      have e0:pre++ap s p (e :: l.filter D)=pre++sl s p e.f++e.x++ap s e.t (l.filter D):=by
        show pre++(sl s p e.f++e.x++ap s e.t (l.filter D))=_
        simp only [List.append_assoc]
      unfold ov
      rw [if_pos k,e0,ih]
      show _=pre.drop q.toNat++(sl s p e.f++e.x++ap s e.t l)
      rw [List.append_assoc pre,List.drop_append_of_le_length (by omega)]
      simp only [List.append_assoc]
    rw [List.filter_cons_of_neg k]
    have hf:=ch_filter D h.2.2
    have hs2:=sl_len (s:=s) (b:=e.t) h0 (by omega) (by omega)
    have e0:pre++ap s p (l.filter D)=pre++sl s p e.t++ap s e.t (l.filter D):=by
      rw [ap_skip (k:=e.t) (by omega) hf,List.append_assoc]
    have ih:=ov_ap s D l e.t sh (e.t+sh) (pre++sl s p e.t) (by omega) h.2.2 (by omega) (Int.le_refl _) (by rw [List.length_append];omega)
    have e1:sl (pre++ap s p (l.filter D)) q (e.f+sh)=pre.drop q.toNat++sl s p e.f:=by
      rw [ap_skip (k:=e.f) (by omega) (ch_mono hf (by omega)),sl_pre hq0 (by omega) (by omega)]
      congr 1
      have:(e.f+sh).toNat - pre.length=(sl s p e.f).length:=by omega
      rw [this,List.take_left]
    unfold ov
    rw [if_neg k]
    show sl _ q (e.f+sh)++e.x++ap _ (e.t+sh) (ov D sh l)=pre.drop q.toNat++(sl s p e.f++e.x++ap s e.t l)
    have e2:(pre++sl s p e.t).drop (e.t+sh).toNat=[]:=List.drop_of_length_le (by rw [List.length_append];omega)
    rw [e1,e0,ih,e2]
    simp only [List.append_assoc,List.nil_append]
/-- the whole of it -/
theorem over_ap (s:List UInt8) (D:Ed→Bool) (l:List Ed) (h:Ch s.length 0 l) :
    ap (ap s 0 (l.filter D)) 0 (jn (ov D 0 l))=ap s 0 l∧Okay (ap s 0 (l.filter D)).length (jn (ov D 0 l))∧Asc elt (jn (ov D 0 l))∧clash 0 (-1) (jn (ov D 0 l))=false:=by
  have h1:=ov_ap s D l 0 0 0 [] (Int.le_refl _) h (Int.le_refl _) (Int.le_refl _) rfl
  have hl:=ap_len (s:=s) (Int.le_refl 0) (ch_filter D h)
  have h2:=jn_good (ov_ch s D (ap s 0 (l.filter D)).length l 0 0 0 (Int.le_refl _) h (Int.le_refl _) (by omega))
  refine ⟨?_,h2.1,h2.2.1,h2.2.2.1⟩
  rw [jn_ap]
  exact h1
theorem inv_ap (s:List UInt8) (l:List Ed) (h:Ch s.length 0 l) :
    ap (ap s 0 l) 0 (jn (inv s 0 l))=s∧Okay (ap s 0 l).length (jn (inv s 0 l))∧Asc elt (jn (inv s 0 l))∧clash 0 (-1) (jn (inv s 0 l))=false∧Ch (ap s 0 l).length 0 (jn (inv s 0 l)):=by
  have h1:=inv_back s l 0 0 [] (Int.le_refl _) h rfl
  have hl:=ap_len (s:=s) (Int.le_refl 0) h
  have h2:=jn_good (inv_ch s (ap s 0 l).length l 0 0 (Int.le_refl _) h (by omega))
  refine ⟨?_,h2⟩
  rw [jn_ap]
  exact h1
/-- the members of an ascending list that another list has -/
theorem ord_filter {l:List Ed} (h:Asc elt l) (D:Ed→Bool) (m:List Ed) (k:∀ a,a ∈ m ↔ a ∈ l∧D a=true):ord elt m=l.filter D :=
  (yMb_ elt_lin (h.filter D) fun a=>by rw [List.mem_filter];exact (k a).symm).symm
/-- how far an edit moves by edits that are made first, told one by one -/
def moved (x:Ed):List Ed→Int
  | []=>0
  | a :: l=>(if elt a x=true∧a.t≤x.f then gain a else 0)+moved x l
theorem moved_app (x:Ed) (l m:List Ed):moved x (l++m)=moved x l+moved x m:=by
  induction l with
  | nil=>show _=(0:Int)+_;rw [Int.zero_add];rfl
  | cons a l ih=>show (_:Int)+moved x (l++m)=_+moved x l+_;rw [ih,Int.add_assoc]
theorem moved_all (x:Ed) {l:List Ed} (h:∀ a ∈ l,elt a x=true∧a.t≤x.f):moved x l=gains l:=by
  induction l with
  | nil=>rfl
  | cons a l ih =>
    show (if _ then gain a else 0)+moved x l=gain a+gains l
    rw [if_pos (h a List.mem_cons_self),ih fun b m=>h b (List.mem_cons_of_mem _ m)]
theorem moved_none (x:Ed) {l:List Ed} (h:∀ a ∈ l,elt x a=true):moved x l=0:=by
  induction l with
  | nil=>rfl
  | cons a l ih =>
    show (if _ then gain a else 0)+moved x l=0
    rw [if_neg (fun q=>by have:=elt_lin.asym (h a List.mem_cons_self);rw [q.1] at this;cases this),ih fun b m=>h b (List.mem_cons_of_mem _ m)];rfl
theorem ch_before {n:Int}:∀ {pre:List Ed} {p:Int} {l:List Ed} {x:Ed},Ch n p (pre++x :: l)→∀ a ∈ pre,a.t≤x.f
  | [],_,_,_,_,_,m=>by cases m
  | e :: pre,p,l,x,h,a,m=>by
    have low:∀ (pre:List Ed) (p:Int),Ch n p (pre++x :: l)→p≤x.f:=by
      intro pre
      induction pre with
      | nil=>intro p h;exact h.1
      | cons c pre ih=>intro p h;have:=ih c.t h.2.2;have:=h.1;have:=h.2.1;omega
    rcases List.mem_cons.1 m with k|k
    · subst k;exact low pre _ h.2.2
    · exact ch_before h.2.2 a k
theorem ov_moved {n:Int} (D:Ed→Bool):∀ (l pre:List Ed),Ch n 0 (pre++l)→Asc elt (pre++l) →
    ov D (gains (pre.filter D)) l=(l.filter fun e=>!D e).map fun e=>⟨e.f+moved e ((pre++l).filter D),e.t+moved e ((pre++l).filter D),e.x⟩
  | [],pre,h,ha=>rfl
  | x :: l,pre,h,ha=>by
    have hsp:pre++x :: l=(pre++[x])++l:=by simp
    have ih:=ov_moved D l (pre++[x]) (by rw [← hsp];exact h) (by rw [← hsp];exact ha)
    rw [← hsp] at ih
    have hg:gains ((pre++[x]).filter D)=gains (pre.filter D)+(if D x=true then gain x else 0):=by
      have:∀ l:List Ed,gains ((l++[x]).filter D)=gains (l.filter D)+(if D x=true then gain x else 0):=by
        intro l
        induction l with
        | nil=>rw [List.nil_append,gains_filter_cons];simp [gains]
        | cons a l ih=>rw [List.cons_append,gains_filter_cons,gains_filter_cons,ih];omega
      exact this pre
    rw [hg] at ih
    unfold ov
    by_cases k:D x=true
    · rw [if_pos k] at ih ⊢
      rw [ih,List.filter_cons_of_neg (by simp [k])]
    rw [if_neg k,Int.add_zero] at ih
    rw [if_neg k,List.filter_cons_of_pos (by simp [k]),List.map_cons,ih]
    have hm:moved x ((pre++x :: l).filter D)=gains (pre.filter D):=by
      rw [List.filter_append,moved_app,List.filter_cons_of_neg k,moved_none x (l:=l.filter D),Int.add_zero,moved_all]
      · intro a ma
        have ma':=(List.mem_filter.1 ma).1
        exact ⟨(ySb_.1 ha).2.2 a ma' x List.mem_cons_self,ch_before h a ma'⟩
      · intro a ma
        exact (yQb_.1 (ySb_.1 ha).2.1).1 a (List.mem_filter.1 ma).1
    rw [hm]
end Go.Proofs.Ythimblhfjfngiaa.Tx

namespace Go.Proofs.Ythimblhfjfngiaa.Tx
/-- the lines of a text, the first part of the first one is told -/
def lgo (cur:List UInt8):List UInt8→List (List UInt8)
  | []=>if cur=[] then [] else [cur]
  | c :: r=>if c=10 then (cur++[c]) :: lgo [] r else lgo (cur++[c]) r
def lines (s:List UInt8):List (List UInt8):=lgo [] s
theorem lgo_flat:∀ (s cur:List UInt8),(lgo cur s).flatten=cur++s
  | [],cur=>by
    unfold lgo
    by_cases h:cur=[]
    rotate_left
    · rw [if_neg h];simp
    rw [if_pos h,h];rfl
  | c :: r,cur=>by
    unfold lgo
    by_cases h:c=10
    rotate_left
    · rw [if_neg h,lgo_flat r];simp
    rw [if_pos h,List.flatten_cons,lgo_flat r []];simp
theorem yYb_ (s:List UInt8):(lines s).flatten=s:=lgo_flat s []
theorem lgo_ne:∀ (s cur:List UInt8),∀ x ∈ lgo cur s,x ≠ []
  | [],cur,x,hx=>by
    unfold lgo at hx
    by_cases h:cur=[]
    · rw [if_pos h] at hx;cases hx
    rw [if_neg h] at hx;rw [List.mem_singleton.1 hx];exact h
  | c :: r,cur,x,hx=>by
    unfold lgo at hx
    by_cases h:c=10
    rotate_left
    · rw [if_neg h] at hx;exact lgo_ne r _ x hx
    rw [if_pos h] at hx
    rcases List.mem_cons.1 hx with k|k
    · subst k;simp
    · exact lgo_ne r [] x k
theorem lines_ne (s:List UInt8):∀ x ∈ lines s,x ≠ []:=lgo_ne s []
/-- a first line that ends -/
theorem lgo_line:∀ (a cur r:List UInt8),(10:UInt8) ∉ a→lgo cur (a++10 :: r)=(cur++a++[10]) :: lgo [] r
  | [],cur,r,_=>by
    have e:lgo cur (10 :: r)=if (10:UInt8)=10 then (cur++[10]) :: lgo [] r else lgo (cur++[10]) r:=rfl
    rw [List.nil_append,e,if_pos rfl,List.append_nil]
  | c :: a,cur,r,h=>by
    have hc:c ≠ 10:=fun e=>h (e ▸ List.mem_cons_self)
    show lgo cur (c :: (a++10 :: r))=_
    rw [lgo,if_neg hc,lgo_line a _ r fun k=>h (List.mem_cons_of_mem _ k)]
    simp only [List.append_assoc,List.cons_append,List.nil_append]
theorem lgo_last:∀ (a cur:List UInt8),(10:UInt8) ∉ a→lgo cur a=if cur++a=[] then [] else [cur++a]
  | [],cur,_=>by unfold lgo;rw [List.append_nil]
  | c :: a,cur,h=>by
    have hc:c ≠ 10:=fun e=>h (e ▸ List.mem_cons_self)
    rw [lgo,if_neg hc,lgo_last a _ fun k=>h (List.mem_cons_of_mem _ k),List.append_assoc,List.singleton_append]
section
variable {α : Type} [DecidableEq α]
/-- how many can be kept -/
def lcs:List α→List α→Nat
  | a :: l,b :: m=>if a=b then lcs l m+1 else max (lcs l (b :: m)) (lcs (a :: l) m)
  | _,_=>0
termination_by l m=>l.length+m.length
theorem y4b_ (m:List α):lcs [] m=0:=by rw [lcs];intro a l b m' h;cases h
theorem y7b_ (l:List α):lcs l []=0:=by rw [lcs];intro a l' b m' _ h;cases h
theorem lcs_cons (a b:α) (l m:List α):lcs (a :: l) (b :: m)=if a=b then lcs l m+1 else max (lcs l (b :: m)) (lcs (a :: l) m):=by rw [lcs]
theorem lcs_step:∀ (k:Nat) (l m:List α),l.length+m.length≤k →
    (∀ b,lcs l m≤lcs l (b :: m)∧lcs l (b :: m)≤lcs l m+1)∧(∀ a,lcs l m≤lcs (a :: l) m∧lcs (a :: l) m≤lcs l m+1):=by
  intro k
  induction k with
  | zero =>
    intro l m h
    have hl:l=[]:=List.eq_nil_of_length_eq_zero (by omega)
    have hm:m=[]:=List.eq_nil_of_length_eq_zero (by omega)
    subst hl hm
    refine ⟨fun b=>?_,fun a=>?_⟩
    · rw [y4b_,y4b_];omega
    · rw [y7b_,y7b_];omega
  | succ k ih =>
    intro l m h
    constructor
    · intro b
      cases l with
      | nil=>rw [y4b_,y4b_];omega
      | cons a l =>
        simp only [List.length_cons] at h
        have h1:=(ih l m (by omega)).1 b
        have h2:=(ih l m (by omega)).2 a
        rw [lcs_cons]
        by_cases e:a=b
        rotate_left
        · rw [if_neg e];omega
        rw [if_pos e];omega
    · intro a
      cases m with
      | nil=>rw [y7b_,y7b_];omega
      | cons b m =>
        simp only [List.length_cons] at h
        have h1:=(ih l m (by omega)).1 b
        have h2:=(ih l m (by omega)).2 a
        rw [lcs_cons]
        by_cases e:a=b
        rotate_left
        · rw [if_neg e];omega
        rw [if_pos e];omega
theorem lcs_kept (a:α) (l m:List α):lcs l (a :: m)≤lcs l m+1∧lcs (a :: l) m≤lcs l m+1 :=
  ⟨((lcs_step _ l m (Nat.le_refl _)).1 a).2,((lcs_step _ l m (Nat.le_refl _)).2 a).2⟩
theorem lcs_len_l (l m:List α):lcs l m≤l.length:=by
  induction l with
  | nil=>rw [y4b_];exact Nat.le_refl _
  | cons a l ih=>have:=((lcs_step _ l m (Nat.le_refl _)).2 a).2;simp only [List.length_cons];omega
/-- the steps: 32 is kept, 45 goes, 43 comes -/
def stp:List α→List α→List (UInt8 × α)
  | a :: l,b :: m=>if a=b then (32,a) :: stp l m else if lcs (a :: l) m≤lcs l (b :: m) then (45,a) :: stp l (b :: m) else (43,b) :: stp (a :: l) m
  | a :: l,[]=>(45,a) :: stp l []
  | [],b :: m=>(43,b) :: stp [] m
  | [],[]=>[]
termination_by l m=>l.length+m.length
def olds (l:List (UInt8 × α)):List α:=(l.filter fun x=>x.1 != 43).map (·.2)
def news (l:List (UInt8 × α)):List α:=(l.filter fun x=>x.1 != 45).map (·.2)
theorem stp_olds:∀ (k:Nat) (l m:List α),l.length+m.length≤k→olds (stp l m)=l∧news (stp l m)=m:=by
  intro k
  induction k with
  | zero =>
    intro l m h
    have hl:l=[]:=List.eq_nil_of_length_eq_zero (by omega)
    have hm:m=[]:=List.eq_nil_of_length_eq_zero (by omega)
    subst hl hm
    rw [stp];exact ⟨rfl,rfl⟩
  | succ k ih =>
    intro l m h
    match l,m,h with
    | [],[],_=>rw [stp];exact ⟨rfl,rfl⟩
    | a :: l,[],h =>
      simp only [List.length_cons,List.length_nil] at h
      obtain ⟨h1,h2⟩:=ih l [] (by simp;omega)
      rw [stp]
      exact ⟨congrArg (a :: ·) h1,h2⟩
    | [],b :: m,h =>
      simp only [List.length_cons,List.length_nil] at h
      obtain ⟨h1,h2⟩:=ih [] m (by simp;omega)
      rw [stp]
      exact ⟨h1,congrArg (b :: ·) h2⟩
    | a :: l,b :: m,h =>
      simp only [List.length_cons] at h
      rw [stp]
      by_cases e:a=b
      · rw [if_pos e]
        obtain ⟨h1,h2⟩:=ih l m (by omega)
        exact ⟨congrArg (a :: ·) h1,by subst e;exact congrArg (a :: ·) h2⟩
      rw [if_neg e]
      split
      · obtain ⟨h1,h2⟩:=ih l (b :: m) (by simp only [List.length_cons];omega)
        exact ⟨congrArg (a :: ·) h1,h2⟩
      · obtain ⟨h1,h2⟩:=ih (a :: l) m (by simp only [List.length_cons];omega)
        exact ⟨h1,congrArg (b :: ·) h2⟩
theorem stp_op:∀ (k:Nat) (l m:List α),l.length+m.length≤k→∀ x ∈ stp l m,(x.1=32 ∨ x.1=45 ∨ x.1=43)∧(x.2 ∈ l ∨ x.2 ∈ m):=by
  intro k
  induction k with
  | zero =>
    intro l m h
    have hl:l=[]:=List.eq_nil_of_length_eq_zero (by omega)
    have hm:m=[]:=List.eq_nil_of_length_eq_zero (by omega)
    subst hl hm
    rw [stp];intro x hx;cases hx
  | succ k ih =>
    intro l m h x hx
    match l,m,h,hx with
    | [],[],_,hx=>rw [stp] at hx;cases hx
    | a :: l,[],h,hx =>
      simp only [List.length_cons,List.length_nil] at h
      rw [stp] at hx
      rcases List.mem_cons.1 hx with q|q
      · subst q;exact ⟨Or.inr (Or.inl rfl),Or.inl List.mem_cons_self⟩
      · obtain ⟨h1,h2⟩:=ih l [] (by simp;omega) x q
        exact ⟨h1,h2.imp (List.mem_cons_of_mem _) id⟩
    | [],b :: m,h,hx =>
      simp only [List.length_cons,List.length_nil] at h
      rw [stp] at hx
      rcases List.mem_cons.1 hx with q|q
      · subst q;exact ⟨Or.inr (Or.inr rfl),Or.inr List.mem_cons_self⟩
      · obtain ⟨h1,h2⟩:=ih [] m (by simp;omega) x q
        exact ⟨h1,h2.imp id (List.mem_cons_of_mem _)⟩
    | a :: l,b :: m,h,hx =>
      simp only [List.length_cons] at h
      rw [stp] at hx
      by_cases e:a=b
      · rw [if_pos e] at hx
        rcases List.mem_cons.1 hx with q|q
        · subst q;exact ⟨Or.inl rfl,Or.inl List.mem_cons_self⟩
        · obtain ⟨h1,h2⟩:=ih l m (by omega) x q
          exact ⟨h1,h2.imp (List.mem_cons_of_mem _) (List.mem_cons_of_mem _)⟩
      rw [if_neg e] at hx
      split at hx
      · rcases List.mem_cons.1 hx with q|q
        · subst q;exact ⟨Or.inr (Or.inl rfl),Or.inl List.mem_cons_self⟩
        · obtain ⟨h1,h2⟩:=ih l (b :: m) (by simp only [List.length_cons];omega) x q
          exact ⟨h1,h2.imp (List.mem_cons_of_mem _) id⟩
      · rcases List.mem_cons.1 hx with q|q
        · subst q;exact ⟨Or.inr (Or.inr rfl),Or.inr List.mem_cons_self⟩
        · obtain ⟨h1,h2⟩:=ih (a :: l) m (by simp only [List.length_cons];omega) x q
          exact ⟨h1,h2.imp id (List.mem_cons_of_mem _)⟩
end
end Go.Proofs.Ythimblhfjfngiaa.Tx

namespace Go.Proofs.Ythimblhfjfngiaa.Tx
abbrev St:=UInt8 × List UInt8
/-- the edits of steps; the one that is not yet shut is told -/
def eg:Int→Option Ed→List St→List Ed
  | _,c,[]=>c.toList
  | at_,c,(o,x) :: l =>
    if o=32 then c.toList++eg (at_+x.length) none l
    else
      let d:=c.getD ⟨at_,at_,[]⟩
      if o=45 then eg (at_+x.length) (some ⟨d.f,at_+x.length,d.x⟩) l else eg at_ (some ⟨d.f,d.t,d.x++x⟩) l
theorem eg_keep (a:Int) (c:Option Ed) (x:List UInt8) (l:List St):eg a c ((32,x) :: l)=c.toList++eg (a+x.length) none l:=by
  rw [eg,if_pos rfl]
theorem eg_gone (a:Int) (c:Option Ed) (x:List UInt8) (l:List St):eg a c ((45,x) :: l)=eg (a+x.length) (some ⟨(c.getD ⟨a,a,[]⟩).f,a+x.length,(c.getD ⟨a,a,[]⟩).x⟩) l:=by
  rw [eg,if_neg (by decide),if_pos rfl]
theorem eg_come (a:Int) (c:Option Ed) (o:UInt8) (x:List UInt8) (l:List St) (h1:o ≠ 32) (h2:o ≠ 45):eg a c ((o,x) :: l)=eg a (some ⟨(c.getD ⟨a,a,[]⟩).f,(c.getD ⟨a,a,[]⟩).t,(c.getD ⟨a,a,[]⟩).x++x⟩) l:=by
  rw [eg,if_neg h1,if_neg h2]
theorem ap_one (s:List UInt8) (p:Int) (c:Ed) (l:List Ed):ap s p (c :: l)=sl s p c.f++c.x++ap s c.t l:=rfl
/-- what the steps keep and lay down is what the edits make -/
theorem eg_ap (s:List UInt8):∀ (l:List St) (a p:Int) (c:Option Ed),0≤p→0≤a→(∀ x ∈ l,x.1=32 ∨ x.1=45 ∨ x.1=43)→s.drop a.toNat=(olds l).flatten →
    (c=none→p≤a)→(∀ d,c=some d→p≤d.f∧d.f≤d.t∧d.t=a) →
    ap s p (eg a c l)=(match c with|none=>sl s p a|some d=>sl s p d.f++d.x)++(news l).flatten
  | [],a,p,none,h0,ha,ho,hs,h1,h2=>by
    show s.drop p.toNat=sl s p a++[]
    rw [List.append_nil,← sl_drop (h1 rfl),hs]
    simp [olds]
  | [],a,p,some d,h0,ha,ho,hs,h1,h2=>by
    obtain ⟨q1,q2,q3⟩:=h2 d rfl
    show sl s p d.f++d.x++s.drop d.t.toNat=_
    rw [q3,hs];rfl
  | (o,x) :: l,a,p,c,h0,ha,ho,hs,h1,h2=>by
    have hoh:=ho (o,x) List.mem_cons_self
    have ho':∀ x ∈ l,x.1=32 ∨ x.1=45 ∨ x.1=43:=fun y m=>ho y (List.mem_cons_of_mem _ m)
    have drop_x:o ≠ 43→s.drop (a+x.length).toNat=(olds l).flatten∧sl s a (a+x.length)=x:=by
      intro k
      have e:(olds ((o,x) :: l)).flatten=x++(olds l).flatten:=by
        unfold olds
        rw [List.filter_cons_of_pos (by simpa using k),List.map_cons,List.flatten_cons]
      rw [e] at hs
      have e2:(a+x.length).toNat=a.toNat+x.length:=by omega
      refine ⟨by rw [e2,← List.drop_drop,hs,List.drop_left],?_⟩
      unfold sl
      rw [hs,show (a+x.length).toNat - a.toNat=x.length by omega,List.take_left]
    have news_keep:o ≠ 45→(news ((o,x) :: l)).flatten=x++(news l).flatten:=by
      intro k
      unfold news
      rw [List.filter_cons_of_pos (by simpa using k),List.map_cons,List.flatten_cons]
    rcases hoh with e|e|e <;> (replace e:o=_:=e;subst e)
    · obtain ⟨d1,d2⟩:=drop_x (by decide)
      rw [eg_keep,news_keep (by decide)]
      cases c with
      | none =>
        have ih:=eg_ap s l (a+x.length) p none h0 (by omega) ho' d1 (fun _=>by have:=h1 rfl;omega) (fun d q=>by cases q)
        show ap s p (eg (a+x.length) none l)=_
        rw [ih,← sl_sl (h1 rfl) (show a≤a+x.length by omega),d2,List.append_assoc]
      | some d =>
        obtain ⟨q1,q2,q3⟩:=h2 d rfl
        have ih:=eg_ap s l (a+x.length) a none ha (by omega) ho' d1 (fun _=>by omega) (fun d q=>by cases q)
        show sl s p d.f++d.x++ap s d.t (eg (a+x.length) none l)=_
        rw [q3,ih,d2]
    · obtain ⟨d1,d2⟩:=drop_x (by decide)
      have en:(news ((45,x) :: l)).flatten=(news l).flatten:=by unfold news;rw [List.filter_cons_of_neg (by simp)]
      rw [eg_gone,en]
      cases c with
      | none =>
        have:=h1 rfl
        rw [eg_ap s l (a+x.length) p _ h0 (by omega) ho' d1 (fun q=>by cases q) (fun d q=>by cases q;exact ⟨by simp;omega,by simp;omega,rfl⟩)]
        show sl s p a++[]++_=_
        rw [List.append_nil]
      | some d =>
        obtain ⟨q1,q2,q3⟩:=h2 d rfl
        rw [eg_ap s l (a+x.length) p _ h0 (by omega) ho' d1 (fun q=>by cases q) (fun d' q=>by cases q;exact ⟨q1,by simp;omega,rfl⟩)]
        rfl
    · have eo:(olds ((43,x) :: l)).flatten=(olds l).flatten:=by unfold olds;rw [List.filter_cons_of_neg (by simp)]
      rw [eo] at hs
      rw [eg_come a c 43 x l (by decide) (by decide),news_keep (by decide)]
      cases c with
      | none =>
        have:=h1 rfl
        rw [eg_ap s l a p _ h0 ha ho' hs (fun q=>by cases q) (fun d q=>by cases q;exact ⟨by simp;omega,Int.le_refl _,rfl⟩)]
        show sl s p a++([]++x)++_=_
        rw [List.nil_append,List.append_assoc]
      | some d =>
        obtain ⟨q1,q2,q3⟩:=h2 d rfl
        rw [eg_ap s l a p _ h0 ha ho' hs (fun q=>by cases q) (fun d' q=>by cases q;exact ⟨q1,q2,q3⟩)]
        show sl s p d.f++(d.x++x)++_=_
        simp only [List.append_assoc]
/-- edits with at least a byte between -/
def Apart (n:Int):Int→List Ed→Prop
  | p,[]=>p≤n+1
  | p,e :: l=>p≤e.f∧e.f≤e.t∧e.t≤n∧Apart n (e.t+1) l
theorem apart_mono {n:Int} {l:List Ed} {p q:Int} (h:Apart n p l) (k:q≤p):Apart n q l:=by
  cases l with
  | nil=>exact Int.le_trans k h
  | cons e l=>exact ⟨by have:=h.1;omega,h.2⟩
theorem apart_ch {n:Int}:∀ {l:List Ed} {p:Int},p≤n→Apart n p l→Ch n p l
  | [],p,hp,_=>hp
  | e :: l,p,hp,h=>⟨h.1,h.2.1,apart_ch h.2.2.1 (apart_mono h.2.2.2 (by omega))⟩
theorem apart_sep {n:Int}:∀ {l:List Ed} {p:Int},Apart n p l→Sep l
  | [],_,_=>trivial
  | [_],_,_=>trivial
  | a :: b :: l,p,h=>⟨by have:=h.2.2.2.1;omega,apart_sep h.2.2.2⟩
theorem apart_cons {n p:Int} {d:Ed} {l:List Ed} (h1:p≤d.f) (h2:d.f≤d.t) (h3:d.t≤n) (h:Apart n (d.t+1) l):Apart n p (d :: l):=⟨h1,h2,h3,h⟩
theorem ydc_ (n:Int):∀ (l:List St) (a p:Int) (c:Option Ed),(∀ x ∈ l,(x.1=32 ∨ x.1=45 ∨ x.1=43)∧x.2 ≠ [])→a+(olds l).flatten.length=n →
    (c=none→p≤a)→(∀ d,c=some d→p≤d.f∧d.f≤d.t∧d.t=a)→Apart n p (eg a c l)
  | [],a,p,none,ho,hs,h1,h2=>by
    have:=h1 rfl
    have e:((olds ([]:List St)).flatten.length:Int)=0:=rfl
    show p≤n+1
    omega
  | [],a,p,some d,ho,hs,h1,h2=>by
    obtain ⟨q1,q2,q3⟩:=h2 d rfl
    have e:((olds ([]:List St)).flatten.length:Int)=0:=rfl
    exact ⟨q1,q2,by omega,show d.t+1≤n+1 by omega⟩
  | (o,x) :: l,a,p,c,ho,hs,h1,h2=>by
    have hoh:=ho (o,x) List.mem_cons_self
    have hx:0 < x.length:=List.length_pos_iff.2 hoh.2
    have ho':∀ x ∈ l,(x.1=32 ∨ x.1=45 ∨ x.1=43)∧x.2 ≠ []:=fun y m=>ho y (List.mem_cons_of_mem _ m)
    have old_x:o ≠ 43→(a+x.length)+(olds l).flatten.length=n:=by
      intro k
      have e:(olds ((o,x) :: l)).flatten=x++(olds l).flatten:=by
        unfold olds
        rw [List.filter_cons_of_pos (by simpa using k),List.map_cons,List.flatten_cons]
      rw [e,List.length_append] at hs;omega
    rcases hoh.1 with e|e|e <;> (replace e:o=_:=e;subst e)
    · have d1:=old_x (by decide)
      rw [eg_keep]
      cases c with
      | none=>exact ydc_ n l (a+x.length) p none ho' d1 (fun _=>by have:=h1 rfl;omega) (fun d q=>by cases q)
      | some d =>
        obtain ⟨q1,q2,q3⟩:=h2 d rfl
        exact apart_cons q1 q2 (by omega) (ydc_ n l (a+x.length) _ none ho' d1 (fun _=>by omega) (fun d q=>by cases q))
    · have d1:=old_x (by decide)
      rw [eg_gone]
      cases c with
      | none =>
        have:=h1 rfl
        exact ydc_ n l _ p _ ho' d1 (fun q=>by cases q) (fun d q=>by cases q;exact ⟨by simp;omega,by simp;omega,rfl⟩)
      | some d =>
        obtain ⟨q1,q2,q3⟩:=h2 d rfl
        exact ydc_ n l _ p _ ho' d1 (fun q=>by cases q) (fun d' q=>by cases q;exact ⟨q1,by simp;omega,rfl⟩)
    · have eo:(olds ((43,x) :: l)).flatten=(olds l).flatten:=by unfold olds;rw [List.filter_cons_of_neg (by simp)]
      rw [eo] at hs
      rw [eg_come a c 43 x l (by decide) (by decide)]
      cases c with
      | none =>
        have:=h1 rfl
        exact ydc_ n l _ p _ ho' hs (fun q=>by cases q) (fun d q=>by cases q;exact ⟨by simp;omega,Int.le_refl _,rfl⟩)
      | some d =>
        obtain ⟨q1,q2,q3⟩:=h2 d rfl
        exact ydc_ n l _ p _ ho' hs (fun q=>by cases q) (fun d' q=>by cases q;exact ⟨q1,q2,q3⟩)
/-- the edits from a text to another one -/
def edits (a b:List UInt8):List Ed:=eg 0 none (stp (lines a) (lines b))
theorem edits_apart (a b:List UInt8):Apart a.length 0 (edits a b):=by
  have h:=stp_op _ (lines a) (lines b) (Nat.le_refl _)
  have ho:=(stp_olds _ (lines a) (lines b) (Nat.le_refl _)).1
  refine ydc_ _ _ 0 0 none (fun x hx=>⟨(h x hx).1,?_⟩) (by rw [ho,yYb_];omega) (fun _=>Int.le_refl _) (fun d q=>by cases q)
  rcases (h x hx).2 with k|k
  · exact lines_ne a _ k
  · exact lines_ne b _ k
theorem edits_ch (a b:List UInt8):Ch a.length 0 (edits a b):=apart_ch (by omega) (edits_apart a b)
theorem edits_ap (a b:List UInt8):ap a 0 (edits a b)=b:=by
  have h:=stp_op _ (lines a) (lines b) (Nat.le_refl _)
  have ho:=stp_olds _ (lines a) (lines b) (Nat.le_refl _)
  have:=eg_ap a (stp (lines a) (lines b)) 0 0 none (Int.le_refl _) (Int.le_refl _) (fun x hx=>(h x hx).1) (by rw [ho.1,yYb_];rfl) (fun _=>Int.le_refl _) (fun d q=>by cases q)
  unfold edits
  rw [this,ho.2,yYb_]
  show sl a 0 0++b=b
  rw [sl_same];rfl
end Go.Proofs.Ythimblhfjfngiaa.Tx

