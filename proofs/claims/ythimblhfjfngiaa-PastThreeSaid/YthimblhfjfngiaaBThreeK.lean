/- PastThree holds: for every three texts the statement answers true. Part 11 of 25. -/
import Derived.Test.YthimblhfjfngiaaBThreeJ
import Derived.Lib.Walk
namespace Go.Proofs.Ythimblhfjfngiaa
theorem bl_lt:∀ (x y:List UInt8),Op.bytesLess x y=decide (x < y)
  | [],[]=>by simp [Op.bytesLess]
  | _ :: _,[]=>by simp [Op.bytesLess]
  | [],_ :: _=>by simp [Op.bytesLess]
  | a :: x,b :: y=>by
    rw [Op.bytesLess,bl_lt x y,Bool.eq_iff_iff]
    simp [List.cons_lt_cons_iff]
theorem bl_ne {x y:List UInt8} (h:Op.bytesLess y x=true):(x == y)=false:=by
  cases q:x == y with
  | false=>rfl
  | true=>rw [eq_of_beq q,bl_lt,decide_eq_true_eq] at h;exact absurd h (List.lt_irrefl _)
theorem bl_eq {x y:List UInt8} (h1:Op.bytesLess x y=false) (h2:Op.bytesLess y x=false):(x == y)=true:=by
  rw [bl_lt] at h1 h2
  exact beq_iff_eq.2 (List.le_antisymm (List.not_lt.1 (of_decide_eq_false h2)) (List.not_lt.1 (of_decide_eq_false h1)))
theorem bl_gtr (x y:List UInt8):(!(Op.bytesLess x y || x == y))=Op.bytesLess y x:=by
  cases h1:Op.bytesLess x y with
  | true =>
    cases h2:Op.bytesLess y x with
    | false=>rfl
    | true=>rw [bl_lt,decide_eq_true_eq] at h1 h2;exact absurd (List.lt_trans h1 h2) (List.lt_irrefl _)
  | false =>
    cases h2:Op.bytesLess y x with
    | false=>rw [bl_eq h1 h2];rfl
    | true=>rw [bl_ne h2];rfl
theorem run_gtr_str (P:Program) (T:TypeId) (x y:ByteArray) (w:World):Sem.run P (binOp .gtr T (.string x) (.string y)) w=.ok (.bool (Op.bytesLess y.toList x.toList)) w:=by
  rw [← bl_gtr]
  simp [binOp,Op.stringOp]
end Go.Proofs.Ythimblhfjfngiaa

namespace Go.Proofs.Ythimblhfjfngiaa.PText
open Go.RowKit Go.Proofs.YthimblhfjfngiaaW.PrintWords Go.Proofs.YthimblhfjfngiaaW.PrintLast Go.Proofs.YthimblhfjfngiaaW.PrintMore
attribute [local go_sem] y2_ y3_ yfb_ ygb_ yS_ yT_ y4_ y5_   -- for this text's walks alone
set_option linter.unusedVariables false
set_option linter.unusedSimpArgs false

def yI_.f (a0:ByteArray) (a1:ByteArray):Option (Int):=(cmp_isNaN_string.f a0).bind fun t166=>((cmp_isNaN_string.f a1).bind fun t167=>(if t166=true then (if t167=true then (some 0) else (some (-1))) else (if t167=true then (some 1) else (if (Op.bytesLess a0.toList a1.toList)=true then (some (-1)) else (if (Op.bytesLess a1.toList a0.toList)=true then (some 1) else (some 0))))))
set_option maxHeartbeats 8000000 in
set_option maxRecDepth 100000 in
theorem yI_.calls (a0:ByteArray) (a1:ByteArray) (r:Int) (w:World) (h:yI_.f a0 a1=some r) :
  Calls Try.prog 40 #[.string a0,.string a1] w fun e w'=>e=.returned (.int .i64 r)∧Drawn0 w w':=by
 have H:((cmp_isNaN_string.f a0).bind fun t166=>((cmp_isNaN_string.f a1).bind fun t167=>(if t166=true then (if t167=true then (some 0) else (some (-1))) else (if t167=true then (some 1) else (if (Op.bytesLess a0.toList a1.toList)=true then (some (-1)) else (if (Op.bytesLess a1.toList a0.toList)=true then (some 1) else (some 0)))))))=some r:=h
 clear h
 replace H:=Option.bind_eq_some_iff.mp H
 obtain ⟨t166,A30,H⟩:=H
 replace H:((cmp_isNaN_string.f a1).bind fun t167=>(if t166=true then (if t167=true then (some 0) else (some (-1))) else (if t167=true then (some 1) else (if (Op.bytesLess a0.toList a1.toList)=true then (some (-1)) else (if (Op.bytesLess a1.toList a0.toList)=true then (some 1) else (some 0))))))=some r:=H
 have A3:=Aside0.mk A30
 clear A30
 replace H:=Option.bind_eq_some_iff.mp H
 obtain ⟨t167,A40,H⟩:=H
 replace H:(if t166=true then (if t167=true then (some 0) else (some (-1))) else (if t167=true then (some 1) else (if (Op.bytesLess a0.toList a1.toList)=true then (some (-1)) else (if (Op.bytesLess a1.toList a0.toList)=true then (some 1) else (some 0)))))=some r:=H
 have A4:=Aside0.mk A40
 clear A40
 by_cases c5:t166=true
 ·subst c5
  have H1:(if t167=true then (some 0) else (some (-1)))=some r:=by rw [if_pos rfl] at H;exact H
  clear H
  have H:=H1
  clear H1
  by_cases c6:t167=true
  ·subst c6
   have H1:(some 0)=some r:=by rw [if_pos rfl] at H;exact H
   clear H
   have H:=H1
   clear H1
   obtain rfl:=Option.some.inj H
   go_enter Try.func40,Try.ntmps40
   go_wp2_with (first|((with_reducible refine yt_ (f:=59) rfl ?_);refine goesL_ (some 8) rfl rfl Try.func59 (by kernel_rfl) rfl #[.string a0] rfl (by (try simp only [List.map_toArray,List.map_cons,List.map_nil]);first|done|rfl|(simp only [List.length_drop,List.length_take];rfl)) ?_;(with_reducible refine (cmp_isNaN_string.calls a0 true _ A3.out).mono ?_);rintro e w' ⟨rfl,⟨nd,rfl⟩⟩;refine ⟨_,rfl,?_⟩)|((with_reducible refine yt_ (f:=59) rfl ?_);refine goesL_ (some 10) rfl rfl Try.func59 (by kernel_rfl) rfl #[.string a1] rfl (by (try simp only [List.map_toArray,List.map_cons,List.map_nil]);first|done|rfl|(simp only [List.length_drop,List.length_take];rfl)) ?_;(with_reducible refine (cmp_isNaN_string.calls a1 true _ A4.out).mono ?_);rintro e w' ⟨rfl,⟨nd,rfl⟩⟩;refine ⟨_,rfl,?_⟩))
   go_ret
   exact ⟨by first|rfl|(simp;done)|(simp [*];done),by repeat (first|exact Drawn0.refl _|apply Drawn0.step)⟩
  replace c6:=Bool.eq_false_iff.mpr c6
  subst c6
  have H1:(some (-1))=some r:=by rw [if_neg (show ¬ (false=true) by decide)] at H;exact H
  clear H
  have H:=H1
  clear H1
  obtain rfl:=Option.some.inj H
  go_enter Try.func40,Try.ntmps40
  go_wp2_with (first|((with_reducible refine yt_ (f:=59) rfl ?_);refine goesL_ (some 8) rfl rfl Try.func59 (by kernel_rfl) rfl #[.string a0] rfl (by (try simp only [List.map_toArray,List.map_cons,List.map_nil]);first|done|rfl|(simp only [List.length_drop,List.length_take];rfl)) ?_;(with_reducible refine (cmp_isNaN_string.calls a0 true _ A3.out).mono ?_);rintro e w' ⟨rfl,⟨nd,rfl⟩⟩;refine ⟨_,rfl,?_⟩)|((with_reducible refine yt_ (f:=59) rfl ?_);refine goesL_ (some 10) rfl rfl Try.func59 (by kernel_rfl) rfl #[.string a1] rfl (by (try simp only [List.map_toArray,List.map_cons,List.map_nil]);first|done|rfl|(simp only [List.length_drop,List.length_take];rfl)) ?_;(with_reducible refine (cmp_isNaN_string.calls a1 false _ A4.out).mono ?_);rintro e w' ⟨rfl,⟨nd,rfl⟩⟩;refine ⟨_,rfl,?_⟩))
  go_ret
  exact ⟨by first|rfl|(simp;done)|(simp [*];done),by repeat (first|exact Drawn0.refl _|apply Drawn0.step)⟩
 replace c5:=Bool.eq_false_iff.mpr c5
 subst c5
 have H1:(if t167=true then (some 1) else (if (Op.bytesLess a0.toList a1.toList)=true then (some (-1)) else (if (Op.bytesLess a1.toList a0.toList)=true then (some 1) else (some 0))))=some r:=by rw [if_neg (show ¬ (false=true) by decide)] at H;exact H
 clear H
 have H:=H1
 clear H1
 by_cases c7:t167=true
 ·subst c7
  have H1:(some 1)=some r:=by rw [if_pos rfl] at H;exact H
  clear H
  have H:=H1
  clear H1
  obtain rfl:=Option.some.inj H
  go_enter Try.func40,Try.ntmps40
  go_wp2_with (first|((with_reducible refine yt_ (f:=59) rfl ?_);refine goesL_ (some 8) rfl rfl Try.func59 (by kernel_rfl) rfl #[.string a0] rfl (by (try simp only [List.map_toArray,List.map_cons,List.map_nil]);first|done|rfl|(simp only [List.length_drop,List.length_take];rfl)) ?_;(with_reducible refine (cmp_isNaN_string.calls a0 false _ A3.out).mono ?_);rintro e w' ⟨rfl,⟨nd,rfl⟩⟩;refine ⟨_,rfl,?_⟩)|((with_reducible refine yt_ (f:=59) rfl ?_);refine goesL_ (some 10) rfl rfl Try.func59 (by kernel_rfl) rfl #[.string a1] rfl (by (try simp only [List.map_toArray,List.map_cons,List.map_nil]);first|done|rfl|(simp only [List.length_drop,List.length_take];rfl)) ?_;(with_reducible refine (cmp_isNaN_string.calls a1 true _ A4.out).mono ?_);rintro e w' ⟨rfl,⟨nd,rfl⟩⟩;refine ⟨_,rfl,?_⟩))
  go_ret
  exact ⟨by first|rfl|(simp;done)|(simp [*];done),by repeat (first|exact Drawn0.refl _|apply Drawn0.step)⟩
 replace c7:=Bool.eq_false_iff.mpr c7
 subst c7
 have H1:(if (Op.bytesLess a0.toList a1.toList)=true then (some (-1)) else (if (Op.bytesLess a1.toList a0.toList)=true then (some 1) else (some 0)))=some r:=by rw [if_neg (show ¬ (false=true) by decide)] at H;exact H
 clear H
 have H:=H1
 clear H1
 by_cases c8:(Op.bytesLess a0.toList a1.toList)=true
 ·rw [if_pos c8] at H
  have c8b0:(Op.bytesLess a0.toList a1.toList)=true:=c8
  clear c8
  obtain rfl:=Option.some.inj H
  go_enter Try.func40,Try.ntmps40
  go_wp2_with (first|((with_reducible refine yt_ (f:=59) rfl ?_);refine goesL_ (some 8) rfl rfl Try.func59 (by kernel_rfl) rfl #[.string a0] rfl (by (try simp only [List.map_toArray,List.map_cons,List.map_nil]);first|done|rfl|(simp only [List.length_drop,List.length_take];rfl)) ?_;(with_reducible refine (cmp_isNaN_string.calls a0 false _ A3.out).mono ?_);rintro e w' ⟨rfl,⟨nd,rfl⟩⟩;refine ⟨_,rfl,?_⟩)|((with_reducible refine yt_ (f:=59) rfl ?_);refine goesL_ (some 10) rfl rfl Try.func59 (by kernel_rfl) rfl #[.string a1] rfl (by (try simp only [List.map_toArray,List.map_cons,List.map_nil]);first|done|rfl|(simp only [List.length_drop,List.length_take];rfl)) ?_;(with_reducible refine (cmp_isNaN_string.calls a1 false _ A4.out).mono ?_);rintro e w' ⟨rfl,⟨nd,rfl⟩⟩;refine ⟨_,rfl,?_⟩))
  go_ret
  exact ⟨by first|rfl|(simp;done)|(simp [*];done),by repeat (first|exact Drawn0.refl _|apply Drawn0.step)⟩
 rw [if_neg c8] at H
 have c8b0:(Op.bytesLess a0.toList a1.toList)=false:=by simpa using c8
 clear c8
 by_cases c9:(Op.bytesLess a1.toList a0.toList)=true
 ·rw [if_pos c9] at H
  have c9b0:(Op.bytesLess a1.toList a0.toList)=true:=c9
  have c9g:=run_gtr_str Try.prog 9 a0 a1
  clear c9
  obtain rfl:=Option.some.inj H
  go_enter Try.func40,Try.ntmps40
  go_wp2_with (first|((with_reducible refine yt_ (f:=59) rfl ?_);refine goesL_ (some 8) rfl rfl Try.func59 (by kernel_rfl) rfl #[.string a0] rfl (by (try simp only [List.map_toArray,List.map_cons,List.map_nil]);first|done|rfl|(simp only [List.length_drop,List.length_take];rfl)) ?_;(with_reducible refine (cmp_isNaN_string.calls a0 false _ A3.out).mono ?_);rintro e w' ⟨rfl,⟨nd,rfl⟩⟩;refine ⟨_,rfl,?_⟩)|((with_reducible refine yt_ (f:=59) rfl ?_);refine goesL_ (some 10) rfl rfl Try.func59 (by kernel_rfl) rfl #[.string a1] rfl (by (try simp only [List.map_toArray,List.map_cons,List.map_nil]);first|done|rfl|(simp only [List.length_drop,List.length_take];rfl)) ?_;(with_reducible refine (cmp_isNaN_string.calls a1 false _ A4.out).mono ?_);rintro e w' ⟨rfl,⟨nd,rfl⟩⟩;refine ⟨_,rfl,?_⟩))
  go_ret
  exact ⟨by first|rfl|(simp;done)|(simp [*];done),by repeat (first|exact Drawn0.refl _|apply Drawn0.step)⟩
 rw [if_neg c9] at H
 have c9b0:(Op.bytesLess a1.toList a0.toList)=false:=by simpa using c9
 have c9g:=run_gtr_str Try.prog 9 a0 a1
 clear c9
 obtain rfl:=Option.some.inj H
 go_enter Try.func40,Try.ntmps40
 go_wp2_with (first|((with_reducible refine yt_ (f:=59) rfl ?_);refine goesL_ (some 8) rfl rfl Try.func59 (by kernel_rfl) rfl #[.string a0] rfl (by (try simp only [List.map_toArray,List.map_cons,List.map_nil]);first|done|rfl|(simp only [List.length_drop,List.length_take];rfl)) ?_;(with_reducible refine (cmp_isNaN_string.calls a0 false _ A3.out).mono ?_);rintro e w' ⟨rfl,⟨nd,rfl⟩⟩;refine ⟨_,rfl,?_⟩)|((with_reducible refine yt_ (f:=59) rfl ?_);refine goesL_ (some 10) rfl rfl Try.func59 (by kernel_rfl) rfl #[.string a1] rfl (by (try simp only [List.map_toArray,List.map_cons,List.map_nil]);first|done|rfl|(simp only [List.length_drop,List.length_take];rfl)) ?_;(with_reducible refine (cmp_isNaN_string.calls a1 false _ A4.out).mono ?_);rintro e w' ⟨rfl,⟨nd,rfl⟩⟩;refine ⟨_,rfl,?_⟩))
 go_ret
 exact ⟨by first|rfl|(simp;done)|(simp [*];done),by repeat (first|exact Drawn0.refl _|apply Drawn0.step)⟩

end Go.Proofs.Ythimblhfjfngiaa.PText

-- mended25

namespace Go.Proofs.Ythimblhfjfngiaa.PText
open Go.RowKit Go.Proofs.YthimblhfjfngiaaW.PrintWords Go.Proofs.YthimblhfjfngiaaW.PrintLast Go.Proofs.YthimblhfjfngiaaW.PrintMore
attribute [local go_sem] y2_ y3_ yfb_ ygb_ yS_ yT_ y4_ y5_   -- for this text's walks alone
set_option linter.unusedVariables false
set_option linter.unusedSimpArgs false

def yeb_.f (k:Nat) (a0_0:Int) (a0_1:Int) (a0_2:ByteArray) (a1_0:Int) (a1_1:Int) (a1_2:ByteArray):Option (Int):=(cmp_Compare_int.f a0_0 a1_0).bind fun t173=>((cmp_Compare_int.f a0_1 a1_1).bind fun t174=>((yI_.f a0_2 a1_2).bind fun t175=>((yQ_.f k (([t173,t174,t175]:List Int))).bind fun t179=>(some t179))))
def yeb_.T1:Bool × List (List Nat × List Nat):=(true,[([],[]),([0],[0]),([],[]),([2],[2]),([1,3],[1,3]),([],[]),([5],[5]),([],[]),([7],[7]),([6,8,4],[6,8]),([],[]),([10],[10]),([],[]),([12],[12]),([11,13,9],[11,13]),([4,9,14],[4,9,14]),([15,14],[15]),([16,16,0,1,2,3,4,5,6,7,8,9,10,11,12,13,14,15,16],[16])])
def yeb_.B1:List Nat:=[0,1,0,4,15,0,32,0,128,511,0,1024,0,4096,16383,32767,65535,131071]
theorem yeb_.tab1:rtab .any (opsOf Try.f66 1)=yeb_.T1:=by kernel_rfl
theorem yeb_.bits1:waitsOk yeb_.T1.2 yeb_.B1=true:=by kernel_rfl
set_option maxHeartbeats 8000000 in
set_option maxRecDepth 100000 in
theorem yeb_.calls (k:Nat) (a0_0:Int) (a0_1:Int) (a0_2:ByteArray) (a1_0:Int) (a1_1:Int) (a1_2:ByteArray) (r:Int) (w:World) (h:yeb_.f k a0_0 a0_1 a0_2 a1_0 a1_1 a1_2=some r) :
  Calls Try.prog 66 #[.agg #[.int .i64 a0_0,.int .i64 a0_1,.string a0_2],.agg #[.int .i64 a1_0,.int .i64 a1_1,.string a1_2]] w fun e w'=>e=.returned (.int .i64 r)∧Below w.heap.size w w':=by
 have hu59:=Try.underlying59
 have HB:=Aside0.mk (Below.refl w.heap.size w)
 have H:((cmp_Compare_int.f a0_0 a1_0).bind fun t173=>((cmp_Compare_int.f a0_1 a1_1).bind fun t174=>((yI_.f a0_2 a1_2).bind fun t175=>((yQ_.f k (([t173,t174,t175]:List Int))).bind fun t179=>(some t179)))))=some r:=h
 clear h
 replace H:=Option.bind_eq_some_iff.mp H
 obtain ⟨t173,A30,H⟩:=H
 replace H:((cmp_Compare_int.f a0_1 a1_1).bind fun t174=>((yI_.f a0_2 a1_2).bind fun t175=>((yQ_.f k (([t173,t174,t175]:List Int))).bind fun t179=>(some t179))))=some r:=H
 have A3:=Aside0.mk A30
 clear A30
 replace H:=Option.bind_eq_some_iff.mp H
 obtain ⟨t174,A40,H⟩:=H
 replace H:((yI_.f a0_2 a1_2).bind fun t175=>((yQ_.f k (([t173,t174,t175]:List Int))).bind fun t179=>(some t179)))=some r:=H
 have A4:=Aside0.mk A40
 clear A40
 replace H:=Option.bind_eq_some_iff.mp H
 obtain ⟨t175,A50,H⟩:=H
 replace H:((yQ_.f k (([t173,t174,t175]:List Int))).bind fun t179=>(some t179))=some r:=H
 have A5:=Aside0.mk A50
 clear A50
 obtain ⟨y176,hy176⟩:∃ y_:List Int,y_=(([t173,t174,t175]:List Int)):=⟨_,rfl⟩
 replace H:((yQ_.f k y176).bind fun t179=>(some t179))=some r:=by first|(rw [hy176];with_reducible exact H)|(have H2_:=(Option.bind_some _ _).symm.trans H;rw [hy176];with_reducible exact H2_)|(have H2_:=(Option.bind_some _ _).symm.trans H;with_reducible exact H2_)|with_reducible exact H|(rw [hy176];exact H)|exact H
 have Ny176:=Aside0.mk hy176
 clear hy176
 replace H:=Option.bind_eq_some_iff.mp H
 obtain ⟨t179,A60,H⟩:=H
 replace H:(some t179)=some r:=H
 have A6:=Aside0.mk A60
 clear A60
 obtain rfl:=Option.some.inj H
 go_enter Try.func66,Try.ntmps66
 try go_wp2_with (first|((with_reducible refine yL_ (N:=2) rfl ?_);refine y0_ ?hg (N:=2) ?hd (cs:=#[.int .i64 a0_0,.int .i64 a0_1,.string a0_2]) (t:=59) ?hr ?_;(case hd=>rfl);(case hg=>rfl);(case hr=>first|(go_simp;done)|(go_simp;rfl));intro gb171 hg w7 hbox hb;have n0_:=Aside0.mk (yp_ (by repeat (with_reducible first|exact HB.out|apply yc_|apply ya_|apply yb_)) hb);have n1_:=Aside0.mk (hbox);have n2_:=Aside0.mk ((by rw [hg];exact (yn_ (by repeat (with_reducible first|exact HB.out|apply yc_|apply ya_|apply yb_))):w.heap.size≤gb171));have n3_:=Aside0.mk ((by rw [hg];exact (yn_ (by repeat (with_reducible first|exact HB.out|apply yc_|apply ya_|apply yb_))):w.heap.size≤gb171));clear HB;have HB:=n0_;have BK171:=n1_;have GW171:=n2_;have GE171:=n3_;clear n0_ n1_ n2_ n3_;clear hb hbox hg)|((with_reducible refine yL_ (N:=3) rfl ?_);refine y0_ ?hg (N:=3) ?hd (cs:=#[.int .i64 a1_0,.int .i64 a1_1,.string a1_2]) (t:=59) ?hr ?_;(case hd=>rfl);(case hg=>rfl);(case hr=>first|(go_simp;done)|(go_simp;rfl));intro gb172 hg w8 hbox hb;have n0_:=Aside0.mk (yrb_ (g:=gb171) (o:=.cells #[.int .i64 a0_0,.int .i64 a0_1,.string a0_2] 59 (0,0)) (by (with_reducible repeat (first|refine yx_ ?_ _|refine yA_ ?_|refine yw_ ?_ _));exact BK171.out) hb);have n1_:=Aside0.mk (yp_ (by repeat (with_reducible first|exact HB.out|apply yc_|apply ya_|apply yb_|refine yo_ ?_ GE171.out)) hb);have n2_:=Aside0.mk (hbox);have n3_:=Aside0.mk ((by rw [hg];exact (yn_ (by repeat (with_reducible first|exact HB.out|apply yc_|apply ya_|apply yb_|refine yo_ ?_ GE171.out))):w.heap.size≤gb172));have n4_:=Aside0.mk ((by rw [hg];exact (yn_ (by repeat (with_reducible first|exact HB.out|apply yc_|apply ya_|apply yb_|refine yo_ ?_ GE171.out))):w.heap.size≤gb172));have n5_:=Aside0.mk ((by rw [hg];exact Nat.ne_of_lt (blk_lt (g:=gb171) (o:=.cells #[.int .i64 a0_0,.int .i64 a0_1,.string a0_2] 59 (0,0)) (by (with_reducible repeat (first|refine yx_ ?_ _|refine yA_ ?_|refine yw_ ?_ _));exact BK171.out)):gb171 ≠ gb172));have n6_:=Aside0.mk ((by rw [hg];exact Nat.ne_of_gt (blk_lt (g:=gb171) (o:=.cells #[.int .i64 a0_0,.int .i64 a0_1,.string a0_2] 59 (0,0)) (by (with_reducible repeat (first|refine yx_ ?_ _|refine yA_ ?_|refine yw_ ?_ _));exact BK171.out)):gb172 ≠ gb171));clear BK171;clear HB;have BK171:=n0_;have HB:=n1_;have BK172:=n2_;have GW172:=n3_;have GE172:=n4_;have NB171_172:=n5_;have NB172_171:=n6_;clear n0_ n1_ n2_ n3_ n4_ n5_ n6_;clear hb hbox hg))
 have n0_:=Aside0.mk (yA_ BK171.out)
 have n1_:=Aside0.mk (yA_ BK172.out)
 have n2_:=Aside0.mk (yb_ HB.out)
 clear BK171
 clear BK172
 clear HB
 have BK171:=n0_
 have BK172:=n1_
 have HB:=n2_
 clear n0_ n1_ n2_
 refine start_ (n:=18) (S:=fun w'=>w'.cell? ⟨gb171,0,none⟩=some (.int .i64 a0_0)∧w'.cell? ⟨gb171,1,none⟩=some (.int .i64 a0_1)∧w'.cell? ⟨gb171,2,none⟩=some (.string a0_2)∧w'.cell? ⟨gb172,0,none⟩=some (.int .i64 a1_0)∧w'.cell? ⟨gb172,1,none⟩=some (.int .i64 a1_1)∧w'.cell? ⟨gb172,2,none⟩=some (.string a1_2)) (ds:=[]) (bA 18 0) (by kernel_rfl) rfl rfl ⟨(yk_ BK171.out 0).trans rfl,(yk_ BK171.out 1).trans rfl,(yk_ BK171.out 2).trans rfl,(yk_ BK172.out 0).trans rfl,(yk_ BK172.out 1).trans rfl,(yk_ BK172.out 2).trans rfl⟩ (fun hHeld=>?_);refine yP_ yeb_.tab1 yeb_.bits1 (fun HT_ HW_=>?_)
 generalize w8.drew=w9 at BK171 BK172 HB hHeld ⊢
 refine pu_ 0 5 (bA 18 1) HT_ ?_
 refine pu_ 2 7 (bA 18 5) HT_ ?_
 refine pu_ 5 10 (bA 18 37) HT_ ?_
 refine pu_ 7 12 (bA 18 165) HT_ ?_
 refine pu_ 10 15 (bA 18 1189) HT_ ?_
 refine pu_ 12 17 (bA 18 5285) HT_ ?_
 refine tk_ 1 6 (bA 18 5287) rfl HT_ HW_ hHeld (by rintro w' ⟨s0,s1,s2,s3,s4,s5⟩;go_simp;with_reducible rfl) ?_
 refine tk_ 3 8 (bA 18 5295) rfl HT_ HW_ hHeld (by rintro w' ⟨s0,s1,s2,s3,s4,s5⟩;go_simp;with_reducible rfl) ?_
 refine tk_ 6 11 (bA 18 5359) rfl HT_ HW_ hHeld (by rintro w' ⟨s0,s1,s2,s3,s4,s5⟩;go_simp;with_reducible rfl) ?_
 refine tk_ 8 13 (bA 18 5615) rfl HT_ HW_ hHeld (by rintro w' ⟨s0,s1,s2,s3,s4,s5⟩;go_simp;with_reducible rfl) ?_
 refine tk_ 11 16 (bA 18 7663) rfl HT_ HW_ hHeld (by rintro w' ⟨s0,s1,s2,s3,s4,s5⟩;go_simp;with_reducible rfl) ?_
 refine tk_ 13 18 (bA 18 15855) rfl HT_ HW_ hHeld (by rintro w' ⟨s0,s1,s2,s3,s4,s5⟩;go_simp;with_reducible rfl) ?_
 refine one_ (i:=4) (N:=some 9) (bA 18 15871) rfl rfl (one_of HT_.out (by kernel_rfl)) (by decide) (fun K hK=>?_)
 refine goes_ Try.func85 (by kernel_rfl) rfl #[.int .i64 a0_0,.int .i64 a1_0] (by rfl) rfl rfl (by (try simp only [List.map_toArray,List.map_cons,List.map_nil]);first|done|rfl|(simp only [List.length_drop,List.length_take];rfl)) ?_
 with_reducible refine (cmp_Compare_int.calls a0_0 a1_0 t173 _ A3.out).mono ?_
 rintro e w' ⟨rfl,⟨nd,rfl⟩⟩
 refine ⟨_,rfl,?_⟩
 refine hK.out _ _ ⟨(yk_ BK171.out 0).trans rfl,(yk_ BK171.out 1).trans rfl,(yk_ BK171.out 2).trans rfl,(yk_ BK172.out 0).trans rfl,(yk_ BK172.out 1).trans rfl,(yk_ BK172.out 2).trans rfl⟩ (fun hHeld=>?_)
 clear hK K
 refine norm_ (a':=?_) ?_ ?_
 rotate_left
 ·show Act.put _ (some 9) _=_
  simp only [Act.put,q1_,q2_,q3_,i64_w,i32_w]
  rfl
 refine one_ (i:=9) (N:=some 14) (bA 18 16383) rfl rfl (one_of HT_.out (by kernel_rfl)) (by decide) (fun K hK=>?_)
 refine goes_ Try.func85 (by kernel_rfl) rfl #[.int .i64 a0_1,.int .i64 a1_1] (by rfl) rfl rfl (by (try simp only [List.map_toArray,List.map_cons,List.map_nil]);first|done|rfl|(simp only [List.length_drop,List.length_take];rfl)) ?_
 with_reducible refine (cmp_Compare_int.calls a0_1 a1_1 t174 _ A4.out).mono ?_
 rintro e w' ⟨rfl,⟨nd,rfl⟩⟩
 refine ⟨_,rfl,?_⟩
 refine hK.out _ _ ⟨(yk_ BK171.out 0).trans rfl,(yk_ BK171.out 1).trans rfl,(yk_ BK171.out 2).trans rfl,(yk_ BK172.out 0).trans rfl,(yk_ BK172.out 1).trans rfl,(yk_ BK172.out 2).trans rfl⟩ (fun hHeld=>?_)
 clear hK K
 refine norm_ (a':=?_) ?_ ?_
 rotate_left
 ·show Act.put _ (some 14) _=_
  simp only [Act.put,q1_,q2_,q3_,i64_w,i32_w]
  rfl
 refine one_ (i:=14) (N:=some 19) (bA 18 32767) rfl rfl (one_of HT_.out (by kernel_rfl)) (by decide) (fun K hK=>?_)
 refine goes_ Try.func40 (by kernel_rfl) rfl #[.string a0_2,.string a1_2] (by rfl) rfl rfl (by (try simp only [List.map_toArray,List.map_cons,List.map_nil]);first|done|rfl|(simp only [List.length_drop,List.length_take];rfl)) ?_
 with_reducible refine (yI_.calls a0_2 a1_2 t175 _ A5.out).mono ?_
 rintro e w' ⟨rfl,⟨nd,rfl⟩⟩
 refine ⟨_,rfl,?_⟩
 refine hK.out _ _ ⟨(yk_ BK171.out 0).trans rfl,(yk_ BK171.out 1).trans rfl,(yk_ BK171.out 2).trans rfl,(yk_ BK172.out 0).trans rfl,(yk_ BK172.out 1).trans rfl,(yk_ BK172.out 2).trans rfl⟩ (fun hHeld=>?_)
 clear hK K
 refine norm_ (a':=?_) ?_ ?_
 rotate_left
 ·show Act.put _ (some 19) _=_
  simp only [Act.put,q1_,q2_,q3_,i64_w,i32_w]
  rfl
 refine one_ (i:=15) (N:=some 20) (bA 18 65535) rfl rfl (one_of HT_.out (by kernel_rfl)) (by decide) (fun K hK=>?_)
 refine Kd.R_lit_step (Kd.int .i64) _ 3 ?hg (N:=20) ?hd (xs:=([t173,t174,t175]:List Int)) (inner:=[.int .i64 t173,.int .i64 t174,.int .i64 t175]) (ok:=fun _=>True) (okp:=fun _=>True) ?hr ?hp (fun _ hk=>hk) trivial (Below.refl _ _) (Nat.le_refl _) (by simp) ?_;(case hd=>rfl);(case hg=>rfl);(case hr=>first|(go_simp;done)|(go_simp;rfl));(case hp=>exact (Reps.one (show Kd.M (Kd.int .i64) _ _ _ t173 [.int .i64 t173] from rfl) (Reps.one (show Kd.M (Kd.int .i64) _ _ _ t174 [.int .i64 t174] from rfl) (Reps.one (show Kd.M (Kd.int .i64) _ _ _ t175 [.int .i64 t175] from rfl) (Reps.none _ _)))))
 intro v177 w10 ho11 hb hg_ hnew_
 clear hg_ hnew_
 (first|rw [← Ny176.out] at ho11|(simp only [Int.reduceToNat] at ho11;rw [← Ny176.out] at ho11))
 have n0_:=Aside0.mk (Kd.yJ_ ho11 (yn_ (by repeat (with_reducible first|exact HB.out|apply yc_|apply ya_|apply yb_|refine yo_ ?_ GE171.out|refine yo_ ?_ GE172.out))))
 have n1_:=Aside0.mk (yrb_ (g:=gb171) (o:=.cells #[.int .i64 a0_0,.int .i64 a0_1,.string a0_2] 59 (0,0)) (by (with_reducible repeat (first|refine yx_ ?_ _|refine yA_ ?_|refine yw_ ?_ _));exact BK171.out) hb)
 have n2_:=Aside0.mk (yrb_ (g:=gb172) (o:=.cells #[.int .i64 a1_0,.int .i64 a1_1,.string a1_2] 59 (0,0)) (by (with_reducible repeat (first|refine yx_ ?_ _|refine yA_ ?_|refine yw_ ?_ _));exact BK172.out) hb)
 have n3_:=Aside0.mk (yp_ (by repeat (with_reducible first|exact HB.out|apply yc_|apply ya_|apply yb_|refine yo_ ?_ GE171.out|refine yo_ ?_ GE172.out)) hb)
 clear BK171
 clear BK172
 clear HB
 have HO178:=n0_
 have BK171:=n1_
 have BK172:=n2_
 have HB:=n3_
 clear n0_ n1_ n2_ n3_
 clear hb ho11
 obtain ⟨Ao12,co12,eo12⟩:=Kd.yC_ HO178.out
 (first|subst eo12|(injection eo12 with f1_ f2_ f3_;have f4_:=f1_.symm;have f5_:=f3_.symm;clear f1_ f2_ f3_;subst f4_;subst f5_))
 refine hK.out _ _ ⟨(yk_ BK171.out 0).trans rfl,(yk_ BK171.out 1).trans rfl,(yk_ BK171.out 2).trans rfl,(yk_ BK172.out 0).trans rfl,(yk_ BK172.out 1).trans rfl,(yk_ BK172.out 2).trans rfl⟩ (fun hHeld=>?_)
 clear hK K
 refine norm_ (a':=?_) ?_ ?_
 rotate_left
 ·show Act.put _ (some 20) _=_
  simp only [Act.put,q1_,q2_,q3_,i64_w,i32_w]
  rfl
 refine one_ (i:=16) (N:=some 21) (bA 18 131071) rfl rfl (one_of HT_.out (by kernel_rfl)) (by decide) (fun K hK=>?_)
 refine goes_ Try.func84 (by kernel_rfl) rfl #[.slice Ao12 y176.length co12] (by rfl) rfl rfl (by (try simp only [List.map_toArray,List.map_cons,List.map_nil]);first|done|rfl|(simp only [List.length_drop,List.length_take];rfl)) ?_
 with_reducible refine (yQ_.calls k _ _ y176 t179 _ ?side1 ?side2 A6.out).mono ?_
 (case side1=>repeat (first|exact (Kd.ys_ HO178.out).2.2|(with_reducible refine Kd.yK_ ?_ _)|(with_reducible refine Kd.y1_ ?_ _)|(with_reducible refine Kd.C_drew ?_)))
 (case side2=>exact (Kd.ys_ HO178.out).2.1)
 rintro e w' ⟨rfl,⟨nd,rfl⟩⟩
 refine ⟨_,rfl,?_⟩
 refine hK.out _ _ ⟨(yk_ BK171.out 0).trans rfl,(yk_ BK171.out 1).trans rfl,(yk_ BK171.out 2).trans rfl,(yk_ BK172.out 0).trans rfl,(yk_ BK172.out 1).trans rfl,(yk_ BK172.out 2).trans rfl⟩ (fun hHeld=>?_)
 clear hK K
 refine norm_ (a':=?_) ?_ ?_
 rotate_left
 ·show Act.put _ (some 21) _=_
  simp only [Act.put,q1_,q2_,q3_,i64_w,i32_w]
  rfl
 refine pu_ 17 4 (bA 18 262143) HT_ ?_
 refine done_ (ydb_ HT_.out (by kernel_rfl)) ?_
 try go_wp2
 go_ret
 exact ⟨by first|rfl|(simp [yq_,yr_] <;> rfl)|(simp [*,yq_,yr_] <;> rfl),by repeat (with_reducible first|exact HB.out|apply yc_|apply ya_|apply yb_|refine yo_ ?_ GE171.out|refine yo_ ?_ GE172.out)⟩

end Go.Proofs.Ythimblhfjfngiaa.PText

