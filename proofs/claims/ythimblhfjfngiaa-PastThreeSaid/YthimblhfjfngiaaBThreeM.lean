/- PastThree holds: for every three texts the statement answers true. Part 13 of 25. -/
import Derived.Test.YthimblhfjfngiaaBThreeL
import Derived.Lib.SliceRun
namespace Go.Proofs.Ythimblhfjfngiaa.PText
open Go.RowKit Go.Proofs.YthimblhfjfngiaaW.PrintWords Go.Proofs.YthimblhfjfngiaaW.PrintLast Go.Proofs.YthimblhfjfngiaaW.PrintMore
set_option linter.unusedVariables false
set_option linter.unusedSimpArgs false
theorem C_none34 {w:World} {l:List S59} (h:Kd.C k59 w none l.length l):l=[]:=by
  cases l with
  | nil=>rfl
  | cons x r =>
    obtain ⟨ad,_,q,_⟩:=Kd.C_get h z59 0 (Int.le_refl _) (by rw [List.length_cons];omega)
    cases q
set_option maxHeartbeats 8000000 in
set_option maxRecDepth 100000 in
theorem clone_calls (A0:Option Addr) (c0:Nat) (l0:List S59) (w:World) (hr0:Kd.C k59 w A0 l0.length l0) (hl:l0.length≤10000) :
    Calls Try.prog 64 #[.slice A0 l0.length c0] w fun e w'=>∃ v0_:Value,e=.returned v0_∧Kd.R k59 59 w' w.heap.size (fun _=>True) v0_ l0∧Below w.heap.size w w':=by
  have hnil:∀ w',Sem.run Try.prog (binOp .eql 55 (.slice A0 l0.length c0) (.slice none 0 0)) w'=.ok (.bool A0.isNone) w':=fun w'=>Go.Lib.run_eql_slice_nil w' 55 59 A0 l0.length c0 0 0 Try.underlying55
  have HR1:=Aside0.mk hr0
  clear hr0
  cases hA:A0.isNone with
  | true =>
    obtain rfl:A0=none:=by cases A0 with|none=>rfl|some a=>cases hA
    obtain rfl:=C_none34 HR1.out
    rw [hA] at hnil
    simp only [List.length_nil] at hnil ⊢
    go_enter Try.func64,Try.ntmps64
    go_wp2
    go_ret
    exact ⟨_,rfl,Kd.R_nil _ _ _ _ _,Below.refl _ _⟩
  | false =>
    rw [hA] at hnil
    have HB:=Aside0.mk (Below.refl w.heap.size w)
    obtain ⟨y467,hy467⟩:∃ y_:List (S59),y_=(([]:List (S59))):=⟨_,rfl⟩
    have Ny467:=Aside0.mk hy467
    have LMc8:=Aside0.mk (show y467.length+l0.length < 4398046511104 by rw [hy467];simp;omega)
    clear hy467
    obtain ⟨y470,hy470⟩:∃ y_:List (S59),y_=(y467++l0):=⟨_,rfl⟩
    have Ny470:=Aside0.mk hy470
    clear hy470
    go_enter Try.func64,Try.ntmps64
    go_wp2_with (first|((with_reducible refine yL_ (N:=5) rfl ?_);refine Kd.R_lit k59 _ 59 ?hg (N:=5) ?hd (xs:=([]:List (S59))) (inner:=[]) (ok:=fun _=>True) (okp:=fun _=>True) ?hr ?hp (fun _ hk=>hk) trivial (Below.refl _ _) (Nat.le_refl _) (by simp) ?_;(case hd=>rfl);(case hg=>rfl);(case hr=>first|(go_simp;done)|(go_simp;rfl));(case hp=>exact (Reps.none _ _));intro v468 w13 ho14 hb hg_ hnew_;clear hg_ hnew_;(first|rw [← Ny467.out] at ho14|(simp only [Int.reduceToNat] at ho14;rw [← Ny467.out] at ho14));have n0_:=Aside0.mk (Kd.yJ_ ho14 (yn_ (by repeat (first|(with_reducible first|exact HB.out|apply yc_|apply ya_|apply yb_)|exact HB.out))));have n1_:=Aside0.mk (yp_ (by repeat (first|(with_reducible first|exact HB.out|apply yc_|apply ya_|apply yb_)|exact HB.out)) hb);clear HB;have HO469:=n0_;have HB:=n1_;clear n0_ n1_;clear hb ho14)|((with_reducible refine yF_ (b:=.append) (xs:=#[.tmp 5,.tmp 6]) rfl ?_);at_builtin;refine Kd.yOb_ k59 (w0:=w) w.heap.size rfl (.tmp 5) (.tmp 6) 55 59 (.agg #[(.int .i64 0),(.int .i64 0),(.string ⟨#[]⟩)]) 32 rfl Try.underlying55 info59 rfl (by decide) (by omega) v468 y467 l0 _ _ _ (fun _=>True) (fun _=>False) rfl rfl ?aO ?aR (fun _ _ h=>h) (fun _ h=>h.elim) ?aF ?aB ?aS ?aL ?_;(case aR=>repeat (first|exact (Kd.ynb_ HR1.out HB.out)|(with_reducible refine Kd.yK_ ?_ _)|(with_reducible refine Kd.y1_ ?_ _)|(with_reducible refine Kd.C_drew ?_)));(case aB=>exact (by repeat (first|(with_reducible first|exact HB.out|apply yc_|apply ya_|apply yb_)|exact HB.out)));(case aF=>exact (fun _ _=>trivial));(case aO=>exact (by (with_reducible repeat (first|apply Kd.yg_|apply Kd.yh_|apply Kd.R_drew));exact HO469.out));(case aS=>exact (yn_ (by repeat (first|(with_reducible first|exact HB.out|apply yc_|apply ya_|apply yb_)|exact HB.out))));(case aL=>have:=LMc8.out;omega);intro v471 w15 ho hb hg hat;rw [← Ny470.out] at ho;have n0_:=Aside0.mk (hb);have n1_:=Aside0.mk (ho);clear HB;clear HO469;have HB:=n0_;have HO472:=n1_;clear n0_ n1_;clear ho hb hg hat))
    go_ret
    have e:y470=l0:=by rw [Ny470.out,Ny467.out];rfl
    rw [e] at HO472
    exact ⟨_,rfl,HO472.out,HB.out⟩
end Go.Proofs.Ythimblhfjfngiaa.PText

