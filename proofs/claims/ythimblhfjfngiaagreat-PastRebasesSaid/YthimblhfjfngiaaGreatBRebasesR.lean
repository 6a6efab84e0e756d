/- PastRebases holds: for all steps, every number and all results the statement answers true. Part 18 of 24. -/
import Derived.Test.YthimblhfjfngiaaGreatBRebasesQ
namespace Go.Proofs.YthimblhfjfngiaaGreat.PText
open Go.RowKit Go.Lib Go.Proofs.YthimblhfjfngiaaGreatW.PrintWords Go.Proofs.YthimblhfjfngiaaGreatW.PrintLast Go.Proofs.YthimblhfjfngiaaGreatW.PrintMore
/-- the text that edits make, told to a bound that no machine reaches -/
def madeE (s:ByteArray) (l:List S91):List UInt8:=Tx.ap s.data.toList 0 ((Tx.ord eltS l).map toE)
def yIb_.f (a0:ByteArray) (l1:List S91):Option (ByteArray × Int) :=
  if fineE a0.size l1≠0 then some ((⟨#[]⟩:ByteArray),fineE a0.size l1)
  else if (madeE a0 l1).length≤140737488351232 then (if 200000 < (madeE a0 l1).length then some ((⟨#[]⟩:ByteArray),2) else some (⟨(madeE a0 l1).toArray⟩,0)) else none
/-- fine edits are one behind the other -/
theorem fine_chain (n:Nat) (l:List S91) (h:fineE n l=0):l.length≤10000∧n≤200000∧Tx.Ch n 0 ((Tx.ord eltS l).map toE):=by
  unfold fineE at h
  by_cases h1:200000 < n∨10000 < l.length
  · rw[if_pos h1] at h;cases h
  rw[if_neg h1] at h
  by_cases h2:l.any (badE n)=true
  · rw[if_pos h2] at h;cases h
  rw[if_neg h2] at h
  by_cases h3:Tx.clash 0 (-1) ((Tx.ord eltS l).map toE)=true
  · rw[if_pos h3] at h;cases h
  refine⟨by omega,by omega,Tx.clash_ch _ 0 (-1) ?_ (by omega) (by simpa using h3)⟩
  intro e he
  obtain⟨x,hx,rfl⟩:=List.mem_map.1 he
  have hx':=(Tx.yGb_ y3_).1 hx
  have hb:badE n x=false:=by
    cases q:badE n x with
    | false=>rfl
    | true=>exact absurd (List.any_eq_true.2 ⟨x,hx',q⟩) h2
  unfold badE at hb
  simp only[Bool.or_eq_false_iff,decide_eq_false_iff_not] at hb
  show 0≤x.f0∧x.f0≤x.f1∧x.f1≤(n:Int)
  omega
end Go.Proofs.YthimblhfjfngiaaGreat.PText

