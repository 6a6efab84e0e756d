/- PastKeeps holds: for all steps and every file's name the statement answers true. Part 20 of 20. -/
import Derived.Test.YthimblhfjfngiaaBKeepsS
import Derived.Deep.RegionLaw
import Derived.Deep.Slices
import Derived.ChangeArms
import Derived.ChangeOld
import Derived.Test.YthimblhfjfngiaaRows
import Derived.ProofKit
import Derived.OpenShut
import Derived.ShutString
import Derived.SizedLaws
import Derived.Deep.DeepHandedRow
import Derived.Deep.DeepWitnessRowRef
namespace Go.Proofs.Ythimblhfjfngiaa.PText
open Go.RowKit Go.Lib Go.Proofs.YthimblhfjfngiaaW.PrintWords Go.Proofs.YthimblhfjfngiaaW.PrintLast Go.Proofs.YthimblhfjfngiaaW.PrintMore
theorem bt_ten (s : ByteArray) (i : Nat) : bt s (i : Int) = 10 ↔ s.data.toList[i]? = some 10 := by
  have hs := size_list s
  unfold bt
  rw [Int.toNat_natCast]
  by_cases h : i < s.size
  · rw [dif_pos h]
    have h2 : i < s.data.toList.length := by omega
    rw [List.getElem?_eq_getElem h2]
    have e : s.data.toList[i] = s[i]'h := rfl
    rw [e]
    constructor
    · intro q
      have : (s[i]'h).toNat = 10 := by omega
      rw [Option.some.injEq]
      exact UInt8.toNat_inj.1 this
    · intro q
      rw [Option.some.inj q]
      rfl
  · rw [dif_neg h, List.getElem?_eq_none (by omega)]
    constructor
    · intro q; cases q
    · intro q; cases q
theorem rlines_l0 (s : ByteArray) (hs : s.size ≤ 100000) : ∀ (m i k : Nat) (out : List ByteArray) (p : Nat), s.size - i = m → p ≤ i → i ≤ s.size → m + 1 ≤ k → out.length ≤ p →
    smockingref01_Lines.l0 k s out (p : Int) (i : Int) = some (out ++ (Tx.lgo (Tx.sl s.data.toList p i) (s.data.toList.drop i)).map fun l => ⟨l.toArray⟩) := by
  have hsl := size_list s
  intro m
  induction m with
  | zero =>
    intro i k out p hm hp hi hk ho
    obtain ⟨k, rfl⟩ : ∃ q, k = q + 1 := ⟨k - 1, by omega⟩
    have hd : s.data.toList.drop i = [] := List.drop_of_length_le (by omega)
    have hslen := Tx.sl_len (s := s.data.toList) (a := (p : Int)) (b := (i : Int)) (by omega) (by omega) (by omega)
    have e0 : Tx.lgo (Tx.sl s.data.toList p i) [] = if Tx.sl s.data.toList p i = [] then [] else [Tx.sl s.data.toList p i] := rfl
    rw [smockingref01_Lines.l0, if_neg (by omega), hd, e0]
    by_cases c : p < s.size
    · rw [if_pos (by omega), if_pos (by omega), if_pos (by omega), if_pos (by omega), if_neg (by intro q; rw [q] at hslen; simp at hslen; omega)]
      have e : s.extract (p : Int).toNat s.size = ⟨(Tx.sl s.data.toList p i).toArray⟩ := by
        apply ba_ext
        obtain rfl : i = s.size := by omega
        have := ext_sl s (p : Int) (s.size : Int)
        rw [Int.toNat_natCast s.size] at this
        rw [this]
      rw [e]
      rfl
    · rw [if_neg (by omega), if_pos (by apply List.eq_nil_of_length_eq_zero; omega)]
      simp
  | succ m ih =>
    intro i k out p hm hp hi hk ho
    obtain ⟨k, rfl⟩ : ∃ q, k = q + 1 := ⟨k - 1, by omega⟩
    have hlt : i < s.data.toList.length := by omega
    have hd : s.data.toList.drop i = s.data.toList[i] :: s.data.toList.drop (i + 1) := List.drop_eq_getElem_cons hlt
    have hsn : Tx.sl s.data.toList p ((i + 1 : Nat) : Int) = Tx.sl s.data.toList p i ++ [s.data.toList[i]] := by
      have h1 := Tx.sl_sl (s := s.data.toList) (a := (p : Int)) (b := (i : Int)) (c := ((i + 1 : Nat) : Int)) (by omega) (by omega)
      rw [← h1]
      congr 1
      unfold Tx.sl
      rw [Int.toNat_natCast, Int.toNat_natCast, hd, show i + 1 - i = 1 by omega]
      rfl
    have e0 : ∀ cur, Tx.lgo cur (s.data.toList[i] :: s.data.toList.drop (i + 1)) = if s.data.toList[i] = 10 then (cur ++ [s.data.toList[i]]) :: Tx.lgo [] (s.data.toList.drop (i + 1)) else Tx.lgo (cur ++ [s.data.toList[i]]) (s.data.toList.drop (i + 1)) := fun _ => rfl
    have hb := bt_ten s i
    rw [List.getElem?_eq_getElem hlt, Option.some.injEq] at hb
    rw [smockingref01_Lines.l0, if_pos (by omega), if_pos (by omega), nx i (by omega), hd, e0]
    by_cases q : s.data.toList[i] = 10
    · rw [if_pos (hb.2 q), if_pos (by omega), if_pos (by omega), if_pos (by omega), if_pos (by omega), if_pos q, ih (i + 1) k _ (i + 1) (by omega) (by omega) (by omega) (by omega) (by rw [List.length_append, List.length_singleton]; omega), Tx.sl_same, ← hsn]
      have e : s.extract (p : Int).toNat ((i + 1 : Nat) : Int).toNat = ⟨(Tx.sl s.data.toList p ((i + 1 : Nat) : Int)).toArray⟩ := ba_ext (by rw [ext_sl])
      rw [e, List.append_assoc out, List.singleton_append]
      rfl
    · rw [if_neg (fun c => q (hb.1 c)), if_neg q, ih (i + 1) k out p (by omega) (by omega) (by omega) (by omega) ho, ← hsn]
theorem rlines_f (s : ByteArray) (hs : s.size ≤ 100000) (k : Nat) (hk : s.size + 1 ≤ k) : smockingref01_Lines.f k s = some (linesB s) := by
  have h := rlines_l0 s hs s.size 0 k [] 0 (by omega) (by omega) (by omega) hk (Nat.le_refl _)
  rw [show ((0 : Nat) : Int) = 0 from rfl, Tx.sl_same, List.drop_zero, List.nil_append] at h
  exact h
end Go.Proofs.Ythimblhfjfngiaa.PText

namespace Go.Proofs.Ythimblhfjfngiaa.PText
open Go.RowKit Go.Lib Go.Proofs.YthimblhfjfngiaaW.PrintWords Go.Proofs.YthimblhfjfngiaaW.PrintLast Go.Proofs.YthimblhfjfngiaaW.PrintMore
end Go.Proofs.Ythimblhfjfngiaa.PText

namespace Go.Proofs.Ythimblhfjfngiaa.PText
open Go.RowKit Go.Lib Go.Proofs.YthimblhfjfngiaaW.PrintWords Go.Proofs.YthimblhfjfngiaaW.PrintLast Go.Proofs.YthimblhfjfngiaaW.PrintMore
set_option linter.unusedVariables false
set_option linter.unusedSimpArgs false
/-- the edits of a side, sound and apart -/
structure Side (n : Nat) (x : List S59) : Prop where
  okay : ∀ e ∈ x, 0 ≤ e.f0 ∧ e.f0 ≤ e.f1 ∧ e.f1 ≤ (n : Int)
  far : ∀ a ∈ x, ∀ b ∈ x, a ≠ b → Tx.touch (toE a) (toE b) = false
  len : x.length ≤ 4000
theorem toE_ofE (e : Tx.Ed) : toE (ofE e) = e := by
  cases e
  unfold toE ofE
  simp only
  rw [Lib.toList_data]
theorem eg_sum : ∀ (l : List Tx.St) (a : Int) (c : Option Tx.Ed), ((Tx.eg a c l).map (fun e => e.x.length)).sum ≤ (c.toList.map (fun e => e.x.length)).sum + (l.map (fun x => x.2.length)).sum
  | [], a, c => Nat.le_add_right _ _
  | (o, x) :: l, a, c => by
    have hd : (c.getD ⟨a, a, []⟩).x.length = (c.toList.map (fun e => e.x.length)).sum := by cases c <;> simp
    rw [List.map_cons, List.sum_cons]
    show _ ≤ (c.toList.map (fun e => e.x.length)).sum + (x.length + (l.map (fun x => x.2.length)).sum)
    by_cases c1 : o = 32
    · subst c1
      have h := eg_sum l (a + x.length) none
      rw [Tx.eg_keep, List.map_append, List.sum_append]
      simp only [Option.toList_none, List.map_nil, List.sum_nil] at h
      omega
    · by_cases c2 : o = 45
      · subst c2
        have h := eg_sum l (a + x.length) (some ⟨(c.getD ⟨a, a, []⟩).f, a + x.length, (c.getD ⟨a, a, []⟩).x⟩)
        rw [Tx.eg_gone]
        simp only [Option.toList_some, List.map_cons, List.map_nil, List.sum_cons, List.sum_nil] at h
        omega
      · have h := eg_sum l a (some ⟨(c.getD ⟨a, a, []⟩).f, (c.getD ⟨a, a, []⟩).t, (c.getD ⟨a, a, []⟩).x ++ x⟩)
        rw [Tx.eg_come a c o x l c1 c2]
        simp only [Option.toList_some, List.map_cons, List.map_nil, List.sum_cons, List.sum_nil, List.length_append] at h
        omega
end Go.Proofs.Ythimblhfjfngiaa.PText

namespace Go.Proofs.Ythimblhfjfngiaa.PText
open Go.RowKit Go.Lib Go.Proofs.YthimblhfjfngiaaW.PrintWords Go.Proofs.YthimblhfjfngiaaW.PrintLast Go.Proofs.YthimblhfjfngiaaW.PrintMore
set_option linter.unusedVariables false
set_option linter.unusedSimpArgs false
/-- edits' errors: none at texts that are not large -/
theorem editsR_ok (b a : ByteArray) (hb : b.size ≤ 200000) (ha : a.size ≤ 200000) (lb : (linesB b).length ≤ 2000) (la : (linesB a).length ≤ 2000) : editsR b a = (editsS b a, 0) := by
  have h : (sizedR b a 0).2 = 0 := by
    unfold sizedR
    rw [if_neg (by omega), if_neg (by omega)]
  unfold editsR
  rw [if_pos h]
end Go.Proofs.Ythimblhfjfngiaa.PText

namespace Go.Proofs.Ythimblhfjfngiaa.PText
open Go.RowKit Go.Lib Go.Proofs.YthimblhfjfngiaaW.PrintWords Go.Proofs.YthimblhfjfngiaaW.PrintLast Go.Proofs.YthimblhfjfngiaaW.PrintMore
set_option linter.unusedVariables false
set_option linter.unusedSimpArgs false
theorem steps_sum : ∀ l : List Tx.St, (∀ x ∈ l, x.1 = 32 ∨ x.1 = 45 ∨ x.1 = 43) → (l.map (fun x => x.2.length)).sum ≤ (Tx.olds l).flatten.length + (Tx.news l).flatten.length
  | [], _ => Nat.zero_le _
  | (o, x) :: l, h => by
    have ih := steps_sum l (fun y m => h y (List.mem_cons_of_mem _ m))
    have hoh := h (o, x) List.mem_cons_self
    rw [List.map_cons, List.sum_cons]
    show x.length + _ ≤ _
    rcases hoh with e | e | e <;> (replace e : o = _ := e; subst e)
    · rw [Tx.olds_keep _ _ _ (by decide), Tx.news_keep _ _ _ (by decide), List.flatten_cons, List.flatten_cons, List.length_append, List.length_append]; omega
    · rw [Tx.olds_keep _ _ _ (by decide), Tx.news_gone, List.flatten_cons, List.length_append]; omega
    · rw [Tx.olds_come, Tx.news_keep _ _ _ (by decide), List.flatten_cons, List.length_append]; omega
theorem sumS_edits2 (b a : ByteArray) : sumS (editsR b a).1 ≤ b.size + a.size := by
  unfold editsR
  by_cases c : (sizedR b a 0).2 = 0
  · rw [if_pos c]
    have ho := Tx.stp_olds _ (Tx.lines (bL b)) (Tx.lines (bL a)) (Nat.le_refl _)
    have h1 := steps_sum (stT b a) (fun x hx => (stT_ok b a x hx).1)
    have e1 : Tx.olds (stT b a) = Tx.lines (bL b) := ho.1
    have e2 : Tx.news (stT b a) = Tx.lines (bL a) := ho.2
    rw [e1, e2, Tx.lines_flat, Tx.lines_flat, ← bL_size, ← bL_size] at h1
    have q := eg_sum (stT b a) 0 none
    rw [show ((none : Option Tx.Ed).toList.map (fun e => e.x.length)).sum = 0 from rfl, Nat.zero_add] at q
    have h3 : sumS (editsS b a) = ((Tx.eg 0 none (stT b a)).map (fun e => e.x.length)).sum := by
      unfold sumS editsS
      rw [List.map_map]
      rfl
    show sumS (editsS b a) ≤ _
    omega
  · rw [if_neg c]
    exact Nat.zero_le _
theorem editsS_toE (b a : ByteArray) : (editsS b a).map toE = Tx.edits (bL b) (bL a) := by
  unfold editsS
  rw [List.map_map]
  have : (toE ∘ ofE) = id := funext fun e => toE_ofE e
  rw [this, List.map_id]
  rfl
/-- the texts and lines of a statement about sides -/
structure Okay2 (b a c : ByteArray) : Prop where
  hb : b.size ≤ 3000
  ha : a.size ≤ 3000
  hc : c.size ≤ 3000
  lb : (linesB b).length ≤ 2000
  la : (linesB a).length ≤ 2000
  lc : (linesB c).length ≤ 2000
theorem has_l0 (l : List ByteArray) (x : ByteArray) (hl : l.length ≤ 1000000) : ∀ (m i k : Nat), l.length - i = m → i ≤ l.length → m + 1 ≤ k → ∃ r, rf0_Has.l0 k l x (i : Int) = some r ∧ (x ∈ l.drop i → 0 ≤ r)
  | 0, i, k, hm, hi, hk => by
    obtain ⟨k, rfl⟩ : ∃ q, k = q + 1 := ⟨k - 1, by omega⟩
    rw [rf0_Has.l0, if_neg (by omega)]
    exact ⟨_, rfl, fun q => by rw [List.drop_eq_nil_of_le (by omega)] at q; cases q⟩
  | m + 1, i, k, hm, hi, hk => by
    obtain ⟨k, rfl⟩ : ∃ q, k = q + 1 := ⟨k - 1, by omega⟩
    have hil : i < l.length := by omega
    rw [rf0_Has.l0, if_pos (by omega), if_pos (by omega), rdB l i hil]
    by_cases e : l[i].toList = x.toList
    · rw [if_pos e]; exact ⟨_, rfl, fun _ => by omega⟩
    · rw [if_neg e, nx i (by omega)]
      obtain ⟨r, h1, h2⟩ := has_l0 l x hl m (i + 1) k (by omega) (by omega) (by omega)
      refine ⟨r, h1, fun q => h2 ?_⟩
      rw [List.drop_eq_getElem_cons hil] at q
      rcases List.mem_cons.1 q with q | q
      · exact absurd (by rw [q]) e
      · exact q
theorem has_f (l : List ByteArray) (x : ByteArray) (hl : l.length ≤ 1000000) (k : Nat) (hk : l.length + 1 ≤ k) : ∃ r, rf0_Has.f k l x = some r ∧ (x ∈ l → 0 ≤ r) := by
  obtain ⟨r, h1, h2⟩ := has_l0 l x hl l.length 0 k (by omega) (by omega) hk
  exact ⟨r, h1, fun q => h2 (by rwa [List.drop_zero])⟩
end Go.Proofs.Ythimblhfjfngiaa.PText

namespace Go.Proofs.Ythimblhfjfngiaa.PText
open Go.RowKit Go.Lib Go.Proofs.YthimblhfjfngiaaW.PrintWords Go.Proofs.YthimblhfjfngiaaW.PrintLast Go.Proofs.YthimblhfjfngiaaW.PrintMore
set_option linter.unusedVariables false
set_option linter.unusedSimpArgs false
/-- the three boxes that pass writes, and all that stands -/
structure Bx (W0 w' : World) (base bo ba bn : Nat) (v : Value) (a n : Int) : Prop where
  os : w'.os = W0.os
  tape : w'.tape = W0.tape
  output : w'.output = W0.output
  size : W0.heap.size ≤ w'.heap.size
  far : ∀ k, k < base → k ≠ bo → k ≠ ba → k ≠ bn → w'.heap[k]? = W0.heap[k]?
  ho : w'.heap[bo]? = some (.cells #[v] 43 (0, 0))
  ha : w'.heap[ba]? = some (.cells #[.int .i64 a] 3 (0, 0))
  hn : w'.heap[bn]? = some (.cells #[.int .i64 n] 3 (0, 0))
section
variable {W0 w' w'' : World} {base bo ba bn : Nat} {v : Value} {a n : Int}
theorem box_put {w : World} {b t : Nat} {u x : Value} {fz : Nat × Nat} (h : w.heap[b]? = some (.cells #[u] t fz)) : (w.setCell ⟨b, 0, none⟩ x).heap[b]? = some (.cells #[x] t fz) := by
  unfold World.setCell
  simp only
  rw [Array.getElem?_modify, if_pos rfl, h]
  rfl
theorem box_size (w : World) (p : Addr) (x : Value) : (w.setCell p x).heap.size = w.heap.size := by unfold World.setCell; simp
theorem Bx.drew (h : Bx W0 w' base bo ba bn v a n) : Bx W0 w'.drew base bo ba bn v a n := ⟨h.os, h.tape, h.output, h.size, h.far, h.ho, h.ha, h.hn⟩
theorem Bx.below (h : Bx W0 w' base bo ba bn v a n) (h1 : bo < base) (h2 : ba < base) (h3 : bn < base) (hb : Below base w' w'') : Bx W0 w'' base bo ba bn v a n :=
  ⟨hb.os.trans h.os, hb.tape.trans h.tape, hb.output.trans h.output, Nat.le_trans h.size hb.size, fun k hk k1 k2 k3 => (hb.block k hk).trans (h.far k hk k1 k2 k3), (hb.block _ h1).trans h.ho, (hb.block _ h2).trans h.ha, (hb.block _ h3).trans h.hn⟩
theorem Bx.setA (h : Bx W0 w' base bo ba bn v a n) (n1 : bo ≠ ba) (n2 : bn ≠ ba) (x : Int) : Bx W0 (w'.setCell ⟨ba, 0, none⟩ (.int .i64 x)) base bo ba bn v x n :=
  ⟨h.os, h.tape, h.output, by rw [box_size]; exact h.size, fun k hk k1 k2 k3 => (Below.heap_setCell _ _ _ _ (fun e => k2 e)).trans (h.far k hk k1 k2 k3), (Below.heap_setCell _ _ _ _ (fun e => n1 e)).trans h.ho, box_put h.ha, (Below.heap_setCell _ _ _ _ (fun e => n2 e)).trans h.hn⟩
theorem Bx.setN (h : Bx W0 w' base bo ba bn v a n) (n1 : bo ≠ bn) (n2 : ba ≠ bn) (x : Int) : Bx W0 (w'.setCell ⟨bn, 0, none⟩ (.int .i64 x)) base bo ba bn v a x :=
  ⟨h.os, h.tape, h.output, by rw [box_size]; exact h.size, fun k hk k1 k2 k3 => (Below.heap_setCell _ _ _ _ (fun e => k3 e)).trans (h.far k hk k1 k2 k3), (Below.heap_setCell _ _ _ _ (fun e => n1 e)).trans h.ho, (Below.heap_setCell _ _ _ _ (fun e => n2 e)).trans h.ha, box_put h.hn⟩
theorem Bx.setO (h : Bx W0 w' base bo ba bn v a n) (n1 : ba ≠ bo) (n2 : bn ≠ bo) (x : Value) : Bx W0 (w'.setCell ⟨bo, 0, none⟩ x) base bo ba bn x a n :=
  ⟨h.os, h.tape, h.output, by rw [box_size]; exact h.size, fun k hk k1 k2 k3 => (Below.heap_setCell _ _ _ _ (fun e => k1 e)).trans (h.far k hk k1 k2 k3), box_put h.ho, (Below.heap_setCell _ _ _ _ (fun e => n1 e)).trans h.ha, (Below.heap_setCell _ _ _ _ (fun e => n2 e)).trans h.hn⟩
theorem Bx.cellA (h : Bx W0 w' base bo ba bn v a n) : w'.cell? ⟨ba, 0, none⟩ = some (.int .i64 a) ∧ w'.frozen? ⟨ba, 0, none⟩ = false := ⟨by unfold World.cell?; rw [h.ha]; rfl, by simp [World.frozen?, h.ha]⟩
theorem Bx.cellN (h : Bx W0 w' base bo ba bn v a n) : w'.cell? ⟨bn, 0, none⟩ = some (.int .i64 n) ∧ w'.frozen? ⟨bn, 0, none⟩ = false := ⟨by unfold World.cell?; rw [h.hn]; rfl, by simp [World.frozen?, h.hn]⟩
theorem Bx.cellO (h : Bx W0 w' base bo ba bn v a n) : w'.cell? ⟨bo, 0, none⟩ = some v ∧ w'.frozen? ⟨bo, 0, none⟩ = false := ⟨by unfold World.cell?; rw [h.ho]; rfl, by simp [World.frozen?, h.ho]⟩
theorem Bx.cell (h : Bx W0 w' base bo ba bn v a n) {b i : Nat} {u : Value} (hk : b < base) (h1 : b ≠ bo) (h2 : b ≠ ba) (h3 : b ≠ bn) (hc : W0.cell? ⟨b, i, none⟩ = some u) : w'.cell? ⟨b, i, none⟩ = some u := by
  rw [← hc]; unfold World.cell?; simp only [h.far b hk h1 h2 h3]
theorem R_setBox {w : World} {b : Nat} {x : Value} {v : Value} {D : List Int} (h : Kd.R (Kd.int .i64) 3 w base (fun _ => True) v D) (hb : b < base) : Kd.R (Kd.int .i64) 3 (w.setCell ⟨b, 0, none⟩ x) base (fun _ => True) v D :=
  Kd.R_mono (Kd.R_step (Kd.R_bound h) (fun k hk _ => Below.heap_setCell _ _ _ _ (fun e => by have := hk.2.1; subst e; omega))) (fun _ _ => trivial)
end
/-- the row that is kept for a part of another one: 'x[i:j:j]' -/
theorem C_part {w : World} {A : Option Addr} {who : List Int} (h : Kd.C (Kd.int .i64) w A who.length who) {i j : Nat} (hij : i ≤ j) (hj : j ≤ who.length) :
    Kd.C (Kd.int .i64) w (if j = i then A else A.map (·.add i)) (j - i) ((who.drop i).take (j - i)) := by
  have h2 := Kd.C_drop (m := i) (c := j) (Kd.C_take h hj) (by rw [List.length_take]; omega) (by rw [List.length_take]; omega)
  have e : (who.take j).drop i = (who.drop i).take (j - i) := by rw [List.drop_take]
  have el : ((who.drop i).take (j - i)).length = j - i := by rw [List.length_take, List.length_drop]; omega
  rw [e, el, show i * (Kd.int .i64).sz = i from Nat.mul_one i] at h2
  exact h2
theorem cut3 {P : Program} (t e : TypeId) {i : TypeInfo} (ht : P.underlying t = some (.slice e)) (hi : P.info? e = some i) (size : Nat) (hsz : i.size = size) (A : Option Addr) (n c : Nat) (lo hi' : Int) (h0 : 0 ≤ lo) (h1 : lo ≤ hi') (h2 : hi' ≤ n) (hc : n ≤ c) :
    ∀ W : World, (Instr.slice t (.slice A n c) (some (.int .i64 lo)) (some (.int .i64 hi')) (some (.int .i64 hi'))).run P W = .ok (.slice (if hi'.toNat = lo.toNat then A else A.map (·.add (lo.toNat * size))) (hi'.toNat - lo.toNat) (hi'.toNat - lo.toNat)) W := by
  intro W
  have hel : P.elem t = e := by simp [Program.elem, ht]
  have hu : P.underlying t = some (.slice (P.elem t)) := by rw [hel]; exact ht
  rw [run_slice_lhm W t A n c hu .i64 .i64 .i64 lo hi' hi' h0 h1 (Int.le_refl _) (by omega), hel]
  simp [sizeOf, typeInfo, hi, hsz, sliced, Result.andThen]
theorem cut43 (A : Option Addr) (n c i j : Nat) (hij : i ≤ j) (hj : j ≤ n) (hc : n ≤ c) (W : World) : (Instr.slice 43 (.slice A n c) (some (.int .i64 (i : Int))) (some (.int .i64 (j : Int))) (some (.int .i64 (j : Int)))).run Try.prog W = .ok (.slice (if j = i then A else A.map (·.add i)) (j - i) (j - i)) W := by
  obtain ⟨i0, hi, hz0, hz1, hz2⟩ := info_parts info3
  have := cut3 43 3 Try.underlying43 hi 1 hz1 A n c (i : Int) (j : Int) (by omega) (by omega) (by omega) hc W
  simpa using this
/-- what a pass leaves as it is: all but the boxes and the row that grows -/
def Stays (w w' : World) (bo ba bn : Nat) (row : Option Nat) : Prop := w.heap.size ≤ w'.heap.size ∧ ∀ k, k < w.heap.size → k ≠ bo → k ≠ ba → k ≠ bn → some k ≠ row → w'.heap[k]? = w.heap[k]?
theorem Stays.refl (w : World) (bo ba bn : Nat) (row : Option Nat) : Stays w w bo ba bn row := ⟨Nat.le_refl _, fun _ _ _ _ _ _ => rfl⟩
theorem Stays.drew {w w' : World} {bo ba bn : Nat} {row : Option Nat} (h : Stays w w' bo ba bn row) : Stays w w'.drew bo ba bn row := h
theorem Stays.set {w w' : World} {bo ba bn b : Nat} {row : Option Nat} {x : Value} (h : Stays w w' bo ba bn row) (hb : b = bo ∨ b = ba ∨ b = bn) : Stays w (w'.setCell ⟨b, 0, none⟩ x) bo ba bn row :=
  ⟨by rw [box_size]; exact h.1, fun k hk k1 k2 k3 k4 => (Below.heap_setCell _ _ _ _ (fun e => by rcases hb with q | q | q <;> (subst q; exact absurd e (by assumption)))).trans (h.2 k hk k1 k2 k3 k4)⟩
theorem Stays.grow {w w' w'' : World} {bo ba bn : Nat} {row : Option Nat} (h : Stays w w' bo ba bn row) (hg : w'.grownBy w'' row) (hs : w'.heap.size ≤ w''.heap.size) : Stays w w'' bo ba bn row :=
  ⟨Nat.le_trans h.1 hs, fun k hk k1 k2 k3 k4 => (hg.block k (Nat.lt_of_lt_of_le hk h.1) k4).trans (h.2 k hk k1 k2 k3 k4)⟩
/-- to append a part of a row of numbers to a row of one's own, in a region that draws its order -/
theorem append_part {ops : Array Oper} {o : Oper} {a : Act} {Q : Exit → Act → World → Prop} {Kc : Act → World → Prop} {W W0 : World} (base bo ba bn : Nat) {v : Value} {pa pn : Int} {D ys : List Int} {A : Option Addr} {m c : Nat} (hw : Region.wanted o (yielded ops a.tmps) = true)
    (ho : o.op = .call { callee := .builtin .append, args := #[.tmp 24, .tmp 29], argTypes := #[43, 43] }) (hs : a.eval (.tmp 24) = v) (hx : a.eval (.tmp 29) = .slice A m c)
    (hB : Bx W0 W base bo ba bn v pa pn) (hR : Kd.R (Kd.int .i64) 3 W base (fun _ => True) v D) (hC : Kd.C (Kd.int .i64) W A m ys) (l1 : bo < base) (l2 : ba < base) (l3 : bn < base) (l4 : base ≤ W0.heap.size) (hl : D.length + m ≤ 10000000)
    (h : ∀ A1 c1 w1, Bx W0 w1 base bo ba bn v pa pn → W.grownBy w1 v.ownBlock ∧ W.heap.size ≤ w1.heap.size → Kd.R (Kd.int .i64) 3 w1 base (fun _ => True) (.slice A1 (D.length + m) c1) (D ++ ys) → Kc (a.put o.dst (.slice A1 (D.length + m) c1)) w1) :
    if Region.wanted o (yielded ops a.tmps) = true then Oper.wp Try.prog o a W Kc Q else Kc (a.put o.dst undef) W := by
  refine Kd.R_append_rows_step (Kd.int .i64) (w0 := W) base hw (.tmp 24) (.tmp 29) 43 3 (.int .i64 0) 8 ho Try.underlying43 info3 rfl (by decide) (by omega) v D ys A m c (fun _ => True) (fun _ => False) hs hx hR hC (fun _ _ h => h) (fun _ h => h.elim) (fun _ _ => trivial) (Below.refl _ _) (Nat.le_trans l4 hB.size) (by omega) ?_
  intro v1 w1 h1 h2 h3 h4
  obtain ⟨A1, c1, rfl⟩ := Kd.R_slice h1
  have e : (D ++ ys).length = D.length + m := by rw [List.length_append, hC.1]
  rw [e] at h1 ⊢
  exact h A1 c1 w1 (hB.below l1 l2 l3 h2) ⟨h3, h3.size⟩ h1
theorem Bx.S {W0 w' : World} {base bo ba bn bl c1 n : Nat} {v : Value} {a : Int} {A1 : Option Addr} {k : Int} (hs : ∀ w' v a k, Bx W0 w' base bo ba bn v a k → w'.cell? ⟨bl, 0, none⟩ = some (.slice A1 n c1)) (h : Bx W0 w' base bo ba bn v a k) :
    w'.cell? ⟨bn, 0, none⟩ = some (.int .i64 k) ∧ w'.cell? ⟨bl, 0, none⟩ = some (.slice A1 n c1) ∧ ∃ v' a', Bx W0 w' base bo ba bn v' a' k := ⟨h.cellN.1, hs _ _ _ _ h, v, a, h⟩
set_option maxRecDepth 100000 in
set_option maxHeartbeats 4000000 in
theorem pass_calls (keep : Bool) (W0 : World) (base bo ba bn bs bl : Nat) (A2 : Option Addr) (c2 : Nat) (L : List ByteArray) (A1 : Option Addr) (c1 : Nat) (who : List Int) (off : Nat → Int) (i j : Nat)
    (hs : ∀ w' v a n, Bx W0 w' base bo ba bn v a n → w'.cell? ⟨bs, 0, none⟩ = some (.slice A2 L.length c2) ∧ Kd.C Kd.string w' A2 L.length L ∧ w'.cell? ⟨bl, 0, none⟩ = some (.slice A1 who.length c1) ∧ Kd.C (Kd.int .i64) w' A1 who.length who)
    (l1 : bo < base) (l2 : ba < base) (l3 : bn < base) (n1 : bo ≠ ba) (n2 : bo ≠ bn) (n3 : ba ≠ bn) (hbw : base ≤ W0.heap.size)
    (hij : i ≤ j) (hj : j ≤ L.length) (hjw : j ≤ who.length) (hc1 : who.length ≤ c1) (hL : L.length ≤ 1000000)
    (ho1 : ∀ m, ∀ h : m < L.length, off (m + 1) = off m + (L[m].size : Int)) (ho2 : ∀ m, m < j → off m < off j) (ho3 : ∀ m, m ≤ L.length → 0 ≤ off m ∧ off m ≤ 1000000000)
    (v : Value) (D : List Int) (w : World) (hB : Bx W0 w base bo ba bn v (off i) i) (hR : Kd.R (Kd.int .i64) 3 w base (fun _ => True) v D) (hD : D.length ≤ 1000000) :
    Calls Try.prog 56 #[.int .i64 (off j), .bool keep, .pointer (some ⟨bn, 0, none⟩), .pointer (some ⟨ba, 0, none⟩), .pointer (some ⟨bs, 0, none⟩), .pointer (some ⟨bo, 0, none⟩), .pointer (some ⟨bl, 0, none⟩)] w fun e w' => e = .returned (.tuple #[]) ∧
      Stays w w' bo ba bn v.ownBlock ∧ ∃ v', Bx W0 w' base bo ba bn v' (off j) j ∧ Kd.R (Kd.int .i64) 3 w' base (fun _ => True) v' (D ++ if keep = true then (who.drop i).take (j - i) else []) := by
  have HS := Aside0.mk hs
  have HB := Aside0.mk hB
  have HR := Aside0.mk hR
  have HL := Aside0.mk hL
  have HD := Aside0.mk hD
  have HO1 := Aside0.mk ho1
  have HO2 := Aside0.mk ho2
  have HO3 := Aside0.mk ho3
  have HN : Aside0 (i ≤ j ∧ j ≤ L.length ∧ j ≤ who.length ∧ who.length ≤ c1) := ⟨hij, hj, hjw, hc1⟩
  have HLT : Aside0 (bo < base ∧ ba < base ∧ bn < base ∧ base ≤ W0.heap.size) := ⟨l1, l2, l3, hbw⟩
  have HNE : Aside0 (bo ≠ ba ∧ bo ≠ bn ∧ ba ≠ bn) := ⟨n1, n2, n3⟩
  obtain ⟨hcn, -⟩ := hB.cellN
  clear hs hB hR hL hD ho1 ho2 ho3 hij hj hjw hc1 l1 l2 l3 hbw n1 n2 n3
  go_enter Try.func56, Try.ntmps56
  go_wp2_with fail
  go_loopg [11] (j - i) (fun kq v11 wr => ∃ m : Nat, Aside0 (j - m ≤ kq ∧ i ≤ m ∧ m ≤ j) ∧ Aside0 (Bx W0 wr base bo ba bn v (off m) m) ∧ Aside0 (Kd.R (Kd.int .i64) 3 wr base (fun _ => True) v D) ∧ Aside0 (Stays w wr bo ba bn v.ownBlock))
  case atStart => exact ⟨i, ⟨by omega, by omega, HN.out.1⟩, HB, HR, ⟨Stays.refl _ _ _ _ _⟩⟩
  case round =>
    obtain ⟨m, HM, HBm, HRm, HSm⟩ := hrel
    obtain ⟨hca, hfa⟩ := HBm.out.cellA
    obtain ⟨hcn', hfn⟩ := HBm.out.cellN
    by_cases hlt : m < j
    · have hb : decide (off m < off j) = true := decide_eq_true (HO2.out m hlt)
      obtain ⟨hbs, hcs, -, -⟩ := HS.out _ _ _ _ HBm.out
      have hmL : m < L.length := by have := HN.out; omega
      obtain ⟨k1, rfl⟩ : ∃ k1, gk = k1 + 1 := ⟨gk - 1, by have := HM.out; omega⟩
      obtain ⟨ad, e0, hx⟩ := Kd.at_string hcs (m : Int) (by omega) (by omega)
      cases e0
      rw [Int.toNat_natCast, rdB L m hmL] at hx
      have hw1 : wrap64 (off m + (L[m].size : Int)) = off (m + 1) := by
        have h1 := HO3.out (m + 1) (by omega)
        have h2 := HO1.out m hmL
        rw [w64 (by omega) (by omega)]; omega
      have hw2 : IntKind.i64.wrap (off m + (L[m].size : Int)) = off (m + 1) := (i64_w _).trans hw1
      have hw3 : wrap64 ((m : Int) + 1) = ((m + 1 : Nat) : Int) := nx m (by have := HL.out; omega)
      have hw4 : IntKind.i64.wrap ((m : Int) + 1) = ((m + 1 : Nat) : Int) := (i64_w _).trans hw3
      have hm0 : (0 : Int) ≤ (m : Int) := by omega
      have hm1 : (m : Int) < (L.length : Int) := by omega
      have hmd0 : decide ((0 : Int) ≤ (m : Int)) = true := by simp
      have hmd1 : decide ((m : Int) < (L.length : Int)) = true := decide_eq_true hm1
      generalize L[m] = x at *
      go_wp2_with fail
      go_region
      have HB2 : Aside0 (Bx W0 (wr.setCell ⟨ba, 0, none⟩ (.int .i64 (off (m + 1)))).drew base bo ba bn v (off (m + 1)) m) := ⟨(HBm.out.setA HNE.out.1 (fun e => HNE.out.2.2 e.symm) _).drew⟩
      have HR2 : Aside0 (Kd.R (Kd.int .i64) 3 (wr.setCell ⟨ba, 0, none⟩ (.int .i64 (off (m + 1)))).drew base (fun _ => True) v D) := ⟨Kd.R_drew (R_setBox HRm.out HLT.out.2.1)⟩
      have HS2 : Aside0 (Stays w (wr.setCell ⟨ba, 0, none⟩ (.int .i64 (off (m + 1)))).drew bo ba bn v.ownBlock) := ⟨(HSm.out.set (.inr (.inl rfl))).drew⟩
      obtain ⟨hcn2, hfn2⟩ := HB2.out.cellN
      clear hca hfa hcn' hfn hbs hcs hx hw1 hw2
      generalize (wr.setCell ⟨ba, 0, none⟩ (.int .i64 (off (m + 1)))).drew = W2 at *
      have HB3 : Aside0 (Bx W0 (W2.setCell ⟨bn, 0, none⟩ (.int .i64 ((m + 1 : Nat) : Int))) base bo ba bn v (off (m + 1)) ((m + 1 : Nat) : Int)) := ⟨HB2.out.setN HNE.out.2.1 HNE.out.2.2 _⟩
      have HR3 : Aside0 (Kd.R (Kd.int .i64) 3 (W2.setCell ⟨bn, 0, none⟩ (.int .i64 ((m + 1 : Nat) : Int))) base (fun _ => True) v D) := ⟨R_setBox HR2.out HLT.out.2.2.1⟩
      have HS3 : Aside0 (Stays w (W2.setCell ⟨bn, 0, none⟩ (.int .i64 ((m + 1 : Nat) : Int))) bo ba bn v.ownBlock) := ⟨HS2.out.set (.inr (.inr rfl))⟩
      go_wp2_with fail
      go_roundg k1
      case measure => have := HM.out; omega
      case rel => exact ⟨m + 1, ⟨by have := HM.out; omega, by have := HM.out; omega, by omega⟩, HB3, HR3, HS3⟩
    · have hmj : m = j := by have := HM.out; omega
      subst hmj
      have hb : decide (off m < off m) = false := by simp
      cases keep
      · go_wp2_with fail
        have HF : Aside0 (Stays w wr bo ba bn v.ownBlock ∧ ∃ v', Bx W0 wr base bo ba bn v' (off m) m ∧ Kd.R (Kd.int .i64) 3 wr base (fun _ => True) v' D) := ⟨HSm.out, v, HBm.out, HRm.out⟩
        first
          | (go_end0; exact ⟨rfl, HF.out⟩)
          | exact ⟨rfl, HF.out⟩
      · obtain ⟨A7, c7, rfl⟩ := Kd.R_slice HRm.out
        obtain ⟨hco, hfo⟩ := HBm.out.cellO
        have hcut := cut43 A1 who.length c1 i m HN.out.1 HN.out.2.2.1 HN.out.2.2.2
        obtain ⟨-, -, hbl, hcw⟩ := HS.out _ _ _ _ HBm.out
        have HCP := Aside0.mk (C_part hcw HN.out.1 HN.out.2.2.1)
        have HCP2 : Aside0 (Kd.C (Kd.int .i64) wr.drew (if m = i then A1 else A1.map (·.add i)) (m - i) ((who.drop i).take (m - i))) := ⟨Kd.C_drew HCP.out⟩
        clear hcw
        go_wp2_with fail
        have HBd := Aside0.mk HBm.out.drew
        refine start_ (n := 8) (S := fun w' => w'.cell? ⟨bo, 0, none⟩ = some (.slice A7 D.length c7) ∧ w'.cell? ⟨bn, 0, none⟩ = some (.int .i64 (m : Int)) ∧ w'.cell? ⟨bl, 0, none⟩ = some (.slice A1 who.length c1)) (ds := [7]) #[false, false, false, false, false, false, false, false] (by kernel_rfl) rfl rfl ⟨HBd.out.cellO.1, HBd.out.cellN.1, (HS.out _ _ _ _ HBd.out).2.2.1⟩ (fun hHeld => ?_)
        refine take_ (i := 0) (N := some 24) (v := ?_) (a' := ?_) #[true, false, false, false, false, false, false, false] rfl rfl (by kernel_rfl) (fun _ _ _ h => h) (Or.inl ⟨by rfl, ?_⟩) hHeld ?_ ?_
        rotate_left
        · rintro w' ⟨s0, s1, s2⟩
          go_simp
          with_reducible rfl
        rotate_left
        · simp only [Act.put, List.setIfInBounds_toArray, List.set_cons_zero, List.set_cons_succ, i64_w, i32_w]
          rfl
        refine take_ (i := 1) (N := some 25) (v := ?_) (a' := ?_) #[true, true, false, false, false, false, false, false] rfl rfl (by kernel_rfl) (fun _ _ _ h => h) (Or.inl ⟨by rfl, ?_⟩) hHeld ?_ ?_
        rotate_left
        · rintro w' ⟨s0, s1, s2⟩
          go_simp
          with_reducible rfl
        rotate_left
        · simp only [Act.put, List.setIfInBounds_toArray, List.set_cons_zero, List.set_cons_succ, i64_w, i32_w]
          rfl
        refine pure_ (i := 2) (N := some 26) (v := ?_) (a' := ?_) #[true, true, true, false, false, false, false, false] rfl rfl (by kernel_rfl) (fun _ _ _ h => h) (Or.inl ⟨by rfl, ?_⟩) ?_ ?_
        rotate_left
        · intro w'
          go_simp
          with_reducible rfl
        rotate_left
        · simp only [Act.put, List.setIfInBounds_toArray, List.set_cons_zero, List.set_cons_succ, i64_w, i32_w]
          rfl
        refine take_ (i := 3) (N := some 27) (v := ?_) (a' := ?_) #[true, true, true, true, false, false, false, false] rfl rfl (by kernel_rfl) (fun _ _ _ h => h) (Or.inl ⟨by rfl, ?_⟩) hHeld ?_ ?_
        rotate_left
        · rintro w' ⟨s0, s1, s2⟩
          go_simp
          with_reducible rfl
        rotate_left
        · simp only [Act.put, List.setIfInBounds_toArray, List.set_cons_zero, List.set_cons_succ, i64_w, i32_w]
          rfl
        refine take_ (i := 4) (N := some 28) (v := ?_) (a' := ?_) #[true, true, true, true, true, false, false, false] rfl rfl (by kernel_rfl) (fun _ _ _ h => h) (Or.inl ⟨by rfl, ?_⟩) hHeld ?_ ?_
        rotate_left
        · rintro w' ⟨s0, s1, s2⟩
          go_simp
          with_reducible rfl
        rotate_left
        · simp only [Act.put, List.setIfInBounds_toArray, List.set_cons_zero, List.set_cons_succ, i64_w, i32_w]
          rfl
        refine pure_ (i := 5) (N := some 29) (v := ?_) (a' := ?_) #[true, true, true, true, true, true, false, false] rfl rfl (by kernel_rfl) (fun _ _ _ h => h) (Or.inl ⟨by rfl, ?_⟩) ?_ ?_
        rotate_left
        · intro w'
          go_simp
          with_reducible rfl
        rotate_left
        · simp only [Act.put, List.setIfInBounds_toArray, List.set_cons_zero, List.set_cons_succ, i64_w, i32_w]
          rfl
        refine one_ (i := 6) (N := some 30) #[true, true, true, true, true, true, true, false] rfl rfl (by kernel_rfl) (by decide) (fun K hK => ?_)
        refine append_part (c := m - i) base bo ba bn ?hw1 ?hg1 ?hs1 ?hx1 HBm.out.drew (Kd.R_drew HRm.out) HCP2.out HLT.out.1 HLT.out.2.1 HLT.out.2.2.1 HLT.out.2.2.2 ?hL1 (fun A8 c8 w7 h1 hg h2 => ?_)
        (case hw1 => rfl)
        (case hg1 => rfl)
        (case hs1 => rfl)
        (case hx1 => rfl)
        (case hL1 => have h1 := HD.out; have h2 := HN.out; have h3 := HL.out; omega)
        have HB7 := Aside0.mk h1
        have HG7 := Aside0.mk hg
        have HO7 := Aside0.mk h2
        obtain ⟨hco7, hfo7⟩ := HB7.out.cellO
        clear h1 h2 hg
        refine hK.out _ _ ⟨HB7.out.cellO.1, HB7.out.cellN.1, (HS.out _ _ _ _ HB7.out).2.2.1⟩ (fun hHeld => ?_)
        clear hK K
        refine norm_ (a' := ?_) ?_ ?_
        rotate_left
        · show Act.put _ (some 30) _ = _
          simp only [Act.put, List.setIfInBounds_toArray, List.set_cons_zero, List.set_cons_succ, i64_w, i32_w]
          rfl
        refine last_ (i := 7) (N := none) #[true, true, true, true, true, true, true, true] rfl rfl (by kernel_rfl) (by decide) (fun K hK => ?_)
        refine skip_ (w1 := ?_) (by rfl) rfl ?_ ?_
        rotate_left
        · go_simp
          rfl
        refine hK.out _ _ ?_
        clear hK K
        refine done_ (by kernel_rfl) ?_
        have HF : Aside0 (Stays w (w7.setCell ⟨bo, 0, none⟩ (.slice A8 (D.length + (m - i)) c8)) bo ba bn (Value.slice A7 D.length c7).ownBlock ∧ ∃ v', Bx W0 (w7.setCell ⟨bo, 0, none⟩ (.slice A8 (D.length + (m - i)) c8)) base bo ba bn v' (off m) m ∧ Kd.R (Kd.int .i64) 3 (w7.setCell ⟨bo, 0, none⟩ (.slice A8 (D.length + (m - i)) c8)) base (fun _ => True) v' (D ++ (who.drop i).take (m - i))) :=
          ⟨((HSm.out.drew).grow HG7.out.1 HG7.out.2).set (.inl rfl), _, HB7.out.setO (fun e => HNE.out.1 e.symm) (fun e => HNE.out.2.1 e.symm) _, R_setBox HO7.out HLT.out.1⟩
        first
          | (go_end0; exact ⟨rfl, HF.out⟩)
          | exact ⟨rfl, HF.out⟩
end Go.Proofs.Ythimblhfjfngiaa.PText

namespace Go.Proofs.Ythimblhfjfngiaa.PText
open Go.RowKit Go.Lib Go.Sort Go.Proofs.YthimblhfjfngiaaW.PrintWords Go.Proofs.YthimblhfjfngiaaW.PrintLast Go.Proofs.YthimblhfjfngiaaW.PrintMore
set_option linter.unusedVariables false
set_option linter.unusedSimpArgs false
/-- the bytes before a line, as a number -/
def offT (s : ByteArray) (m : Nat) : Int := (Tx.off (Tx.lines (bL s)) m : Int)
theorem lines_len (s : ByteArray) : (linesB s).length = (Tx.lines (bL s)).length := by rw [← linesB_bL, List.length_map]
theorem offT_succ (s : ByteArray) (m : Nat) (h : m < (linesB s).length) : offT s (m + 1) = offT s m + ((linesB s)[m].size : Int) := by
  have h2 : m < (Tx.lines (bL s)).length := by rw [← lines_len]; exact h
  have e : (Tx.lines (bL s))[m] = bL (linesB s)[m] := by
    have := linesB_bL s
    have q : (Tx.lines (bL s))[m] = ((linesB s).map bL)[m]'(by rw [List.length_map]; exact h) := by congr 1; exact this.symm
    rw [q, List.getElem_map]
  unfold offT
  rw [Tx.off_succ h2, e, bL_size]; omega
theorem offT_lt (s : ByteArray) {m j : Nat} (h : m < j) (hj : j ≤ (linesB s).length) : offT s m < offT s j := by
  have := Tx.off_lt (Tx.lines_ne (bL s)) h (by rw [← lines_len]; exact hj)
  unfold offT; omega
theorem offT_le (s : ByteArray) (m : Nat) : 0 ≤ offT s m ∧ offT s m ≤ (s.size : Int) := by
  have h1 := Tx.off_mono (L := Tx.lines (bL s)) (Nat.le_max_left m (Tx.lines (bL s)).length)
  rw [Tx.off_all (Nat.le_max_right m (Tx.lines (bL s)).length), Tx.lines_flat, ← bL_size] at h1
  unfold offT; omega
theorem offT_all (s : ByteArray) : offT s (linesB s).length = (s.size : Int) := by
  unfold offT
  rw [lines_len, Tx.off_all (Nat.le_refl _), Tx.lines_flat, ← bL_size]
/-- whose the lines are -/
def blameR (old now : ByteArray) (who : List Int) (k : Int) : List Int := if (editsR old now).2 ≠ 0 then [] else Tx.bl (Tx.lines (bL old)) who k 0 (Tx.edits (bL old) (bL now))
def blT (old now : ByteArray) (who : List Int) (k : Int) (i : Nat) : Nat × List Int := Tx.blS (Tx.lines (bL old)) who k (Tx.edits (bL old) (bL now)) i
theorem bl_len (old now : ByteArray) (who : List Int) (k : Int) (hw : who.length = (linesB old).length) : (Tx.bl (Tx.lines (bL old)) who k 0 (Tx.edits (bL old) (bL now))).length = (linesB now).length := by
  rw [lines_len]
  exact (Tx.bl_edits (bL old) (bL now) who k (by rw [hw, lines_len]) (fun _ _ => True) (fun _ _ => trivial) (fun _ _ => trivial)).1
/-- an edit of whole lines: where it begins and ends, how it turns what is so far -/
structure EdAt (old : ByteArray) (who : List Int) (k : Int) (x : S59) (s s' : Nat × List Int) (f t n : Nat) : Prop where
  h0 : x.f0 = offT old f
  h1 : x.f1 = offT old t
  sf : s.1 ≤ f
  ft : f ≤ t
  tl : t ≤ (linesB old).length
  hn : n = (linesB x.f2).length
  hs : s' = (t, s.2 ++ (who.drop s.1).take (f - s.1) ++ List.replicate n k)
theorem edAt (old now : ByteArray) (who : List Int) (k : Int) (i : Nat) (h : i < (editsS old now).length) : ∃ f t n, EdAt old who k (editsS old now)[i] (blT old now who k i) (blT old now who k (i + 1)) f t n := by
  have hl : i < (Tx.edits (bL old) (bL now)).length := by rw [← editsS_toE, List.length_map]; exact h
  have e : (Tx.edits (bL old) (bL now))[i] = toE (editsS old now)[i] := by
    have := editsS_toE old now
    have q : (Tx.edits (bL old) (bL now))[i] = ((editsS old now).map toE)[i]'(by rw [List.length_map]; exact h) := by congr 1; exact this.symm
    rw [q, List.getElem_map]
  obtain ⟨x1, x2, x3, x4, -, -⟩ := Tx.ep_ix (Tx.lines_lns (bL old)) (Tx.edits_ep (bL old) (bL now) _ (List.getElem_mem hl))
  have hln := (Tx.blS_line (bL old) (bL now) who k i).2 hl
  have hs := Tx.blS_succ (Tx.lines (bL old)) who k (Tx.edits (bL old) (bL now)) i hl
  refine ⟨Tx.adv (Tx.lines (bL old)) (Tx.edits (bL old) (bL now))[i].f, Tx.adv (Tx.lines (bL old)) (Tx.edits (bL old) (bL now))[i].t, (linesB (editsS old now)[i].f2).length, ?_, ?_, hln, x1, by rw [lines_len]; exact x2, rfl, ?_⟩
  · unfold offT; rw [x3, e]; rfl
  · unfold offT; rw [x4, e]; rfl
  · unfold blT
    rw [hs]
    unfold Tx.blp
    have q : (Tx.lines (Tx.edits (bL old) (bL now))[i].x).length = (linesB (editsS old now)[i].f2).length := by
      rw [lines_len, e]
      show (Tx.lines (editsS old now)[i].f2.toList).length = _
      rw [Lib.toList_data]; rfl
    rw [q]
theorem blT_len (old now : ByteArray) (who : List Int) (k : Int) (hw : who.length = (linesB old).length) (i : Nat) : (blT old now who k i).2.length ≤ (linesB now).length := by
  rw [← bl_len old now who k hw]; exact Tx.blS_len _ _ _ _ _
theorem blT_line (old now : ByteArray) (who : List Int) (k : Int) (i : Nat) : (blT old now who k i).1 ≤ (linesB old).length := by
  rw [lines_len]; exact (Tx.blS_line (bL old) (bL now) who k i).1
theorem blT_all (old now : ByteArray) (who : List Int) (k : Int) (hw : who.length = (linesB old).length) : Tx.bl (Tx.lines (bL old)) who k 0 (Tx.edits (bL old) (bL now)) = (blT old now who k (editsS old now).length).2 ++ (who.drop (blT old now who k (editsS old now).length).1).take ((linesB old).length - (blT old now who k (editsS old now).length).1) := by
  have hl : (Tx.edits (bL old) (bL now)).length ≤ (editsS old now).length := by rw [← editsS_toE, List.length_map]; exact Nat.le_refl _
  rw [Tx.blS_all _ who k _ _ hl]
  unfold blT
  rw [List.take_of_length_le (by rw [List.length_drop]; omega)]
/-- the variables of past.blamed, laid, whatever the row is -/
theorem boxes2 {w w1 w2 : World} {vl v2 : Value} (h1 : Below (w.alloc (.cells #[vl] 43)).heap.size (w.alloc (.cells #[vl] 43)) w1)
    (h2 : Below (((w1.alloc (.cells #[.slice none 0 0] 43)).alloc (.cells #[.int .i64 0] 3)).alloc (.cells #[.int .i64 0] 3)).heap.size (((w1.alloc (.cells #[.slice none 0 0] 43)).alloc (.cells #[.int .i64 0] 3)).alloc (.cells #[.int .i64 0] 3)) w2) :
    (w2.alloc (.cells #[v2] 32)).heap[w1.heap.size]? = some (.cells #[.slice none 0 0] 43 (0, 0)) ∧ (w2.alloc (.cells #[v2] 32)).heap[w1.heap.size + 1]? = some (.cells #[.int .i64 0] 3 (0, 0)) ∧ (w2.alloc (.cells #[v2] 32)).heap[w1.heap.size + 1 + 1]? = some (.cells #[.int .i64 0] 3 (0, 0)) ∧
    (w2.alloc (.cells #[v2] 32)).cell? ⟨w.heap.size, 0, none⟩ = some vl ∧ (w2.alloc (.cells #[v2] 32)).cell? ⟨w2.heap.size, 0, none⟩ = some v2 ∧ Below w.heap.size w (w2.alloc (.cells #[v2] 32)) ∧ Below w1.heap.size w1 (w2.alloc (.cells #[v2] 32)) ∧ Below w2.heap.size w2 (w2.alloc (.cells #[v2] 32)) ∧
    (w2.alloc (.cells #[v2] 32)).heap.size = w2.heap.size + 1 ∧ w.heap.size < w1.heap.size ∧ w1.heap.size + 3 ≤ w2.heap.size := by
  obtain ⟨q1, q2, q3, q4, q5⟩ := heap3 w1 (.cells #[.slice none 0 0] 43) (.cells #[.int .i64 0] 3) (.cells #[.int .i64 0] 3)
  have s0 : (w.alloc (.cells #[vl] 43)).heap.size = w.heap.size + 1 := by simp
  have s1 := h1.size
  have s2 := h2.size
  have b2 : Below w2.heap.size w2 (w2.alloc (.cells #[v2] 32)) := (Below.refl _ w2).alloc (Nat.le_refl _) _
  have B12 : Below w1.heap.size w1 (w2.alloc (.cells #[v2] 32)) := (q5.trans (h2.mono (by omega))).trans (b2.mono (by omega))
  have hh : ∀ k, k < w1.heap.size + 3 → (w2.alloc (.cells #[v2] 32)).heap[k]? = (((w1.alloc (.cells #[.slice none 0 0] 43)).alloc (.cells #[.int .i64 0] 3)).alloc (.cells #[.int .i64 0] 3)).heap[k]? := fun k hk => (b2.block k (by omega)).trans (h2.block k (by omega))
  refine ⟨(hh _ (by omega)).trans q1, (hh (w1.heap.size + 1) (by omega)).trans q2, (hh (w1.heap.size + 1 + 1) (by omega)).trans q3, ?_, ?_, ?_, B12, b2, by simp, by omega, by omega⟩
  · have : (w2.alloc (.cells #[v2] 32)).heap[w.heap.size]? = some (.cells #[vl] 43 (0, 0)) := (B12.block _ (by omega)).trans ((h1.block _ (by omega)).trans (heap_nw w _))
    unfold World.cell?; rw [this]; rfl
  · unfold World.cell?; rw [heap_nw]; rfl
  · exact (((Below.refl _ w).alloc (Nat.le_refl _) _).trans (h1.mono (by omega))).trans (B12.mono (by omega))
/-- what lies below the boxes stands -/
theorem Bx.low {W0 w' x : World} {base bo ba bn b : Nat} {v : Value} {a n : Int} (h : Bx W0 w' base bo ba bn v a n) (hb : Below b x W0) (l0 : b ≤ base) (l1 : b ≤ bo) (l2 : b ≤ ba) (l3 : b ≤ bn) : Below b x w' :=
  ⟨h.os.trans hb.os, h.tape.trans hb.tape, h.output.trans hb.output, Nat.le_trans hb.size h.size, fun k hk => (h.far k (by omega) (by omega) (by omega) (by omega)).trans (hb.block k hk)⟩
/-- a row that was made behind the boxes stands -/
theorem Bx.row {W0 w' w2 : World} {base bo ba bn b e : Nat} {v u : Value} {a n : Int} {α : Type} {d : Kd α} {xs : List α} (h : Bx W0 w' base bo ba bn v a n) (hr : Kd.R d e w2 b (fun _ => True) u xs) (hb : Below w2.heap.size w2 W0) (l0 : w2.heap.size ≤ base) (l1 : bo < b) (l2 : ba < b) (l3 : bn < b) : Kd.R d e w' b (fun _ => True) u xs :=
  Kd.R_mono (Kd.R_step (Kd.R_bound hr) (fun k hk hk2 => by
    have := hk.2.1
    exact (h.far k (by omega) (by omega) (by omega) (by omega)).trans (hb.block k hk2))) (fun _ _ => trivial)
attribute [irreducible] offT blT
end Go.Proofs.Ythimblhfjfngiaa.PText

namespace Go.Proofs.Ythimblhfjfngiaa.PText
open Go.RowKit Go.Lib Go.Sort Go.Proofs.YthimblhfjfngiaaW.PrintWords Go.Proofs.YthimblhfjfngiaaW.PrintLast Go.Proofs.YthimblhfjfngiaaW.PrintMore
set_option linter.unusedVariables false
set_option linter.unusedSimpArgs false
theorem Stays.box {w w' : World} {bo ba bn k base : Nat} {row : Option Nat} {o : Obj} (h : Stays w w' bo ba bn row) (hk : w.heap[k]? = some o) (h0 : bo < base ∧ ba < base ∧ bn < base) (h1 : base ≤ k) (hr : some k ≠ row) : w'.heap[k]? = some o :=
  (h.2 k (Array.getElem?_eq_some_iff.1 hk).1 (by omega) (by omega) (by omega) hr).trans hk
theorem cells3 {w : World} {b : Nat} {x y z : Value} {t : TypeId} (h : w.heap[b]? = some (.cells #[x, y, z] t (0, 0))) : w.cell? ⟨b, 0, none⟩ = some x ∧ w.cell? ⟨b, 1, none⟩ = some y ∧ w.cell? ⟨b, 2, none⟩ = some z := by
  refine ⟨?_, ?_, ?_⟩ <;> (unfold World.cell?; rw [h]; rfl)
theorem R_ne59 {w : World} {base k : Nat} {v : Value} {D : List Int} {cs : Array Value} (h : Kd.R (Kd.int .i64) 3 w base (fun _ => True) v D) (hk : w.heap[k]? = some (.cells cs 59 (0, 0))) : some k ≠ v.ownBlock := Kd.R_ne h hk (by decide)
theorem R_neH {w : World} {base : Nat} {v : Value} {D : List Int} (h : Kd.R (Kd.int .i64) 3 w base (fun _ => True) v D) : some w.heap.size ≠ v.ownBlock := fun e => by
  have := Kd.R_lt h _ e.symm
  omega
theorem sumS_mem : ∀ {l : List S59} {x : S59}, x ∈ l → x.f2.size ≤ sumS l
  | y :: l, x, h => by
    rw [sumS_cons]
    rcases List.mem_cons.1 h with rfl | h
    · omega
    · have := sumS_mem h; omega
theorem len_part (who : List Int) {s s' : Nat × List Int} {f t n N : Nat} {k : Int} (h : s' = (t, s.2 ++ (who.drop s.1).take (f - s.1) ++ List.replicate n k)) (hl : s'.2.length ≤ N) : (s.2 ++ (who.drop s.1).take (f - s.1)).length ≤ N := by
  rw [h] at hl
  simp only [List.length_append] at hl
  rw [List.length_append]
  omega
set_option maxRecDepth 100000 in
set_option maxHeartbeats 8000000 in
theorem blamed_calls (old now : ByteArray) (A1 : Option Addr) (c1 : Nat) (who : List Int) (k : Int) (w : World) (hC : Kd.C (Kd.int .i64) w A1 who.length who) (hc1 : who.length ≤ c1) (hw : who.length = (linesB old).length) (hos : old.size ≤ 1000000) (hns : now.size ≤ 1000000) :
    Calls Try.prog 35 #[.string old, .string now, .slice A1 who.length c1, .int .i64 k] w fun e w' => ∃ v, e = .returned (.tuple #[v, .int .i64 (editsR old now).2]) ∧ Kd.R (Kd.int .i64) 3 w' w.heap.size (fun _ => True) v (blameR old now who k) ∧ Below w.heap.size w w' := by
  have HE0 := Aside0.mk (edits_f old now (by omega) (by omega) 5000000 (Nat.le_refl _))
  by_cases hz : (editsR old now).2 = 0
  · have hes : editsR old now = (editsS old now, 0) := by
      unfold editsR at hz ⊢
      by_cases c : (sizedR old now 0).2 = 0
      · rw [if_pos c]
      · rw [if_neg c] at hz; exact absurd hz c
    have hbr : blameR old now who k = Tx.bl (Tx.lines (bL old)) who k 0 (Tx.edits (bL old) (bL now)) := by unfold blameR; rw [if_neg (fun q => q hz)]
    have HFIN := Aside0.mk (hbr.trans (blT_all old now who k hw))
    rw [hes] at HE0
    rw [hz]
    have HLN : Aside0 ((editsS old now).length ≤ 4000) := ⟨by have := editsR_len old now; rw [hes] at this; exact this⟩
    have HED := Aside0.mk (edAt old now who k)
    have HBT := Aside0.mk (blT_len old now who k hw)
    have HLI := Aside0.mk (blT_line old now who k)
    have HT2 : Aside0 (∀ x ∈ editsS old now, x.f2.size ≤ 100000000) := ⟨fun x hx => by
      have := sumS_edits2 old now
      rw [hes] at this
      have h2 : x.f2.size ≤ sumS (editsS old now) := by
        exact sumS_mem hx
      show x.f2.size ≤ _
      have h3 : sumS (editsS old now) ≤ old.size + now.size := this
      omega⟩
    have hln := linesB_len old
    have hnn := linesB_len now
    have HW := Aside0.mk hw
    have HLB : Aside0 ((linesB old).length ≤ 1000000 ∧ (linesB now).length ≤ 1000000) := ⟨by omega, by omega⟩
    have HOS := Aside0.mk hos
    have HC := Aside0.mk hC
    have HC1 := Aside0.mk hc1
    have h00 : blT old now who k 0 = (0, []) := by unfold blT; rfl
    have H00 := Aside0.mk h00
    have HTL : Aside0 (text_Lines.f old = some (linesB old)) := ⟨by unfold text_Lines.f; rw [if_pos (by omega)]⟩
    generalize editsS old now = es at *
    clear hz hes hbr hln hnn hw hos hns hC hc1 h00
    go_enter Try.func35, Try.ntmps35
    go_wp2_with (first
      | (go_at_call 41; refine (text_Edits.calls 5000000 old now es 0 _ HE0.out).mono ?_; rintro e w1 ⟨v1, rfl, ho, hb⟩; obtain ⟨Ae, ce, rfl⟩ := Kd.R_slice ho; have HOE := Aside0.mk ho; have HB1 := Aside0.mk hb; clear ho hb HE0)
      | (go_at_call 55; go_loud (refine (text_Lines.calls _ _ _ HTL.out).mono ?_; rintro e w2 ⟨v2, rfl, ho, hb⟩; obtain ⟨A2, c2, rfl⟩ := Kd.R_slice ho; have HX := Aside0.mk (boxes2 (v2 := .slice A2 (linesB old).length c2) HB1.out hb); have HOL := Aside0.mk ho; clear ho hb HB1)))
    obtain ⟨hbo, hba, hbn, hbl, hbs, hB, hB1, hB2, hz, hlt1, hlt2⟩ := HX.out
    clear HX
    have hW3 : ((((w1.alloc (.cells #[.slice none 0 0] 43)).alloc (.cells #[.int .i64 0] 3)).alloc (.cells #[.int .i64 0] 3)).heap.size : Nat) = w1.heap.size + 3 := by simp
    rw [hW3] at HOL
    clear hW3
    generalize w2.alloc (.cells #[.slice A2 (linesB old).length c2] 32) = W0 at *
    have HOE2 : Aside0 (Kd.R k59 59 w1 w.heap.size (fun _ => True) (.slice Ae es.length ce) es) := ⟨Kd.R_lower HOE.out (by simp)⟩
    clear HOE
    have l1 : w1.heap.size + 1 + 1 < W0.heap.size := by omega
    have l2 : w1.heap.size + 1 < W0.heap.size := by omega
    have l3 : w1.heap.size < W0.heap.size := by omega
    have l4 : w.heap.size < W0.heap.size := by omega
    have l5 : w.heap.size ≤ w1.heap.size := by omega
    have l6 : w2.heap.size < W0.heap.size := by omega
    have HLO : Aside0 (w.heap.size < w1.heap.size ∧ w1.heap.size + 3 ≤ w2.heap.size ∧ w2.heap.size < W0.heap.size) := ⟨by omega, by omega, by omega⟩
    have HBX0 : Aside0 (Bx W0 W0 W0.heap.size w1.heap.size (w1.heap.size + 1) (w1.heap.size + 1 + 1) (.slice none 0 0) 0 0) := ⟨⟨rfl, rfl, rfl, Nat.le_refl _, fun _ _ _ _ _ => rfl, hbo, hba, hbn⟩⟩
    have HS : Aside0 (∀ w' v a n, Bx W0 w' W0.heap.size w1.heap.size (w1.heap.size + 1) (w1.heap.size + 1 + 1) v a n → w'.cell? ⟨w2.heap.size, 0, none⟩ = some (.slice A2 (linesB old).length c2) ∧ Kd.C Kd.string w' A2 (linesB old).length (linesB old) ∧ w'.cell? ⟨w.heap.size, 0, none⟩ = some (.slice A1 who.length c1) ∧ Kd.C (Kd.int .i64) w' A1 who.length who) :=
      ⟨fun w' v a n h => ⟨h.cell l6 (by omega) (by omega) (by omega) hbs, (Kd.R_reads' (h.row HOL.out hB2 (by omega) (by omega) (by omega) (by omega))).2.2, h.cell l4 (by omega) (by omega) (by omega) hbl, Kd.C_below HC.out (h.low hB (by omega) (by omega) (by omega) (by omega))⟩⟩
    have HCE : Aside0 (∀ w' v a n, Bx W0 w' W0.heap.size w1.heap.size (w1.heap.size + 1) (w1.heap.size + 1 + 1) v a n → Kd.C k59 w' Ae es.length es) :=
      ⟨fun w' v a n h => Kd.C_below (Kd.R_reads' HOE2.out).2.2 (h.low hB1 (by omega) (by omega) (by omega) (by omega))⟩
    have HBF : Aside0 (∀ w' v a n, Bx W0 w' W0.heap.size w1.heap.size (w1.heap.size + 1) (w1.heap.size + 1 + 1) v a n → Below w.heap.size w w') := ⟨fun w' v a n h => h.low hB (by omega) (by omega) (by omega) (by omega)⟩
    clear hbo hba hbn hbl hbs hB hB1 hB2 hz hlt1 hlt2 HOL HOE2
    generalize w2.heap.size = bs at *
    generalize hbn : w1.heap.size + 1 + 1 = bn at *
    generalize hba : w1.heap.size + 1 = ba at *
    generalize hbo : w1.heap.size = bo at *
    have HNE : Aside0 (bo ≠ ba ∧ bo ≠ bn ∧ ba ≠ bn) := ⟨by omega, by omega, by omega⟩
    have HLT : Aside0 (bo < W0.heap.size ∧ ba < W0.heap.size ∧ bn < W0.heap.size) := ⟨l3, l2, l1⟩
    have HPA : Aside0 (∀ (keep : Bool) (i j : Nat) (v : Value) (D X : List Int) (wr : World), X = D ++ (if keep = true then (who.drop i).take (j - i) else []) → i ≤ j → j ≤ (linesB old).length → Bx W0 wr W0.heap.size bo ba bn v (offT old i) i → Kd.R (Kd.int .i64) 3 wr W0.heap.size (fun _ => True) v D → D.length ≤ 1000000 →
        Calls Try.prog 56 #[.int .i64 (offT old j), .bool keep, .pointer (some ⟨bn, 0, none⟩), .pointer (some ⟨ba, 0, none⟩), .pointer (some ⟨bs, 0, none⟩), .pointer (some ⟨bo, 0, none⟩), .pointer (some ⟨w.heap.size, 0, none⟩)] wr fun e w' => e = .returned (.tuple #[]) ∧
          Stays wr w' bo ba bn v.ownBlock ∧ ∃ v', Bx W0 w' W0.heap.size bo ba bn v' (offT old j) j ∧ Kd.R (Kd.int .i64) 3 w' W0.heap.size (fun _ => True) v' X) :=
      ⟨fun keep i j v D X wr hX h1 h2 h3 h4 h5 => by rw [hX]; exact pass_calls keep W0 W0.heap.size bo ba bn bs w.heap.size A2 c2 (linesB old) A1 c1 who (offT old) i j HS.out l3 l2 l1 (by omega) (by omega) (by omega) (Nat.le_refl _) h1 h2 (by rw [HW.out]; exact h2) HC1.out HLB.out.1 (fun m h => offT_succ old m h) (fun m h => offT_lt old h h2) (fun m h => by have := offT_le old m; have := HOS.out; omega) v D wr h3 h4 h5⟩
    clear l1 l2 l3 l4 l5 l6 hbn hba hbo HS
    have h0l : ((Tx.off (Tx.lines (bL old)) 0 : Nat) : Int) = 0 := by unfold Tx.off; simp
    have hb0 : Bx W0 W0 W0.heap.size bo ba bn (.slice none 0 0) (offT old (blT old now who k 0).1) ((blT old now who k 0).1 : Int) := by
      rw [H00.out]
      show Bx _ _ _ _ _ _ _ (offT old 0) 0
      unfold offT
      rw [h0l]; exact HBX0.out
    have HB0 := Aside0.mk hb0
    clear hb0 h0l HBX0
    go_loopg [33] (es.length + 1) (fun kq v33 w' => ∃ (i : Nat) (v : Value), v33 = .int .i64 (i : Int) ∧ Aside0 (es.length - i < kq ∧ i ≤ es.length) ∧ Aside0 (Bx W0 w' W0.heap.size bo ba bn v (offT old (blT old now who k i).1) ((blT old now who k i).1 : Int)) ∧ Aside0 (Kd.R (Kd.int .i64) 3 w' W0.heap.size (fun _ => True) v (blT old now who k i).2))
    case atStart => exact ⟨0, .slice none 0 0, rfl, ⟨by omega, by omega⟩, HB0, ⟨by rw [H00.out]; exact Kd.R_nil _ _ _ _ _⟩⟩
    case round =>
      obtain ⟨i, v, rfl, HI, HBe, HR⟩ := hrel
      obtain ⟨k1, rfl⟩ : ∃ k1, gk = k1 + 1 := ⟨gk - 1, by have := HI.out.1; omega⟩
      have hwr : W0.heap.size ≤ wr.heap.size := HBe.out.size
      by_cases hlt : i < es.length
      · have hb : decide ((i : Int) < (es.length : Int)) = true := by simp; omega
        have hb2 : decide ((0 : Int) ≤ (i : Int)) = true := by simp
        obtain ⟨ad, e0, hx0, hx1, hx2⟩ := at_T59 (HCE.out _ _ _ _ HBe.out) (i : Int) (by omega) (by omega)
        cases e0
        rw [Int.toNat_natCast] at hx0 hx1 hx2
        rw [rd34_at es i hlt] at hx0 hx1 hx2
        obtain ⟨f, t, n, hed⟩ := HED.out i hlt
        have hy := HT2.out es[i] (List.getElem_mem hlt)
        have hsl := HBT.out i
        have hsl1 := HBT.out (i + 1)
        have HI2 : Aside0 (es.length - i < k1 + 1 ∧ i < es.length) := ⟨HI.out.1, hlt⟩
        have HLS := HLB.out.2
        generalize es[i] = x at *
        generalize hs : blT old now who k i = s at *
        generalize hs' : blT old now who k (i + 1) = s' at *
        obtain ⟨g0, g1, tt⟩ := x
        obtain ⟨e1, e2, q1, q2, q3, q4, q5⟩ := hed
        cases e1
        cases e2
        have HT := Aside0.mk (show text_Lines.f tt = some (linesB tt) by unfold text_Lines.f; rw [if_pos (by simp only at hy; omega)])
        have HQ : Aside0 (s.1 ≤ f ∧ f ≤ t ∧ t ≤ (linesB old).length) := ⟨q1, q2, q3⟩
        have HN := Aside0.mk q4
        have HSS := Aside0.mk q5
        have HS' := Aside0.mk hs'
        have HSL : Aside0 (s.2.length ≤ 1000000 ∧ s'.2.length ≤ 1000000) := ⟨by omega, by omega⟩
        clear q1 q2 q3 q4 q5 hs' hs hsl hsl1 HLS hy HI
        have HWA : Aside0 (Below wr.heap.size wr (wr.alloc (.cells #[.int .i64 (offT old f), .int .i64 (offT old t), .string tt] 59))) := ⟨(Below.refl _ wr).alloc (Nat.le_refl _) _⟩
        have HBA : Aside0 (Bx W0 (wr.alloc (.cells #[.int .i64 (offT old f), .int .i64 (offT old t), .string tt] 59)) W0.heap.size bo ba bn v (offT old s.1) (s.1 : Int)) := ⟨HBe.out.below HLT.out.1 HLT.out.2.1 HLT.out.2.2 (HWA.out.mono hwr)⟩
        have HRA : Aside0 (Kd.R (Kd.int .i64) 3 (wr.alloc (.cells #[.int .i64 (offT old f), .int .i64 (offT old t), .string tt] 59)) W0.heap.size (fun _ => True) v s.2) := ⟨Kd.R_alloc HR.out _⟩
        have HOW := Aside0.mk (R_neH HR.out)
        have hxb : (wr.alloc (.cells #[.int .i64 (offT old f), .int .i64 (offT old t), .string tt] 59)).heap[wr.heap.size]? = some (.cells #[.int .i64 (offT old f), .int .i64 (offT old t), .string tt] 59 (0, 0)) := heap_nw _ _
        obtain ⟨hz0, hz1, hz2⟩ := cells3 hxb
        have HXB := Aside0.mk hxb
        have HWR := Aside0.mk hwr
        clear hxb hz1 hz2 hwr
        go_wp2_with (first
          | (go_at_call 56; with_reducible refine (HPA.out true s.1 f v s.2 (s.2 ++ (who.drop s.1).take (f - s.1)) _ (by rw [if_pos rfl]) HQ.out.1 (Nat.le_trans HQ.out.2.1 HQ.out.2.2) HBA.out HRA.out HSL.out.1).mono ?_; rintro e w3 ⟨rfl, hst, v3, hb3, hr3⟩; have hxb3 := hst.box HXB.out HLT.out HWR.out HOW.out; obtain ⟨hz03, hz13, hz23⟩ := cells3 hxb3; have HXB3 := Aside0.mk hxb3; have HB3 := Aside0.mk hb3; have HR3 := Aside0.mk hr3; clear hst hb3 hr3 hxb3 hz03 hz23)
          | (go_at_call 56; with_reducible refine (HPA.out false f t v3 (s.2 ++ (who.drop s.1).take (f - s.1)) (s.2 ++ (who.drop s.1).take (f - s.1)) w3 (by rw [if_neg (by decide), List.append_nil]) HQ.out.2.1 HQ.out.2.2 HB3.out HR3.out (len_part who HSS.out HSL.out.2)).mono ?_; rintro e w4 ⟨rfl, hst, v4, hb4, hr4⟩; have hxb4 := hst.box HXB3.out HLT.out HWR.out (R_ne59 HR3.out HXB3.out); obtain ⟨hz04, hz14, hz24⟩ := cells3 hxb4; have HXB4 := Aside0.mk hxb4; have HB4 := Aside0.mk hb4; have HR4 := Aside0.mk hr4; clear hst hb4 hr4 hxb4 hz04 hz14 hz13)
          | (go_at_call 55; with_reducible refine (text_Lines.calls _ _ _ HT.out).mono ?_; rintro e w5 ⟨v5, rfl, ho, hb⟩; obtain ⟨A5, c5, rfl⟩ := Kd.R_slice ho; have HB5 := Aside0.mk hb; clear ho hb))
        have HB6 : Aside0 (Bx W0 w5 W0.heap.size bo ba bn v4 (offT old t) (t : Int)) := ⟨HB4.out.below HLT.out.1 HLT.out.2.1 HLT.out.2.2 (HB5.out.mono HB4.out.size)⟩
        have HR6 : Aside0 (Kd.R (Kd.int .i64) 3 w5 W0.heap.size (fun _ => True) v4 (s.2 ++ (who.drop s.1).take (f - s.1) ++ List.replicate 0 k)) := ⟨by
          have := Kd.R_below HR4.out HB5.out
          rw [List.replicate_zero, List.append_nil]; exact this⟩
        have HS'' : Aside0 (s'.2 = s.2 ++ (who.drop s.1).take (f - s.1) ++ List.replicate n k ∧ s'.1 = t) := ⟨by rw [HSS.out]; exact ⟨rfl, rfl⟩⟩
        have hn : ((linesB tt).length : Int) = (n : Int) := by rw [HN.out]
        rw [hn]
        clear hlt hn hx0 hx1 hx2 HB5 HB4 HB3 HBA HRA HXB HXB3 HXB4 HR3 HR4 HBe HR hz0 hz24 HT HWA
        generalize s.2 ++ (who.drop s.1).take (f - s.1) = D at *
        go_loopg [49] (n + 1) (fun kq v49 w' => ∃ (j : Nat) (v : Value), v49 = .int .i64 (j : Int) ∧ Aside0 (n - j < kq ∧ j ≤ n) ∧ Aside0 (Bx W0 w' W0.heap.size bo ba bn v (offT old t) (t : Int)) ∧ Aside0 (Kd.R (Kd.int .i64) 3 w' W0.heap.size (fun _ => True) v (D ++ List.replicate j k)))
        case atStart => exact ⟨0, v4, rfl, ⟨by omega, by omega⟩, HB6, HR6⟩
        case round =>
          obtain ⟨j, v, rfl, HJ, HBj, HRj⟩ := hrel
          obtain ⟨k2, rfl⟩ : ∃ k2, gk = k2 + 1 := ⟨gk - 1, by have := HJ.out.1; omega⟩
          have HWJ := Aside0.mk HBj.out.size
          have hlen : (D ++ List.replicate j k).length ≤ 1000000 := by
            have h1 := HSL.out.2
            rw [HS''.out.1, List.length_append, List.length_replicate] at h1
            have h3 := HJ.out.2
            rw [List.length_append, List.length_replicate]
            omega
          have hnb : n ≤ 1000000 := by
            have h1 := HSL.out.2
            rw [HS''.out.1, List.length_append, List.length_replicate] at h1
            omega
          have HLE := Aside0.mk hlen
          have HNB := Aside0.mk hnb
          clear hlen hnb
          by_cases hlt : j < n
          · have hb : decide ((j : Int) < (n : Int)) = true := by simp; omega
            obtain ⟨A7, c7, rfl⟩ := Kd.R_slice HRj.out
            obtain ⟨hoc, hof⟩ := HBj.out.cellO
            have HLTj := Aside0.mk hlt
            have HEQ : Aside0 (D ++ List.replicate j k ++ [k] = D ++ List.replicate (j + 1) k) := ⟨by rw [List.append_assoc, List.replicate_succ']⟩
            generalize D ++ List.replicate j k = L at *
            go_wp2_with (at_builtin; go_loud (refine Kd.R_append (Kd.int .i64) (w0 := wr) W0.heap.size rfl (.tmp 51) (.tmp 53) 43 3 (.int .i64 0) 8 rfl Try.underlying43 info3 rfl (by decide) (by omega) _ L k [.int .i64 k] (fun _ => True) (fun _ => False) rfl (by first | rfl | (simp; done) | (go_simp; done)) rfl (fun _ hk => hk.elim) (fun _ _ => trivial) HRj.out (Below.refl W0.heap.size wr) HWJ.out (by have := HLE.out; omega) ?_); intro v1 w7 ho hb hg hat; go_loud (obtain ⟨A8, c8, rfl⟩ := Kd.R_slice ho; have HB7 := Aside0.mk (HBj.out.below HLT.out.1 HLT.out.2.1 HLT.out.2.2 hb); obtain ⟨hc7, hf7⟩ := HB7.out.cellO; rw [show (L ++ [k]).length = L.length + 1 by rw [List.length_append]; rfl] at ho; have HO7 := Aside0.mk ho; clear ho hb hg hat))
            go_roundg k2
            case measure => have := HJ.out.1; have := HLTj.out; omega
            case rel => exact ⟨j + 1, _, congrArg (Value.int .i64) (by first | exact nx j (by have := HNB.out; have := HJ.out; omega) | (have := HNB.out; have := HJ.out; omega)), ⟨by have := HJ.out.1; omega, by have := HLTj.out; omega⟩, ⟨HB7.out.setO (fun e => HNE.out.1 e.symm) (fun e => HNE.out.2.1 e.symm) _⟩, ⟨by rw [← HEQ.out]; exact R_setBox HO7.out HLT.out.1⟩⟩
          · have hb : decide ((j : Int) < (n : Int)) = false := by simp; omega
            have hjn : j = n := by have := HJ.out.2; omega
            subst hjn
            rw [← HS''.out.1] at HRj
            rw [← HS''.out.2] at HBj
            have HRz : Aside0 (Kd.R (Kd.int .i64) 3 wr W0.heap.size (fun _ => True) v (blT old now who k (i + 1)).2) := ⟨by rw [HS'.out]; exact HRj.out⟩
            have HBz : Aside0 (Bx W0 wr W0.heap.size bo ba bn v (offT old (blT old now who k (i + 1)).1) ((blT old now who k (i + 1)).1 : Int)) := ⟨by rw [HS'.out]; exact HBj.out⟩
            go_wp2_with fail
            go_roundg k1
            case measure => have := HI2.out; omega
            case rel => exact ⟨i + 1, _, congrArg (Value.int .i64) (by first | exact nx i (by have := HLN.out; have := HI2.out; omega) | (have := HLN.out; have := HI2.out; omega)), ⟨by have := HI2.out; omega, by have := HI2.out; omega⟩, HBz, HRz⟩
      · have hb : decide ((i : Int) < (es.length : Int)) = false := by simp; omega
        have hin : i = es.length := by have := HI.out.2; omega
        have HPZ := HPA.out true (blT old now who k i).1 (linesB old).length v (blT old now who k i).2 _ wr rfl (HLI.out i) (Nat.le_refl _) HBe.out HR.out (by have := HBT.out i; have := HLB.out; omega)
        rw [offT_all, if_pos rfl, hin, ← HFIN.out] at HPZ
        have HPY := Aside0.mk HPZ
        clear HPZ
        go_wp2_with (go_at_call 56; with_reducible refine HPY.out.mono ?_; rintro e w3 ⟨rfl, hst, v3, hb3, hr3⟩; obtain ⟨A3, c3, rfl⟩ := Kd.R_slice hr3; obtain ⟨ho3, hf3⟩ := hb3.cellO; have HB3 := Aside0.mk hb3; have HR3 := Aside0.mk hr3; clear hst hb3 hr3 HPY)
        go_ret2
        exact ⟨_, rfl, Kd.R_lower HR3.out (by have := HLO.out; omega), HBF.out _ _ _ _ HB3.out⟩
  · have hbr : blameR old now who k = [] := by unfold blameR; rw [if_pos hz]
    have HBR := Aside0.mk hbr
    rcases hr : editsR old now with ⟨es, er⟩
    rw [hr] at HE0 hz
    show Calls Try.prog 35 _ w fun e w' => ∃ v, e = .returned (.tuple #[v, .int .i64 er]) ∧ _
    have hb : (er == 0) = false := beq_eq_false_iff_ne.2 hz
    clear hbr hr hz hC hc1 hw hos hns
    go_enter Try.func35, Try.ntmps35
    go_wp2_with (go_at_call 41; refine (text_Edits.calls 5000000 old now es er _ HE0.out).mono ?_; rintro e w1 ⟨v1, rfl, ho, hb1⟩; obtain ⟨Ae, ce, rfl⟩ := Kd.R_slice ho; have HB1 := Aside0.mk hb1; clear ho hb1 HE0)
    go_ret2
    exact ⟨_, rfl, by rw [HBR.out]; exact Kd.R_nil _ _ _ _ _, ((Below.refl _ w).alloc (Nat.le_refl _) _).trans (HB1.out.mono (by simp))⟩
end Go.Proofs.Ythimblhfjfngiaa.PText

namespace Go.Proofs.Ythimblhfjfngiaa.PText
open Go.RowKit Go.Lib Go.Sort Go.Proofs.YthimblhfjfngiaaW.PrintWords Go.Proofs.YthimblhfjfngiaaW.PrintLast Go.Proofs.YthimblhfjfngiaaW.PrintMore
set_option linter.unusedVariables false
set_option linter.unusedSimpArgs false
/-- the row of a past of some commits -/
theorem past_at {w : World} {base p : Nat} {L : List Com} (h : PastIs w base p L) (hl : 0 < L.length) : ∃ (g cap : Nat) (cs : List Nat), p < w.heap.size ∧ g < w.heap.size ∧ base ≤ p ∧ base ≤ g ∧ L.length ≤ cap ∧ w.cell? ⟨p, 0, none⟩ = some (.slice (some ⟨g, 0, none⟩) L.length cap) ∧
    ∀ i, ∀ h : i < L.length, ∃ c, w.cell? ⟨g, i, none⟩ = some (.pointer (some ⟨c, 0, none⟩)) ∧ ComAt w c L[i] := by
  obtain ⟨A, cap, ps, h1, h2, h3, h4, h5⟩ := h
  have h4' : Kd.R kP 77 w base (fun _ => True) (.slice A ps.length cap) ps := by rw [h1]; exact h4
  obtain ⟨g, cap', hv, hb, -, cs, hc⟩ := Kd.R_form h4' (by omega)
  cases hv
  refine ⟨g, cap, ps, (Array.getElem?_eq_some_iff.1 h3).1, (Array.getElem?_eq_some_iff.1 hc).1, h2, hb, (Kd.R_reads' h4).2.1, by unfold World.cell?; rw [h3]; rfl, fun i hi => ?_⟩
  have hi' : i < ps.length := by omega
  obtain ⟨q1, -⟩ := Kd.R_cell (enc := fun c : Nat => Value.pointer (some ⟨c, 0, none⟩)) (h1 := fun _ => rfl) 0 h4' (i : Int) (by omega) (by omega)
  have hr : rdOf 0 ps (i : Int) = ps[i] := by unfold rdOf; rw [Int.toNat_natCast, List.getD_eq_getElem?_getD, List.getElem?_eq_getElem hi']; rfl
  rw [Int.toNat_natCast, hr] at q1
  exact ⟨ps[i], q1, h5 i hi hi'⟩
/-- whose the lines are behind the commits to come -/
def blGo (file : ByteArray) : List Com → Nat → ByteArray → List Int → List Int × Int
  | [], _, _, out => (out, 0)
  | c :: L, k, old, out => if (editsR old (findR c.files file).1).2 ≠ 0 then ([], (editsR old (findR c.files file).1).2) else blGo file L (k + 1) (findR c.files file).1 (blameR old (findR c.files file).1 out (k : Int))
def blameA (L : List Com) (file : ByteArray) : List Int × Int := match L.getLast? with
  | none => ([], 4)
  | some c => if (findR c.files file).2 = true then blGo file L 0 ⟨#[]⟩ [] else ([], 4)
/-- commits that are not large -/
def Small (L : List Com) : Prop := ∀ c ∈ L, c.files.length ≤ 10000 ∧ ∀ x ∈ c.files, x.f1.size ≤ 1000000
theorem findR_size {l : List S53} {file : ByteArray} {B : Nat} (h : ∀ x ∈ l, x.f1.size ≤ B) : (findR l file).1.size ≤ B := by
  unfold findR
  cases q : l.find? (nameP file) with
  | none => exact Nat.zero_le _
  | some x => exact h x (List.mem_of_find?_eq_some q)
theorem keepP {w w' : World} {p g m : Nat} {u v : Value} (hb : Below w.heap.size w w') (h1 : w.cell? ⟨p, 0, none⟩ = some u) (h2 : w.cell? ⟨g, m, none⟩ = some v) (l1 : p < w.heap.size) (l2 : g < w.heap.size) :
    w'.cell? ⟨p, 0, none⟩ = some u ∧ w'.cell? ⟨g, m, none⟩ = some v ∧ Below w.heap.size w w' := ⟨(hb.cell (p := ⟨p, 0, none⟩) l1).trans h1, (hb.cell (p := ⟨g, m, none⟩) l2).trans h2, hb⟩
set_option maxRecDepth 100000 in
set_option maxHeartbeats 4000000 in
theorem blame_calls (base p : Nat) (L : List Com) (file : ByteArray) (w : World) (hP : PastIs w base p L) (hL : L.length ≤ 1000) (hS : Small L) :
    Calls Try.prog 19 #[.pointer (some ⟨p, 0, none⟩), .string file] w fun e w' => ∃ v, e = .returned (.tuple #[v, .int .i64 (blameA L file).2]) ∧ Kd.R (Kd.int .i64) 3 w' w.heap.size (fun _ => True) v (blameA L file).1 ∧ Below w.heap.size w w' := by
  by_cases hl : L = []
  · subst hl
    obtain ⟨A, cap, ps, h1, h2, h3, h4, h5⟩ := hP
    have hx0 : w.cell? ⟨p, 0, none⟩ = some (.slice A 0 cap) := by unfold World.cell?; rw [h3]; rfl
    clear h1 h2 h3 h4 h5
    go_enter Try.func19, Try.ntmps19
    go_wp2_with fail
    go_ret2
    exact ⟨_, rfl, Kd.R_nil _ _ _ _ _, Below.refl _ _⟩
  · have hlen : 0 < L.length := List.length_pos_iff.2 hl
    obtain ⟨g, cap, cs, l1, l2, b1, b2, hcap, hc1, hat⟩ := past_at hP hlen
    obtain ⟨m, hm⟩ : ∃ m, L.length = m + 1 := ⟨L.length - 1, by omega⟩
    obtain ⟨c, hc2, hcom⟩ := hat m (by omega)
    have hlast : L.getLast? = some L[m] := by
      rw [List.getLast?_eq_getElem?, show L.length - 1 = m by omega]
      exact List.getElem?_eq_getElem (by omega)
    have hA : blameA L file = if (findR L[m].files file).2 = true then blGo file L 0 ⟨#[]⟩ [] else ([], 4) := by unfold blameA; rw [hlast]
    have HA := Aside0.mk hA
    have hx := (hS L[m] (List.getElem_mem (by omega))).1
    generalize hr : findR L[m].files file = r at *
    obtain ⟨t0, ok⟩ := r
    have HF : Aside0 (∀ wr, Below w.heap.size w wr → Calls Try.prog 34 #[.pointer (some ⟨c, 0, none⟩), .string file] wr fun e w' => e = .returned (.tuple #[.string t0, .bool ok]) ∧ Below wr.heap.size wr w') :=
      ⟨fun wr hb => by
        have q := find_calls c L[m] file wr (hcom.keep (PKept.of_below hb)) hx
        rw [hr] at q
        exact q⟩
    have HAT := Aside0.mk hat
    have HSM := Aside0.mk hS
    have HM := Aside0.mk hm
    have HLL := Aside0.mk hL
    have HLT : Aside0 (p < w.heap.size ∧ g < w.heap.size) := ⟨l1, l2⟩
    have HB0 := Aside0.mk (Below.refl w.heap.size w)
    have hz : ((L.length : Int) == 0) = false := beq_eq_false_iff_ne.2 (by omega)
    have hw0 : wrap64 ((L.length : Int) - 1) = (m : Int) := by rw [w64 (by omega) (by omega)]; omega
    have hw1 : IntKind.i64.wrap ((L.length : Int) - 1) = (m : Int) := (i64_w _).trans hw0
    have hm0 : (0 : Int) ≤ (m : Int) := by omega
    have hm1 : (m : Int) < (L.length : Int) := by omega
    have hHC1 := Aside0.mk hc1
    have hHC2 := Aside0.mk hc2
    clear hA hP hL hS hlast hat hcom hr hx hl hlen hm b1 b2 hcap
    go_enter Try.func19, Try.ntmps19
    go_wp2_with fail
    go_region_held3 (fun w' => w'.cell? ⟨p, 0, none⟩ = some (.slice (some ⟨g, 0, none⟩) L.length cap) ∧ w'.cell? ⟨g, m, none⟩ = some (.pointer (some ⟨c, 0, none⟩)) ∧ Below w.heap.size w w')
      (first
        | exact keepP (Below.refl _ _) hHC1.out hHC2.out HLT.out.1 HLT.out.2
        | exact keepP (Below.refl _ _).drew hHC1.out hHC2.out HLT.out.1 HLT.out.2
        | (go_split_ands; exact keepP (Below.drew (by assumption)) hHC1.out hHC2.out HLT.out.1 HLT.out.2)
        | (go_split_ands; exact keepP (below_step (by assumption) hb) hHC1.out hHC2.out HLT.out.1 HLT.out.2)
        | (go_split_ands; exact keepP (below_step (by assumption) hb).drew hHC1.out hHC2.out HLT.out.1 HLT.out.2))
      (first
        | (go_at_call 34; with_reducible refine (HF.out _ ?zb).mono ?_; (case zb => (go_split_ands; assumption)); rintro e w5 ⟨rfl, hb⟩))
    go_split_ands
    have HB5 : Aside0 (Below w.heap.size w w5) := ⟨by assumption⟩
    clear hb
    cases ok
    · have hA' : blameA L file = ([], 4) := by rw [HA.out, if_neg (by decide)]
      have HA2 := Aside0.mk hA'
      clear hA' HA
      go_wp2_with fail
      go_ret2
      rw [HA2.out]
      exact ⟨_, rfl, Kd.R_nil _ _ _ _ _, HB5.out⟩
    · have hA' : blameA L file = blGo file L 0 ⟨#[]⟩ [] := by rw [HA.out, if_pos rfl]
      have HA2 := Aside0.mk hA'
      have hp5 := (HB5.out.cell (p := ⟨p, 0, none⟩) HLT.out.1).trans hHC1.out
      clear hA' HA HF
      go_wp2_with fail
      go_loopg [48, 8, 9] (L.length + 1) (fun kq v48 v8 v9 w' => ∃ (i : Nat) (old : ByteArray) (out : List Int) (A : Option Addr) (cc : Nat), v48 = .int .i64 (i : Int) ∧ v8 = .slice A out.length cc ∧ v9 = .string old ∧ Aside0 (L.length - i < kq ∧ i ≤ L.length) ∧ Aside0 (Below w.heap.size w w') ∧ Aside0 (Kd.R (Kd.int .i64) 3 w' w.heap.size (fun _ => True) (.slice A out.length cc) out) ∧ Aside0 (blGo file L 0 ⟨#[]⟩ [] = blGo file (L.drop i) i old out) ∧ Aside0 (out.length = (linesB old).length ∧ old.size ≤ 1000000))
      case atStart => exact ⟨0, ⟨#[]⟩, [], none, 0, rfl, rfl, rfl, ⟨by omega, by omega⟩, HB5, ⟨Kd.R_nil _ _ _ _ _⟩, ⟨by rw [List.drop_zero]⟩, ⟨rfl, by show 0 ≤ 1000000; omega⟩⟩
      case round =>
        obtain ⟨i, old, out, A, cc, rfl, rfl, rfl, HI, HBe, HR, HG, HO⟩ := hrel
        obtain ⟨k1, rfl⟩ : ∃ k1, gk = k1 + 1 := ⟨gk - 1, by have := HI.out.1; omega⟩
        by_cases hlt : i < L.length
        · have hb : decide ((i : Int) < (L.length : Int)) = true := by simp; omega
          have hb2 : decide ((0 : Int) ≤ (i : Int)) = true := by simp
          have hi0 : (0 : Int) ≤ (i : Int) := by omega
          have hi1 : (i : Int) < (L.length : Int) := by omega
          obtain ⟨ci, hci, hcomi⟩ := HAT.out i hlt
          have hci' := (HBe.out.cell (p := ⟨g, i, none⟩) HLT.out.2).trans hci
          have HF : Aside0 (∀ wr, Below w.heap.size w wr → Calls Try.prog 34 #[.pointer (some ⟨ci, 0, none⟩), .string file] wr fun e w' => e = .returned (.tuple #[.string (findR L[i].files file).1, .bool (findR L[i].files file).2]) ∧ Below wr.heap.size wr w') :=
            ⟨fun wr hb => find_calls ci L[i] file wr (hcomi.keep (PKept.of_below hb)) (HSM.out L[i] (List.getElem_mem hlt)).1⟩
          have hsz := findR_size (file := file) (HSM.out L[i] (List.getElem_mem hlt)).2
          have hgo : blGo file (L.drop i) i old out = if (editsR old (findR L[i].files file).1).2 ≠ 0 then ([], (editsR old (findR L[i].files file).1).2) else blGo file (L.drop (i + 1)) (i + 1) (findR L[i].files file).1 (blameR old (findR L[i].files file).1 out (i : Int)) := by
            rw [List.drop_eq_getElem_cons hlt]; rfl
          have HG2 := Aside0.mk (HG.out.trans hgo)
          have HLT2 := Aside0.mk hlt
          generalize (findR L[i].files file).2 = fok at *
          generalize (findR L[i].files file).1 = now at *
          have HNS := Aside0.mk hsz
          have HBL : Aside0 (∀ wr, Below w.heap.size w wr → Kd.R (Kd.int .i64) 3 wr w.heap.size (fun _ => True) (.slice A out.length cc) out → Calls Try.prog 35 #[.string old, .string now, .slice A out.length cc, .int .i64 (i : Int)] wr fun e w' => ∃ v, e = .returned (.tuple #[v, .int .i64 (editsR old now).2]) ∧ Kd.R (Kd.int .i64) 3 w' wr.heap.size (fun _ => True) v (blameR old now out (i : Int)) ∧ Below wr.heap.size wr w') :=
            ⟨fun wr hb h => blamed_calls old now A cc out (i : Int) wr (Kd.R_reads' h).2.2 (Kd.R_reads' h).2.1 HO.out.1 HO.out.2 HNS.out⟩
          have hbl : (editsR old now).2 = 0 → (blameR old now out (i : Int)).length = (linesB now).length := fun h => by
            unfold blameR
            rw [if_neg (fun q => q h)]
            exact bl_len old now out _ HO.out.1
          have HBLN := Aside0.mk hbl
          clear hci hcomi hsz hgo HG hbl
          by_cases hz : (editsR old now).2 = 0
          · rw [hz] at HBL
            have HZ := Aside0.mk hz
            clear hz
            go_wp2_with (first
              | (go_at_call 34; with_reducible refine (HF.out _ HBe.out).mono ?_; rintro e w6 ⟨rfl, hb6⟩; have HB6 := Aside0.mk (below_step HBe.out hb6); have HR6 := Aside0.mk (Kd.R_below HR.out hb6); clear hb6 HF)
              | (go_at_call 35; with_reducible refine (HBL.out _ HB6.out HR6.out).mono ?_; rintro e w7 ⟨v7, rfl, ho, hb7⟩; obtain ⟨A7, c7, rfl⟩ := Kd.R_slice ho; have HO7 := Aside0.mk (Kd.R_lower ho HB6.out.size); have HB7 := Aside0.mk (below_step HB6.out hb7); clear ho hb7 HBL))
            go_roundg k1
            case measure => have := HI.out.1; have := HLT2.out; omega
            case rel => exact ⟨i + 1, now, blameR old now out (i : Int), A7, c7, congrArg (Value.int .i64) (by first | exact nx i (by have := HLL.out; have := HLT2.out; omega) | (have := HLL.out; have := HLT2.out; omega)), rfl, rfl, ⟨by have := HI.out.1; have := HLT2.out; omega, by have := HLT2.out; omega⟩, HB7, HO7, ⟨by rw [HG2.out, if_neg (fun q => q HZ.out)]⟩, ⟨HBLN.out HZ.out, HNS.out⟩⟩
          · have hbz : ((editsR old now).2 == 0) = false := beq_eq_false_iff_ne.2 hz
            have HFN : Aside0 (blGo file L 0 ⟨#[]⟩ [] = ([], (editsR old now).2)) := ⟨by rw [HG2.out, if_pos hz]⟩
            clear hz HG2 HBLN
            generalize (editsR old now).2 = er at *
            go_wp2_with (first
              | (go_at_call 34; with_reducible refine (HF.out _ HBe.out).mono ?_; rintro e w6 ⟨rfl, hb6⟩; have HB6 := Aside0.mk (below_step HBe.out hb6); have HR6 := Aside0.mk (Kd.R_below HR.out hb6); clear hb6 HF)
              | (go_at_call 35; with_reducible refine (HBL.out _ HB6.out HR6.out).mono ?_; rintro e w7 ⟨v7, rfl, ho, hb7⟩; obtain ⟨A7, c7, rfl⟩ := Kd.R_slice ho; have HB7 := Aside0.mk (below_step HB6.out hb7); clear ho hb7 HBL))
            go_ret2
            rw [HA2.out, HFN.out]
            exact ⟨_, rfl, Kd.R_nil _ _ _ _ _, HB7.out⟩
        · have hb : decide ((i : Int) < (L.length : Int)) = false := by simp; omega
          have hdn : L.drop i = [] := List.drop_eq_nil_of_le (by omega)
          have HFN : Aside0 (blGo file L 0 ⟨#[]⟩ [] = (out, 0)) := ⟨by rw [HG.out, hdn]; rfl⟩
          clear HG hdn
          go_wp2_with fail
          go_ret2
          rw [HA2.out, HFN.out]
          exact ⟨_, rfl, HR.out, HBe.out⟩
end Go.Proofs.Ythimblhfjfngiaa.PText

namespace Go.Proofs.Ythimblhfjfngiaa.PText
open Go.RowKit Go.Lib Go.Sort Go.Proofs.YthimblhfjfngiaaW.PrintWords Go.Proofs.YthimblhfjfngiaaW.PrintLast Go.Proofs.YthimblhfjfngiaaW.PrintMore
set_option linter.unusedVariables false
set_option linter.unusedSimpArgs false
set_option maxRecDepth 100000 in
set_option maxHeartbeats 1000000 in
theorem has_calls (base p : Nat) (L : List Com) (k : Int) (w : World) (hP : PastIs w base p L) :
    Calls Try.prog 36 #[.pointer (some ⟨p, 0, none⟩), .int .i64 k] w fun e w' => e = .returned (.bool (decide (0 ≤ k ∧ k < (L.length : Int)))) ∧ Below w.heap.size w w' := by
  obtain ⟨A, cap, ps, h1, h2, h3, h4, h5⟩ := hP
  have hx0 : w.cell? ⟨p, 0, none⟩ = some (.slice A L.length cap) := by unfold World.cell?; rw [h3]; rfl
  clear h1 h2 h3 h4 h5
  by_cases g1 : 0 ≤ k
  · have d1 : decide (0 ≤ k) = true := decide_eq_true g1
    by_cases g2 : k < (L.length : Int)
    · have d2 : decide (k < (L.length : Int)) = true := decide_eq_true g2
      have d3 : decide (0 ≤ k ∧ k < (L.length : Int)) = true := decide_eq_true ⟨g1, g2⟩
      rw [d3]
      go_enter Try.func36, Try.ntmps36
      go_wp2_with fail
      go_ret
      exact ⟨rfl, Below.refl _ _⟩
    · have d2 : decide (k < (L.length : Int)) = false := decide_eq_false g2
      have d3 : decide (0 ≤ k ∧ k < (L.length : Int)) = false := decide_eq_false (fun q => g2 q.2)
      rw [d3]
      go_enter Try.func36, Try.ntmps36
      go_wp2_with fail
      go_ret
      exact ⟨rfl, Below.refl _ _⟩
  · have d1 : decide (0 ≤ k) = false := decide_eq_false g1
    have d3 : decide (0 ≤ k ∧ k < (L.length : Int)) = false := decide_eq_false (fun q => g1 q.1)
    rw [d3]
    go_enter Try.func36, Try.ntmps36
    go_wp2_with fail
    go_ret
    exact ⟨rfl, Below.refl _ _⟩
set_option maxRecDepth 100000 in
set_option maxHeartbeats 2000000 in
theorem at_in (base p : Nat) (L : List Com) (k : Nat) (w : World) (hP : PastIs w base p L) (hk : k < L.length) (hf : L[k].files.length ≤ 10000) :
    Calls Try.prog 20 #[.pointer (some ⟨p, 0, none⟩), .int .i64 (k : Int)] w fun e w' => ∃ v, e = .returned (.tuple #[v, .int .i64 0]) ∧ Kd.R k53 53 w' w.heap.size (fun _ => True) v L[k].files ∧ Below w.heap.size w w' := by
  have H := Aside0.mk (has_calls base p L (k : Int) w hP)
  rw [decide_eq_true (show 0 ≤ (k : Int) ∧ (k : Int) < (L.length : Int) by omega)] at H
  obtain ⟨g, cap, cs, l1, l2, b1, b2, hcap, hc1, hat⟩ := past_at hP (by omega)
  obtain ⟨c, hc2, A, cp, hc3, hF⟩ := hat k hk
  have l3 : c < w.heap.size := (Array.getElem?_eq_some_iff.1 hc3).1
  have hc4 : w.cell? ⟨c, 1, none⟩ = some (.slice A L[k].files.length cp) := by unfold World.cell?; rw [hc3]; rfl
  have HC : Aside0 (∀ wr, Below w.heap.size w wr → Calls Try.prog 37 #[.slice A L[k].files.length cp] wr fun e w' => ∃ v0_ : Value, e = .returned v0_ ∧ Kd.R k53 53 w' wr.heap.size (fun _ => True) v0_ L[k].files ∧ Below wr.heap.size wr w') :=
    ⟨fun wr hb => clone53_calls A cp L[k].files wr (Kd.C_below hF.reads hb) hf⟩
  have H1 := Aside0.mk hc1
  have H2 := Aside0.mk hc2
  have H4 := Aside0.mk hc4
  have HLT : Aside0 (p < w.heap.size ∧ g < w.heap.size ∧ c < w.heap.size) := ⟨l1, l2, l3⟩
  have hk0 : (0 : Int) ≤ (k : Int) := by omega
  have hk1 : (k : Int) < (L.length : Int) := by omega
  have hk2 : decide ((0 : Int) ≤ (k : Int)) = true := by simp
  have hk3 : decide ((k : Int) < (L.length : Int)) = true := decide_eq_true hk1
  clear hP hat hc3 hF hf hc1 hc2 hc4 hcap b1 b2 l1 l2 l3
  generalize L[k].files = fs at *
  go_enter Try.func20, Try.ntmps20
  go_wp2_with (first
    | (go_at_call 36; with_reducible refine H.out.mono ?_; rintro e w1 ⟨rfl, hb⟩; have HB := Aside0.mk hb; have hd1 := (hb.cell (p := ⟨p, 0, none⟩) HLT.out.1).trans H1.out; have hd2 := (hb.cell (p := ⟨g, k, none⟩) HLT.out.2.1).trans H2.out; have hd4 := (hb.cell (p := ⟨c, 1, none⟩) HLT.out.2.2).trans H4.out; clear hb H)
    | (go_at_call 37; with_reducible refine (HC.out _ HB.out).mono ?_; rintro e w2 ⟨v2, rfl, ho, hb⟩; obtain ⟨A2, c2, rfl⟩ := Kd.R_slice ho; have HO2 := Aside0.mk (Kd.R_lower ho HB.out.size); have HB2 := Aside0.mk (below_step HB.out hb); clear ho hb HC))
  go_ret2
  exact ⟨_, rfl, HO2.out, HB2.out⟩
set_option maxRecDepth 100000 in
set_option maxHeartbeats 4000000 in
theorem names_calls (base p : Nat) (L : List Com) (w : World) (hP : PastIs w base p L) (hL : L.length ≤ 1000) :
    Calls Try.prog 18 #[.pointer (some ⟨p, 0, none⟩)] w fun e w' => ∃ v, e = .returned v ∧ Kd.R Kd.string 9 w' w.heap.size (fun _ => True) v (L.map (·.name)) ∧ Below w.heap.size w w' := by
  by_cases hl : L = []
  · subst hl
    obtain ⟨A, cap, ps, h1, h2, h3, h4, h5⟩ := hP
    have hx0 : w.cell? ⟨p, 0, none⟩ = some (.slice A 0 cap) := by unfold World.cell?; rw [h3]; rfl
    clear h1 h2 h3 h4 h5
    go_enter Try.func18, Try.ntmps18
    go_wp2_with fail
    go_loopg [3, 13] 0 (fun _ v3 v13 wr => v3 = .slice none 0 0 ∧ v13 = .int .i64 0 ∧ wr = w)
    case atStart => exact ⟨rfl, rfl, rfl⟩
    case round =>
      obtain ⟨rfl, rfl, rfl⟩ := hrel
      go_wp2_with fail
      go_ret
      exact ⟨_, rfl, Kd.R_nil _ _ _ _ _, Below.refl _ _⟩
  · have hlen : 0 < L.length := List.length_pos_iff.2 hl
    obtain ⟨g, cap, cs, l1, l2, b1, b2, hcap, hc1, hat⟩ := past_at hP hlen
    have HAT := Aside0.mk hat
    have HLL := Aside0.mk hL
    have HLT : Aside0 (p < w.heap.size ∧ g < w.heap.size) := ⟨l1, l2⟩
    have HB0 := Aside0.mk (Below.refl w.heap.size w)
    clear hP hL hat hl hlen b1 b2 hcap l1 l2
    go_enter Try.func18, Try.ntmps18
    go_wp2_with fail
    go_loopg [13, 3] (L.length + 1) (fun kq v13 v3 w' => ∃ (i : Nat) (A : Option Addr) (cc : Nat), v13 = .int .i64 (i : Int) ∧ v3 = .slice A i cc ∧ Aside0 (L.length - i < kq ∧ i ≤ L.length) ∧ Aside0 (Below w.heap.size w w') ∧ Aside0 (Kd.R Kd.string 9 w' w.heap.size (fun _ => True) (.slice A i cc) ((L.map (·.name)).take i)))
    case atStart => exact ⟨0, none, 0, rfl, rfl, ⟨by omega, by omega⟩, HB0, ⟨Kd.R_nil _ _ _ _ _⟩⟩
    case round =>
      obtain ⟨i, A, cc, rfl, rfl, HI, HBe, HR⟩ := hrel
      obtain ⟨k1, rfl⟩ : ∃ k1, gk = k1 + 1 := ⟨gk - 1, by have := HI.out.1; omega⟩
      by_cases hlt : i < L.length
      · have hb : decide ((i : Int) < (L.length : Int)) = true := by simp; omega
        have hb2 : decide ((0 : Int) ≤ (i : Int)) = true := by simp
        have hi0 : (0 : Int) ≤ (i : Int) := by omega
        have hi1 : (i : Int) < (L.length : Int) := by omega
        obtain ⟨ci, hci, Ai, cpi, hci3, -⟩ := HAT.out i hlt
        have hci' := (HBe.out.cell (p := ⟨g, i, none⟩) HLT.out.2).trans hci
        have hcl : ci < w.heap.size := (Array.getElem?_eq_some_iff.1 hci3).1
        have hcn : w.cell? ⟨ci, 0, none⟩ = some (.string L[i].name) := by unfold World.cell?; rw [hci3]; rfl
        have hcn' := (HBe.out.cell (p := ⟨ci, 0, none⟩) hcl).trans hcn
        have hnx : (L.map (·.name)).take i ++ [L[i].name] = (L.map (·.name)).take (i + 1) := by
          rw [List.take_succ_eq_append_getElem (by rw [List.length_map]; exact hlt), List.getElem_map]
        have hln : ((L.map (·.name)).take i).length = i := by rw [List.length_take, List.length_map]; omega
        have HNX := Aside0.mk hnx
        have HLN := Aside0.mk hln
        have HLT2 := Aside0.mk hlt
        have HWR := Aside0.mk HBe.out.size
        clear hnx hln hci hci3 hcn hcl
        generalize L[i].name = nm at *
        generalize hX : (L.map (·.name)).take i = X at *
        have HRX : Aside0 (Kd.R Kd.string 9 wr w.heap.size (fun _ => True) (.slice A X.length cc) X) := ⟨by rw [HLN.out]; exact HR.out⟩
        clear HR hX
        go_wp2_with (at_builtin; go_loud (refine Kd.R_append Kd.string (w0 := wr) w.heap.size rfl (.tmp 17) (.tmp 22) 32 9 (.string ⟨#[]⟩) 16 rfl Try.underlying32 info9 rfl (by decide) (by omega) _ X nm [.string nm] (fun _ => True) (fun _ => False) (by rw [HLN.out]; rfl) (by first | rfl | (simp; done) | (go_simp; done)) rfl (fun _ hk => hk.elim) (fun _ _ => trivial) HRX.out (Below.refl w.heap.size wr) HWR.out (by have := HLN.out; have := HLL.out; have := HLT2.out; omega) ?_); intro v1 w7 ho hb hg hat; go_loud (obtain ⟨A8, c8, rfl⟩ := Kd.R_slice ho; have HB7 := Aside0.mk (HBe.out.trans hb); rw [show (X ++ [nm]).length = i + 1 by rw [List.length_append, HLN.out]; rfl] at ho; have HO7 := Aside0.mk ho; clear ho hb hg hat))
        go_roundg k1
        case measure => have := HI.out.1; have := HLT2.out; omega
        case rel => exact ⟨i + 1, A8, c8, congrArg (Value.int .i64) (by first | exact nx i (by have := HLL.out; have := HLT2.out; omega) | (have := HLL.out; have := HLT2.out; omega)), by rw [HLN.out], ⟨by have := HI.out.1; have := HLT2.out; omega, by have := HLT2.out; omega⟩, HB7, ⟨by rw [← HNX.out]; exact HO7.out⟩⟩
      · have hb : decide ((i : Int) < (L.length : Int)) = false := by simp; omega
        have hi : (L.map (·.name)).take i = L.map (·.name) := List.take_of_length_le (by rw [List.length_map]; omega)
        rw [hi] at HR
        clear hi
        go_wp2_with fail
        go_ret
        exact ⟨_, rfl, HR.out, HBe.out⟩
end Go.Proofs.Ythimblhfjfngiaa.PText

namespace Go.Proofs.Ythimblhfjfngiaa.PText
open Go.RowKit Go.Lib Go.Sort Go.Proofs.YthimblhfjfngiaaW.PrintWords Go.Proofs.YthimblhfjfngiaaW.PrintLast Go.Proofs.YthimblhfjfngiaaW.PrintMore
set_option linter.unusedVariables false
set_option linter.unusedSimpArgs false
/-- a slice's value, in a row -/
def kL : Kd (Option Addr × Nat × Nat) := Kd.scalar (fun x : Option Addr × Nat × Nat => Value.slice x.1 x.2.1 x.2.2) (fun _ => rfl)
theorem info46 : (Try.prog.info? 46).map (fun i => (i.zero, i.size, i.bytes)) = some (some (.slice none 0 0), 1, 24) := by kernel_rfl
/-- whatever lies in blocks of other types than the document's past's own (itself, its rows of names and of files) stands -/
def RKept (w w' : World) : Prop := ∀ (k : Nat) (o : Obj), w.heap[k]? = some o → (∀ c fz, o ≠ .cells c 73 fz) → (∀ c fz, o ≠ .cells c 9 fz) → (∀ c fz, o ≠ .cells c 46 fz) → w'.heap[k]? = some o
theorem RKept.refl (w : World) : RKept w w := fun _ _ h _ _ _ => h
theorem RKept.trans {a b c : World} (h : RKept a b) (k : RKept b c) : RKept a c := fun i o hi h1 h2 h3 => k i o (h i o hi h1 h2 h3) h1 h2 h3
theorem RKept.of_below {w w' : World} (h : Below w.heap.size w w') : RKept w w' := fun k o hk _ _ _ => (h.block k (Array.getElem?_eq_some_iff.1 hk).1).trans hk
theorem RKept.grown {w w' : World} {base n t : Nat} {v : Value} {inner : List Value} {sz : Nat} (hg : w.grownBy w' v.ownBlock) (ho : w.ownsRow base t sz v n inner) (ht : t = 73 ∨ t = 9 ∨ t = 46) : RKept w w' := fun k o hk h1 h2 h3 => by
  rw [hg.block k (Array.getElem?_eq_some_iff.1 hk).1 ?_, hk]
  intro e
  obtain ⟨cells, hc⟩ := own_typed ho k e.symm
  rw [hk] at hc
  cases hc
  rcases ht with rfl | rfl | rfl
  · exact h1 _ _ rfl
  · exact h2 _ _ rfl
  · exact h3 _ _ rfl
theorem RKept.set {w : World} {q i : Nat} {cs : Array Value} {x : Value} (hq : w.heap[q]? = some (.cells cs 73 (0, 0))) : RKept w (w.setCell ⟨q, i, none⟩ x) := fun k o hk h1 h2 h3 => by
  rw [Below.heap_setCell _ _ _ _ (fun e => ?_), hk]
  subst e
  rw [hq] at hk
  cases hk
  exact h1 _ _ rfl
theorem FRow.rkeep {w w' : World} {A : Option Addr} {cap : Nat} {l : List S53} (h : FRow w A cap l) (hk : RKept w w') : FRow w' A cap l := by
  rcases h.lies with e | ⟨b, cs, e, hb⟩
  · subst e
    exact ⟨h.cap, ⟨rfl, by simp, fun q => absurd q (by simp)⟩, .inl rfl⟩
  · have hb' := hk b _ hb (fun c fz q => by cases q) (fun c fz q => by cases q) (fun c fz q => by cases q)
    exact ⟨h.cap, C_kept53 h.reads e (by rw [hb, hb']), .inr ⟨b, cs, e, hb'⟩⟩
theorem ComAt.rkeep {w w' : World} {c : Nat} {x : Com} (h : ComAt w c x) (hk : RKept w w') : ComAt w' c x := by
  obtain ⟨A, cap, h1, h2⟩ := h
  exact ⟨A, cap, hk c _ h1 (fun c fz q => by cases q) (fun c fz q => by cases q) (fun c fz q => by cases q), h2.rkeep hk⟩
theorem R_types' {α : Type} {d : Kd α} {e : Nat} {w w' : World} {base : Nat} {v : Value} {xs : List α} (h : Kd.R d e w base (fun _ => True) v xs) (hm : ∀ (k q : Nat) (cs : Array Value), q ∈ e :: d.E → w.heap[k]? = some (.cells cs q (0, 0)) → w'.heap[k]? = some (.cells cs q (0, 0))) : Kd.R d e w' base (fun _ => True) v xs :=
  Kd.R_mono (Kd.R_step (Kd.R_bound h) (fun k hk hk2 => by
    obtain ⟨-, -, -, q, hq, cs, hc⟩ := hk
    rw [hm k q cs hq hc, hc])) (fun _ _ => trivial)
/-- the program's past stands where the document's is written -/
theorem PastIs.rkeep {w w' : World} {base p : Nat} {L : List Com} (h : PastIs w base p L) (hk : RKept w w') : PastIs w' base p L := by
  obtain ⟨A, cap, ps, h1, h2, h3, h4, h5⟩ := h
  refine ⟨A, cap, ps, h1, h2, hk p _ h3 (fun c fz q => by cases q) (fun c fz q => by cases q) (fun c fz q => by cases q), R_types' h4 (fun k q cs hq hc => ?_), fun i a b => (h5 i a b).rkeep hk⟩
  have e : q = 77 := by rcases List.mem_cons.1 hq with h | h; exact h; cases h
  subst e
  exact hk k _ hc (fun c fz q => by cases q) (fun c fz q => by cases q) (fun c fz q => by cases q)
/-- the document's past: names and files of its commits -/
def RefIs (w : World) (base q : Nat) (L : List Com) : Prop :=
  ∃ (A1 A2 : Option Addr) (c1 c2 : Nat) (ps : List (Option Addr × Nat × Nat)), ps.length = L.length ∧ base ≤ q ∧ w.heap[q]? = some (.cells #[.slice A1 L.length c1, .slice A2 L.length c2] 73 (0, 0)) ∧ Kd.R Kd.string 9 w base (fun _ => True) (.slice A1 L.length c1) (L.map (·.name)) ∧
    Kd.R kL 46 w base (fun _ => True) (.slice A2 L.length c2) ps ∧ ∀ i, ∀ h : i < L.length, ∀ h' : i < ps.length, ps[i].2.1 = L[i].files.length ∧ FRow w ps[i].1 ps[i].2.2 L[i].files
theorem RefIs.keep {w w' : World} {base q : Nat} {L : List Com} (h : RefIs w base q L) (hk : PKept w w') : RefIs w' base q L := by
  obtain ⟨A1, A2, c1, c2, ps, h1, h2, h3, h4, h5, h6⟩ := h
  have one : ∀ (t : Nat) (e : List Nat), e = [] → t ≠ 76 → t ≠ 77 → ∀ (k q : Nat) (cs : Array Value), q ∈ t :: e → w.heap[k]? = some (.cells cs q (0, 0)) → w'.heap[k]? = some (.cells cs q (0, 0)) := fun t e he n1 n2 k q cs hq hc => by
    subst he
    have e : q = t := by rcases List.mem_cons.1 hq with h | h; exact h; cases h
    subst e
    exact hk k _ hc (fun c fz z => by cases z; exact n1 rfl) (fun c fz z => by cases z; exact n2 rfl)
  exact ⟨A1, A2, c1, c2, ps, h1, h2, hk q _ h3 (fun c fz z => by cases z) (fun c fz z => by cases z), R_types' h4 (one 9 _ rfl (by decide) (by decide)), R_types' h5 (one 46 _ rfl (by decide) (by decide)), fun i a b => ⟨(h6 i a b).1, (h6 i a b).2.keep hk⟩⟩
theorem RefIs.below {w w' : World} {base q : Nat} {L : List Com} (h : RefIs w base q L) (hb : Below w.heap.size w w') : RefIs w' base q L := h.keep (PKept.of_below hb)
end Go.Proofs.Ythimblhfjfngiaa.PText

namespace Go.Proofs.Ythimblhfjfngiaa.PText
open Go.RowKit Go.Lib Go.Sort Go.Proofs.YthimblhfjfngiaaW.PrintWords Go.Proofs.YthimblhfjfngiaaW.PrintLast Go.Proofs.YthimblhfjfngiaaW.PrintMore
set_option linter.unusedVariables false
set_option linter.unusedSimpArgs false
/-- no two of the first files have one name -/
def NoDupTo (fs : List S53) (i : Nat) : Prop := ∀ a b, a < b → b < i → ∀ hb : b < fs.length, ∀ ha : a < fs.length, fs[b].f0.toList ≠ fs[a].f0.toList
theorem noDup_all {fs : List S53} (h : NoDupTo fs fs.length) : (fnames fs).Nodup := by
  unfold fnames
  rw [List.nodup_iff_pairwise_ne, List.pairwise_iff_getElem]
  intro i j hi hj hij
  rw [List.getElem_map, List.getElem_map]
  rw [List.length_map] at hi hj
  exact fun e => h i j hij hj hj hi e.symm
theorem dup_not {fs : List S53} {a b : Nat} (hab : a < b) (hb : b < fs.length) (h : fs[b].f0.toList = fs[a].f0.toList) : ¬ (fnames fs).Nodup := fun q => by
  unfold fnames at q
  rw [List.nodup_iff_pairwise_ne, List.pairwise_iff_getElem] at q
  have := q a b (by rw [List.length_map]; omega) (by rw [List.length_map]; omega) hab
  rw [List.getElem_map, List.getElem_map] at this
  exact this h.symm
/-- what is read below a place, and is read still -/
theorem below_setq {base : Nat} {a w : World} {q i : Nat} {x : Value} (h : Below base a w) (hq : base ≤ q) : Below base a (w.setCell ⟨q, i, none⟩ x) := h.setCell (p := ⟨q, i, none⟩) hq x
/-- behind the names' append and its store -/
theorem ref_named {w w5 : World} {base q : Nat} {L : List Com} {A1 A2 A5 : Option Addr} {c1 c2 c5 : Nat} {ps : List (Option Addr × Nat × Nat)} {name : ByteArray}
    (h1 : ps.length = L.length) (h2 : base ≤ q) (h3 : w.heap[q]? = some (.cells #[.slice A1 L.length c1, .slice A2 L.length c2] 73 (0, 0))) (h4 : Kd.R Kd.string 9 w base (fun _ => True) (.slice A1 L.length c1) (L.map (·.name))) (h5 : Kd.R kL 46 w base (fun _ => True) (.slice A2 L.length c2) ps)
    (h6 : ∀ i, ∀ h : i < L.length, ∀ h' : i < ps.length, ps[i].2.1 = L[i].files.length ∧ FRow w ps[i].1 ps[i].2.2 L[i].files) (hbw : base ≤ w.heap.size)
    (ho : Kd.R Kd.string 9 w5 base (fun _ => True) (.slice A5 (L.length + 1) c5) (L.map (·.name) ++ [name])) (hb : Below base w w5) (hg : w.grownBy w5 (Value.slice A1 L.length c1).ownBlock) :
    Below base w (w5.setCell ⟨q, 0, none⟩ (.slice A5 (L.length + 1) c5)) ∧ RKept w (w5.setCell ⟨q, 0, none⟩ (.slice A5 (L.length + 1) c5)) ∧ w5.heap[q]? = some (.cells #[.slice A1 L.length c1, .slice A2 L.length c2] 73 (0, 0)) ∧
    (w5.setCell ⟨q, 0, none⟩ (.slice A5 (L.length + 1) c5)).heap[q]? = some (.cells #[.slice A5 (L.length + 1) c5, .slice A2 L.length c2] 73 (0, 0)) ∧ Kd.R Kd.string 9 (w5.setCell ⟨q, 0, none⟩ (.slice A5 (L.length + 1) c5)) base (fun _ => True) (.slice A5 (L.length + 1) c5) (L.map (·.name) ++ [name]) ∧
    Kd.R kL 46 (w5.setCell ⟨q, 0, none⟩ (.slice A5 (L.length + 1) c5)) base (fun _ => True) (.slice A2 L.length c2) ps ∧ (∀ i, ∀ h : i < L.length, ∀ h' : i < ps.length, ps[i].2.1 = L[i].files.length ∧ FRow (w5.setCell ⟨q, 0, none⟩ (.slice A5 (L.length + 1) c5)) ps[i].1 ps[i].2.2 L[i].files) := by
  have hqlt := (Array.getElem?_eq_some_iff.1 h3).1
  obtain ⟨inner, hown⟩ := Kd.R_own h4
  have hne : some q ≠ (Value.slice A1 L.length c1).ownBlock := fun e => by
    obtain ⟨i0, ho0⟩ := Kd.R_own h4
    obtain ⟨cells, hc⟩ := own_typed ho0 q e.symm
    rw [h3] at hc; cases hc
  have hq5 : w5.heap[q]? = some (.cells #[.slice A1 L.length c1, .slice A2 L.length c2] 73 (0, 0)) := (hg.block q hqlt hne).trans h3
  have hK : RKept w w5 := RKept.grown hg hown (.inr (.inl rfl))
  have hK2 : RKept w (w5.setCell ⟨q, 0, none⟩ (.slice A5 (L.length + 1) c5)) := hK.trans (RKept.set hq5)
  have hself : (w5.setCell ⟨q, 0, none⟩ (.slice A5 (L.length + 1) c5)).heap[q]? = some (.cells #[.slice A5 (L.length + 1) c5, .slice A2 L.length c2] 73 (0, 0)) := by
    unfold World.setCell
    simp only
    rw [Array.getElem?_modify, if_pos rfl, hq5]
    rfl
  refine ⟨below_setq hb h2, hK2, hq5, hself, Kd.R_set ho hq5 (fun z hz => by rcases List.mem_cons.1 hz with h | h; subst h; decide; cases h) 0 _, ?_, fun i a b => ⟨(h6 i a b).1, (h6 i a b).2.rkeep hK2⟩⟩
  refine Kd.R_set ?_ hq5 (fun z hz => by rcases List.mem_cons.1 hz with h | h; subst h; decide; cases h) 0 _
  refine R_types' h5 (fun k t cs ht hc => ?_)
  have e : t = 46 := by rcases List.mem_cons.1 ht with h | h; exact h; cases h
  subst e
  rw [hg.block k (Array.getElem?_eq_some_iff.1 hc).1 ?_, hc]
  intro e
  obtain ⟨cells, hc'⟩ := own_typed hown k e.symm
  rw [hc] at hc'; cases hc'
/-- behind the files' append and its store -/
theorem ref_filed {w w5 : World} {base q : Nat} {L : List Com} {A1 A2 A5 A' : Option Addr} {c1 c2 c5 c' : Nat} {ps : List (Option Addr × Nat × Nat)} {x : Com}
    (h1 : ps.length = L.length) (h2 : base ≤ q) (h3 : w.heap[q]? = some (.cells #[.slice A1 (L.length + 1) c1, .slice A2 L.length c2] 73 (0, 0))) (h4 : Kd.R Kd.string 9 w base (fun _ => True) (.slice A1 (L.length + 1) c1) (L.map (·.name) ++ [x.name])) (h5 : Kd.R kL 46 w base (fun _ => True) (.slice A2 ps.length c2) ps)
    (h6 : ∀ i, ∀ h : i < L.length, ∀ h' : i < ps.length, ps[i].2.1 = L[i].files.length ∧ FRow w ps[i].1 ps[i].2.2 L[i].files) (hbw : base ≤ w.heap.size) (hF : FRow w A' c' x.files)
    (ho : Kd.R kL 46 w5 base (fun _ => True) (.slice A5 (ps.length + 1) c5) (ps ++ [(A', x.files.length, c')])) (hb : Below base w w5) (hg : w.grownBy w5 (Value.slice A2 ps.length c2).ownBlock) :
    Below base w (w5.setCell ⟨q, 1, none⟩ (.slice A5 (ps.length + 1) c5)) ∧ RKept w (w5.setCell ⟨q, 1, none⟩ (.slice A5 (ps.length + 1) c5)) ∧ w5.heap[q]? = some (.cells #[.slice A1 (L.length + 1) c1, .slice A2 L.length c2] 73 (0, 0)) ∧
    RefIs (w5.setCell ⟨q, 1, none⟩ (.slice A5 (ps.length + 1) c5)) base q (L ++ [x]) := by
  have hqlt := (Array.getElem?_eq_some_iff.1 h3).1
  obtain ⟨inner, hown⟩ := Kd.R_own h5
  have hne : some q ≠ (Value.slice A2 ps.length c2).ownBlock := fun e => by
    obtain ⟨i0, ho0⟩ := Kd.R_own h5
    obtain ⟨cells, hc⟩ := own_typed ho0 q e.symm
    rw [h3] at hc; cases hc
  have hq5 : w5.heap[q]? = some (.cells #[.slice A1 (L.length + 1) c1, .slice A2 L.length c2] 73 (0, 0)) := (hg.block q hqlt hne).trans h3
  have hK : RKept w w5 := RKept.grown hg hown (.inr (.inr rfl))
  have hK2 : RKept w (w5.setCell ⟨q, 1, none⟩ (.slice A5 (ps.length + 1) c5)) := hK.trans (RKept.set hq5)
  have hself : (w5.setCell ⟨q, 1, none⟩ (.slice A5 (ps.length + 1) c5)).heap[q]? = some (.cells #[.slice A1 (L.length + 1) c1, .slice A5 (ps.length + 1) c5] 73 (0, 0)) := by
    unfold World.setCell
    simp only
    rw [Array.getElem?_modify, if_pos rfl, hq5]
    rfl
  refine ⟨below_setq hb h2, hK2, hq5, A1, A5, c1, c5, ps ++ [(A', x.files.length, c')], by rw [List.length_append, List.length_append, h1]; rfl, h2, ?_, ?_, ?_, ?_⟩
  · rw [hself, h1, List.length_append]; rfl
  · rw [List.map_append, List.length_append]
    refine Kd.R_set ?_ hq5 (fun z hz => by rcases List.mem_cons.1 hz with h | h; subst h; decide; cases h) 1 _
    refine R_types' h4 (fun k t cs ht hc => ?_)
    have e : t = 9 := by rcases List.mem_cons.1 ht with h | h; exact h; cases h
    subst e
    rw [hg.block k (Array.getElem?_eq_some_iff.1 hc).1 ?_, hc]
    intro e
    obtain ⟨cells, hc'⟩ := own_typed hown k e.symm
    rw [hc] at hc'; cases hc'
  · rw [h1, List.length_append] at *
    exact Kd.R_set (by rw [h1] at ho; exact ho) hq5 (fun z hz => by rcases List.mem_cons.1 hz with h | h; subst h; decide; cases h) 1 _
  · intro i h h'
    by_cases hi : i < L.length
    · rw [List.getElem_append_left (by omega), List.getElem_append_left hi]
      exact ⟨(h6 i hi (by omega)).1, (h6 i hi (by omega)).2.rkeep hK2⟩
    · have e1 : i = L.length := by rw [List.length_append, List.length_singleton] at h; omega
      subst e1
      rw [List.getElem_append_right (by omega), List.getElem_append_right (Nat.le_refl _)]
      simp only [h1, Nat.sub_self, List.getElem_cons_zero]
      exact ⟨trivial, by rw [h1] at hK2; exact hF.rkeep hK2⟩
/-- to append a commit's files, in a region that draws its order -/
theorem append_file {ops : Array Oper} {o : Oper} {a : Act} {Q : Exit → Act → World → Prop} {Kc : Act → World → Prop} {w W : World} (base q : Nat) {L : List Com} {A1 A2 A' : Option Addr} {c1 c2 c' : Nat} {ps : List (Option Addr × Nat × Nat)} {x : Com} (hw : Region.wanted o (yielded ops a.tmps) = true)
    (ho : o.op = .call { callee := .builtin .append, args := #[.tmp 70, .tmp 73], argTypes := #[71, 71] }) (hs : a.eval (.tmp 70) = .slice A2 L.length c2) (hx : a.eval (.tmp 73) = .slice (some ⟨w.heap.size, 0, none⟩) 1 1) (hW : W = w.alloc (.cells #[.slice A' x.files.length c'] 46))
    (h1 : ps.length = L.length) (h2 : base ≤ q) (h3 : w.heap[q]? = some (.cells #[.slice A1 (L.length + 1) c1, .slice A2 L.length c2] 73 (0, 0))) (h4 : Kd.R Kd.string 9 w base (fun _ => True) (.slice A1 (L.length + 1) c1) (L.map (·.name) ++ [x.name])) (h5 : Kd.R kL 46 w base (fun _ => True) (.slice A2 ps.length c2) ps)
    (h6 : ∀ i, ∀ h : i < L.length, ∀ h' : i < ps.length, ps[i].2.1 = L[i].files.length ∧ FRow w ps[i].1 ps[i].2.2 L[i].files) (hbw : base ≤ w.heap.size) (hF : FRow w A' c' x.files) (hL : L.length ≤ 1000)
    (h : ∀ A5 c5 w5, Below base w w5 → (Below base w (w5.setCell ⟨q, 1, none⟩ (.slice A5 (L.length + 1) c5)) ∧ RKept w (w5.setCell ⟨q, 1, none⟩ (.slice A5 (L.length + 1) c5)) ∧ RefIs (w5.setCell ⟨q, 1, none⟩ (.slice A5 (L.length + 1) c5)) base q (L ++ [x])) → w5.cell? ⟨q, 1, none⟩ = some (.slice A2 L.length c2) → w5.frozen? ⟨q, 1, none⟩ = false → (w5.setCell ⟨q, 1, none⟩ (.slice A5 (L.length + 1) c5)).cell? ⟨q, 0, none⟩ = some (.slice A1 (L.length + 1) c1) →
      Kc (a.put o.dst (.slice A5 (L.length + 1) c5)) w5) :
    if Region.wanted o (yielded ops a.tmps) = true then Oper.wp Try.prog o a W Kc Q else Kc (a.put o.dst undef) W := by
  subst hW
  have hs' : a.eval (.tmp 70) = .slice A2 ps.length c2 := by rw [h1]; exact hs
  refine Kd.R_append_step kL (w0 := w) base hw (.tmp 70) (.tmp 73) 71 46 (.slice none 0 0) 24 ho Try.underlying71 info46 rfl (by decide) (by omega) (.slice A2 ps.length c2) ps (A', x.files.length, c') [.slice A' x.files.length c'] (fun _ => True) (fun _ => False) hs' hx rfl (fun _ hk => hk.elim) (fun _ _ => trivial) h5 (Below.refl base w) hbw (by omega) ?_
  intro v1 w5 ho hb hg hat
  obtain ⟨A5, c5, rfl⟩ := Kd.R_slice ho
  have e : (ps ++ [(A', x.files.length, c')]).length = L.length + 1 := by rw [List.length_append, h1]; rfl
  have e2 : (ps ++ [(A', x.files.length, c')]).length = ps.length + 1 := by rw [List.length_append]; rfl
  rw [e2] at ho
  obtain ⟨q1, q2, q3, q4⟩ := ref_filed (A5 := A5) (c5 := c5) h1 h2 h3 h4 h5 h6 hbw hF ho hb hg
  rw [h1] at q1 q2 q4
  rw [e]
  exact h A5 c5 w5 hb ⟨q1, q2, q4⟩ (by unfold World.cell?; rw [q3]; rfl) (by simp [World.frozen?, q3]) (by unfold World.cell? World.setCell; simp only; rw [Array.getElem?_modify, if_pos rfl, q3]; rfl)
end Go.Proofs.Ythimblhfjfngiaa.PText

namespace Go.Proofs.Ythimblhfjfngiaa.PText
open Go.RowKit Go.Lib Go.Sort Go.Proofs.YthimblhfjfngiaaW.PrintWords Go.Proofs.YthimblhfjfngiaaW.PrintLast Go.Proofs.YthimblhfjfngiaaW.PrintMore
set_option linter.unusedVariables false
set_option linter.unusedSimpArgs false
set_option maxRecDepth 100000 in
set_option maxHeartbeats 8000000 in
theorem rcommit_calls (base q : Nat) (L : List Com) (name : ByteArray) (A0 : Option Addr) (c0 : Nat) (fs : List S53) (w : World) (hR : RefIs w base q L) (hC : ∀ w', Below base w w' → Kd.C k53 w' A0 fs.length fs) (hc : fs.length ≤ c0) (hL : L.length ≤ 200) (hbase : base ≤ w.heap.size) :
    Calls Try.prog 33 #[.pointer (some ⟨q, 0, none⟩), .string name, .slice A0 fs.length c0] w fun e w' => e = .returned (.tuple #[.int .i64 (commitR L name fs).1, .int .i64 (commitR L name fs).2.1]) ∧ RefIs w' base q (commitR L name fs).2.2 ∧ Below base w w' ∧ RKept w w' := by
  have HR := Aside0.mk hR
  obtain ⟨A1, A2, c1, c2, ps, h1, h2, h3, h4, h5, h6⟩ := hR
  have hx0 : w.cell? ⟨q, 0, none⟩ = some (.slice A1 L.length c1) := by unfold World.cell?; rw [h3]; rfl
  have hx1 : w.cell? ⟨q, 1, none⟩ = some (.slice A2 L.length c2) := by unfold World.cell?; rw [h3]; rfl
  have HX0 := Aside0.mk hx0
  have HX1 := Aside0.mk hx1
  have HQL := Aside0.mk (Array.getElem?_eq_some_iff.1 h3).1
  have HLL := Aside0.mk hL
  have HCC := Aside0.mk hC
  have HBS := Aside0.mk hbase
  have HCP := Aside0.mk hc
  clear h1 h2 h3 h4 h5 h6 hC hL hbase hc hx1
  by_cases g1 : L.length = 200
  · have e : commitR L name fs = (0, 2, L) := by unfold commitR; rw [if_pos (Or.inl g1)]
    have d1 : decide ((L.length : Int) ≥ 200) = true := decide_eq_true (by omega)
    have d1' : decide ((200 : Int) ≤ (L.length : Int)) = true := decide_eq_true (by omega)
    rw [e]
    go_enter Try.func33, Try.ntmps33
    go_wp2_with fail
    go_ret2
    exact ⟨rfl, HR.out, Below.refl _ _, RKept.refl _⟩
  · have d1 : decide ((L.length : Int) ≥ 200) = false := decide_eq_false (by have := HLL.out; omega)
    have d1' : decide ((200 : Int) ≤ (L.length : Int)) = false := decide_eq_false (by have := HLL.out; omega)
    by_cases g2 : 60 < fs.length
    · have e : commitR L name fs = (0, 2, L) := by unfold commitR; rw [if_pos (Or.inr g2)]
      have d2 : decide ((60 : Int) < (fs.length : Int)) = true := decide_eq_true (by omega)
      have d3 : ¬ ((200 : Int) ≤ (L.length : Int)) := by have := HLL.out; omega
      rw [e]
      go_enter Try.func33, Try.ntmps33
      go_wp2_with fail
      go_ret2
      exact ⟨rfl, HR.out, Below.refl _ _, RKept.refl _⟩
    · have d2 : decide ((60 : Int) < (fs.length : Int)) = false := decide_eq_false (by omega)
      have d3 : ¬ ((200 : Int) ≤ (L.length : Int)) := by have := HLL.out; omega
      have HG1 := Aside0.mk g1
      have HG2 := Aside0.mk g2
      have HB0 := Aside0.mk (Below.refl w.heap.size w)
      clear g1 g2
      go_enter Try.func33, Try.ntmps33
      go_wp2_with fail
      go_loopg [8] (fs.length + 1) (fun kq v8 w' => ∃ i : Nat, v8 = .int .i64 (i : Int) ∧ Aside0 (fs.length - i < kq ∧ i ≤ fs.length) ∧ Aside0 (Below w.heap.size w w') ∧ Aside0 (NoDupTo fs i))
      case atStart => exact ⟨0, rfl, ⟨by omega, by omega⟩, HB0, ⟨fun a b _ hb => absurd hb (Nat.not_lt_zero _)⟩⟩
      case round =>
        obtain ⟨i, rfl, HI, HBe, HN⟩ := hrel
        obtain ⟨k1, rfl⟩ : ∃ k1, gk = k1 + 1 := ⟨gk - 1, by have := HI.out.1; omega⟩
        by_cases hlt : i < fs.length
        · have hb : decide ((i : Int) < (fs.length : Int)) = true := by simp; omega
          have HLT := Aside0.mk hlt
          go_wp2_with fail
          go_loopg [9] (i + 1) (fun kq v9 w' => ∃ k : Nat, v9 = .int .i64 (k : Int) ∧ Aside0 (i - k < kq ∧ k ≤ i) ∧ Aside0 (Below w.heap.size w w') ∧ Aside0 (∀ a, a < k → ∀ ha : a < fs.length, fs[i].f0.toList ≠ fs[a].f0.toList))
          case atStart => exact ⟨0, rfl, ⟨by omega, by omega⟩, HBe, ⟨fun a ha => absurd ha (Nat.not_lt_zero _)⟩⟩
          case round =>
            obtain ⟨k, rfl, HK, HBk, HNk⟩ := hrel
            obtain ⟨k2, rfl⟩ : ∃ k2, gk = k2 + 1 := ⟨gk - 1, by have := HK.out.1; omega⟩
            have HCk : Aside0 (Kd.C k53 wr A0 fs.length fs) := ⟨HCC.out wr (HBk.out.mono HBS.out)⟩
            by_cases hkl : k < i
            · have hb3 : decide ((k : Int) < (i : Int)) = true := by simp; omega
              have hkn : k < fs.length := by omega
              have hi0 : decide ((0 : Int) ≤ (i : Int)) = true := by simp
              have hk0 : decide ((0 : Int) ≤ (k : Int)) = true := by simp
              have hk1 : decide ((k : Int) < (fs.length : Int)) = true := by simp; omega
              have pi0 : (0 : Int) ≤ (i : Int) := by omega
              have pi1 : (i : Int) < (fs.length : Int) := by omega
              have pk0 : (0 : Int) ≤ (k : Int) := by omega
              have pk1 : (k : Int) < (fs.length : Int) := by omega
              obtain ⟨ad, e0, hx, -⟩ := at_T53 HCk.out (i : Int) pi0 pi1
              cases e0
              obtain ⟨ad', e0, hz, -⟩ := at_T53 HCk.out (k : Int) pk0 pk1
              cases e0
              rw [Int.toNat_natCast, rd53_at fs i hlt] at hx
              rw [Int.toNat_natCast, rd53_at fs k hkn] at hz
              have HDU : Aside0 (fs[i].f0.toList = fs[k].f0.toList → ¬ (fnames fs).Nodup) := ⟨fun e => dup_not hkl hlt e⟩
              have HNS : Aside0 (fs[i].f0.toList ≠ fs[k].f0.toList → ∀ a, a < k + 1 → ∀ ha : a < fs.length, fs[i].f0.toList ≠ fs[a].f0.toList) := ⟨fun z a ha ha' => by
                by_cases e : a = k
                · subst e; exact z
                · exact HNk.out a (by omega) ha'⟩
              generalize fs[i] = x at *
              generalize fs[k] = y at *
              by_cases heq : x.f0.toList = y.f0.toList
              · have hbq : (x.f0.toList == y.f0.toList) = true := beq_iff_eq.2 heq
                have e : commitR L name fs = (0, 5, L) := by unfold commitR; rw [if_neg (by have := HG1.out; have := HG2.out; omega), if_pos (HDU.out heq)]
                have HE := Aside0.mk e
                clear heq e
                go_wp2_with fail
                go_big_quiet (fail)
                have HBZ := Aside0.mk (HBk.out.trans ((pw_below_drewN (Below.refl wr.heap.size wr) nq).mono HBk.out.size))
                go_wp2_with fail
                go_ret2
                exact ⟨by rw [HE.out]; rfl, by rw [HE.out]; exact HR.out.below HBZ.out, HBZ.out.mono HBS.out, RKept.of_below HBZ.out⟩
              · have hbq : (x.f0.toList == y.f0.toList) = false := beq_eq_false_iff_ne.2 heq
                have HN2 := Aside0.mk (HNS.out heq)
                clear heq
                go_wp2_with fail
                go_big_quiet (fail)
                have HBZ := Aside0.mk (HBk.out.trans ((pw_below_drewN (Below.refl wr.heap.size wr) nq).mono HBk.out.size))
                go_wp2_with fail
                go_roundg k2
                case measure => have := HK.out.1; omega
                case rel => exact ⟨k + 1, congrArg (Value.int .i64) (by first | exact nx k (by have := HG2.out; have := HLT.out; omega) | (have := HG2.out; have := HLT.out; omega)), ⟨by have := HK.out.1; omega, by omega⟩, HBZ, HN2⟩
            · have hb3 : decide ((k : Int) < (i : Int)) = false := by simp; omega
              have hki : k = i := by have := HK.out.2; omega
              subst hki
              have HN3 : Aside0 (NoDupTo fs (k + 1)) := ⟨fun a b hab hbi hb ha => by
                by_cases e : b = k
                · subst e; exact HNk.out a hab ha
                · exact HN.out a b hab (by omega) hb ha⟩
              go_wp2_with fail
              go_roundg k1
              case measure => have := HI.out.1; omega
              case rel => exact ⟨k + 1, congrArg (Value.int .i64) (by first | exact nx k (by have := HG2.out; have := HLT.out; omega) | (have := HG2.out; have := HLT.out; omega)), ⟨by have := HI.out.1; omega, by have := HLT.out; omega⟩, HBk, HN3⟩
        · have hb : decide ((i : Int) < (fs.length : Int)) = false := by simp; omega
          have hie : i = fs.length := by have := HI.out.2; omega
          subst hie
          have HND := Aside0.mk (noDup_all HN.out)
          clear HN
          go_wp2_with fail
          go_loopg [10] (fs.length + 1) (fun kq v10 w' => ∃ i : Nat, v10 = .int .i64 (i : Int) ∧ Aside0 (fs.length - i < kq ∧ i ≤ fs.length) ∧ Aside0 (Below w.heap.size w w') ∧ Aside0 (∀ a, a < i → ∀ ha : a < fs.length, fs[a].f0.toList ≠ []))
          case atStart => exact ⟨0, rfl, ⟨by omega, by omega⟩, HBe, ⟨fun a ha => absurd ha (Nat.not_lt_zero _)⟩⟩
          case round =>
            clear hx0 HBe HI
            obtain ⟨i, rfl, HI, HBe, HN⟩ := hrel
            obtain ⟨k2, rfl⟩ : ∃ k2, gk = k2 + 1 := ⟨gk - 1, by have := HI.out.1; omega⟩
            have HCk : Aside0 (Kd.C k53 wr A0 fs.length fs) := ⟨HCC.out wr (HBe.out.mono HBS.out)⟩
            by_cases hlt : i < fs.length
            · have hb : decide ((i : Int) < (fs.length : Int)) = true := by simp; omega
              have hi0 : decide ((0 : Int) ≤ (i : Int)) = true := by simp
              have pi0 : (0 : Int) ≤ (i : Int) := by omega
              have pi1 : (i : Int) < (fs.length : Int) := by omega
              have HLT := Aside0.mk hlt
              obtain ⟨ad, e0, hx, -⟩ := at_T53 HCk.out (i : Int) pi0 pi1
              cases e0
              rw [Int.toNat_natCast, rd53_at fs i hlt] at hx
              have HEM : Aside0 (fs[i].f0.toList = [] → ∃ x ∈ fs, x.f0.toList = []) := ⟨fun e => ⟨fs[i], List.getElem_mem hlt, e⟩⟩
              have HNS : Aside0 (fs[i].f0.toList ≠ [] → ∀ a, a < i + 1 → ∀ ha : a < fs.length, fs[a].f0.toList ≠ []) := ⟨fun z a ha ha' => by
                by_cases e : a = i
                · subst e; exact z
                · exact HN.out a (by omega) ha'⟩
              generalize fs[i] = x at *
              by_cases hem : x.f0.toList = []
              · have hbq : (x.f0.toList == []) = true := beq_iff_eq.2 hem
                have e : commitR L name fs = (0, 3, L) := by unfold commitR; rw [if_neg (by have := HG1.out; have := HG2.out; omega), if_neg (fun q => q HND.out), if_pos (HEM.out hem)]
                have HE := Aside0.mk e
                clear hem e
                go_wp2_with fail
                go_ret2
                exact ⟨by rw [HE.out]; rfl, by rw [HE.out]; exact HR.out.below HBe.out, HBe.out.mono HBS.out, RKept.of_below HBe.out⟩
              · have hbq : (x.f0.toList == []) = false := beq_eq_false_iff_ne.2 hem
                have HN2 := Aside0.mk (HNS.out hem)
                clear hem
                go_wp2_with fail
                go_roundg k2
                case measure => have := HI.out.1; omega
                case rel => exact ⟨i + 1, congrArg (Value.int .i64) (by first | exact nx i (by have := HG2.out; have := HLT.out; omega) | (have := HG2.out; have := HLT.out; omega)), ⟨by have := HI.out.1; omega, by have := HLT.out; omega⟩, HBe, HN2⟩
            · have hb : decide ((i : Int) < (fs.length : Int)) = false := by simp; omega
              have hno : ¬ ∃ x ∈ fs, x.f0.toList = [] := by
                rintro ⟨x, hx, e⟩
                obtain ⟨j, hj, rfl⟩ := List.mem_iff_getElem.1 hx
                exact HN.out j (by have := HI.out.2; omega) hj e
              have e : commitR L name fs = ((L.length : Int), 0, L ++ [⟨name, srtF fs⟩]) := by unfold commitR; rw [if_neg (by have := HG1.out; have := HG2.out; omega), if_neg (fun q => q HND.out), if_neg hno]
              have HE := Aside0.mk e
              have HSF := Aside0.mk (rsorted_f fs (by have := HG2.out; omega) HND.out 4000 (by have h1 := HG2.out; have h2 : fs.length * (fs.length + 3) ≤ 60 * 63 := Nat.mul_le_mul (by omega) (by omega); omega))
              have hsl : (srtF fs).length ≤ fs.length := Tx.ord_len fs
              have HSL := Aside0.mk hsl
              clear e hno HN hsl
              obtain ⟨A1', A2', c1', c2', ps, h1, h2, h3, h4, h5, h6⟩ := HR.out.below HBe.out
              have hx0 : wr.cell? ⟨q, 0, none⟩ = some (.slice A1' L.length c1') := by unfold World.cell?; rw [h3]; rfl
              have HBW := Aside0.mk (show base ≤ wr.heap.size by have := HBe.out.size; have := HBS.out; omega)
              have HQ1 := Aside0.mk h1
              have HQ2 := Aside0.mk h2
              have HQ3 := Aside0.mk h3
              have HQ4 := Aside0.mk h4
              have HQ5 := Aside0.mk h5
              have HQ6 := Aside0.mk h6
              have hml : (L.map (·.name)).length = L.length := List.length_map _
              have HML := Aside0.mk hml
              clear h1 h2 h3 h4 h5 h6 hml
              go_wp2_with (at_builtin; go_loud (refine Kd.R_append Kd.string (w0 := wr) base rfl (.tmp 60) (.tmp 62) 32 9 (.string ⟨#[]⟩) 16 rfl Try.underlying32 info9 rfl (by decide) (by omega) _ (L.map (fun x : Com => x.name)) name [.string name] (fun _ => True) (fun _ => False) rfl (by first | rfl | (simp; done) | (go_simp; done)) rfl (fun _ hk => hk.elim) (fun _ _ => trivial) HQ4.out (Below.refl base wr) HBW.out (by have := HML.out; have := HLL.out; omega) ?_); intro v1 w5 ho hb5 hg hat; go_loud (obtain ⟨A5, c5, rfl⟩ := Kd.R_slice ho; rw [show (L.map (fun x : Com => x.name) ++ [name]).length = L.length + 1 by rw [List.length_append, HML.out]; rfl] at ho; obtain ⟨n1, n2, n3, n4, n5, n6, n7⟩ := ref_named HQ1.out HQ2.out HQ3.out HQ4.out HQ5.out HQ6.out HBW.out ho hb5 hg; have HN1 := Aside0.mk n1; have HN2 := Aside0.mk n2; have HN4 := Aside0.mk n4; have HN5 := Aside0.mk n5; have HN6 := Aside0.mk n6; have HN7 := Aside0.mk n7; have hc5 : w5.cell? ⟨q, 0, none⟩ = some (.slice A1' L.length c1') := (by unfold World.cell?; rw [n3]; rfl); have hf5 : w5.frozen? ⟨q, 0, none⟩ = false := (by simp [World.frozen?, n3]); clear ho hb5 hg hat n1 n2 n3 n4 n5 n6 n7))
              have hps : ps.length = L.length := HQ1.out
              have hq0 : (w5.setCell ⟨q, 0, none⟩ (.slice A5 (L.length + 1) c5)).cell? ⟨q, 0, none⟩ = some (.slice A5 (L.length + 1) c5) := by unfold World.cell?; rw [HN4.out]; rfl
              have hq1 : (w5.setCell ⟨q, 0, none⟩ (.slice A5 (L.length + 1) c5)).cell? ⟨q, 1, none⟩ = some (.slice A2' L.length c2') := by unfold World.cell?; rw [HN4.out]; rfl
              clear hc5 hf5 hx0
              generalize w5.setCell ⟨q, 0, none⟩ (.slice A5 (L.length + 1) c5) = W6 at *
              have HQ0 := Aside0.mk hq0
              have HQQ := Aside0.mk hq1
              have HB6 : Aside0 (Below base w W6 ∧ RKept w W6) := ⟨(HBe.out.mono HBS.out).trans HN1.out, (RKept.of_below HBe.out).trans HN2.out⟩
              have HW6 : Aside0 (base ≤ W6.heap.size) := ⟨by have h1 := HN1.out.size; have h2 := HBW.out; omega⟩
              have hqw : q < W6.heap.size := (Array.getElem?_eq_some_iff.1 HN4.out).1
              have HSO : Aside0 (∀ wr, Below W6.heap.size W6 wr → Calls Try.prog 52 #[.slice A0 fs.length c0] wr fun e w' => ∃ A c, e = .returned (.slice A (srtF fs).length c) ∧ FRow w' A c (srtF fs) ∧ Below W6.heap.size W6 w' ∧ w'.cell? ⟨q, 1, none⟩ = some (.slice A2' L.length c2')) :=
                ⟨fun wr hb => (smockingref25_sorted.calls 4000 A0 c0 fs (srtF fs) wr (HCC.out wr (HB6.out.1.trans (hb.mono HW6.out))) HCP.out HSF.out).mono fun e w' ⟨v, he, ho, hb2⟩ => by
                  obtain ⟨A, c, rfl⟩ := Kd.R_slice ho
                  have hb3 := hb.trans (hb2.mono hb.size)
                  exact ⟨A, c, he, FRow.of_R ho, hb3, (hb3.cell (p := ⟨q, 1, none⟩) hqw).trans HQQ.out⟩⟩
              have HQW := Aside0.mk hqw
              have HPS : Aside0 (ps.length = L.length) := HQ1
              clear hps hqw
              go_wp2_with fail
              refine start_ (n := 12) (S := fun w' => w'.cell? ⟨q, 1, none⟩ = some (.slice A2' L.length c2')) (ds := [11]) #[false, false, false, false, false, false, false, false, false, false, false, false] (by kernel_rfl) rfl rfl HQQ.out (fun hHeld => ?_)
              refine pure_ (i := 0) (N := some 66) (v := ?_) (a' := ?_) #[true, false, false, false, false, false, false, false, false, false, false, false] rfl rfl (by kernel_rfl) (fun _ _ _ h => h) (Or.inl ⟨by rfl, ?_⟩) ?_ ?_
              rotate_left
              · intro w'
                go_simp
                with_reducible rfl
              rotate_left
              · simp only [Act.put, List.setIfInBounds_toArray, List.set_cons_zero, List.set_cons_succ, i64_w, i32_w]
                rfl
              refine pure_ (i := 1) (N := some 67) (v := ?_) (a' := ?_) #[true, true, false, false, false, false, false, false, false, false, false, false] rfl rfl (by kernel_rfl) (fun _ _ _ h => h) (Or.inl ⟨by rfl, ?_⟩) ?_ ?_
              rotate_left
              · intro w'
                go_simp
                with_reducible rfl
              rotate_left
              · simp only [Act.put, List.setIfInBounds_toArray, List.set_cons_zero, List.set_cons_succ, i64_w, i32_w]
                rfl
              refine pure_ (i := 2) (N := some 68) (v := ?_) (a' := ?_) #[true, true, true, false, false, false, false, false, false, false, false, false] rfl rfl (by kernel_rfl) (fun _ _ _ h => h) (Or.inl ⟨by rfl, ?_⟩) ?_ ?_
              rotate_left
              · intro w'
                go_simp
                with_reducible rfl
              rotate_left
              · simp only [Act.put, List.setIfInBounds_toArray, List.set_cons_zero, List.set_cons_succ, i64_w, i32_w]
                rfl
              refine pure_ (i := 3) (N := some 69) (v := ?_) (a' := ?_) #[true, true, true, true, false, false, false, false, false, false, false, false] rfl rfl (by kernel_rfl) (fun _ _ _ h => h) (Or.inl ⟨by rfl, ?_⟩) ?_ ?_
              rotate_left
              · intro w'
                go_simp
                with_reducible rfl
              rotate_left
              · simp only [Act.put, List.setIfInBounds_toArray, List.set_cons_zero, List.set_cons_succ, i64_w, i32_w]
                rfl
              refine pure_ (i := 5) (N := some 71) (v := ?_) (a' := ?_) #[true, true, true, true, false, true, false, false, false, false, false, false] rfl rfl (by kernel_rfl) (fun _ _ _ h => h) (Or.inl ⟨by rfl, ?_⟩) ?_ ?_
              rotate_left
              · intro w'
                go_simp
                with_reducible rfl
              rotate_left
              · simp only [Act.put, List.setIfInBounds_toArray, List.set_cons_zero, List.set_cons_succ, i64_w, i32_w]
                rfl
              refine take_ (i := 4) (N := some 70) (v := ?_) (a' := ?_) #[true, true, true, true, true, true, false, false, false, false, false, false] rfl rfl (by kernel_rfl) (fun _ _ _ h => h) (Or.inl ⟨by rfl, ?_⟩) hHeld ?_ ?_
              rotate_left
              · intro w' s0
                go_simp
                with_reducible rfl
              rotate_left
              · simp only [Act.put, List.setIfInBounds_toArray, List.set_cons_zero, List.set_cons_succ, i64_w, i32_w]
                rfl
              refine one_ (i := 6) (N := some 72) #[true, true, true, true, true, true, true, false, false, false, false, false] rfl rfl (by kernel_rfl) (by decide) (fun K hK => ?_)
              refine goes_ Try.func52 (by kernel_rfl) rfl #[.slice A0 fs.length c0] (by rfl) rfl rfl (by (try simp only [List.map_toArray, List.map_cons, List.map_nil]); first | done | rfl) ?_
              refine (HSO.out _ ((Below.refl _ _).drew)).mono ?_
              rintro e w7 ⟨A7, c7, rfl, hf7, hb7, hq7⟩
              have HF7 := Aside0.mk hf7
              have HB7 := Aside0.mk hb7
              have hq7b : (w7.alloc (.cells #[.slice A7 (srtF fs).length c7] 46)).cell? ⟨q, 1, none⟩ = some (.slice A2' L.length c2') := (World.cell?_alloc_some w7 _ _ (by rw [hq7, Option.isSome_some])).trans hq7
              clear hf7 hb7
              refine ⟨_, rfl, ?_⟩
              refine hK.out _ _ (hq7) (fun hHeld => ?_)
              clear hK K
              refine norm_ (a' := ?_) ?_ ?_
              rotate_left
              · show Act.put _ (some 72) _ = _
                simp only [Act.put, List.setIfInBounds_toArray, List.set_cons_zero, List.set_cons_succ, i64_w, i32_w]
                rfl
              refine one_ (i := 7) (N := some 73) #[true, true, true, true, true, true, true, true, false, false, false, false] rfl rfl (by kernel_rfl) (by decide) (fun K hK => ?_)
              go_simp
              refine hK.out _ _ (hq7b) (fun hHeld => ?_)
              clear hK K
              try simp only [Act.put, List.setIfInBounds_toArray, List.set_cons_zero, List.set_cons_succ, i64_w, i32_w]
              refine one_ (i := 8) (N := some 74) #[true, true, true, true, true, true, true, true, true, false, false, false] rfl rfl (by kernel_rfl) (by decide) (fun K hK => ?_)
              refine append_file (x := ⟨name, srtF fs⟩) (w := w7) base q (A1 := A5) (c1 := c5) (c' := c7) (A' := A7) (L := L) (A2 := A2') (c2 := c2') (ps := ps) ?hw1 ?hg1 ?hs1 ?hx1 ?hW1 HPS.out HQ2.out ((HB7.out.block q HQW.out).trans HN4.out) (Kd.R_below HN5.out HB7.out) (by rw [HPS.out]; exact Kd.R_below HN6.out HB7.out) (fun i a b => ⟨(HN7.out i a b).1, (HN7.out i a b).2.rkeep (RKept.of_below HB7.out)⟩) (Nat.le_trans HW6.out HB7.out.size) HF7.out (by have := HLL.out; omega) (fun A8 c8 w8 h0 h1 h2 h3 h4 => ?_)
              (case hw1 => rfl)
              (case hg1 => rfl)
              (case hs1 => rfl)
              (case hx1 => rfl)
              (case hW1 => rfl)
              have HB8 := Aside0.mk h0
              have HF8 := Aside0.mk h1
              have hc8 := h2
              have hf8 := h3
              have hd8 := h4
              clear h0 h1 h2 h3 h4
              refine hK.out _ _ (hc8) (fun hHeld => ?_)
              clear hK K
              refine norm_ (a' := ?_) ?_ ?_
              rotate_left
              · show Act.put _ (some 74) _ = _
                simp only [Act.put, List.setIfInBounds_toArray, List.set_cons_zero, List.set_cons_succ, i64_w, i32_w]
                rfl
              refine pure_ (i := 9) (N := some 75) (v := ?_) (a' := ?_) #[true, true, true, true, true, true, true, true, true, true, false, false] rfl rfl (by kernel_rfl) (fun _ _ _ h => h) (Or.inl ⟨by rfl, ?_⟩) ?_ ?_
              rotate_left
              · intro w'
                go_simp
                with_reducible rfl
              rotate_left
              · simp only [Act.put, List.setIfInBounds_toArray, List.set_cons_zero, List.set_cons_succ, i64_w, i32_w]
                rfl
              refine pure_ (i := 10) (N := some 76) (v := ?_) (a' := ?_) #[true, true, true, true, true, true, true, true, true, true, true, false] rfl rfl (by kernel_rfl) (fun _ _ _ h => h) (Or.inl ⟨by rfl, ?_⟩) ?_ ?_
              rotate_left
              · intro w'
                go_simp
                with_reducible rfl
              rotate_left
              · simp only [Act.put, List.setIfInBounds_toArray, List.set_cons_zero, List.set_cons_succ, i64_w, i32_w]
                rfl
              refine last_ (i := 11) (N := none) #[true, true, true, true, true, true, true, true, true, true, true, true] rfl rfl (by kernel_rfl) (by decide) (fun K hK => ?_)
              refine skip_ (w1 := ?_) (by rfl) rfl ?_ ?_
              rotate_left
              · go_simp
                rfl
              refine hK.out _ _ ?_
              clear hK K
              refine done_ (by kernel_rfl) ?_
              all_goals (
                have HFN : Aside0 (RefIs (w8.setCell ⟨q, 1, none⟩ (.slice A8 (L.length + 1) c8)) base q (L ++ [⟨name, srtF fs⟩]) ∧ Below base w (w8.setCell ⟨q, 1, none⟩ (.slice A8 (L.length + 1) c8)) ∧ RKept w (w8.setCell ⟨q, 1, none⟩ (.slice A8 (L.length + 1) c8))) := ⟨HF8.out.2.2, (HB6.out.1.trans (HB7.out.mono HW6.out)).trans HF8.out.1, (HB6.out.2.trans (RKept.of_below HB7.out)).trans HF8.out.2.1⟩
                have hw0 : wrap64 (((L.length + 1 : Nat) : Int) - 1) = (L.length : Int) := by rw [w64 (by omega) (by have := HLL.out; omega)]; omega
                have hw1 : IntKind.i64.wrap (((L.length + 1 : Nat) : Int) - 1) = (L.length : Int) := (i64_w _).trans hw0
                generalize w8.setCell ⟨q, 1, none⟩ (.slice A8 (L.length + 1) c8) = W9 at *
                go_wp2_with fail
                go_ret2
                rw [HE.out]
                exact ⟨by first | rfl | (simp; done) | (simp [*]; done), HFN.out⟩)
end Go.Proofs.Ythimblhfjfngiaa.PText

namespace Go.Proofs.Ythimblhfjfngiaa.PText
open Go.RowKit Go.Lib Go.Sort Go.Proofs.YthimblhfjfngiaaW.PrintWords Go.Proofs.YthimblhfjfngiaaW.PrintLast Go.Proofs.YthimblhfjfngiaaW.PrintMore
set_option linter.unusedVariables false
set_option linter.unusedSimpArgs false
/-- what commits come to -/
def bothL (l : List S70) : List Com := l.foldl (fun L s => (commitR L s.f0 s.f1).2.2) []
theorem commitR_len (L : List Com) (name : ByteArray) (fs : List S53) : (commitR L name fs).2.2.length ≤ L.length + 1 := by
  unfold commitR
  split
  · simp
  · split
    · simp
    · split
      · simp
      · simp
theorem bothL_succ (l : List S70) (i : Nat) (h : i < l.length) : bothL (l.take (i + 1)) = (commitR (bothL (l.take i)) l[i].f0 l[i].f1).2.2 := by
  unfold bothL
  rw [List.take_succ_eq_append_getElem h, List.foldl_append]
  rfl
theorem bothL_len (l : List S70) : ∀ i, i ≤ l.length → (bothL (l.take i)).length ≤ i
  | 0, _ => by rw [List.take_zero]; exact Nat.le_refl _
  | i + 1, h => by
    rw [bothL_succ l i (by omega)]
    have := bothL_len l i (by omega)
    have := commitR_len (bothL (l.take i)) l[i].f0 l[i].f1
    omega
theorem keepS {w w' : World} {p q : Addr} {u v : Value} (hb : Below w.heap.size w w') (h1 : w.cell? p = some u) (h2 : w.cell? q = some v) :
    w'.cell? p = some u ∧ w'.cell? q = some v ∧ Below w.heap.size w w' := ⟨(hb.cell (World.block_lt_of_cell? w _ h1)).trans h1, (hb.cell (World.block_lt_of_cell? w _ h2)).trans h2, hb⟩
theorem ref_new {w : World} {base : Nat} (hb : base ≤ w.heap.size) : RefIs (w.alloc (.cells #[.slice none 0 0, .slice none 0 0] 73)) base w.heap.size [] :=
  ⟨none, none, 0, 0, [], rfl, hb, heap_nw _ _, Kd.R_nil _ _ _ _ _, Kd.R_nil _ _ _ _ _, fun i h => absurd h (Nat.not_lt_zero _)⟩
theorem rd70_at (l : List S70) (i : Nat) (h : i < l.length) : rd_T70 l (i : Int) = l[i] := by
  unfold rd_T70
  rw [Int.toNat_natCast, List.getD_eq_getElem?_getD, List.getElem?_eq_getElem h]; rfl
set_option maxRecDepth 100000 in
set_option maxHeartbeats 4000000 in
theorem both_calls (A0 : Option Addr) (c0 : Nat) (l : List S70) (w : World) (hC : Kd.C k70 w A0 l.length l) (hc : l.length ≤ c0) (hl : l.length ≤ 100) :
    Calls Try.prog 17 #[.slice A0 l.length c0] w fun e w' => ∃ p q : Nat, e = .returned (.tuple #[.pointer (some ⟨p, 0, none⟩), .pointer (some ⟨q, 0, none⟩), .bool true]) ∧ PastIs w' w.heap.size p (bothL l) ∧ RefIs w' w.heap.size q (bothL l) ∧ Below w.heap.size w w' := by
  have HC := Aside0.mk hC
  have HL := Aside0.mk hl
  have HCC := Aside0.mk hc
  clear hC hl hc
  go_enter Try.func17, Try.ntmps17
  go_wp2_with (go_at_call 32; refine (new_calls _).mono ?_; rintro e w1 ⟨rfl, hp, hb, hk⟩; have HP1 := Aside0.mk hp; have HB1 := Aside0.mk hb; clear hp hb hk)
  have HR2 := Aside0.mk (ref_new (w := w1) HB1.out.size)
  have HP2 : Aside0 (PastIs (w1.alloc (.cells #[.slice none 0 0, .slice none 0 0] 73)) w.heap.size w.heap.size []) := ⟨HP1.out.below ((Below.refl _ w1).alloc (Nat.le_refl _) _)⟩
  have HB2 : Aside0 (Below w.heap.size w (w1.alloc (.cells #[.slice none 0 0, .slice none 0 0] 73))) := ⟨HB1.out.alloc HB1.out.size _⟩
  generalize w1.alloc (.cells #[.slice none 0 0, .slice none 0 0] 73) = W2 at *
  generalize w1.heap.size = q at *
  clear HP1 HB1
  go_loopg [7] (l.length + 1) (fun kq v7 w' => ∃ i : Nat, v7 = .int .i64 (i : Int) ∧ Aside0 (l.length - i < kq ∧ i ≤ l.length) ∧ Aside0 (PastIs w' w.heap.size w.heap.size (bothL (l.take i))) ∧ Aside0 (RefIs w' w.heap.size q (bothL (l.take i))) ∧ Aside0 (Below w.heap.size w w'))
  case atStart => exact ⟨0, rfl, ⟨by omega, by omega⟩, ⟨by rw [List.take_zero]; exact HP2.out⟩, ⟨by rw [List.take_zero]; exact HR2.out⟩, HB2⟩
  case round =>
    obtain ⟨i, rfl, HI, HPi, HRi, HBi⟩ := hrel
    obtain ⟨k1, rfl⟩ : ∃ k1, gk = k1 + 1 := ⟨gk - 1, by have := HI.out.1; omega⟩
    by_cases hlt : i < l.length
    · have hb : decide ((i : Int) < (l.length : Int)) = true := by simp; omega
      have hb2 : decide ((0 : Int) ≤ (i : Int)) = true := by simp
      have pi0 : (0 : Int) ≤ (i : Int) := by omega
      have pi1 : (i : Int) < (l.length : Int) := by omega
      obtain ⟨ad, A1, c1, e0, hx, hy, hf1, hf2⟩ := at_T70 HC.out (i : Int) pi0 pi1
      cases e0
      rw [Int.toNat_natCast] at hx hy
      rw [rd70_at l i hlt] at hx hy hf1 hf2
      have HSU := Aside0.mk (bothL_succ l i hlt)
      have HLN : Aside0 ((bothL (l.take i)).length ≤ 200) := ⟨by have := bothL_len l i (by omega); have := HL.out; omega⟩
      have HLT := Aside0.mk hlt
      generalize bothL (l.take i) = L at *
      generalize hL' : bothL (l.take (i + 1)) = L' at *
      have HL' := Aside0.mk hL'
      clear hL'
      generalize l[i] = x at *
      have HX := Aside0.mk hx
      have HY := Aside0.mk hy
      have HF := Aside0.mk hf2
      have HF1 := Aside0.mk hf1
      have HCM : Aside0 (∀ wr, Below w.heap.size w wr → PastIs wr w.heap.size w.heap.size L → Calls Try.prog 21 #[.pointer (some ⟨w.heap.size, 0, none⟩), .string x.f0, .slice A1 x.f1.length c1] wr fun e w' => e = .returned (.tuple #[.int .i64 (commitR L x.f0 x.f1).1, .int .i64 (commitR L x.f0 x.f1).2.1]) ∧ PastIs w' w.heap.size w.heap.size (commitR L x.f0 x.f1).2.2 ∧ Below w.heap.size wr w' ∧ PKept wr w') :=
        ⟨fun wr hb hp => commit_calls w.heap.size w.heap.size L x.f0 A1 c1 x.f1 wr hp (Kd.C_below HF.out hb) HF1.out HLN.out hb.size⟩
      have HRM : Aside0 (∀ wr, Below w.heap.size w wr → RefIs wr w.heap.size q L → Calls Try.prog 33 #[.pointer (some ⟨q, 0, none⟩), .string x.f0, .slice A1 x.f1.length c1] wr fun e w' => e = .returned (.tuple #[.int .i64 (commitR L x.f0 x.f1).1, .int .i64 (commitR L x.f0 x.f1).2.1]) ∧ RefIs w' w.heap.size q (commitR L x.f0 x.f1).2.2 ∧ Below w.heap.size wr w' ∧ RKept wr w') :=
        ⟨fun wr hb hr => rcommit_calls w.heap.size q L x.f0 A1 c1 x.f1 wr hr (fun w' hb' => Kd.C_below HF.out (hb.trans hb')) HF1.out HLN.out hb.size⟩
      rw [← HSU.out] at HCM HRM
      generalize (commitR L x.f0 x.f1).1 = r1 at *
      generalize (commitR L x.f0 x.f1).2.1 = r2 at *
      clear hx hy hf1 hf2 HSU
      have hx' := (keepS HBi.out HX.out HY.out).1
      go_wp2_with fail
      go_region_held3 (fun w' => w'.cell? (ad.add (i * 2)) = some (.string x.f0) ∧ w'.cell? ⟨(ad.add (i * 2)).block, (ad.add (i * 2)).off + 1, none⟩ = some (.slice A1 x.f1.length c1) ∧ Below w.heap.size w w')
        (first
          | exact keepS HBi.out HX.out HY.out
          | exact keepS HBi.out.drew HX.out HY.out
          | exact keepS HB6.out HX.out HY.out
          | exact keepS HB6.out.drew HX.out HY.out
          | fail)
        (first
          | (go_at_call 21; with_reducible refine (HCM.out _ ?zb ?zc).mono ?_; (case zb => first | exact HBi.out | exact HBi.out.drew); (case zc => first | exact HPi.out | exact HPi.out.below (Below.refl _ _).drew); rintro e w6 ⟨rfl, hp6, hb6, hk6⟩; have HP6 := Aside0.mk hp6; have HB6 := Aside0.mk (HBi.out.trans (Below.trans (by first | exact Below.refl _ _ | exact (Below.refl _ _).drew) hb6)); have HR6 := Aside0.mk ((HRi.out.below (by first | exact Below.refl _ _ | exact (Below.refl _ _).drew)).keep hk6); clear hp6 hb6 hk6)
          | fail)
      go_split_ands
      go_wp2_with fail
      go_region_held3 (fun w' => w'.cell? (ad.add (i * 2)) = some (.string x.f0) ∧ w'.cell? ⟨(ad.add (i * 2)).block, (ad.add (i * 2)).off + 1, none⟩ = some (.slice A1 x.f1.length c1) ∧ Below w.heap.size w w')
        (first
          | exact keepS HB6.out HX.out HY.out
          | exact keepS HB6.out.drew HX.out HY.out
          | exact keepS HB8.out HX.out HY.out
          | exact keepS HB8.out.drew HX.out HY.out
          | fail)
        (first
          | (go_at_call 33; with_reducible refine (HRM.out _ ?zb ?zc).mono ?_; (case zb => first | exact HB6.out | exact HB6.out.drew); (case zc => first | exact HR6.out | exact HR6.out.below (Below.refl _ _).drew); rintro e w8 ⟨rfl, hr8, hb8, hk8⟩; have HR8 := Aside0.mk hr8; have HB8 := Aside0.mk (HB6.out.trans (Below.trans (by first | exact Below.refl _ _ | exact (Below.refl _ _).drew) hb8)); have HP8 := Aside0.mk ((HP6.out.below (by first | exact Below.refl _ _ | exact (Below.refl _ _).drew)).rkeep hk8); clear hr8 hb8 hk8)
          | fail)
      go_split_ands
      go_wp2_with fail
      go_roundg k1
      case measure => have := HI.out.1; have := HLT.out; omega
      case rel => exact ⟨i + 1, congrArg (Value.int .i64) (by first | exact nx i (by have := HL.out; have := HLT.out; omega) | (have := HL.out; have := HLT.out; omega)), ⟨by have := HI.out.1; have := HLT.out; omega, by have := HLT.out; omega⟩, ⟨by rw [HL'.out]; exact HP8.out⟩, ⟨by rw [HL'.out]; exact HR8.out⟩, HB8⟩
    · have hb : decide ((i : Int) < (l.length : Int)) = false := by simp; omega
      have hi : l.take i = l := List.take_of_length_le (by omega)
      rw [hi] at HPi HRi
      clear hi
      go_wp2_with fail
      go_ret3
      exact ⟨_, _, rfl, HPi.out, HRi.out, HBi.out⟩
end Go.Proofs.Ythimblhfjfngiaa.PText

namespace Go.Proofs.Ythimblhfjfngiaa.PText
open Go.RowKit Go.Lib Go.Sort Go.Proofs.YthimblhfjfngiaaW.PrintWords Go.Proofs.YthimblhfjfngiaaW.PrintLast Go.Proofs.YthimblhfjfngiaaW.PrintMore
set_option linter.unusedVariables false
set_option linter.unusedSimpArgs false
/-- the files of a commit, as a commit leaves them -/
structure Neat (fs : List S53) : Prop where
  few : fs.length ≤ 60
  names : (fnames fs).Nodup
  full : ¬ ∃ x ∈ fs, x.f0.toList = []
  srt : srtF fs = fs
theorem srt_perm (fs : List S53) (hf : fs.length ≤ 10000) (h : (fnames fs).Nodup) : (srtF fs).Perm fs := by
  obtain ⟨d, -, h2, h3⟩ := sorted_l0 fs hf (fs.length + 3) (Nat.le_refl _) fs.length 0 _ [] (by omega) (by omega) (Nat.le_refl _) (by rw [List.take_zero]) List.Pairwise.nil
  rw [← srt_eq h2 (sortedF_of h3) h]; exact h2
theorem neat_srt (fs : List S53) (h1 : fs.length ≤ 60) (h2 : (fnames fs).Nodup) (h3 : ¬ ∃ x ∈ fs, x.f0.toList = []) : Neat (srtF fs) := by
  have hp := srt_perm fs (by omega) h2
  refine ⟨by rw [hp.length_eq]; exact h1, (perm_names hp).nodup_iff.2 h2, ?_, Tx.ord_ord ltFL_lin (Tx.asc_ord ltFL_lin)⟩
  rintro ⟨x, hx, e⟩
  exact h3 ⟨x, hp.mem_iff.1 hx, e⟩
/-- what a commit leaves -/
theorem commit_cases (L : List Com) (name : ByteArray) (fs : List S53) : (commitR L name fs).2.2 = L ∨ ((commitR L name fs).2.2 = L ++ [⟨name, srtF fs⟩] ∧ fs.length ≤ 60 ∧ (fnames fs).Nodup ∧ ¬ ∃ x ∈ fs, x.f0.toList = []) := by
  unfold commitR
  by_cases h1 : L.length = 200 ∨ 60 < fs.length
  · rw [if_pos h1]; exact .inl rfl
  · rw [if_neg h1]
    by_cases h2 : ¬ (fnames fs).Nodup
    · rw [if_pos h2]; exact .inl rfl
    · rw [if_neg h2]
      by_cases h3 : ∃ x ∈ fs, x.f0.toList = []
      · rw [if_pos h3]; exact .inl rfl
      · rw [if_neg h3]
        exact .inr ⟨rfl, by omega, Decidable.of_not_not h2, h3⟩
theorem commit_neat {fs : List S53} (L : List Com) (name : ByteArray) (h : Neat fs) (hL : L.length < 200) : commitR L name fs = ((L.length : Int), 0, L ++ [⟨name, fs⟩]) := by
  unfold commitR
  have := h.few
  rw [if_neg (by omega), if_neg (fun q => q h.names), if_neg h.full, h.srt]
/-- the commits of steps that are not large -/
structure Fair (B : Nat) (L : List Com) : Prop where
  neat : ∀ c ∈ L, Neat c.files
  small : ∀ c ∈ L, ∀ x ∈ c.files, x.f1.size ≤ B
theorem fair_both (B : Nat) (l : List S70) (h : ∀ s ∈ l, ∀ x ∈ s.f1, x.f1.size ≤ B) : ∀ i, i ≤ l.length → Fair B (bothL (l.take i))
  | 0, _ => by rw [List.take_zero]; exact ⟨fun c m => (by cases m), fun c m => (by cases m)⟩
  | i + 1, hi => by
    have ih := fair_both B l h i (by omega)
    rw [bothL_succ l i (by omega)]
    rcases commit_cases (bothL (l.take i)) l[i].f0 l[i].f1 with e | ⟨e, h1, h2, h3⟩
    · rw [e]; exact ih
    · rw [e]
      refine ⟨fun c m => ?_, fun c m x hx => ?_⟩
      · rcases List.mem_append.1 m with m | m
        · exact ih.neat c m
        · rw [List.mem_singleton.1 m]; exact neat_srt _ h1 h2 h3
      · rcases List.mem_append.1 m with m | m
        · exact ih.small c m x hx
        · rw [List.mem_singleton.1 m] at hx
          exact h l[i] (List.getElem_mem _) x ((srt_perm l[i].f1 (by omega) h2).mem_iff.1 hx)
theorem Fair.toSmall {B : Nat} {L : List Com} (h : Fair B L) (hB : B ≤ 1000000) : Small L := fun c m => ⟨by have := (h.neat c m).few; omega, fun x hx => by have := h.small c m x hx; omega⟩
/-- a whole text is its own text: no edits -/
theorem blame_self (t : ByteArray) (who : List Int) (k : Int) (h1 : (linesB t).length ≤ 2000) (h2 : t.size ≤ 200000) : (editsR t t).2 = 0 ∧ blameR t t who k = who := by
  have e := editsR_ok t t h2 h2 h1 h1
  have e0 : (editsR t t).2 = 0 := by rw [e]
  refine ⟨e0, ?_⟩
  unfold blameR
  rw [if_neg (fun q => q e0), Tx.edits_self]
  rfl
theorem edits_fit {a b : ByteArray} (h : (editsR a b).2 = 0) : (linesB b).length ≤ 2000 ∧ b.size ≤ 200000 := by
  unfold editsR at h
  by_cases c : (sizedR a b 0).2 = 0
  · obtain ⟨-, -, -, -, n2, -, n4⟩ := sized_zero c
    exact ⟨n2, n4⟩
  · rw [if_neg c] at h; exact absurd h c
/-- the blame of commits behind which one comes that changes nothing -/
theorem blGo_snoc (file : ByteArray) (c : Com) : ∀ (L : List Com) (k : Nat) (old : ByteArray) (out : List Int), (∀ hL : L ≠ [], (findR (L.getLast hL).files file).1 = (findR c.files file).1) → (L = [] → old = (findR c.files file).1 ∧ (linesB old).length ≤ 2000 ∧ old.size ≤ 200000) → blGo file (L ++ [c]) k old out = blGo file L k old out
  | [], k, old, out, _, h => by
    obtain ⟨h1, h2, h3⟩ := h rfl
    obtain ⟨e1, e2⟩ := blame_self old out (k : Int) h2 h3
    show (if (editsR old (findR c.files file).1).2 ≠ 0 then _ else blGo file [] (k + 1) (findR c.files file).1 (blameR old (findR c.files file).1 out (k : Int))) = (out, 0)
    rw [← h1, if_neg (fun q => q e1), e2]
    rfl
  | d :: L, k, old, out, hl, _ => by
    show (if (editsR old (findR d.files file).1).2 ≠ 0 then _ else blGo file (L ++ [c]) (k + 1) (findR d.files file).1 (blameR old (findR d.files file).1 out (k : Int))) = (if (editsR old (findR d.files file).1).2 ≠ 0 then _ else blGo file L (k + 1) (findR d.files file).1 (blameR old (findR d.files file).1 out (k : Int)))
    by_cases hz : (editsR old (findR d.files file).1).2 ≠ 0
    · rw [if_pos hz, if_pos hz]
    · rw [if_neg hz, if_neg hz]
      have hf := edits_fit (Decidable.of_not_not hz)
      refine blGo_snoc file c L (k + 1) _ _ (fun hL => ?_) (fun hL => ?_)
      · have := hl (by simp)
        rw [List.getLast_cons hL] at this
        exact this
      · subst hL
        exact ⟨hl (by simp), hf.1, hf.2⟩
theorem blameA_again (L : List Com) (file name : ByteArray) (hL : L ≠ []) : blameA (L ++ [⟨name, (L.getLast hL).files⟩]) file = blameA L file := by
  unfold blameA
  rw [List.getLast?_append, List.getLast?_eq_some_getLast hL]
  show (if (findR (L.getLast hL).files file).2 = true then blGo file (L ++ [⟨name, (L.getLast hL).files⟩]) 0 ⟨#[]⟩ [] else ([], 4)) = (if (findR (L.getLast hL).files file).2 = true then blGo file L 0 ⟨#[]⟩ [] else ([], 4))
  rw [blGo_snoc file ⟨name, (L.getLast hL).files⟩ L 0 ⟨#[]⟩ [] (fun _ => rfl) (fun e => absurd e hL)]
/-- a commit that has a line in a file -/
def HasLine (L : List Com) (file : ByteArray) (x : List UInt8) (k : Int) : Prop := ∃ i : Nat, ∃ h : i < L.length, k = (i : Int) ∧ ∃ f ∈ L[i].files, f.f0.toList = file.toList ∧ x ∈ Tx.lines (bL f.f1)
theorem findR_mem {l : List S53} {file : ByteArray} {x : List UInt8} (h : x ∈ Tx.lines (bL (findR l file).1)) : ∃ f ∈ l, f.f0.toList = file.toList ∧ x ∈ Tx.lines (bL f.f1) := by
  rcases find_split file l with ⟨k, hk, q1, -, q3⟩ | ⟨-, q2⟩
  · rw [q3] at h
    refine ⟨l[k], List.getElem_mem hk, ?_, h⟩
    unfold nameP at q1
    exact of_decide_eq_true (by simpa using q1)
  · rw [q2] at h; cases h
theorem blGo_lines (A : List Com) (file : ByteArray) : ∀ (L : List Com) (k : Nat) (old : ByteArray) (out : List Int), A.drop k = L → k ≤ A.length → out.length = (linesB old).length → (∀ i, ∀ h : i < (Tx.lines (bL old)).length, ∀ h' : i < out.length, HasLine A file (Tx.lines (bL old))[i] out[i]) → (blGo file L k old out).2 = 0 →
    ∃ t, (L = [] → t = old) ∧ (∀ hL : L ≠ [], t = (findR (L.getLast hL).files file).1) ∧ (blGo file L k old out).1.length = (linesB t).length ∧ ∀ i, ∀ h : i < (Tx.lines (bL t)).length, ∀ h' : i < (blGo file L k old out).1.length, HasLine A file (Tx.lines (bL t))[i] (blGo file L k old out).1[i]
  | [], k, old, out, hA, hk, hl, hg, _ => ⟨old, fun _ => rfl, fun h => absurd rfl h, hl, hg⟩
  | c :: L, k, old, out, hA, hk, hl, hg, hz => by
    have hkA : k < A.length := by
      rcases Nat.lt_or_ge k A.length with h | h
      · exact h
      · rw [List.drop_eq_nil_of_le h] at hA; cases hA
    have hc : A[k] = c ∧ A.drop (k + 1) = L := by
      rw [List.drop_eq_getElem_cons hkA] at hA
      exact List.cons.inj hA
    have hgo : blGo file (c :: L) k old out = if (editsR old (findR c.files file).1).2 ≠ 0 then ([], (editsR old (findR c.files file).1).2) else blGo file L (k + 1) (findR c.files file).1 (blameR old (findR c.files file).1 out (k : Int)) := rfl
    by_cases he : (editsR old (findR c.files file).1).2 ≠ 0
    · rw [hgo, if_pos he] at hz
      exact absurd hz he
    · rw [if_neg he] at hgo
      rw [hgo] at hz ⊢
      have hbr : blameR old (findR c.files file).1 out (k : Int) = Tx.bl (Tx.lines (bL old)) out (k : Int) 0 (Tx.edits (bL old) (bL (findR c.files file).1)) := by unfold blameR; rw [if_neg he]
      have hb := Tx.bl_edits (bL old) (bL (findR c.files file).1) out (k : Int) (by rw [hl, lines_len]) (HasLine A file) (fun i h => hg i h (by rw [hl, lines_len]; exact h)) (fun x hx => by
        obtain ⟨f, h1, h2, h3⟩ := findR_mem hx
        exact ⟨k, hkA, rfl, f, by rw [hc.1]; exact h1, h2, h3⟩)
      obtain ⟨t, t1, t2, t3, t4⟩ := blGo_lines A file L (k + 1) (findR c.files file).1 (blameR old (findR c.files file).1 out (k : Int)) hc.2 (by omega) (by rw [hbr, hb.1, lines_len]) (fun i h h' => by
        have := hb.2 i h (by rw [← hbr]; exact h')
        simp only [hbr]; exact this) hz
      refine ⟨t, fun h => (by cases h), fun hL => ?_, t3, t4⟩
      by_cases hLn : L = []
      · subst hLn
        exact t1 rfl
      · rw [List.getLast_cons hLn]
        exact t2 hLn
/-- each line of a file is blamed on a commit whose file has it -/
theorem blameA_lines (L : List Com) (file : ByteArray) (hL : L ≠ []) (hz : (blameA L file).2 = 0) : (blameA L file).1.length = (linesB (findR (L.getLast hL).files file).1).length ∧ ∀ i, ∀ h : i < (Tx.lines (bL (findR (L.getLast hL).files file).1)).length, ∀ h' : i < (blameA L file).1.length, HasLine L file (Tx.lines (bL (findR (L.getLast hL).files file).1))[i] (blameA L file).1[i] := by
  have hA : blameA L file = if (findR (L.getLast hL).files file).2 = true then blGo file L 0 ⟨#[]⟩ [] else ([], 4) := by unfold blameA; rw [List.getLast?_eq_some_getLast hL]
  by_cases hf : (findR (L.getLast hL).files file).2 = true
  · rw [if_pos hf] at hA
    rw [hA] at hz ⊢
    obtain ⟨t, -, t2, t3, t4⟩ := blGo_lines L file L 0 ⟨#[]⟩ [] (by rw [List.drop_zero]) (Nat.zero_le _) rfl (fun i h => absurd h (by show ¬ i < 0; omega)) hz
    have e := t2 hL
    subst e
    exact ⟨t3, t4⟩
  · rw [if_neg hf] at hA
    rw [hA] at hz; cases hz
/-- with names unlike one another, a file that has the name is the one that is found -/
theorem findR_at {fs : List S53} {file : ByteArray} (h : (fnames fs).Nodup) (i : Nat) (hi : i < fs.length) (he : fs[i].f0.toList = file.toList) : (findR fs file).1 = fs[i].f1 := by
  rcases find_split file fs with ⟨k, hk, q1, -, q3⟩ | ⟨q1, -⟩
  · have e1 : fs[k].f0.toList = file.toList := by unfold nameP at q1; exact of_decide_eq_true (by simpa using q1)
    have : k = i := by
      rcases Nat.lt_trichotomy k i with c | c | c
      · exact absurd h (dup_not c hi (by rw [he, e1]))
      · exact c
      · exact absurd h (dup_not c hk (by rw [he, e1]))
    subst this
    rw [q3]
  · have := q1 i hi
    unfold nameP at this
    rw [he] at this
    simp at this
end Go.Proofs.Ythimblhfjfngiaa.PText

namespace Go.Proofs.Ythimblhfjfngiaa.PText
open Go.RowKit Go.Lib Go.Sort Go.Proofs.YthimblhfjfngiaaW.PrintWords Go.Proofs.YthimblhfjfngiaaW.PrintLast Go.Proofs.YthimblhfjfngiaaW.PrintMore
set_option linter.unusedVariables false
set_option linter.unusedSimpArgs false
/-- steps of an argument: no text is longer than memory -/
def Held (l : List S70) : Prop := l.length ≤ 140737488355328 ∧ ∀ s ∈ l, s.f1.length ≤ 140737488355328 ∧ ∀ x ∈ s.f1, x.f0.size ≤ 140737488355328 ∧ x.f1.size ≤ 140737488355328
theorem w4 (n a b : Int) (h0 : 0 ≤ n) (h1 : n ≤ 6000) (ha : 0 ≤ a) (ha2 : a ≤ 140737488355328) (hb : 0 ≤ b) (hb2 : b ≤ 140737488355328) : wrap64 (wrap64 (wrap64 (n + 1) + a) + b) = n + 1 + a + b := by
  rw [w64 (x := n + 1) (by omega) (by omega), w64 (x := n + 1 + a) (by omega) (by omega), w64 (by omega) (by omega)]
theorem nx48 (j : Nat) (h : j ≤ 140737488355328) : wrap64 ((j : Int) + 1) = ((j + 1 : Nat) : Int) := by rw [w64 (by omega) (by omega)]; omega
theorem heavy_step (l : List S70) (h : Held l) (i : Nat) (hi : i < l.length) (j k : Nat) (n : Int) (h0 : 0 ≤ n) (h1 : n ≤ 6000) (hj : j < l[i].f1.length) :
    smockinglaw25_heavy.l1 (k + 1) l n (i : Int) (j : Int) = smockinglaw25_heavy.l1 k l (n + 1 + (l[i].f1[j].f0.size : Int) + (l[i].f1[j].f1.size : Int)) (i : Int) ((j + 1 : Nat) : Int) := by
  have hr : rd_T70 l (i : Int) = l[i] := rd70_at l i hi
  have hs := (h.2 l[i] (List.getElem_mem hi))
  have hx := hs.2 l[i].f1[j] (List.getElem_mem hj)
  rw [smockinglaw25_heavy.l1, if_pos (by omega), if_pos (by omega), hr, if_pos (by omega), if_pos h1, if_pos (by omega), rd53_at _ j hj, w4 n _ _ h0 h1 (by omega) (by have := hx.1; omega) (by omega) (by have := hx.2; omega), nx48 j (by have := hs.1; omega)]
theorem heavy_stop (l : List S70) (i : Nat) (hi : i < l.length) (j k : Nat) (n : Int) (h : ¬ (n ≤ 6000 ∧ j < l[i].f1.length)) :
    smockinglaw25_heavy.l1 (k + 1) l n (i : Int) (j : Int) = smockinglaw25_heavy.l0 k l n (wrap64 ((i : Int) + 1)) := by
  have hr : rd_T70 l (i : Int) = l[i] := rd70_at l i hi
  rw [smockinglaw25_heavy.l1, if_pos (by omega), if_pos (by omega), hr]
  by_cases c1 : (j : Int) < (l[i].f1.length : Int)
  · rw [if_pos c1, if_neg (by omega)]
  · rw [if_neg c1]
theorem heavy_l1 (l : List S70) (h : Held l) (i : Nat) (hi : i < l.length) : ∀ (M j k : Nat) (n : Int), 6001 - n ≤ (M : Int) → 0 ≤ n → j ≤ l[i].f1.length → M + 3 ≤ k →
    ∃ (n' : Int) (k' : Nat), k ≤ k' + M + 2 ∧ 0 ≤ n' ∧ n ≤ n' ∧ (n' ≤ 6000 → ∀ x ∈ l[i].f1.drop j, x.f1.size ≤ 6000) ∧ smockinglaw25_heavy.l1 k l n (i : Int) (j : Int) = smockinglaw25_heavy.l0 k' l n' (wrap64 ((i : Int) + 1))
  | M, j, 0, n, hM, h0, hj, hk => absurd hk (by omega)
  | M, j, k + 1, n, hM, h0, hj, hk => by
    by_cases c : n ≤ 6000 ∧ j < l[i].f1.length
    · obtain ⟨c1, c2⟩ := c
      have hM0 : M ≠ 0 := by intro e; subst e; omega
      obtain ⟨M', rfl⟩ : ∃ M', M = M' + 1 := Nat.exists_eq_succ_of_ne_zero hM0
      rw [heavy_step l h i hi j k n h0 c1 c2]
      obtain ⟨n', k', q1, q2, q4, q5, q6⟩ := heavy_l1 l h i hi M' (j + 1) k (n + 1 + (l[i].f1[j].f0.size : Int) + (l[i].f1[j].f1.size : Int)) (by omega) (by omega) (by omega) (by omega)
      refine ⟨n', k', by omega, q2, by omega, fun hn x hx' => ?_, q6⟩
      rw [List.drop_eq_getElem_cons c2] at hx'
      rcases List.mem_cons.1 hx' with rfl | hx'
      · omega
      · exact q5 hn x hx'
    · rw [heavy_stop l i hi j k n c]
      refine ⟨n, k, by omega, h0, Int.le_refl _, fun hn x hx => ?_, rfl⟩
      rw [List.drop_eq_nil_of_le (by omega)] at hx; cases hx
theorem heavy_l0 (l : List S70) (h : Held l) (F : Nat) (hF : 6006 ≤ F) : ∀ (m i k : Nat) (n : Int), l.length - i = m → i ≤ l.length → 0 ≤ n → m * F + 10 ≤ k → ∃ r, smockinglaw25_heavy.l0 k l n (i : Int) = some r ∧ (r = false → n ≤ 6000 ∧ l.length ≤ 30 ∧ ∀ s ∈ l.drop i, ∀ x ∈ s.f1, x.f1.size ≤ 6000)
  | 0, i, k, n, hm, hi, h0, hk => by
    obtain ⟨k, rfl⟩ : ∃ q, k = q + 1 + 1 := ⟨k - 2, by omega⟩
    rw [smockinglaw25_heavy.l0, if_neg (by omega), smockinglaw25_heavy.j1, if_neg (by decide)]
    by_cases c : n > 6000
    · rw [if_pos c]; exact ⟨true, rfl, fun q => by cases q⟩
    · rw [if_neg c]
      refine ⟨_, rfl, fun q => ⟨by omega, by have := of_decide_eq_false q; omega, fun s hs => ?_⟩⟩
      rw [List.drop_eq_nil_of_le (by omega)] at hs; cases hs
  | m + 1, i, k, n, hm, hi, h0, hk => by
    have hil : i < l.length := by omega
    rw [Nat.succ_mul] at hk
    obtain ⟨k, rfl⟩ : ∃ q, k = q + 1 + 1 := ⟨k - 2, by omega⟩
    rw [smockinglaw25_heavy.l0, if_pos (by omega), smockinglaw25_heavy.j1]
    by_cases c : n ≤ 6000
    · obtain ⟨n', k', q1, q2, q4, q5, q6⟩ := heavy_l1 l h i hil 6001 0 k n (by omega) h0 (Nat.zero_le _) (by omega)
      rw [if_pos (by simpa using c)]
      rw [show ((0 : Nat) : Int) = 0 from rfl] at q6
      rw [q6, nx48 i (by have := h.1; omega)]
      obtain ⟨r, r1, r2⟩ := heavy_l0 l h F hF m (i + 1) k' n' (by omega) (by omega) q2 (by omega)
      refine ⟨r, r1, fun e => ?_⟩
      obtain ⟨z1, z2, z3⟩ := r2 e
      refine ⟨c, z2, fun s hs x hx => ?_⟩
      rw [List.drop_eq_getElem_cons hil] at hs
      rcases List.mem_cons.1 hs with rfl | hs
      · exact q5 z1 x (by rwa [List.drop_zero])
      · exact z3 s hs x hx
    · rw [if_neg (by simpa using c)]
      by_cases c2 : n > 6000
      · rw [if_pos c2]; exact ⟨true, rfl, fun q => by cases q⟩
      · omega
theorem heavy_f (l : List S70) (h : Held l) (F : Nat) (hF : 6006 ≤ F) : ∃ r, smockinglaw25_heavy.f (l.length * F + 10) l = some r ∧ (r = false → l.length ≤ 30 ∧ ∀ s ∈ l, ∀ x ∈ s.f1, x.f1.size ≤ 6000) := by
  obtain ⟨r, r1, r2⟩ := heavy_l0 l h F hF l.length 0 _ 0 (by omega) (by omega) (by omega) (Nat.le_refl _)
  refine ⟨r, r1, fun e => ?_⟩
  have := r2 e
  rw [List.drop_zero] at this
  exact this.2
theorem eqInts_l0 (l : List Int) (hl : l.length ≤ 1000000) : ∀ (m i k : Nat), l.length - i = m → i ≤ l.length → m + 1 ≤ k → rf0_EqInts.l0 k l l (i : Int) = some true
  | 0, i, k, hm, hi, hk => by
    obtain ⟨k, rfl⟩ : ∃ q, k = q + 1 := ⟨k - 1, by omega⟩
    rw [rf0_EqInts.l0, if_neg (by omega)]
  | m + 1, i, k, hm, hi, hk => by
    obtain ⟨k, rfl⟩ : ∃ q, k = q + 1 := ⟨k - 1, by omega⟩
    rw [rf0_EqInts.l0, if_pos (by omega), if_pos (by omega), if_pos (by omega), if_pos rfl, nx i (by omega)]
    exact eqInts_l0 l hl m (i + 1) k (by omega) (by omega) (by omega)
theorem eqInts_f (l : List Int) (hl : l.length ≤ 1000000) (k : Nat) (hk : l.length + 1 ≤ k) : rf0_EqInts.f k l l = some true := by
  unfold rf0_EqInts.f
  rw [if_pos rfl]
  exact eqInts_l0 l hl l.length 0 k (by omega) (by omega) hk
end Go.Proofs.Ythimblhfjfngiaa.PText

namespace Go.Proofs.Ythimblhfjfngiaa.PText
open Go.RowKit Go.ChangeShapes Go.WideShapes Go.Proofs.YthimblhfjfngiaaW.PrintWords Go.Proofs.YthimblhfjfngiaaW.PrintLast Go.Proofs.YthimblhfjfngiaaW.PrintMore
/-- a file as data -/
def fiD {H : Type} (x : S53) : DataW H := .agg [.lit (.string x.f0.data.toList), .lit (.string x.f1.data.toList)]
theorem p_cells53 : Try.prog.cellsOf 53 = 2 := by kernel_rfl
theorem p_cells46 : Try.prog.cellsOf 46 = 1 := by kernel_rfl
theorem p_cells9 : Try.prog.cellsOf 9 = 1 := by kernel_rfl
theorem p_cells70 : Try.prog.cellsOf 70 = 2 := by kernel_rfl
theorem p_bytes53 : Try.prog.bytesOf 53 = 32 := by kernel_rfl
theorem p_bytes70 : Try.prog.bytesOf 70 = 40 := by kernel_rfl
theorem p_one_cell {α : Type} {l : List α} {n : Nat} (i : Nat) (h : l.length = n) (hi : i < n) : ∃ v, l[i]? = some v ∧ (l.drop i).take 1 = [v] := by
  refine ⟨l[i], List.getElem?_eq_getElem (by omega), ?_⟩
  rw [List.drop_eq_getElem_cons (by omega)]
  rfl
theorem open_file {H : Type} {enc : TypeId × Value → H} {W : World} {base : Nat} {sp : Nat → Bool} {held : Bool} {n : Nat} {a : Addr} {cs : List Value} {x : DataW H × List MemPlace}
    (h1 : W.cells? base a 2 = some cs) (h2 : DataW.trod enc Try.prog W base sp held n 53 cs = some x) :
    ∃ t : S53, x.1 = fiD t ∧ ∀ i u, [Value.string t.f0, .string t.f1][i]? = some u → W.cell? (a.add i) = some u := by
  obtain ⟨_, hlen, hcell⟩ := World.cells?_some h1
  obtain ⟨xs, k, -, rfl, -, hxl, hf⟩ := DataW.trod_struct Try.underlying53 h2
  obtain ⟨v0, e0, d0⟩ := p_one_cell 0 hlen (by omega)
  obtain ⟨v1, e1, d1⟩ := p_one_cell 1 hlen (by omega)
  match xs, hxl with
  | [y0, y1], _ =>
    have g0 : DataW.trod enc Try.prog W base sp held k 9 ((cs.drop 0).take (Try.prog.cellsOf 9)) = some y0 := hf 0 _ rfl
    have g1 : DataW.trod enc Try.prog W base sp held k 9 ((cs.drop 1).take (Try.prog.cellsOf 9)) = some y1 := hf 1 _ rfl
    rw [p_cells9, d0] at g0
    rw [p_cells9, d1] at g1
    obtain ⟨m0, q0, z0, -⟩ := DataW.trod_string Try.underlying9 g0
    obtain ⟨m1, q1, z1, -⟩ := DataW.trod_string Try.underlying9 g1
    obtain rfl : v0 = .string m0 := by simpa using q0
    obtain rfl : v1 = .string m1 := by simpa using q1
    refine ⟨⟨m0, m1⟩, by rw [z0, z1]; rfl, ?_⟩
    intro i u hu
    match i, hu with
    | 0, hu => rw [hcell 0 (by omega), e0]; exact hu
    | 1, hu => rw [hcell 1 (by omega), e1]; exact hu
    | (i + 2), hu => simp at hu
theorem pweight_all {H : Type} {P : Program} {e : TypeId} {n : Nat} : ∀ {l : List (DataW H)} {d : DataW H}, d ∈ l → n ∈ d.weights P e → n ∈ DataW.weightsAll P e l
  | x :: l, d, h, hn => by
    simp only [DataW.weightsAll, List.mem_append]
    rcases List.mem_cons.1 h with h | h
    · subst h; exact .inl hn
    · exact .inr (pweight_all h hn)
/-- files that are read -/
theorem open_files {H : Type} {enc : TypeId × Value → H} {W : World} {base : Nat} {sp : Nat → Bool} {held : Bool} {fuel : Nat} {v : Value} {x : DataW H × List MemPlace} (hf : DataW.trod enc Try.prog W base sp held fuel 46 [v] = some x) :
    ∃ (A : Option Addr) (cap : Nat) (l : List S53), v = .slice A l.length cap ∧ l.length ≤ cap ∧ Kd.C k53 W A l.length l ∧ ∀ B : Nat, (∀ n ∈ x.1.weights Try.prog 46, n ≤ B) → l.length ≤ B ∧ ∀ y ∈ l, y.f0.size ≤ B ∧ y.f1.size ≤ B := by
  have hinh : Inhabited S53 := ⟨z53⟩
  rcases Deep.open_slice Try.underlying46 hf with ⟨hcs, hx⟩ | ⟨a, len, cap, m, n, D, Pl, hcs, hb, hl, hm, hmm, hx, hel⟩
  · obtain rfl : v = .slice none 0 0 := by simpa using hcs
    exact ⟨none, 0, [], rfl, Nat.le_refl _, ⟨rfl, by simp, fun h => absurd h (by simp)⟩, fun B _ => ⟨Nat.zero_le _, fun y hy => by cases hy⟩⟩
  · obtain rfl : v = .slice (some a) len cap := by simpa using hcs
    have hlm : len ≤ m := by rw [hmm]; split <;> omega
    obtain ⟨q, hq⟩ := Deep.choose_lt (α := S53) (n := len) (p := fun i t => D i = fiD t ∧ ∀ j u, [Value.string t.f0, .string t.f1][j]? = some u → W.cell? ((a.add (i * 2)).add j) = some u) (fun i hi => by
      obtain ⟨cs', h1, h2⟩ := hel i (by omega)
      rw [p_cells53] at h1
      obtain ⟨t, t1, t2⟩ := open_file h1 h2
      exact ⟨t, t1, t2⟩)
    have hlen : ((List.range len).map q).length = len := by simp
    refine ⟨some a, cap, (List.range len).map q, by rw [hlen], by rw [hlen]; exact hl, ⟨rfl, by rw [hlen]; unfold maxLen at hm; omega, fun _ => ⟨a, rfl, fun j t hj => ?_⟩⟩, ?_⟩
    · have hj2 : j < len := by
        rcases Nat.lt_or_ge j len with h | h
        · exact h
        · rw [List.getElem?_eq_none (by rw [hlen]; exact h)] at hj; cases hj
      have ht : t = q j := by
        rw [List.getElem?_map, List.getElem?_range hj2] at hj
        exact (Option.some.inj hj).symm
      subst ht
      refine ⟨_, rfl, k53_mk W (q j), fun i u hu => ?_⟩
      have := (hq j hj2).2 i u hu
      rw [Deep.add_add] at this
      exact this
    · intro B hB
      have hd : x.1 = .slice ((List.range len).map D) ((List.range (m - len)).map fun j => D (len + j)) := congrArg Prod.fst hx
      rw [hd] at hB
      simp only [DataW.weights, Try.underlying46] at hB
      constructor
      · have := hB _ List.mem_cons_self
        rw [p_bytes53, List.length_map, List.length_range] at this
        rw [hlen]
        omega
      · intro y hy
        obtain ⟨i, hi, rfl⟩ := List.mem_map.1 hy
        have hi' := List.mem_range.1 hi
        have key : ∀ z, z ∈ (fiD (H := H) (q i)).weights Try.prog 53 → z ≤ B := fun z hz => hB z (List.mem_cons_of_mem _ (List.mem_append_left _ (pweight_all (List.mem_map.2 ⟨i, hi, rfl⟩) (by rw [(hq i hi').1]; exact hz))))
        have e0 : (q i).f0.size = (q i).f0.data.toList.length := by rw [Array.length_toList]; rfl
        have e1 : (q i).f1.size = (q i).f1.data.toList.length := by rw [Array.length_toList]; rfl
        constructor
        · refine key _ ?_
          rw [e0]
          simp only [fiD, DataW.weights, Try.underlying53]
          simp [DataW.weightsEach, DataW.weights]
        · refine key _ ?_
          rw [e1]
          simp only [fiD, DataW.weights, Try.underlying53]
          simp [DataW.weightsEach, DataW.weights]
theorem open_step {H : Type} {enc : TypeId × Value → H} {W : World} {base : Nat} {sp : Nat → Bool} {held : Bool} {n : Nat} {a : Addr} {cs : List Value} {x : DataW H × List MemPlace}
    (h1 : W.cells? base a 2 = some cs) (h2 : DataW.trod enc Try.prog W base sp held n 70 cs = some x) :
    ∃ (t : S70) (A : Option Addr) (cap : Nat), t.f1.length ≤ cap ∧ Kd.C k53 W A t.f1.length t.f1 ∧ (∀ i u, [Value.string t.f0, .slice A t.f1.length cap][i]? = some u → W.cell? (a.add i) = some u) ∧
      ∀ B : Nat, (∀ n ∈ x.1.weights Try.prog 70, n ≤ B) → t.f1.length ≤ B ∧ ∀ y ∈ t.f1, y.f0.size ≤ B ∧ y.f1.size ≤ B := by
  obtain ⟨_, hlen, hcell⟩ := World.cells?_some h1
  obtain ⟨xs, k, -, rfl, -, hxl, hf⟩ := DataW.trod_struct Try.underlying70 h2
  obtain ⟨v0, e0, d0⟩ := p_one_cell 0 hlen (by omega)
  obtain ⟨v1, e1, d1⟩ := p_one_cell 1 hlen (by omega)
  match xs, hxl with
  | [y0, y1], _ =>
    have g0 : DataW.trod enc Try.prog W base sp held k 9 ((cs.drop 0).take (Try.prog.cellsOf 9)) = some y0 := hf 0 _ rfl
    have g1 : DataW.trod enc Try.prog W base sp held k 46 ((cs.drop 1).take (Try.prog.cellsOf 46)) = some y1 := hf 1 _ rfl
    rw [p_cells9, d0] at g0
    rw [p_cells46, d1] at g1
    obtain ⟨m0, q0, z0, -⟩ := DataW.trod_string Try.underlying9 g0
    obtain ⟨A, cap, l, rfl, l1, l2, l3⟩ := open_files g1
    obtain rfl : v0 = .string m0 := by simpa using q0
    refine ⟨⟨m0, l⟩, A, cap, l1, l2, ?_, fun B hB => l3 B fun z hz => hB z ?_⟩
    · intro i u hu
      match i, hu with
      | 0, hu => rw [hcell 0 (by omega), e0]; exact hu
      | 1, hu => rw [hcell 1 (by omega), e1]; exact hu
      | (i + 2), hu => simp at hu
    · simp only [DataW.weights, Try.underlying70]
      simp only [List.map_cons, List.map_nil]
      simp [DataW.weightsEach]
      exact .inr hz
/-- a slice of steps that is read -/
theorem open_steps {H : Type} {enc : TypeId × Value → H} {W : World} {base : Nat} {sp : Nat → Bool} {held : Bool} {A : Option Addr} {len cap : Nat} {d : DataW H} {p : List MemPlace}
    (h : DataW.Trod enc Try.prog W base sp held 36 (.slice A len cap) d p) :
    ∃ l : List S70, l.length = len ∧ len ≤ cap ∧ Kd.C k70 W A len l ∧ ∀ B : Nat, (∀ n ∈ d.weights Try.prog 36, n ≤ B) → l.length ≤ B ∧ ∀ s ∈ l, s.f1.length ≤ B ∧ ∀ y ∈ s.f1, y.f0.size ≤ B ∧ y.f1.size ≤ B := by
  have hinh : Inhabited S70 := ⟨z70⟩
  obtain ⟨fuel, hf⟩ := h
  rcases Deep.open_slice Try.underlying36 hf with ⟨hcs, hx⟩ | ⟨a, len', cap', m, n, D, Pl, hcs, hb, hl, hm, hmm, hx, hel⟩
  · simp [Value.cells] at hcs
    obtain ⟨rfl, rfl, rfl⟩ := hcs
    exact ⟨[], rfl, Nat.le_refl _, ⟨rfl, by omega, fun h => absurd h (by omega)⟩, fun B _ => ⟨Nat.zero_le _, fun x hx => by cases hx⟩⟩
  · simp [Value.cells] at hcs
    obtain ⟨rfl, rfl, rfl⟩ := hcs
    have hlm : len ≤ m := by rw [hmm]; split <;> omega
    obtain ⟨q, hq⟩ := Deep.choose_lt (α := S70) (n := len) (p := fun i t => ∃ (A : Option Addr) (cap : Nat), t.f1.length ≤ cap ∧ Kd.C k53 W A t.f1.length t.f1 ∧ (∀ j u, [Value.string t.f0, .slice A t.f1.length cap][j]? = some u → W.cell? ((a.add (i * 2)).add j) = some u) ∧
        ∀ B : Nat, (∀ n ∈ (D i).weights Try.prog 70, n ≤ B) → t.f1.length ≤ B ∧ ∀ y ∈ t.f1, y.f0.size ≤ B ∧ y.f1.size ≤ B) (fun i hi => by
      obtain ⟨cs', h1, h2⟩ := hel i (by omega)
      rw [p_cells70] at h1
      exact open_step h1 h2)
    have hlen : ((List.range len).map q).length = len := by simp
    refine ⟨(List.range len).map q, hlen, hl, ⟨hlen, by unfold maxLen at hm; omega, fun _ => ⟨a, rfl, fun j t hj => ?_⟩⟩, ?_⟩
    · have hj2 : j < len := by
        rcases Nat.lt_or_ge j len with h | h
        · exact h
        · rw [List.getElem?_eq_none (by rw [hlen]; exact h)] at hj; cases hj
      have ht : t = q j := by
        rw [List.getElem?_map, List.getElem?_range hj2] at hj
        exact (Option.some.inj hj).symm
      subst ht
      obtain ⟨A1, cap1, q1, q2, q3, -⟩ := hq j hj2
      refine ⟨_, rfl, k70_mk W (q j) q1 q2, fun i u hu => ?_⟩
      have := q3 i u hu
      rw [Deep.add_add] at this
      exact this
    · intro B hB
      have hd : d = .slice ((List.range len).map D) ((List.range (m - len)).map fun j => D (len + j)) := congrArg Prod.fst hx
      rw [hd] at hB
      simp only [DataW.weights, Try.underlying36] at hB
      constructor
      · have := hB _ List.mem_cons_self
        rw [p_bytes70, List.length_map, List.length_range] at this
        rw [hlen]
        omega
      · intro y hy
        obtain ⟨i, hi, rfl⟩ := List.mem_map.1 hy
        have hi' := List.mem_range.1 hi
        obtain ⟨A1, cap1, -, -, -, q4⟩ := hq i hi'
        exact q4 B fun z hz => hB z (List.mem_cons_of_mem _ (List.mem_append_left _ (pweight_all (List.mem_map.2 ⟨i, hi, rfl⟩) hz)))
end Go.Proofs.Ythimblhfjfngiaa.PText

namespace Go.Proofs.Ythimblhfjfngiaa.PText
open Go.RowKit Go.Lib Go.Sort Go.Proofs.YthimblhfjfngiaaW.PrintWords Go.Proofs.YthimblhfjfngiaaW.PrintLast Go.Proofs.YthimblhfjfngiaaW.PrintMore
set_option linter.unusedVariables false
set_option linter.unusedSimpArgs false
theorem blGo_err (file : ByteArray) : ∀ (L : List Com) (k : Nat) (old : ByteArray) (out : List Int), (blGo file L k old out).2 ≠ 0 → (blGo file L k old out).1 = []
  | [], k, old, out, h => absurd rfl h
  | c :: L, k, old, out, h => by
    have hgo : blGo file (c :: L) k old out = if (editsR old (findR c.files file).1).2 ≠ 0 then ([], (editsR old (findR c.files file).1).2) else blGo file L (k + 1) (findR c.files file).1 (blameR old (findR c.files file).1 out (k : Int)) := rfl
    by_cases he : (editsR old (findR c.files file).1).2 ≠ 0
    · rw [hgo, if_pos he]
    · rw [hgo, if_neg he] at h ⊢
      exact blGo_err file L _ _ _ h
theorem blameA_len (L : List Com) (file : ByteArray) (hL : L ≠ []) (hF : Fair 6000 L) : (blameA L file).1.length ≤ 6000 := by
  by_cases hz : (blameA L file).2 = 0
  · rw [(blameA_lines L file hL hz).1]
    have h1 := linesB_len (findR (L.getLast hL).files file).1
    have h2 := findR_size (file := file) (hF.small _ (List.getLast_mem hL))
    omega
  · have hA : blameA L file = if (findR (L.getLast hL).files file).2 = true then blGo file L 0 ⟨#[]⟩ [] else ([], 4) := by unfold blameA; rw [List.getLast?_eq_some_getLast hL]
    by_cases hf : (findR (L.getLast hL).files file).2 = true
    · rw [if_pos hf] at hA
      rw [hA] at hz ⊢
      rw [blGo_err file L _ _ _ hz]; exact Nat.zero_le _
    · rw [if_neg hf] at hA
      rw [hA]; exact Nat.zero_le _
theorem R_pkept {w w' : World} {base : Nat} {v : Value} {xs : List Int} (h : Kd.R (Kd.int .i64) 3 w base (fun _ => True) v xs) (hk : PKept w w') : Kd.R (Kd.int .i64) 3 w' base (fun _ => True) v xs :=
  R_types' h (fun k q cs hq hc => by
    have e : q = 3 := by rcases List.mem_cons.1 hq with h | h; exact h; cases h
    subst e
    exact hk k _ hc (fun c fz z => by cases z) (fun c fz z => by cases z))
theorem linesB_mem {x : List UInt8} {t : ByteArray} (h : x ∈ Tx.lines (bL t)) : (⟨x.toArray⟩ : ByteArray) ∈ linesB t := List.mem_map_of_mem h
theorem linesB_at (t : ByteArray) (i : Nat) (h : i < (linesB t).length) (h' : i < (Tx.lines (bL t)).length) : (linesB t)[i] = ⟨((Tx.lines (bL t))[i]).toArray⟩ := by
  have e : linesB t = (Tx.lines (bL t)).map fun l => (⟨l.toArray⟩ : ByteArray) := rfl
  have q : (linesB t)[i] = ((Tx.lines (bL t)).map fun l => (⟨l.toArray⟩ : ByteArray))[i]'(by rw [List.length_map]; exact h') := by congr 1
  rw [q, List.getElem_map]
/-- what a statement of PastKeeps has behind both blames -/
structure Kept2 (L : List Com) (file : ByteArray) (fs : List S53) (a : List Int) : Prop where
  neat : Neat fs
  size : ∀ x ∈ fs, x.f1.size ≤ 6000
  lens : ∀ i, ∀ h : i < fs.length, fs[i].f0.toList = file.toList → a.length = (linesB fs[i].f1).length
  has : ∀ i, ∀ h : i < fs.length, fs[i].f0.toList = file.toList → ∀ j, ∀ hj : j < (linesB fs[i].f1).length, ∀ hj' : j < a.length, ∃ m : Nat, ∃ hm : m < L.length, a[j] = (m : Int) ∧ ∃ z, ∃ hz : z < L[m].files.length, L[m].files[z].f0.toList = file.toList ∧ (linesB fs[i].f1)[j] ∈ linesB L[m].files[z].f1
theorem kept2_of (L : List Com) (file name : ByteArray) (hL : L ≠ []) (hF : Fair 6000 L) (hz : (blameA L file).2 = 0) : Kept2 (L ++ [⟨name, (L.getLast hL).files⟩]) file (L.getLast hL).files (blameA L file).1 := by
  have hn := hF.neat _ (List.getLast_mem hL)
  obtain ⟨b1, b2⟩ := blameA_lines L file hL hz
  refine ⟨hn, hF.small _ (List.getLast_mem hL), fun i h he => ?_, fun i h he j hj hj' => ?_⟩
  · rw [b1, findR_at hn.names i h he]
  · have hfi := findR_at hn.names i h he
    rw [hfi] at b2
    have hj2 : j < (Tx.lines (bL (L.getLast hL).files[i].f1)).length := by rw [← lines_len]; exact hj
    obtain ⟨m, hm, e, f, f1, f2, f3⟩ := b2 j hj2 hj'
    obtain ⟨z, hz, rfl⟩ := List.mem_iff_getElem.1 f1
    have hm2 : m < (L ++ [(⟨name, (L.getLast hL).files⟩ : Com)]).length := by rw [List.length_append]; omega
    have em : (L ++ [(⟨name, (L.getLast hL).files⟩ : Com)])[m]'hm2 = L[m] := List.getElem_append_left hm
    refine ⟨m, hm2, e, z, by rw [em]; exact hz, ?_, ?_⟩
    · simp only [em]; exact f2
    · simp only [em]
      rw [linesB_at _ j hj hj2]
      exact linesB_mem f3
def keeps_T36 : Bool × List (List Nat × List Nat) := (true, [([], []), ([0], [0]), ([1], [1]), ([1], [1]), ([2, 3, 1], [1, 2, 3]), ([4, 1], [1, 4]), ([5, 1], [1, 5]), ([1], [1]), ([6, 7, 1], [1, 6, 7]), ([8, 1, 1], [1, 8]), ([9], [9]), ([9], [9]), ([10, 11, 9], [9, 10, 11]), ([12, 9], [9, 12]), ([13, 9], [9, 13]), ([14, 9, 9], [9, 14]), ([9], [9]), ([9], [9]), ([16, 17, 9], [9, 16, 17]), ([18, 9], [9, 18]), ([15, 19, 15, 9], [9, 15, 19]), ([20, 9], [9, 20]), ([9, 21, 1], [1, 9, 21]), ([1, 22], [1, 22]), ([23, 20, 0, 1, 2, 3, 4, 5, 6, 7, 8, 9, 10, 11, 12, 13, 14, 15, 16, 17, 18, 19, 20, 21, 22, 23], [0, 23])])
def keeps_B36 : List Nat := [0, 1, 3, 3, 15, 31, 63, 3, 255, 511, 1023, 1023, 4095, 8191, 16383, 32767, 1023, 1023, 197631, 459775, 1048575, 2097151, 4194303, 8388607, 16777215]
theorem keeps_tab36 : rtab .any (opsOf Try.f5 36) = keeps_T36 := by kernel_rfl
theorem keeps_bits36 : waitsOk keeps_T36.2 keeps_B36 = true := by kernel_rfl
set_option maxRecDepth 100000 in
set_option maxHeartbeats 8000000 in
theorem keeps_calls (A0 : Option Addr) (c0 : Nat) (l : List S70) (file : ByteArray) (w : World) (hC : Kd.C k70 w A0 l.length l) (hc : l.length ≤ c0) (hH : Held l) :
    Calls Try.prog 5 #[.slice A0 l.length c0, .string file] w fun e w' => e = .returned (.bool true) ∧ Below w.heap.size w w' := by
  obtain ⟨r, hr1, hr2⟩ := heavy_f l hH 6006 (Nat.le_refl _)
  have HV := Aside0.mk (smockinglaw25_heavy.calls _ A0 c0 l r w hC hc hr1)
  have HAW : Aside0 (∀ w, Calls Try.prog 11 #[] w fun e w' => e = .returned (.bool true) ∧ Below w.heap.size w w') := ⟨fun w => smockinglaw25_awake.calls true w rfl⟩
  clear hr1 hH
  cases r
  · obtain ⟨hl, hsz⟩ := hr2 rfl
    have HFA := Aside0.mk (fair_both 6000 l hsz l.length (Nat.le_refl _))
    rw [List.take_length] at HFA
    have HBL : Aside0 ((bothL l).length ≤ l.length) := ⟨by have := bothL_len l l.length (Nat.le_refl _); rwa [List.take_length] at this⟩
    have HL := Aside0.mk hl
    by_cases hz : l.length = 0
    · have hz2 : ((l.length : Int) == 0) = true := beq_iff_eq.2 (by omega)
      rw [hz] at HV hC ⊢
      clear hC hc hr2 hl hsz
      go_enter Try.func5, Try.ntmps5
      go_wp2_with (go_at_call 16; refine HV.out.mono ?_; rintro e w1 ⟨rfl, hd⟩; have HB1 := Aside0.mk hd.below; clear hd HV)
      go_ret
      exact ⟨rfl, HB1.out⟩
    · have hz2 : ((l.length : Int) == 0) = false := beq_eq_false_iff_ne.2 (by omega)
      have HBO : Aside0 (∀ w1, Below w.heap.size w w1 → Calls Try.prog 17 #[.slice A0 l.length c0] w1 fun e w' => ∃ p q : Nat, e = .returned (.tuple #[.pointer (some ⟨p, 0, none⟩), .pointer (some ⟨q, 0, none⟩), .bool true]) ∧ PastIs w' w1.heap.size p (bothL l) ∧ RefIs w' w1.heap.size q (bothL l) ∧ Below w1.heap.size w1 w') :=
        ⟨fun w1 hb => both_calls A0 c0 l w1 (Kd.C_below hC hb) hc (by omega)⟩
      clear hC hc hr2 hl hsz hz
      generalize bothL l = L at *
      have HL3 : Aside0 (L.length ≤ 1000) := ⟨by have := HL.out; have := HBL.out; omega⟩
      have HL30 : Aside0 (L.length ≤ 30) := ⟨by have := HL.out; have := HBL.out; omega⟩
      by_cases hL : L = []
      · have hl0 : ((L.length : Int) == 0) = true := beq_iff_eq.2 (by rw [hL]; rfl)
        have hl1 : L.length = 0 := by rw [hL]; rfl
        go_enter Try.func5, Try.ntmps5
        go_wp2_with (first
          | (go_at_call 16; refine HV.out.mono ?_; rintro e w1 ⟨rfl, hd⟩; have HB1 := Aside0.mk hd.below; clear hd HV)
          | (go_at_call 17; with_reducible refine (HBO.out _ HB1.out).mono ?_; rintro e w2 ⟨p, q, rfl, hp, hq, hb⟩; have HP2 := Aside0.mk hp; have HB2 := Aside0.mk (HB1.out.trans (hb.mono HB1.out.size)); have HBZ := Aside0.mk hb; clear hp hq hb HBO; have HNM := Aside0.mk (names_calls w1.heap.size p L w2 HP2.out HL3.out))
          | (go_at_call 18; with_reducible refine HNM.out.mono ?_; rintro e w3 ⟨v3, rfl, ho, hb⟩; obtain ⟨A3, c3, rfl⟩ := Kd.R_slice ho; have HB3 := Aside0.mk (HB2.out.trans (hb.mono HB2.out.size)); have HP3 := Aside0.mk (HP2.out.below hb); have HSZ3 := Aside0.mk (Nat.le_trans HBZ.out.size hb.size); clear ho hb HNM)
          | (go_at_call 11; refine (HAW.out _).mono ?_; rintro e w20 ⟨rfl, hb⟩; have HB20 := Aside0.mk hb; clear hb)
          | fail)
        go_ret
        exact ⟨rfl, HB3.out.trans (HB20.out.mono HB3.out.size)⟩
      · have hlen : 0 < L.length := List.length_pos_iff.2 hL
        obtain ⟨m, hm⟩ : ∃ m, L.length = m + 1 := ⟨L.length - 1, by omega⟩
        have hml : m < L.length := by omega
        have hlast : L[m] = L.getLast hL := by
          rw [List.getLast_eq_getElem]
          congr 1; omega
        have HSM := Aside0.mk (HFA.out.toSmall (by omega))
        have hnt := HFA.out.neat _ (List.getLast_mem hL)
        have hfew := hnt.few
        have HBM1 : Aside0 (∀ b p wr, PastIs wr b p L → Calls Try.prog 19 #[.pointer (some ⟨p, 0, none⟩), .string file] wr fun e w' => ∃ v, e = .returned (.tuple #[v, .int .i64 (blameA L file).2]) ∧ Kd.R (Kd.int .i64) 3 w' wr.heap.size (fun _ => True) v (blameA L file).1 ∧ Below wr.heap.size wr w') := ⟨fun b p wr h => blame_calls b p L file wr h HL3.out HSM.out⟩
        have HAT : Aside0 (∀ b p wr, PastIs wr b p L → Calls Try.prog 20 #[.pointer (some ⟨p, 0, none⟩), .int .i64 (m : Int)] wr fun e w' => ∃ v, e = .returned (.tuple #[v, .int .i64 0]) ∧ Kd.R k53 53 w' wr.heap.size (fun _ => True) v (L.getLast hL).files ∧ Below wr.heap.size wr w') :=
          ⟨fun b p wr h => by have := at_in b p L m wr h hml (by rw [hlast]; omega); rw [hlast] at this; exact this⟩
        have hcm := commit_neat L ⟨#[97, 103, 97, 105, 110]⟩ hnt (by have := HL30.out; omega)
        have HCM : Aside0 (∀ b p A c wr, PastIs wr b p L → FRow wr A c (L.getLast hL).files → b ≤ wr.heap.size → Calls Try.prog 21 #[.pointer (some ⟨p, 0, none⟩), .string ⟨#[97, 103, 97, 105, 110]⟩, .slice A (L.getLast hL).files.length c] wr fun e w' => e = .returned (.tuple #[.int .i64 (L.length : Int), .int .i64 0]) ∧ PastIs w' b p (L ++ [⟨⟨#[97, 103, 97, 105, 110]⟩, (L.getLast hL).files⟩]) ∧ Below b wr w' ∧ PKept wr w') :=
          ⟨fun b p A c wr h1 h2 h3 => by have := commit_calls b p L ⟨#[97, 103, 97, 105, 110]⟩ A c (L.getLast hL).files wr h1 h2.reads h2.cap (by have := HL30.out; omega) h3; rw [hcm] at this; exact this⟩
        have HSM2 : Aside0 (Small (L ++ [⟨⟨#[97, 103, 97, 105, 110]⟩, (L.getLast hL).files⟩])) := ⟨fun c hc => by
          rcases List.mem_append.1 hc with hc | hc
          · exact HSM.out c hc
          · rw [List.mem_singleton.1 hc]; exact ⟨(HSM.out _ (List.getLast_mem hL)).1, (HSM.out _ (List.getLast_mem hL)).2⟩⟩
        have HL2 : Aside0 ((L ++ [(⟨⟨#[97, 103, 97, 105, 110]⟩, (L.getLast hL).files⟩ : Com)]).length = L.length + 1) := ⟨by rw [List.length_append]; rfl⟩
        have HBM2 : Aside0 (∀ b p wr, PastIs wr b p (L ++ [⟨⟨#[97, 103, 97, 105, 110]⟩, (L.getLast hL).files⟩]) → Calls Try.prog 19 #[.pointer (some ⟨p, 0, none⟩), .string file] wr fun e w' => ∃ v, e = .returned (.tuple #[v, .int .i64 (blameA L file).2]) ∧ Kd.R (Kd.int .i64) 3 w' wr.heap.size (fun _ => True) v (blameA L file).1 ∧ Below wr.heap.size wr w') :=
          ⟨fun b p wr h => by have := blame_calls b p _ file wr h (by have := HL30.out; have := HL2.out; omega) HSM2.out; rw [blameA_again L file ⟨#[97, 103, 97, 105, 110]⟩ hL] at this; exact this⟩
        have hal := blameA_len L file hL HFA.out
        have HEQ := Aside0.mk (eqInts_f (blameA L file).1 (by omega) 10000 (by omega))
        have HAL := Aside0.mk hal
        have HK := Aside0.mk (kept2_of L file ⟨#[97, 103, 97, 105, 110]⟩ hL HFA.out)
        have HNT := Aside0.mk hnt
        have HG2 : Aside0 (∀ m' : Nat, ∀ h : m' < (L ++ [(⟨⟨#[97, 103, 97, 105, 110]⟩, (L.getLast hL).files⟩ : Com)]).length, ((L ++ [(⟨⟨#[97, 103, 97, 105, 110]⟩, (L.getLast hL).files⟩ : Com)])[m']).files.length ≤ 60 ∧ ∀ z ∈ ((L ++ [(⟨⟨#[97, 103, 97, 105, 110]⟩, (L.getLast hL).files⟩ : Com)])[m']).files, z.f1.size ≤ 6000) := ⟨fun m' h => by
          rcases List.mem_append.1 (List.getElem_mem h) with q | q
          · exact ⟨(HFA.out.neat _ q).few, HFA.out.small _ q⟩
          · rw [List.mem_singleton.1 q]; exact ⟨hnt.few, fun z hz => HFA.out.small _ (List.getLast_mem hL) z hz⟩⟩
        have hl0 : ((L.length : Int) == 0) = false := beq_eq_false_iff_ne.2 (by omega)
        have hw0 : wrap64 ((L.length : Int) - 1) = (m : Int) := by have := HL30.out; rw [w64 (by omega) (by omega)]; omega
        have hw1 : IntKind.i64.wrap ((L.length : Int) - 1) = (m : Int) := (i64_w _).trans hw0
        have hl1 : ¬ L.length = 0 := by omega
        generalize L ++ [(⟨⟨#[97, 103, 97, 105, 110]⟩, (L.getLast hL).files⟩ : Com)] = L2 at *
        generalize (L.getLast hL).files = fs at *
        generalize (blameA L file).1 = a at *
        generalize (blameA L file).2 = er at *
        have HM := Aside0.mk hm
        clear hcm hlast hnt hlen hal HSM HSM2 HFA hm hml hfew
        by_cases hz : er = 0
        · subst hz
          have HK2 := Aside0.mk (HK.out rfl)
          clear HK
          go_enter Try.func5, Try.ntmps5
          go_wp2_with (first
            | (go_at_call 16; refine HV.out.mono ?_; rintro e w1 ⟨rfl, hd⟩; have HB1 := Aside0.mk hd.below; clear hd HV)
            | (go_at_call 17; with_reducible refine (HBO.out _ HB1.out).mono ?_; rintro e w2 ⟨p, q, rfl, hp, hq, hb⟩; have HP2 := Aside0.mk hp; have HB2 := Aside0.mk (HB1.out.trans (hb.mono HB1.out.size)); have HBZ := Aside0.mk hb; clear hp hq hb HBO; have HNM := Aside0.mk (names_calls w1.heap.size p L w2 HP2.out HL3.out))
            | (go_at_call 18; with_reducible refine HNM.out.mono ?_; rintro e w3 ⟨v3, rfl, ho, hb⟩; obtain ⟨A3, c3, rfl⟩ := Kd.R_slice ho; have HB3 := Aside0.mk (HB2.out.trans (hb.mono HB2.out.size)); have HP3 := Aside0.mk (HP2.out.below hb); have HSZ3 := Aside0.mk (Nat.le_trans HBZ.out.size hb.size); clear ho hb HNM)
            | (go_at_call 19; with_reducible refine (HBM1.out _ _ _ HP3.out).mono ?_; rintro e w4 ⟨v4, rfl, ho, hb⟩; obtain ⟨A4, c4, rfl⟩ := Kd.R_slice ho; have HO4 := Aside0.mk ho; have HB4 := Aside0.mk (HB3.out.trans (hb.mono HB3.out.size)); have HP4 := Aside0.mk (HP3.out.below hb); have HSZ4 := Aside0.mk (Nat.le_trans HSZ3.out hb.size); clear ho hb HBM1)
            | (go_at_call 20; with_reducible refine (HAT.out _ _ _ HP4.out).mono ?_; rintro e w5 ⟨v5, rfl, ho, hb⟩; obtain ⟨A5, c5, rfl⟩ := Kd.R_slice ho; have HF5 := Aside0.mk (FRow.of_R ho); have HO5 := Aside0.mk (Kd.R_below HO4.out hb); have HB5 := Aside0.mk (HB4.out.trans (hb.mono HB4.out.size)); have HP5 := Aside0.mk (HP4.out.below hb); have HSZ5 := Aside0.mk (Nat.le_trans HSZ4.out hb.size); clear ho hb HAT)
            | (go_at_call 21; with_reducible refine (HCM.out _ _ _ _ _ HP5.out HF5.out HSZ5.out).mono ?_; rintro e w6 ⟨rfl, hp, hb, hk⟩; have HP6 := Aside0.mk hp; have HB6 := Aside0.mk (HB5.out.trans (hb.mono HB1.out.size)); have HO6 := Aside0.mk (R_pkept HO5.out hk); have HF6 := Aside0.mk (HF5.out.keep hk); clear hp hb hk HCM)
            | (go_at_call 19; with_reducible refine (HBM2.out _ _ _ HP6.out).mono ?_; rintro e w7 ⟨v7, rfl, ho, hb⟩; obtain ⟨A7, c7, rfl⟩ := Kd.R_slice ho; have HO7 := Aside0.mk (Kd.R_reads' (Kd.R_below HO6.out hb)); have HP7 := Aside0.mk (HP6.out.below hb); have HF7 := Aside0.mk (HF6.out.keep (PKept.of_below hb)); have HB7 := Aside0.mk (HB6.out.trans (hb.mono HB6.out.size)); have HQ7 := Aside0.mk (Kd.R_reads' ho); clear ho hb HBM2)
            | (go_at_call 22; refine (rf0_EqInts.calls _ A4 c4 a A7 c7 a true _ HO7.out.2.2 HO7.out.2.1 HQ7.out.2.2 HQ7.out.2.1 HEQ.out).mono ?_; rintro e w8 ⟨rfl, hd⟩; have HB8 := Aside0.mk (HB7.out.trans (hd.below.mono HB7.out.size)); have HP8 := Aside0.mk (HP7.out.below hd.below); have HF8 := Aside0.mk (HF7.out.keep (PKept.of_below hd.below)); have HO8 := Aside0.mk (Kd.C_below HO7.out.2.2 hd.below); clear hd)
            | fail)
          have HBZ8 := Aside0.mk (Below.refl w8.heap.size w8)
          go_loopg [17] (fs.length + 1) (fun kq v17 w' => ∃ i : Nat, v17 = .int .i64 (i : Int) ∧ Aside0 (fs.length - i < kq ∧ i ≤ fs.length) ∧ Aside0 (Below w8.heap.size w8 w'))
          case atStart => exact ⟨0, rfl, ⟨by omega, by omega⟩, HBZ8⟩
          case round =>
            obtain ⟨i, rfl, HI, HBe⟩ := hrel
            obtain ⟨k1, rfl⟩ : ∃ k1, gk = k1 + 1 := ⟨gk - 1, by have := HI.out.1; omega⟩
            by_cases hlt : i < fs.length
            · have hb : decide ((i : Int) < (fs.length : Int)) = true := by simp; omega
              have hi0 : decide ((0 : Int) ≤ (i : Int)) = true := by simp
              have pi0 : (0 : Int) ≤ (i : Int) := by omega
              have pi1 : (i : Int) < (fs.length : Int) := by omega
              have HFr := Aside0.mk (Kd.C_below HF8.out.reads HBe.out)
              obtain ⟨ad, e0, hx0, hx1⟩ := at_T53 HFr.out (i : Int) pi0 pi1
              cases e0
              rw [Int.toNat_natCast, rd53_at fs i hlt] at hx0 hx1
              have HLT := Aside0.mk hlt
              have HFEW := Aside0.mk HNT.out.few
              by_cases hne : fs[i].f0.toList = file.toList
              · have hq1 : (fs[i].f0.toList == file.toList) = true := beq_iff_eq.2 hne
                have hlen := HK2.out.lens i hlt hne
                have HHAS := Aside0.mk (HK2.out.has i hlt hne)
                have hszt := HK2.out.size fs[i] (List.getElem_mem hlt)
                have hnl := linesB_len fs[i].f1
                have HLIN := Aside0.mk (fun w => smockingref01_Lines.calls 10000 fs[i].f1 (linesB fs[i].f1) w (rlines_f fs[i].f1 (by omega) 10000 (by omega)))
                have HLC : Aside0 ((linesB fs[i].f1).length ≤ 6000 ∧ a.length = (linesB fs[i].f1).length) := ⟨by omega, hlen⟩
                have hq2 : (((linesB fs[i].f1).length : Int) == (a.length : Int)) = true := beq_iff_eq.2 (by rw [hlen])
                have hq3 : (((linesB fs[i].f1).length : Int) != (a.length : Int)) = false := by rw [bne, hq2]; rfl
                clear hne hlen hszt hnl
                generalize fs[i] = x at *
                have hx1' := Aside0.mk hx1
                go_wp2_with (first
                  | (go_at_call 13; refine (HLIN.out _).mono ?_; rintro e w10 ⟨v10, rfl, ho, hb10⟩; obtain ⟨A10, c10, rfl⟩ := Kd.R_slice ho; have HR10 := Aside0.mk ho; have HB10 := Aside0.mk (HBe.out.trans (hb10.mono HBe.out.size)); clear ho hb10 HLIN)
                  | fail)
                have HBZ10 := Aside0.mk (Below.refl w10.heap.size w10)
                generalize hLS : linesB x.f1 = ls at *
                have HLS := Aside0.mk hLS
                clear hLS
                go_loopg [19] (ls.length + 1) (fun kq v19 w' => ∃ j : Nat, v19 = .int .i64 (j : Int) ∧ Aside0 (ls.length - j < kq ∧ j ≤ ls.length) ∧ Aside0 (Below w10.heap.size w10 w'))
                case atStart => exact ⟨0, rfl, ⟨by omega, by omega⟩, HBZ10⟩
                case round =>
                  obtain ⟨j, rfl, HJ, HBj⟩ := hrel
                  obtain ⟨k2, rfl⟩ : ∃ k2, gk = k2 + 1 := ⟨gk - 1, by have := HJ.out.1; omega⟩
                  have HB11 := Aside0.mk (HB10.out.trans (HBj.out.mono HB10.out.size))
                  by_cases hjl : j < ls.length
                  · have hbj : decide ((j : Int) < (ls.length : Int)) = true := by simp; omega
                    have hj0 : decide ((0 : Int) ≤ (j : Int)) = true := by simp
                    have pj0 : (0 : Int) ≤ (j : Int) := by omega
                    have pj1 : (j : Int) < (a.length : Int) := by have := HLC.out.2; omega
                    have hja : j < a.length := by omega
                    obtain ⟨m', hm', ea, z0, hz0, zn, zl⟩ := HHAS.out j hjl hja
                    obtain ⟨ada, e0, hxa⟩ := Kd.at_int (Kd.C_below HO8.out HB11.out) (j : Int) pj0 pj1
                    cases e0
                    rw [Int.toNat_natCast, rdI a j hja, ea] at hxa
                    obtain ⟨adl, e0, hxl⟩ := Kd.at_string (Kd.C_below (Kd.R_reads' HR10.out).2.2 HBj.out) (j : Int) pj0 (by omega)
                    cases e0
                    rw [Int.toNat_natCast, rdB ls j hjl] at hxl
                    have HJL := Aside0.mk hjl
                    have HGF : Aside0 (L2[m'].files.length ≤ 60 ∧ ∀ z ∈ L2[m'].files, z.f1.size ≤ 6000) := ⟨HG2.out m' hm'⟩
                    have HAT2 : Aside0 (∀ wr, PastIs wr w1.heap.size p L2 → Calls Try.prog 20 #[.pointer (some ⟨p, 0, none⟩), .int .i64 (m' : Int)] wr fun e w' => ∃ v, e = .returned (.tuple #[v, .int .i64 0]) ∧ Kd.R k53 53 w' wr.heap.size (fun _ => True) v L2[m'].files ∧ Below wr.heap.size wr w') :=
                      ⟨fun wr h => at_in w1.heap.size p L2 m' wr h hm' (by have := HGF.out.1; omega)⟩
                    have HZ0 : Aside0 (∃ z, ∃ hz : z < L2[m'].files.length, L2[m'].files[z].f0.toList = file.toList ∧ ls[j] ∈ linesB L2[m'].files[z].f1) := ⟨z0, hz0, zn, zl⟩
                    clear zn zl hz0 ea hja
                    generalize L2[m'].files = gs at *
                    generalize ls[j] = ln at *
                    go_wp2_with (first
                      | (go_at_call 20; with_reducible refine (HAT2.out _ (HP8.out.below HB11.out)).mono ?_; rintro e w12 ⟨v12, rfl, ho, hb12⟩; obtain ⟨A12, c12, rfl⟩ := Kd.R_slice ho; have HR12 := Aside0.mk (Kd.R_reads' ho); have HB12 := Aside0.mk (HBj.out.trans (hb12.mono HBj.out.size)); have hxl12 := (hb12.cell (World.block_lt_of_cell? wr _ hxl)).trans hxl; clear ho hb12 HAT2)
                      | fail)
                    have HXL := Aside0.mk hxl12
                    have HBZ12 := Aside0.mk (Below.refl w12.heap.size w12)
                    clear hxl hxa hxl12 hx0 hx1
                    go_loopg [23, 22] (gs.length + 1) (fun kq v23 v22 w' => ∃ (y : Nat) (b : Bool), v23 = .int .i64 (y : Int) ∧ v22 = .bool b ∧ Aside0 (gs.length - y < kq ∧ y ≤ gs.length) ∧ Aside0 (Below w12.heap.size w12 w') ∧ Aside0 (∀ z, z < y → ∀ hz : z < gs.length, gs[z].f0.toList = file.toList → ln ∈ linesB gs[z].f1 → b = true))
                    case atStart => exact ⟨0, false, rfl, rfl, ⟨by omega, by omega⟩, HBZ12, ⟨fun z hz => absurd hz (Nat.not_lt_zero _)⟩⟩
                    case round =>
                      obtain ⟨y, b, rfl, rfl, HY, HBy, HFN⟩ := hrel
                      obtain ⟨k3, rfl⟩ : ∃ k3, gk = k3 + 1 := ⟨gk - 1, by have := HY.out.1; omega⟩
                      have HB13 := Aside0.mk (HB12.out.trans (HBy.out.mono HB12.out.size))
                      by_cases hyl : y < gs.length
                      · have hby : decide ((y : Int) < (gs.length : Int)) = true := by simp; omega
                        have hy0 : decide ((0 : Int) ≤ (y : Int)) = true := by simp
                        have py0 : (0 : Int) ≤ (y : Int) := by omega
                        have py1 : (y : Int) < (gs.length : Int) := by omega
                        have HYL := Aside0.mk hyl
                        obtain ⟨adg, e0, hg0, hg1⟩ := at_T53 (Kd.C_below HR12.out.2.2 HBy.out) (y : Int) py0 py1
                        cases e0
                        rw [Int.toNat_natCast, rd53_at gs y hyl] at hg0 hg1
                        have hlw := (HBy.out.cell (World.block_lt_of_cell? w12 _ HXL.out)).trans HXL.out
                        have HST : Aside0 (∀ b' : Bool, (b = true → b' = true) → (gs[y].f0.toList = file.toList → ln ∈ linesB gs[y].f1 → b' = true) → ∀ z, z < y + 1 → ∀ hz : z < gs.length, gs[z].f0.toList = file.toList → ln ∈ linesB gs[z].f1 → b' = true) := ⟨fun b' q1 q2 z hz hzl e1 e2 => by
                          by_cases e : z = y
                          · subst e; exact q2 e1 e2
                          · exact q1 (HFN.out z (by omega) hzl e1 e2)⟩
                        have hgz := HGF.out.2 gs[y] (List.getElem_mem hyl)
                        generalize gs[y] = gx at *
                        cases b
                        · by_cases hgn : gx.f0.toList = file.toList
                          · have hgq : (gx.f0.toList == file.toList) = true := beq_iff_eq.2 hgn
                            have hgl := linesB_len gx.f1
                            obtain ⟨rr, hr1, hr2⟩ := has_f (linesB gx.f1) ln (by omega) 10000 (by omega)
                            have HRR := Aside0.mk hr1
                            obtain ⟨bb, hbb⟩ : ∃ bb : Bool, decide (0 ≤ rr) = bb := ⟨_, rfl⟩
                            have hbb2 : decide (rr ≥ 0) = bb := hbb
                            have HST2 := Aside0.mk (HST.out bb (fun q => by cases q) (fun _ q => by rw [← hbb]; exact decide_eq_true (hr2 q)))
                            have HLX := Aside0.mk (fun w => smockingref01_Lines.calls 10000 gx.f1 (linesB gx.f1) w (rlines_f gx.f1 (by omega) 10000 (by omega)))
                            have HG0 := Aside0.mk hg0
                            have HG1 := Aside0.mk hg1
                            have HLW := Aside0.mk hlw
                            clear hgn hgl hr1 hr2
                            go_wp2_with fail
                            have hgq' := hgq
                            refine start_ (n := 25) (S := fun w' => w'.cell? (adg.add (y * 2)) = some (.string gx.f0) ∧ w'.cell? ⟨(adg.add (y * 2)).block, (adg.add (y * 2)).off + 1, none⟩ = some (.string gx.f1) ∧ w'.cell? (adl.add j) = some (.string ln)) (ds := []) #[false, false, false, false, false, false, false, false, false, false, false, false, false, false, false, false, false, false, false, false, false, false, false, false, false] (by kernel_rfl) rfl rfl ⟨HG0.out, HG1.out, HLW.out⟩ (fun hHeld => ?_)
                            refine with_tabW keeps_tab36 keeps_bits36 (fun HT_ HW_ => ?_)
                            have HBD := Aside0.mk ((Below.refl wr.heap.size wr).drew)
                            generalize wr.drew = w13 at *
                            refine pure_ (i := 0) (N := some 140) (v := ?_) (a' := ?_) #[true, false, false, false, false, false, false, false, false, false, false, false, false, false, false, false, false, false, false, false, false, false, false, false, false] rfl rfl (any_of HT_.out (by kernel_rfl)) (fun _ _ _ h => h) (Or.inl ⟨by rfl, ?_⟩) ?_ ?_
                            rotate_left
                            · intro w'
                              go_simp
                              with_reducible rfl
                            rotate_left
                            · simp only [Act.put, List.setIfInBounds_toArray, List.set_cons_zero, List.set_cons_succ, i64_w, i32_w]
                              rfl
                            refine pure_ (i := 1) (N := some 141) (v := ?_) (a' := ?_) #[true, true, false, false, false, false, false, false, false, false, false, false, false, false, false, false, false, false, false, false, false, false, false, false, false] rfl rfl (any_of HT_.out (by kernel_rfl)) (fun _ _ _ h => h) (Or.inl ⟨by rfl, ?_⟩) ?_ ?_
                            rotate_left
                            · intro w'
                              go_simp
                              with_reducible rfl
                            rotate_left
                            · simp only [Act.put, List.setIfInBounds_toArray, List.set_cons_zero, List.set_cons_succ, i64_w, i32_w]
                              rfl
                            refine pure_ (i := 2) (N := some 142) (v := ?_) (a' := ?_) #[true, true, true, false, false, false, false, false, false, false, false, false, false, false, false, false, false, false, false, false, false, false, false, false, false] rfl rfl (any_of HT_.out (by kernel_rfl)) (fun _ _ _ h => h) (Or.inl ⟨by rfl, ?_⟩) ?_ ?_
                            rotate_left
                            · intro w'
                              go_simp
                              with_reducible rfl
                            rotate_left
                            · simp only [Act.put, List.setIfInBounds_toArray, List.set_cons_zero, List.set_cons_succ, i64_w, i32_w]
                              rfl
                            refine pure_ (i := 3) (N := some 143) (v := ?_) (a' := ?_) #[true, true, true, true, false, false, false, false, false, false, false, false, false, false, false, false, false, false, false, false, false, false, false, false, false] rfl rfl (any_of HT_.out (by kernel_rfl)) (fun _ _ _ h => h) (Or.inl ⟨by rfl, ?_⟩) ?_ ?_
                            rotate_left
                            · intro w'
                              go_simp
                              with_reducible rfl
                            rotate_left
                            · simp only [Act.put, List.setIfInBounds_toArray, List.set_cons_zero, List.set_cons_succ, i64_w, i32_w]
                              rfl
                            refine pure_ (i := 4) (N := some 144) (v := ?_) (a' := ?_) #[true, true, true, true, true, false, false, false, false, false, false, false, false, false, false, false, false, false, false, false, false, false, false, false, false] rfl rfl (any_of HT_.out (by kernel_rfl)) (fun _ _ _ h => h) (Or.inl ⟨by rfl, ?_⟩) ?_ ?_
                            rotate_left
                            · intro w'
                              go_simp
                              with_reducible rfl
                            rotate_left
                            · simp only [Act.put, List.setIfInBounds_toArray, List.set_cons_zero, List.set_cons_succ, i64_w, i32_w]
                              rfl
                            refine pure_ (i := 5) (N := some 145) (v := ?_) (a' := ?_) #[true, true, true, true, true, true, false, false, false, false, false, false, false, false, false, false, false, false, false, false, false, false, false, false, false] rfl rfl (any_of HT_.out (by kernel_rfl)) (fun _ _ _ h => h) (Or.inl ⟨by rfl, ?_⟩) ?_ ?_
                            rotate_left
                            · intro w'
                              go_simp
                              with_reducible rfl
                            rotate_left
                            · simp only [Act.put, List.setIfInBounds_toArray, List.set_cons_zero, List.set_cons_succ, i64_w, i32_w]
                              rfl
                            refine take_ (i := 6) (N := some 146) (v := ?_) (a' := ?_) #[true, true, true, true, true, true, true, false, false, false, false, false, false, false, false, false, false, false, false, false, false, false, false, false, false] rfl rfl (take_ofW HT_.out HW_.out (by kernel_rfl)) (fun _ _ _ h => h) (Or.inl ⟨by rfl, ?_⟩) hHeld ?_ ?_
                            rotate_left
                            · rintro w' ⟨s0, s1, s2⟩
                              go_simp
                              with_reducible rfl
                            rotate_left
                            · simp only [Act.put, List.setIfInBounds_toArray, List.set_cons_zero, List.set_cons_succ, i64_w, i32_w]
                              rfl
                            refine pure_ (i := 7) (N := some 147) (v := ?_) (a' := ?_) #[true, true, true, true, true, true, true, true, false, false, false, false, false, false, false, false, false, false, false, false, false, false, false, false, false] rfl rfl (any_of HT_.out (by kernel_rfl)) (fun _ _ _ h => h) (Or.inl ⟨by rfl, ?_⟩) ?_ ?_
                            rotate_left
                            · intro w'
                              go_simp
                              with_reducible rfl
                            rotate_left
                            · simp only [Act.put, List.setIfInBounds_toArray, List.set_cons_zero, List.set_cons_succ, i64_w, i32_w]
                              rfl
                            refine pure_ (i := 8) (N := some 148) (v := ?_) (a' := ?_) #[true, true, true, true, true, true, true, true, true, false, false, false, false, false, false, false, false, false, false, false, false, false, false, false, false] rfl rfl (any_of HT_.out (by kernel_rfl)) (fun _ _ _ h => h) (Or.inl ⟨by rfl, ?_⟩) ?_ ?_
                            rotate_left
                            · intro w'
                              go_simp
                              with_reducible rfl
                            rotate_left
                            · simp only [Act.put, List.setIfInBounds_toArray, List.set_cons_zero, List.set_cons_succ, i64_w, i32_w]
                              rfl
                            refine pure_ (i := 9) (N := some 149) (v := ?_) (a' := ?_) #[true, true, true, true, true, true, true, true, true, true, false, false, false, false, false, false, false, false, false, false, false, false, false, false, false] rfl rfl (any_of HT_.out (by kernel_rfl)) (fun _ _ _ h => h) (Or.inl ⟨by rfl, ?_⟩) ?_ ?_
                            rotate_left
                            · intro w'
                              go_simp
                              with_reducible rfl
                            rotate_left
                            · simp only [Act.put, List.setIfInBounds_toArray, List.set_cons_zero, List.set_cons_succ, i64_w, i32_w]
                              rfl
                            refine pure_ (i := 10) (N := some 150) (v := ?_) (a' := ?_) #[true, true, true, true, true, true, true, true, true, true, true, false, false, false, false, false, false, false, false, false, false, false, false, false, false] rfl rfl (any_of HT_.out (by kernel_rfl)) (fun _ _ _ h => h) (Or.inl ⟨by rfl, ?_⟩) ?_ ?_
                            rotate_left
                            · intro w'
                              go_simp
                              with_reducible rfl
                            rotate_left
                            · simp only [Act.put, List.setIfInBounds_toArray, List.set_cons_zero, List.set_cons_succ, i64_w, i32_w]
                              rfl
                            refine pure_ (i := 11) (N := some 151) (v := ?_) (a' := ?_) #[true, true, true, true, true, true, true, true, true, true, true, true, false, false, false, false, false, false, false, false, false, false, false, false, false] rfl rfl (any_of HT_.out (by kernel_rfl)) (fun _ _ _ h => h) (Or.inl ⟨by rfl, ?_⟩) ?_ ?_
                            rotate_left
                            · intro w'
                              go_simp
                              with_reducible rfl
                            rotate_left
                            · simp only [Act.put, List.setIfInBounds_toArray, List.set_cons_zero, List.set_cons_succ, i64_w, i32_w]
                              rfl
                            refine pure_ (i := 12) (N := some 152) (v := ?_) (a' := ?_) #[true, true, true, true, true, true, true, true, true, true, true, true, true, false, false, false, false, false, false, false, false, false, false, false, false] rfl rfl (any_of HT_.out (by kernel_rfl)) (fun _ _ _ h => h) (Or.inl ⟨by rfl, ?_⟩) ?_ ?_
                            rotate_left
                            · intro w'
                              go_simp
                              with_reducible rfl
                            rotate_left
                            · simp only [Act.put, List.setIfInBounds_toArray, List.set_cons_zero, List.set_cons_succ, i64_w, i32_w]
                              rfl
                            refine pure_ (i := 13) (N := some 153) (v := ?_) (a' := ?_) #[true, true, true, true, true, true, true, true, true, true, true, true, true, true, false, false, false, false, false, false, false, false, false, false, false] rfl rfl (any_of HT_.out (by kernel_rfl)) (fun _ _ _ h => h) (Or.inl ⟨by rfl, ?_⟩) ?_ ?_
                            rotate_left
                            · intro w'
                              go_simp
                              with_reducible rfl
                            rotate_left
                            · simp only [Act.put, List.setIfInBounds_toArray, List.set_cons_zero, List.set_cons_succ, i64_w, i32_w]
                              rfl
                            refine take_ (i := 14) (N := some 154) (v := ?_) (a' := ?_) #[true, true, true, true, true, true, true, true, true, true, true, true, true, true, true, false, false, false, false, false, false, false, false, false, false] rfl rfl (take_ofW HT_.out HW_.out (by kernel_rfl)) (fun _ _ _ h => h) (Or.inl ⟨by rfl, ?_⟩) hHeld ?_ ?_
                            rotate_left
                            · rintro w' ⟨s0, s1, s2⟩
                              go_simp
                              with_reducible rfl
                            rotate_left
                            · simp only [Act.put, List.setIfInBounds_toArray, List.set_cons_zero, List.set_cons_succ, i64_w, i32_w]
                              rfl
                            refine pure_ (i := 16) (N := some 156) (v := ?_) (a' := ?_) #[true, true, true, true, true, true, true, true, true, true, true, true, true, true, true, false, true, false, false, false, false, false, false, false, false] rfl rfl (any_of HT_.out (by kernel_rfl)) (fun _ _ _ h => h) (Or.inl ⟨by rfl, ?_⟩) ?_ ?_
                            rotate_left
                            · intro w'
                              go_simp
                              with_reducible rfl
                            rotate_left
                            · simp only [Act.put, List.setIfInBounds_toArray, List.set_cons_zero, List.set_cons_succ, i64_w, i32_w]
                              rfl
                            refine pure_ (i := 17) (N := some 157) (v := ?_) (a' := ?_) #[true, true, true, true, true, true, true, true, true, true, true, true, true, true, true, false, true, true, false, false, false, false, false, false, false] rfl rfl (any_of HT_.out (by kernel_rfl)) (fun _ _ _ h => h) (Or.inl ⟨by rfl, ?_⟩) ?_ ?_
                            rotate_left
                            · intro w'
                              go_simp
                              with_reducible rfl
                            rotate_left
                            · simp only [Act.put, List.setIfInBounds_toArray, List.set_cons_zero, List.set_cons_succ, i64_w, i32_w]
                              rfl
                            refine pure_ (i := 18) (N := some 158) (v := ?_) (a' := ?_) #[true, true, true, true, true, true, true, true, true, true, true, true, true, true, true, false, true, true, true, false, false, false, false, false, false] rfl rfl (any_of HT_.out (by kernel_rfl)) (fun _ _ _ h => h) (Or.inl ⟨by rfl, ?_⟩) ?_ ?_
                            rotate_left
                            · intro w'
                              go_simp
                              with_reducible rfl
                            rotate_left
                            · simp only [Act.put, List.setIfInBounds_toArray, List.set_cons_zero, List.set_cons_succ, i64_w, i32_w]
                              rfl
                            refine take_ (i := 19) (N := some 159) (v := ?_) (a' := ?_) #[true, true, true, true, true, true, true, true, true, true, true, true, true, true, true, false, true, true, true, true, false, false, false, false, false] rfl rfl (take_ofW HT_.out HW_.out (by kernel_rfl)) (fun _ _ _ h => h) (Or.inl ⟨by rfl, ?_⟩) hHeld ?_ ?_
                            rotate_left
                            · rintro w' ⟨s0, s1, s2⟩
                              go_simp
                              with_reducible rfl
                            rotate_left
                            · simp only [Act.put, List.setIfInBounds_toArray, List.set_cons_zero, List.set_cons_succ, i64_w, i32_w]
                              rfl
                            refine one_ (i := 15) (N := some 155) #[true, true, true, true, true, true, true, true, true, true, true, true, true, true, true, true, true, true, true, true, false, false, false, false, false] rfl rfl (one_of HT_.out (by kernel_rfl)) (by decide) (fun K hK => ?_)
                            refine goes_ Try.func13 (by kernel_rfl) rfl #[.string gx.f1] (by rfl) rfl rfl (by (try simp only [List.map_toArray, List.map_cons, List.map_nil]); first | done | rfl) ?_
                            refine (HLX.out _).mono ?_
                            rintro e w14 ⟨v14, rfl, ho, hb⟩
                            obtain ⟨A14, c14, rfl⟩ := Kd.R_slice ho
                            have HR14 := Aside0.mk (Kd.R_reads' ho)
                            have HB14 := Aside0.mk (HBD.out.trans (hb.mono HBD.out.size))
                            have HS0_ := (hb.cell (World.block_lt_of_cell? _ _ (hHeld.1))).trans (hHeld.1)
                            have HS1_ := (hb.cell (World.block_lt_of_cell? _ _ (hHeld.2.1))).trans (hHeld.2.1)
                            have HS2_ := (hb.cell (World.block_lt_of_cell? _ _ (hHeld.2.2))).trans (hHeld.2.2)
                            clear ho hb
                            refine ⟨_, rfl, ?_⟩
                            refine hK.out _ _ ⟨HS0_, HS1_, HS2_⟩ (fun hHeld => ?_)
                            clear hK K
                            refine norm_ (a' := ?_) ?_ ?_
                            rotate_left
                            · show Act.put _ (some 155) _ = _
                              simp only [Act.put, List.setIfInBounds_toArray, List.set_cons_zero, List.set_cons_succ, i64_w, i32_w]
                              rfl
                            refine one_ (i := 20) (N := some 160) #[true, true, true, true, true, true, true, true, true, true, true, true, true, true, true, true, true, true, true, true, true, false, false, false, false] rfl rfl (one_of HT_.out (by kernel_rfl)) (by decide) (fun K hK => ?_)
                            refine goes_ Try.func14 (by kernel_rfl) rfl #[.slice A14 (linesB gx.f1).length c14, .string ln] (by rfl) rfl rfl (by (try simp only [List.map_toArray, List.map_cons, List.map_nil]); first | done | rfl) ?_
                            refine (rf0_Has.calls 10000 A14 c14 (linesB gx.f1) ln rr _ HR14.out.2.2 HR14.out.2.1 HRR.out).mono ?_
                            rintro e w15 ⟨rfl, hd⟩
                            have hb := hd.below
                            have HB15 := Aside0.mk (HB14.out.trans (hb.mono HB14.out.size))
                            have HS0_ := (hb.cell (World.block_lt_of_cell? _ _ (hHeld.1))).trans (hHeld.1)
                            have HS1_ := (hb.cell (World.block_lt_of_cell? _ _ (hHeld.2.1))).trans (hHeld.2.1)
                            have HS2_ := (hb.cell (World.block_lt_of_cell? _ _ (hHeld.2.2))).trans (hHeld.2.2)
                            clear hd hb
                            refine ⟨_, rfl, ?_⟩
                            refine hK.out _ _ ⟨HS0_, HS1_, HS2_⟩ (fun hHeld => ?_)
                            clear hK K
                            refine norm_ (a' := ?_) ?_ ?_
                            rotate_left
                            · show Act.put _ (some 160) _ = _
                              simp only [Act.put, List.setIfInBounds_toArray, List.set_cons_zero, List.set_cons_succ, i64_w, i32_w]
                              rfl
                            refine pure_ (i := 21) (N := some 161) (v := ?_) (a' := ?_) #[true, true, true, true, true, true, true, true, true, true, true, true, true, true, true, true, true, true, true, true, true, true, false, false, false] rfl rfl (any_of HT_.out (by kernel_rfl)) (fun _ _ _ h => h) (Or.inl ⟨by rfl, ?_⟩) ?_ ?_
                            rotate_left
                            · intro w'
                              go_simp
                              with_reducible rfl
                            rotate_left
                            · simp only [Act.put, List.setIfInBounds_toArray, List.set_cons_zero, List.set_cons_succ, i64_w, i32_w]
                              rfl
                            refine pure_ (i := 22) (N := some 162) (v := ?_) (a' := ?_) #[true, true, true, true, true, true, true, true, true, true, true, true, true, true, true, true, true, true, true, true, true, true, true, false, false] rfl rfl (any_of HT_.out (by kernel_rfl)) (fun _ _ _ h => h) (Or.inl ⟨by rfl, ?_⟩) ?_ ?_
                            rotate_left
                            · intro w'
                              go_simp
                              with_reducible rfl
                            rotate_left
                            · simp only [Act.put, List.setIfInBounds_toArray, List.set_cons_zero, List.set_cons_succ, i64_w, i32_w]
                              rfl
                            refine pure_ (i := 23) (N := some 163) (v := ?_) (a' := ?_) #[true, true, true, true, true, true, true, true, true, true, true, true, true, true, true, true, true, true, true, true, true, true, true, true, false] rfl rfl (any_of HT_.out (by kernel_rfl)) (fun _ _ _ h => h) (Or.inl ⟨by rfl, ?_⟩) ?_ ?_
                            rotate_left
                            · intro w'
                              go_simp
                              with_reducible rfl
                            rotate_left
                            · simp only [Act.put, List.setIfInBounds_toArray, List.set_cons_zero, List.set_cons_succ, i64_w, i32_w]
                              rfl
                            refine pure_ (i := 24) (N := some 22) (v := ?_) (a' := ?_) #[true, true, true, true, true, true, true, true, true, true, true, true, true, true, true, true, true, true, true, true, true, true, true, true, true] rfl rfl (any_of HT_.out (by kernel_rfl)) (fun _ _ _ h => h) (Or.inl ⟨by rfl, ?_⟩) ?_ ?_
                            rotate_left
                            · intro w'
                              go_simp
                              with_reducible rfl
                            rotate_left
                            · simp only [Act.put, List.setIfInBounds_toArray, List.set_cons_zero, List.set_cons_succ, i64_w, i32_w]
                              rfl
                            refine done_ (done_of HT_.out (by kernel_rfl)) ?_
                            have HBZ := Aside0.mk (HBy.out.trans (HB15.out.mono HBy.out.size))
                            go_wp2_with fail
                            go_roundg k3
                            case measure => have := HY.out.1; omega
                            case rel => exact ⟨y + 1, bb, congrArg (Value.int .i64) (by first | exact nx y (by have := HGF.out.1; have := HYL.out; omega) | (have := HGF.out.1; have := HYL.out; omega)), rfl, ⟨by have := HY.out.1; omega, by have := HYL.out; omega⟩, HBZ, HST2⟩
                          · have hgq : (gx.f0.toList == file.toList) = false := beq_eq_false_iff_ne.2 hgn
                            have HST2 := Aside0.mk (HST.out false (fun q => by cases q) (fun q => absurd q hgn))
                            clear hgn
                            go_wp2_with fail
                            go_big_quiet (fail)
                            have HBZ := Aside0.mk (HBy.out.trans ((pw_below_drewN (Below.refl wr.heap.size wr) nq).mono HBy.out.size))
                            go_wp2_with fail
                            go_roundg k3
                            case measure => have := HY.out.1; omega
                            case rel => exact ⟨y + 1, false, congrArg (Value.int .i64) (by first | exact nx y (by have := HGF.out.1; have := HYL.out; omega) | (have := HGF.out.1; have := HYL.out; omega)), rfl, ⟨by have := HY.out.1; omega, by have := HYL.out; omega⟩, HBZ, HST2⟩
                        · have HST2 := Aside0.mk (HST.out true (fun _ => rfl) (fun _ _ => rfl))
                          go_wp2_with fail
                          go_big_quiet (fail)
                          have HBZ := Aside0.mk (HBy.out.trans ((pw_below_drewN (Below.refl wr.heap.size wr) nq).mono HBy.out.size))
                          go_wp2_with fail
                          go_roundg k3
                          case measure => have := HY.out.1; omega
                          case rel => exact ⟨y + 1, true, congrArg (Value.int .i64) (by first | exact nx y (by have := HGF.out.1; have := HYL.out; omega) | (have := HGF.out.1; have := HYL.out; omega)), rfl, ⟨by have := HY.out.1; omega, by have := HYL.out; omega⟩, HBZ, ⟨fun _ _ _ _ _ => rfl⟩⟩
                      · have hby : decide ((y : Int) < (gs.length : Int)) = false := by simp; omega
                        have hbt : b = true := by
                          obtain ⟨z, hz, e1, e2⟩ := HZ0.out
                          exact HFN.out z (by have := HY.out.2; omega) hz e1 e2
                        subst hbt
                        go_wp2_with fail
                        go_roundg k2
                        case measure => have := HJ.out.1; omega
                        case rel => exact ⟨j + 1, congrArg (Value.int .i64) (by first | exact nx j (by have := HLC.out.1; have := HJL.out; omega) | (have := HLC.out.1; have := HJL.out; omega)), ⟨by have := HJ.out.1; omega, by have := HJL.out; omega⟩, HB13⟩
                  · have hbj : decide ((j : Int) < (ls.length : Int)) = false := by simp; omega
                    go_wp2_with fail
                    go_roundg k1
                    case measure => have := HI.out.1; omega
                    case rel => exact ⟨i + 1, congrArg (Value.int .i64) (by first | exact nx i (by have := HFEW.out; have := HLT.out; omega) | (have := HFEW.out; have := HLT.out; omega)), ⟨by have := HI.out.1; omega, by have := HLT.out; omega⟩, HB11⟩
              · have hq1 : (fs[i].f0.toList == file.toList) = false := beq_eq_false_iff_ne.2 hne
                clear hne
                generalize fs[i] = x at *
                go_wp2_with fail
                go_roundg k1
                case measure => have := HI.out.1; omega
                case rel => exact ⟨i + 1, congrArg (Value.int .i64) (by first | exact nx i (by have := HFEW.out; have := HLT.out; omega) | (have := HFEW.out; have := HLT.out; omega)), ⟨by have := HI.out.1; omega, by have := HLT.out; omega⟩, HBe⟩
            · have hb : decide ((i : Int) < (fs.length : Int)) = false := by simp; omega
              go_wp2_with (first
                | (go_at_call 11; refine (HAW.out _).mono ?_; rintro e w20 ⟨rfl, hb20⟩; have HB20 := Aside0.mk hb20; clear hb20)
                | fail)
              go_ret
              exact ⟨rfl, (HB8.out.trans (HBe.out.mono HB8.out.size)).trans (HB20.out.mono (HB8.out.trans (HBe.out.mono HB8.out.size)).size)⟩
        · have hz2 : (er == 0) = false := beq_eq_false_iff_ne.2 hz
          go_enter Try.func5, Try.ntmps5
          go_wp2_with (first
            | (go_at_call 16; refine HV.out.mono ?_; rintro e w1 ⟨rfl, hd⟩; have HB1 := Aside0.mk hd.below; clear hd HV)
            | (go_at_call 17; with_reducible refine (HBO.out _ HB1.out).mono ?_; rintro e w2 ⟨p, q, rfl, hp, hq, hb⟩; have HP2 := Aside0.mk hp; have HB2 := Aside0.mk (HB1.out.trans (hb.mono HB1.out.size)); have HBZ := Aside0.mk hb; clear hp hq hb HBO; have HNM := Aside0.mk (names_calls w1.heap.size p L w2 HP2.out HL3.out))
            | (go_at_call 18; with_reducible refine HNM.out.mono ?_; rintro e w3 ⟨v3, rfl, ho, hb⟩; obtain ⟨A3, c3, rfl⟩ := Kd.R_slice ho; have HB3 := Aside0.mk (HB2.out.trans (hb.mono HB2.out.size)); have HP3 := Aside0.mk (HP2.out.below hb); have HSZ3 := Aside0.mk (Nat.le_trans HBZ.out.size hb.size); clear ho hb HNM)
            | (go_at_call 19; with_reducible refine (HBM1.out _ _ _ HP3.out).mono ?_; rintro e w4 ⟨v4, rfl, ho, hb⟩; obtain ⟨A4, c4, rfl⟩ := Kd.R_slice ho; have HO4 := Aside0.mk ho; have HB4 := Aside0.mk (HB3.out.trans (hb.mono HB3.out.size)); have HP4 := Aside0.mk (HP3.out.below hb); have HSZ4 := Aside0.mk (Nat.le_trans HSZ3.out hb.size); clear ho hb HBM1)
            | (go_at_call 20; with_reducible refine (HAT.out _ _ _ HP4.out).mono ?_; rintro e w5 ⟨v5, rfl, ho, hb⟩; obtain ⟨A5, c5, rfl⟩ := Kd.R_slice ho; have HF5 := Aside0.mk (FRow.of_R ho); have HO5 := Aside0.mk (Kd.R_below HO4.out hb); have HB5 := Aside0.mk (HB4.out.trans (hb.mono HB4.out.size)); have HP5 := Aside0.mk (HP4.out.below hb); have HSZ5 := Aside0.mk (Nat.le_trans HSZ4.out hb.size); clear ho hb HAT)
            | (go_at_call 21; with_reducible refine (HCM.out _ _ _ _ _ HP5.out HF5.out HSZ5.out).mono ?_; rintro e w6 ⟨rfl, hp, hb, hk⟩; have HP6 := Aside0.mk hp; have HB6 := Aside0.mk (HB5.out.trans (hb.mono HB1.out.size)); have HO6 := Aside0.mk (R_pkept HO5.out hk); have HF6 := Aside0.mk (HF5.out.keep hk); clear hp hb hk HCM)
            | (go_at_call 19; with_reducible refine (HBM2.out _ _ _ HP6.out).mono ?_; rintro e w7 ⟨v7, rfl, ho, hb⟩; obtain ⟨A7, c7, rfl⟩ := Kd.R_slice ho; have HO7 := Aside0.mk (Kd.R_reads' (Kd.R_below HO6.out hb)); have HP7 := Aside0.mk (HP6.out.below hb); have HF7 := Aside0.mk (HF6.out.keep (PKept.of_below hb)); have HB7 := Aside0.mk (HB6.out.trans (hb.mono HB6.out.size)); have HQ7 := Aside0.mk (Kd.R_reads' ho); clear ho hb HBM2)
            | (go_at_call 22; refine (rf0_EqInts.calls _ A4 c4 a A7 c7 a true _ HO7.out.2.2 HO7.out.2.1 HQ7.out.2.2 HQ7.out.2.1 HEQ.out).mono ?_; rintro e w8 ⟨rfl, hd⟩; have HB8 := Aside0.mk (HB7.out.trans (hd.below.mono HB7.out.size)); have HP8 := Aside0.mk (HP7.out.below hd.below); have HF8 := Aside0.mk (HF7.out.keep (PKept.of_below hd.below)); have HO8 := Aside0.mk (Kd.C_below HO7.out.2.2 hd.below); clear hd)
            | (go_at_call 11; refine (HAW.out _).mono ?_; rintro e w20 ⟨rfl, hb⟩; have HB20 := Aside0.mk hb; clear hb)
            | fail)
          go_ret
          exact ⟨rfl, HB8.out.trans (HB20.out.mono HB8.out.size)⟩
  · go_enter Try.func5, Try.ntmps5
    go_wp2_with (go_at_call 16; refine HV.out.mono ?_; rintro e w1 ⟨rfl, hd⟩; have HB1 := Aside0.mk hd.below; clear hd HV)
    go_ret
    exact ⟨rfl, HB1.out⟩
end Go.Proofs.Ythimblhfjfngiaa.PText

namespace Go.Proofs.Ythimblhfjfngiaa.pastKeeps
open Go.ChangeShapes Go.WideShapes Go.ChangeAt Go.RowKit
open Go.ChangeMaps (open_string shut_string)
theorem own : ownKnob Try.prog.godebug = none := by kernel_rfl
theorem no_laid (P : Program) (w : World) : laidMet P [] w := ⟨[], rfl, List.nodup_nil, fun _ _ h => by cases h⟩
theorem laidOut : laidOutB Try.prog = true := by kernel_rfl
set_option maxRecDepth 100000 in
theorem contract (H : Type) (enc : TypeId × Value → H) (W : World) (base : Nat) (args : Array Value) (ds gs : List (DataW H)) (before : List MemPlace)
    (hval : ∀ (j : Nat) t v, Try.f5.params[j]? = some t → args[j]? = some v → Value.okWide Try.prog W .any base t v)
    (hW : DataW.Whole enc Try.prog Try.f5.params.toList Rows.pastKeepsSpec.vars false W args.toList ds gs before)
    (hsz : (DataW.weightsEach Try.prog (Try.f5.params.toList ++ Rows.pastKeepsSpec.plain.varTypes Try.prog) (ds ++ gs)).all (· ≤ reachBytes) = true) :
    Calls Try.prog 5 args W fun e W' => ∃ v, e = .returned v ∧ Rows.pastKeepsSpec.post enc Try.prog Try.f5 false true false false W args v W' := by
  have hW' := hW
  obtain ⟨p, q, hA0, hV, rfl, hfz, hnd⟩ := hW
  have hA : DataW.TrodAll enc Try.prog W 0 (fun _ => true) true Try.f5.params.toList args.toList ds p := hA0
  rw [Try.params5] at hA hval hsz
  obtain ⟨v0, vs0, d0, ds0, p0, q0, hargs, rfl, rfl, h0, r0⟩ := trodAll_cons hA
  obtain ⟨v1, vs1, d1, ds1, p1, q1, rfl, rfl, rfl, h1, r1⟩ := trodAll_cons r0
  obtain ⟨rfl, rfl, rfl⟩ := trodAll_nil r1
  obtain rfl : args = #[v0, v1] := by cases args; simp_all
  obtain ⟨rfl, rfl⟩ := trodVars_none hV
  obtain ⟨a0, len0, cap0, rfl⟩ := okWide_slice Try.underlying36 (hval 0 36 v0 rfl rfl)
  have k0 := h0
  have lt0 : ∀ x ∈ p0, x.block < W.heap.size := by
    obtain ⟨m, hm⟩ := k0
    exact DataW.trod_lt m _ _ _ hm
  obtain ⟨l0, rfl, c0, hC0, hb0⟩ := PText.open_steps h0
  have z0 := hb0 reachBytes (fun n hn => of_decide_eq_true (List.all_eq_true.1 hsz n (DataW.weights_mem_each (j := 0) (t := 36) rfl rfl n hn)))
  obtain ⟨a1, rfl, rfl, rfl, y1⟩ := open_string Try.underlying9 (hval 1 9 v1 rfl rfl) h1
  have hr : reachBytes = 140737488351232 := rfl
  clear hA0 hsz
  have hH : PText.Held l0 := ⟨by have := z0.1; omega, fun s hs => ⟨by have := (z0.2 s hs).1; omega, fun x hx => ⟨by have := ((z0.2 s hs).2 x hx).1; omega, by have := ((z0.2 s hs).2 x hx).2; omega⟩⟩⟩
  refine (PText.keeps_calls a0 cap0 l0 a1 W hC0 c0 hH).mono fun e W' ⟨he, bel⟩ => ?_
  subst he
  exact ⟨_, rfl, _, _, _, [], _, [], hW', trodAll_mk1 (shut_bool Try.underlying4 _), (trodAll_cons_mk (Below.trod laidOut (by kernel_rfl) (of_decide_eq_true (by kernel_rfl)) k0 bel lt0) (trodAll_cons_mk (shut_string Try.underlying9 y1) trodAll_mk0)), rfl, bel.frame _, fun h => by cases h⟩
theorem reads (os : Os) {H : Type} (enc : TypeId × Value → H) : ∃ places, DataW.whole enc Try.prog ((World.holding Try.prog os ⟨#[], #[], []⟩).forCall (fun _ _ => 0) ⟨#[], #[.slice none 0 0, .string ⟨#[]⟩], []⟩).memory Try.f5.params.toList Rows.pastKeepsSpec.vars false #[Value.slice none 0 0, Value.string ⟨#[]⟩].toList 8 = some ([.nil, .lit (.string [])], [], places) :=
  ⟨[], by kernel_rfl⟩
set_option maxRecDepth 100000 in
theorem lifted (os : Os) (started : os.Started) (H : Type) (enc : TypeId × Value → H) (F : Stop.Interp) :
    ReturnsInHanded {} Try.checked os 5 .any ((OpenSpec.ofChange Rows.pastKeepsSpec).preRow enc Try.prog Try.f5 Rows.pastKeepsRow.domain false Rows.pastKeepsRow.laid) (((OpenSpec.ofChange Rows.pastKeepsSpec).at F).post enc Try.prog Try.f5 false true false false) := by
  obtain ⟨places, hx⟩ := reads os enc
  refine returnsInHanded_of_row (C := Try.checked) (s := OpenSpec.ofChange Rows.pastKeepsSpec) own started (by kernel_rfl) Try.func5
    (witness_row_atRef (enc := enc) (C := Try.checked) false (World.holding Try.prog os ⟨#[], #[], []⟩) #[.slice none 0 0, .string ⟨#[]⟩] rfl (by kernel_rfl) (by kernel_rfl) (by kernel_rfl)
      (OpenSpec.preRow_of_cond 8 hx (by kernel_rfl) (fun k hk => by cases hk) (by kernel_rfl) (no_laid _ _))) ?_
  intro W base args ds gs before hval hW _ _ hsz _ _ _
  exact contract H enc W base args ds gs before hval hW hsz
theorem said : Rows.PastKeepsSaid :=
  OpenClaim.holds_of_cond 5 Try.f5 rfl rfl rfl rfl rfl rfl rfl ⟨rfl, rfl, rfl, rfl, rfl⟩ rfl rfl rfl rfl rfl (by kernel_rfl) Try.func5 (by kernel_rfl)
    (of_decide_eq_true (by kernel_rfl)) (by unfold Func.isWrapper; first | (rw [if_pos (by decide +kernel)]; kernel_rfl) | (rw [if_neg (by decide +kernel)]; exact ⟨rfl, rfl⟩))
    (fun os started H enc _ F => by rw [OpenClaim.pre_eq_preRow]; exact lifted os started H enc F)
end Go.Proofs.Ythimblhfjfngiaa.pastKeeps
namespace Go.Proofs.Ythimblhfjfngiaa
theorem pastKeeps_said : Rows.PastKeepsSaid := pastKeeps.said
end Go.Proofs.Ythimblhfjfngiaa

namespace Go.Proofs.Ythimblhfjfngiaa
#print axioms pastKeeps_said
end Go.Proofs.Ythimblhfjfngiaa
