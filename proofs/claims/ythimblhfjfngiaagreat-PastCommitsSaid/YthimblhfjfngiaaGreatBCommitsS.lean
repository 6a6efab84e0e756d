/- PastCommits holds: for all steps and every number the statement answers true. Part 19 of 20. -/
import Derived.Test.YthimblhfjfngiaaGreatBCommitsR
import Derived.Deep.RegionLaw
namespace Go.Proofs.YthimblhfjfngiaaGreat.PText
open Go.RowKit Go.Lib Go.Sort Go.Proofs.YthimblhfjfngiaaGreatW.PrintWords Go.Proofs.YthimblhfjfngiaaGreatW.PrintLast Go.Proofs.YthimblhfjfngiaaGreatW.PrintMore
set_option linter.unusedVariables false
set_option linter.unusedSimpArgs false
theorem edits_k (a b : ByteArray) (r : List S91 × Int) (k : Nat) (hk : k ≤ 5000000) (h : text_Edits.f k a b = some r) : text_Edits.f 5000000 a b = some r := at_rounds (text_Edits.mono a b) hk h
theorem editsR_k (a b : ByteArray) (r : List S91 × Int) (k : Nat) (hk : k ≤ 5000000) (ha : a.size ≤ 1000000000) (hb : b.size ≤ 1000000000) (h : text_Edits.f k a b = some r) : editsR a b = r :=
  Option.some.inj ((edits_f a b ha hb 5000000 (Nat.le_refl _)).symm.trans (edits_k a b r k hk h))
def awA : ByteArray := ⟨#[97, 10, 98, 10, 99, 10]⟩
def awB : ByteArray := ⟨#[120, 10, 98, 10, 99, 10]⟩
def awC : ByteArray := ⟨#[97, 10, 98, 10, 121, 10]⟩
def awR : ByteArray := ⟨#[120, 10, 98, 10, 121, 10]⟩
theorem aw_e1 : text_Edits.f 60 awA awB = some ([⟨0, 2, ⟨#[120, 10]⟩⟩], 0) := by kernel_rfl
theorem aw_e2 : text_Edits.f 60 awA awC = some ([⟨4, 6, ⟨#[121, 10]⟩⟩], 0) := by kernel_rfl
theorem aw_e0 : text_Edits.f 60 ⟨#[]⟩ ⟨#[97, 10]⟩ = some ([⟨0, 0, ⟨#[97, 10]⟩⟩], 0) := by kernel_rfl
theorem aw_mg : mergeR 6 [⟨0, 2, ⟨#[120, 10]⟩⟩] [⟨4, 6, ⟨#[121, 10]⟩⟩] = ([⟨0, 2, ⟨#[120, 10]⟩⟩, ⟨4, 6, ⟨#[121, 10]⟩⟩], 0) := by kernel_rfl
theorem aw_ap : text_Apply.f awA [⟨0, 2, ⟨#[120, 10]⟩⟩, ⟨4, 6, ⟨#[121, 10]⟩⟩] = some (awR, 0) := by kernel_rfl
theorem aw_three : past_Three.f awA awB awC = some (awR, 0) := by
  have s1 : awA.size = 6 := rfl
  have s2 : awB.size = 6 := rfl
  have s3 : awC.size = 6 := rfl
  have h1 := editsR_k awA awB _ 60 (by omega) (by omega) (by omega) aw_e1
  have h2 := editsR_k awA awC _ 60 (by omega) (by omega) (by omega) aw_e2
  unfold past_Three.f
  rw [if_pos ⟨by omega, by omega, by omega⟩, h1, h2, s1, aw_mg]
  rw [if_neg (by decide), if_neg (by decide), if_neg (by decide), if_neg (by decide), aw_ap, Option.bind_some]
  rfl
theorem aw_put : putL [⟨0, 0, ⟨#[97, 10]⟩⟩] 0 = [0] := by kernel_rfl
def awF : S41 := ⟨⟨#[102]⟩, ⟨#[97, 10]⟩⟩
theorem aw_commit : commitR [] ⟨#[111, 110, 101]⟩ [awF] = (0, 0, [⟨⟨#[111, 110, 101]⟩, [awF]⟩]) := by
  have h : srtF [awF] = [awF] := by kernel_rfl
  unfold commitR
  rw [if_neg (by decide), if_neg (fun q => q (show ([_] : List _).Nodup by simp)), if_neg (by rintro ⟨x, hx, e⟩; rcases List.mem_cons.1 hx with rfl | h; exact absurd e (by rw [show awF.f0.toList = [102] by kernel_rfl]; decide); cases h), h]
  rfl
theorem aw_find : findR [awF] ⟨#[102]⟩ = (⟨#[97, 10]⟩, true) := by kernel_rfl
def smockinglaw25_awake.f : Option Bool := some true
theorem file_row (w : World) : Kd.C k41 (w.alloc (.cells #[.string ⟨#[102]⟩, .string ⟨#[97, 10]⟩] 41)) (some ⟨w.heap.size, 0, none⟩) 1 [awF] := by
  refine ⟨rfl, by simp, fun _ => ⟨⟨w.heap.size, 0, none⟩, rfl, fun j t hj => ?_⟩⟩
  have hj0 : j = 0 := by
    rcases Nat.eq_zero_or_pos j with h | h
    · exact h
    · rw [List.getElem?_eq_none (by simp; omega)] at hj; cases hj
  subst hj0
  cases Option.some.inj hj
  refine ⟨[.string ⟨#[102]⟩, .string ⟨#[97, 10]⟩], rfl, k41_mk _ _, fun i u hu => ?_⟩
  have hi : (w.alloc (.cells #[.string ⟨#[102]⟩, .string ⟨#[97, 10]⟩] 41)).cell? ⟨w.heap.size, i, none⟩ = some u := by
    unfold World.cell?
    simp only [heap_nw]
    match i, hu with
    | 0, hu => exact hu
    | 1, hu => exact hu
    | i + 2, hu => simp at hu
  have e : (Addr.add ⟨w.heap.size, 0, none⟩ (0 * k41.sz + i)) = (⟨w.heap.size, i, none⟩ : Addr) := by unfold Addr.add; simp; exact fun q => q.symm
  rw [e]
  exact hi
theorem int_row (w : World) (k : Int) : Kd.C (Kd.int .i64) (w.alloc (.cells #[.int .i64 k] 3)) (some ⟨w.heap.size, 0, none⟩) 1 [k] := by
  refine ⟨rfl, by simp, fun _ => ⟨⟨w.heap.size, 0, none⟩, rfl, fun j t hj => ?_⟩⟩
  have hj0 : j = 0 := by
    rcases Nat.eq_zero_or_pos j with h | h
    · exact h
    · rw [List.getElem?_eq_none (by simp; omega)] at hj; cases hj
  subst hj0
  cases Option.some.inj hj
  refine ⟨[.int .i64 k], rfl, rfl, fun i u hu => ?_⟩
  have hi : (w.alloc (.cells #[.int .i64 k] 3)).cell? ⟨w.heap.size, i, none⟩ = some u := by
    unfold World.cell?
    simp only [heap_nw]
    match i, hu with
    | 0, hu => exact hu
    | i + 1, hu => simp at hu
  have e : (Addr.add ⟨w.heap.size, 0, none⟩ (0 * (Kd.int .i64).sz + i)) = (⟨w.heap.size, i, none⟩ : Addr) := by unfold Addr.add; simp; exact fun q => q.symm
  rw [e]
  exact hi
theorem aw_ints : rf0_EqInts.f 10 [0] [0] = some true := by kernel_rfl
set_option maxRecDepth 100000 in
set_option maxHeartbeats 4000000 in
theorem smockinglaw25_awake.calls (r : Bool) (w : World) (h : smockinglaw25_awake.f = some r) : Calls Tryz.prog 14 #[] w fun e w' => e = .returned (.bool r) ∧ Below w.heap.size w w' := by
  cases Option.some.inj h
  have H3 := Aside0.mk (fun w => past_Three.calls awA awB awC _ _ w aw_three)
  have HBL := Aside0.mk (fun base p w hP => blame_one base p ⟨⟨#[111, 110, 101]⟩, [awF]⟩ ⟨#[102]⟩ _ _ w hP (by simp) aw_find (edits_k _ _ _ 60 (by omega) aw_e0) (by
    intro x hx
    rcases List.mem_cons.1 hx with rfl | h
    · exact ⟨rfl, rfl, by show 2 ≤ 1000000000; omega⟩
    · cases h) (by simp) (by rw [aw_put]; simp))
  unfold awA awB awC awR at H3
  go_enter Tryz.func14, Tryz.ntmps14
  go_wp2_with (first
    | (go_at_call 38; refine (H3.out _).mono ?_; rintro e w1 ⟨rfl, hb⟩; have HB1 := Aside0.mk hb; clear hb H3)
    | (go_at_call 26; refine (new_calls _).mono ?_; rintro e w2 ⟨rfl, hp, hb, hk⟩; have HP2 := Aside0.mk hp; have HB2 := Aside0.mk (below_step HB1.out hb); have HBB := Aside0.mk hb.size; clear hp hb hk)
    | (go_at_call 25; refine (commit_calls w1.heap.size w1.heap.size [] ⟨#[111, 110, 101]⟩ (some ⟨w2.heap.size, 0, none⟩) 1 [awF] _ (HP2.out.below (Below.alloc (Below.refl _ w2) (Nat.le_refl _) _)) (file_row w2) (by simp) (by simp) (by have := HBB.out; simp; omega)).mono ?_; rintro e w3 ⟨rfl, hp, hb, hk⟩; rw [aw_commit] at hp; have HP3 := Aside0.mk hp; have HB3 := Aside0.mk ((HB2.out.alloc HB2.out.size _).trans (hb.mono HB1.out.size)); clear hp hb hk; rw [aw_commit])
    | (go_at_call 9; refine (HBL.out w1.heap.size w1.heap.size w3 HP3.out).mono ?_; rintro e w4 ⟨v4, rfl, ho, hb⟩; rw [aw_put] at ho; obtain ⟨A4, c4, rfl⟩ := Kd.R_slice ho; have HO4 := Aside0.mk (Kd.R_reads' ho); have HB4 := Aside0.mk (below_step HB3.out hb); clear ho hb)
    | (go_at_call 13; refine (rf0_EqInts.calls 10 A4 c4 [0] (some ⟨w4.heap.size, 0, none⟩) 1 [0] true _ (Kd.C_alloc HO4.out.2.2 _) HO4.out.2.1 (int_row w4 0) (by simp) aw_ints).mono ?_; rintro e w5 ⟨rfl, hd⟩; have HD5 := Aside0.mk hd; clear hd))
  go_ret
  exact ⟨rfl, (HB4.out.alloc HB4.out.size _).trans (HD5.out.below.mono (by have := HB4.out.size; simp; omega))⟩
end Go.Proofs.YthimblhfjfngiaaGreat.PText

namespace Go.Proofs.YthimblhfjfngiaaGreat.PText
open Go.RowKit Go.Lib Go.Proofs.YthimblhfjfngiaaGreatW.PrintWords Go.Proofs.YthimblhfjfngiaaGreatW.PrintLast Go.Proofs.YthimblhfjfngiaaGreatW.PrintMore
end Go.Proofs.YthimblhfjfngiaaGreat.PText

namespace Go.Proofs.YthimblhfjfngiaaGreat.PText
open Go.RowKit Go.Lib Go.Proofs.YthimblhfjfngiaaGreatW.PrintWords Go.Proofs.YthimblhfjfngiaaGreatW.PrintLast Go.Proofs.YthimblhfjfngiaaGreatW.PrintMore
set_option linter.unusedVariables false
set_option linter.unusedSimpArgs false
/-- the edits of a side, sound and apart -/
structure Side (n : Nat) (x : List S91) : Prop where
  okay : ∀ e ∈ x, 0 ≤ e.f0 ∧ e.f0 ≤ e.f1 ∧ e.f1 ≤ (n : Int)
  far : ∀ a ∈ x, ∀ b ∈ x, a ≠ b → Tx.touch (toE a) (toE b) = false
  len : x.length ≤ 4000
end Go.Proofs.YthimblhfjfngiaaGreat.PText

namespace Go.Proofs.YthimblhfjfngiaaGreat.PText
open Go.RowKit Go.Lib Go.Proofs.YthimblhfjfngiaaGreatW.PrintWords Go.Proofs.YthimblhfjfngiaaGreatW.PrintLast Go.Proofs.YthimblhfjfngiaaGreatW.PrintMore
set_option linter.unusedVariables false
set_option linter.unusedSimpArgs false
/-- the three boxes that pass writes, and all that stands -/
structure Bx (W0 w' : World) (base bo ba bn : Nat) (v : Value) (a n : Int) : Prop where
  os : w'.os = W0.os
  tape : w'.tape = W0.tape
  output : w'.output = W0.output
  size : W0.heap.size ≤ w'.heap.size
  far : ∀ k, k < base → k ≠ bo → k ≠ ba → k ≠ bn → w'.heap[k]? = W0.heap[k]?
  ho : w'.heap[bo]? = some (.cells #[v] 28 (0, 0))
  ha : w'.heap[ba]? = some (.cells #[.int .i64 a] 3 (0, 0))
  hn : w'.heap[bn]? = some (.cells #[.int .i64 n] 3 (0, 0))
section
variable {W0 w' w'' : World} {base bo ba bn : Nat} {v : Value} {a n : Int}
theorem box_size (w : World) (p : Addr) (x : Value) : (w.setCell p x).heap.size = w.heap.size := by unfold World.setCell; simp
theorem Bx.drew (h : Bx W0 w' base bo ba bn v a n) : Bx W0 w'.drew base bo ba bn v a n := ⟨h.os, h.tape, h.output, h.size, h.far, h.ho, h.ha, h.hn⟩
theorem Bx.below (h : Bx W0 w' base bo ba bn v a n) (h1 : bo < base) (h2 : ba < base) (h3 : bn < base) (hb : Below base w' w'') : Bx W0 w'' base bo ba bn v a n :=
  ⟨hb.os.trans h.os, hb.tape.trans h.tape, hb.output.trans h.output, Nat.le_trans h.size hb.size, fun k hk k1 k2 k3 => (hb.block k hk).trans (h.far k hk k1 k2 k3), (hb.block _ h1).trans h.ho, (hb.block _ h2).trans h.ha, (hb.block _ h3).trans h.hn⟩
theorem Bx.cellN (h : Bx W0 w' base bo ba bn v a n) : w'.cell? ⟨bn, 0, none⟩ = some (.int .i64 n) ∧ w'.frozen? ⟨bn, 0, none⟩ = false := ⟨by unfold World.cell?; rw [h.hn]; rfl, by simp [World.frozen?, h.hn]⟩
theorem Bx.cell (h : Bx W0 w' base bo ba bn v a n) {b i : Nat} {u : Value} (hk : b < base) (h1 : b ≠ bo) (h2 : b ≠ ba) (h3 : b ≠ bn) (hc : W0.cell? ⟨b, i, none⟩ = some u) : w'.cell? ⟨b, i, none⟩ = some u := by
  rw [← hc]; unfold World.cell?; simp only [h.far b hk h1 h2 h3]
end
/-- what a pass leaves as it is: all but the boxes and the row that grows -/
def Stays (w w' : World) (bo ba bn : Nat) (row : Option Nat) : Prop := w.heap.size ≤ w'.heap.size ∧ ∀ k, k < w.heap.size → k ≠ bo → k ≠ ba → k ≠ bn → some k ≠ row → w'.heap[k]? = w.heap[k]?
theorem Stays.refl (w : World) (bo ba bn : Nat) (row : Option Nat) : Stays w w bo ba bn row := ⟨Nat.le_refl _, fun _ _ _ _ _ _ => rfl⟩
theorem Stays.drew {w w' : World} {bo ba bn : Nat} {row : Option Nat} (h : Stays w w' bo ba bn row) : Stays w w'.drew bo ba bn row := h
theorem Stays.set {w w' : World} {bo ba bn b : Nat} {row : Option Nat} {x : Value} (h : Stays w w' bo ba bn row) (hb : b = bo ∨ b = ba ∨ b = bn) : Stays w (w'.setCell ⟨b, 0, none⟩ x) bo ba bn row :=
  ⟨by rw [box_size]; exact h.1, fun k hk k1 k2 k3 k4 => (Below.heap_setCell _ _ _ _ (fun e => by rcases hb with q | q | q <;> (subst q; exact absurd e (by assumption)))).trans (h.2 k hk k1 k2 k3 k4)⟩
theorem Stays.grow {w w' w'' : World} {bo ba bn : Nat} {row : Option Nat} (h : Stays w w' bo ba bn row) (hg : w'.grownBy w'' row) (hs : w'.heap.size ≤ w''.heap.size) : Stays w w'' bo ba bn row :=
  ⟨Nat.le_trans h.1 hs, fun k hk k1 k2 k3 k4 => (hg.block k (Nat.lt_of_lt_of_le hk h.1) k4).trans (h.2 k hk k1 k2 k3 k4)⟩
theorem Bx.S {W0 w' : World} {base bo ba bn bl c1 n : Nat} {v : Value} {a : Int} {A1 : Option Addr} {k : Int} (hs : ∀ w' v a k, Bx W0 w' base bo ba bn v a k → w'.cell? ⟨bl, 0, none⟩ = some (.slice A1 n c1)) (h : Bx W0 w' base bo ba bn v a k) :
    w'.cell? ⟨bn, 0, none⟩ = some (.int .i64 k) ∧ w'.cell? ⟨bl, 0, none⟩ = some (.slice A1 n c1) ∧ ∃ v' a', Bx W0 w' base bo ba bn v' a' k := ⟨h.cellN.1, hs _ _ _ _ h, v, a, h⟩
end Go.Proofs.YthimblhfjfngiaaGreat.PText

namespace Go.Proofs.YthimblhfjfngiaaGreat.PText
open Go.RowKit Go.Lib Go.Sort Go.Proofs.YthimblhfjfngiaaGreatW.PrintWords Go.Proofs.YthimblhfjfngiaaGreatW.PrintLast Go.Proofs.YthimblhfjfngiaaGreatW.PrintMore
set_option linter.unusedVariables false
set_option linter.unusedSimpArgs false
/-- the bytes before a line, as a number -/
def offT (s : ByteArray) (m : Nat) : Int := (Tx.off (Tx.lines (bL s)) m : Int)
def blT (old now : ByteArray) (who : List Int) (k : Int) (i : Nat) : Nat × List Int := Tx.blS (Tx.lines (bL old)) who k (Tx.edits (bL old) (bL now)) i
/-- an edit of whole lines: where it begins and ends, how it turns what is so far -/
structure EdAt (old : ByteArray) (who : List Int) (k : Int) (x : S91) (s s' : Nat × List Int) (f t n : Nat) : Prop where
  h0 : x.f0 = offT old f
  h1 : x.f1 = offT old t
  sf : s.1 ≤ f
  ft : f ≤ t
  tl : t ≤ (linesB old).length
  hn : n = (linesB x.f2).length
  hs : s' = (t, s.2 ++ (who.drop s.1).take (f - s.1) ++ List.replicate n k)
/-- what lies below the boxes stands -/
theorem Bx.low {W0 w' x : World} {base bo ba bn b : Nat} {v : Value} {a n : Int} (h : Bx W0 w' base bo ba bn v a n) (hb : Below b x W0) (l0 : b ≤ base) (l1 : b ≤ bo) (l2 : b ≤ ba) (l3 : b ≤ bn) : Below b x w' :=
  ⟨h.os.trans hb.os, h.tape.trans hb.tape, h.output.trans hb.output, Nat.le_trans hb.size h.size, fun k hk => (h.far k (by omega) (by omega) (by omega) (by omega)).trans (hb.block k hk)⟩
/-- a row that was made behind the boxes stands -/
theorem Bx.row {W0 w' w2 : World} {base bo ba bn b e : Nat} {v u : Value} {a n : Int} {α : Type} {d : Kd α} {xs : List α} (h : Bx W0 w' base bo ba bn v a n) (hr : Kd.R d e w2 b (fun _ => True) u xs) (hb : Below w2.heap.size w2 W0) (l0 : w2.heap.size ≤ base) (l1 : bo < b) (l2 : ba < b) (l3 : bn < b) : Kd.R d e w' b (fun _ => True) u xs :=
  Kd.R_mono (Kd.R_step (Kd.R_bound hr) (fun k hk hk2 => by
    have := hk.2.1
    exact (h.far k (by omega) (by omega) (by omega) (by omega)).trans (hb.block k hk2))) (fun _ _ => trivial)
attribute [irreducible] offT blT
end Go.Proofs.YthimblhfjfngiaaGreat.PText

namespace Go.Proofs.YthimblhfjfngiaaGreat.PText
open Go.RowKit Go.Lib Go.Sort Go.Proofs.YthimblhfjfngiaaGreatW.PrintWords Go.Proofs.YthimblhfjfngiaaGreatW.PrintLast Go.Proofs.YthimblhfjfngiaaGreatW.PrintMore
set_option linter.unusedVariables false
set_option linter.unusedSimpArgs false
theorem Stays.box {w w' : World} {bo ba bn k base : Nat} {row : Option Nat} {o : Obj} (h : Stays w w' bo ba bn row) (hk : w.heap[k]? = some o) (h0 : bo < base ∧ ba < base ∧ bn < base) (h1 : base ≤ k) (hr : some k ≠ row) : w'.heap[k]? = some o :=
  (h.2 k (Array.getElem?_eq_some_iff.1 hk).1 (by omega) (by omega) (by omega) hr).trans hk
end Go.Proofs.YthimblhfjfngiaaGreat.PText

namespace Go.Proofs.YthimblhfjfngiaaGreat.PText
open Go.RowKit Go.Lib Go.Sort Go.Proofs.YthimblhfjfngiaaGreatW.PrintWords Go.Proofs.YthimblhfjfngiaaGreatW.PrintLast Go.Proofs.YthimblhfjfngiaaGreatW.PrintMore
set_option linter.unusedVariables false
set_option linter.unusedSimpArgs false
/-- the row of a past of some commits -/
theorem past_at {w : World} {base p : Nat} {L : List Com} (h : PastIs w base p L) (hl : 0 < L.length) : ∃ (g cap : Nat) (cs : List Nat), p < w.heap.size ∧ g < w.heap.size ∧ base ≤ p ∧ base ≤ g ∧ L.length ≤ cap ∧ w.cell? ⟨p, 0, none⟩ = some (.slice (some ⟨g, 0, none⟩) L.length cap) ∧
    ∀ i, ∀ h : i < L.length, ∃ c, w.cell? ⟨g, i, none⟩ = some (.pointer (some ⟨c, 0, none⟩)) ∧ ComAt w c L[i] := by
  obtain ⟨A, cap, ps, h1, h2, h3, h4, h5⟩ := h
  have h4' : Kd.R kP 63 w base (fun _ => True) (.slice A ps.length cap) ps := by rw [h1]; exact h4
  obtain ⟨g, cap', hv, hb, -, cs, hc⟩ := Kd.R_form h4' (by omega)
  cases hv
  refine ⟨g, cap, ps, (Array.getElem?_eq_some_iff.1 h3).1, (Array.getElem?_eq_some_iff.1 hc).1, h2, hb, (Kd.R_reads' h4).2.1, by unfold World.cell?; rw [h3]; rfl, fun i hi => ?_⟩
  have hi' : i < ps.length := by omega
  obtain ⟨q1, -⟩ := Kd.R_cell (enc := fun c : Nat => Value.pointer (some ⟨c, 0, none⟩)) (h1 := fun _ => rfl) 0 h4' (i : Int) (by omega) (by omega)
  have hr : rdOf 0 ps (i : Int) = ps[i] := by unfold rdOf; rw [Int.toNat_natCast, List.getD_eq_getElem?_getD, List.getElem?_eq_getElem hi']; rfl
  rw [Int.toNat_natCast, hr] at q1
  exact ⟨ps[i], q1, h5 i hi hi'⟩
/-- commits that are not large -/
def Small (L : List Com) : Prop := ∀ c ∈ L, c.files.length ≤ 10000 ∧ ∀ x ∈ c.files, x.f1.size ≤ 1000000
end Go.Proofs.YthimblhfjfngiaaGreat.PText

namespace Go.Proofs.YthimblhfjfngiaaGreat.PText
open Go.RowKit Go.Lib Go.Sort Go.Proofs.YthimblhfjfngiaaGreatW.PrintWords Go.Proofs.YthimblhfjfngiaaGreatW.PrintLast Go.Proofs.YthimblhfjfngiaaGreatW.PrintMore
set_option linter.unusedVariables false
set_option linter.unusedSimpArgs false
set_option maxRecDepth 100000 in
set_option maxHeartbeats 1000000 in
theorem has_calls (base p : Nat) (L : List Com) (k : Int) (w : World) (hP : PastIs w base p L) :
    Calls Tryz.prog 39 #[.pointer (some ⟨p, 0, none⟩), .int .i64 k] w fun e w' => e = .returned (.bool (decide (0 ≤ k ∧ k < (L.length : Int)))) ∧ Below w.heap.size w w' := by
  obtain ⟨A, cap, ps, h1, h2, h3, h4, h5⟩ := hP
  have hx0 : w.cell? ⟨p, 0, none⟩ = some (.slice A L.length cap) := by unfold World.cell?; rw [h3]; rfl
  clear h1 h2 h3 h4 h5
  by_cases g1 : 0 ≤ k
  · have d1 : decide (0 ≤ k) = true := decide_eq_true g1
    by_cases g2 : k < (L.length : Int)
    · have d2 : decide (k < (L.length : Int)) = true := decide_eq_true g2
      have d3 : decide (0 ≤ k ∧ k < (L.length : Int)) = true := decide_eq_true ⟨g1, g2⟩
      rw [d3]
      go_enter Tryz.func39, Tryz.ntmps39
      go_wp2_with fail
      go_ret
      exact ⟨rfl, Below.refl _ _⟩
    · have d2 : decide (k < (L.length : Int)) = false := decide_eq_false g2
      have d3 : decide (0 ≤ k ∧ k < (L.length : Int)) = false := decide_eq_false (fun q => g2 q.2)
      rw [d3]
      go_enter Tryz.func39, Tryz.ntmps39
      go_wp2_with fail
      go_ret
      exact ⟨rfl, Below.refl _ _⟩
  · have d1 : decide (0 ≤ k) = false := decide_eq_false g1
    have d3 : decide (0 ≤ k ∧ k < (L.length : Int)) = false := decide_eq_false (fun q => g1 q.1)
    rw [d3]
    go_enter Tryz.func39, Tryz.ntmps39
    go_wp2_with fail
    go_ret
    exact ⟨rfl, Below.refl _ _⟩
set_option maxRecDepth 100000 in
set_option maxHeartbeats 2000000 in
theorem at_out (base p : Nat) (L : List Com) (k : Int) (w : World) (hP : PastIs w base p L) (hk : ¬ (0 ≤ k ∧ k < (L.length : Int))) :
    Calls Tryz.prog 21 #[.pointer (some ⟨p, 0, none⟩), .int .i64 k] w fun e w' => e = .returned (.tuple #[.slice none 0 0, .int .i64 1]) ∧ Below w.heap.size w w' := by
  have H := Aside0.mk (has_calls base p L k w hP)
  rw [decide_eq_false hk] at H
  clear hP hk
  go_enter Tryz.func21, Tryz.ntmps21
  go_wp2_with (go_at_call 39; with_reducible refine H.out.mono ?_; rintro e w1 ⟨rfl, hb⟩; have HB := Aside0.mk hb; clear hb H)
  go_ret2
  exact ⟨rfl, HB.out⟩
set_option maxRecDepth 100000 in
set_option maxHeartbeats 2000000 in
theorem at_in (base p : Nat) (L : List Com) (k : Nat) (w : World) (hP : PastIs w base p L) (hk : k < L.length) (hf : L[k].files.length ≤ 10000) :
    Calls Tryz.prog 21 #[.pointer (some ⟨p, 0, none⟩), .int .i64 (k : Int)] w fun e w' => ∃ v, e = .returned (.tuple #[v, .int .i64 0]) ∧ Kd.R k41 41 w' w.heap.size (fun _ => True) v L[k].files ∧ Below w.heap.size w w' := by
  have H := Aside0.mk (has_calls base p L (k : Int) w hP)
  rw [decide_eq_true (show 0 ≤ (k : Int) ∧ (k : Int) < (L.length : Int) by omega)] at H
  obtain ⟨g, cap, cs, l1, l2, b1, b2, hcap, hc1, hat⟩ := past_at hP (by omega)
  obtain ⟨c, hc2, A, cp, hc3, hF⟩ := hat k hk
  have l3 : c < w.heap.size := (Array.getElem?_eq_some_iff.1 hc3).1
  have hc4 : w.cell? ⟨c, 1, none⟩ = some (.slice A L[k].files.length cp) := by unfold World.cell?; rw [hc3]; rfl
  have HC : Aside0 (∀ wr, Below w.heap.size w wr → Calls Tryz.prog 40 #[.slice A L[k].files.length cp] wr fun e w' => ∃ v0_ : Value, e = .returned v0_ ∧ Kd.R k41 41 w' wr.heap.size (fun _ => True) v0_ L[k].files ∧ Below wr.heap.size wr w') :=
    ⟨fun wr hb => clone53_calls A cp L[k].files wr (Kd.C_below hF.reads hb) hf⟩
  have H1 := Aside0.mk hc1
  have H2 := Aside0.mk hc2
  have H4 := Aside0.mk hc4
  have HLT : Aside0 (p < w.heap.size ∧ g < w.heap.size ∧ c < w.heap.size) := ⟨l1, l2, l3⟩
  have hk0 : (0 : Int) ≤ (k : Int) := by omega
  have hk1 : (k : Int) < (L.length : Int) := by omega
  have hk2 : decide ((0 : Int) ≤ (k : Int)) = true := by simp
  have hk3 : decide ((k : Int) < (L.length : Int)) = true := decide_eq_true hk1
  clear hP hat hc3 hF hf hc1 hc2 hc4 hcap b1 b2 l1 l2 l3
  generalize L[k].files = fs at *
  go_enter Tryz.func21, Tryz.ntmps21
  go_wp2_with (first
    | (go_at_call 39; with_reducible refine H.out.mono ?_; rintro e w1 ⟨rfl, hb⟩; have HB := Aside0.mk hb; have hd1 := (hb.cell (p := ⟨p, 0, none⟩) HLT.out.1).trans H1.out; have hd2 := (hb.cell (p := ⟨g, k, none⟩) HLT.out.2.1).trans H2.out; have hd4 := (hb.cell (p := ⟨c, 1, none⟩) HLT.out.2.2).trans H4.out; clear hb H)
    | (go_at_call 40; with_reducible refine (HC.out _ HB.out).mono ?_; rintro e w2 ⟨v2, rfl, ho, hb⟩; obtain ⟨A2, c2, rfl⟩ := Kd.R_slice ho; have HO2 := Aside0.mk (Kd.R_lower ho HB.out.size); have HB2 := Aside0.mk (below_step HB.out hb); clear ho hb HC))
  go_ret2
  exact ⟨_, rfl, HO2.out, HB2.out⟩
set_option maxRecDepth 100000 in
set_option maxHeartbeats 4000000 in
theorem names_calls (base p : Nat) (L : List Com) (w : World) (hP : PastIs w base p L) (hL : L.length ≤ 1000) :
    Calls Tryz.prog 19 #[.pointer (some ⟨p, 0, none⟩)] w fun e w' => ∃ v, e = .returned v ∧ Kd.R Kd.string 9 w' w.heap.size (fun _ => True) v (L.map (·.name)) ∧ Below w.heap.size w w' := by
  by_cases hl : L = []
  · subst hl
    obtain ⟨A, cap, ps, h1, h2, h3, h4, h5⟩ := hP
    have hx0 : w.cell? ⟨p, 0, none⟩ = some (.slice A 0 cap) := by unfold World.cell?; rw [h3]; rfl
    clear h1 h2 h3 h4 h5
    go_enter Tryz.func19, Tryz.ntmps19
    go_wp2_with fail
    go_loopg [3, 13] 0 (fun _ v3 v13 wr => v3 = .slice none 0 0 ∧ v13 = .int .i64 0 ∧ wr = w)
    case atStart => exact ⟨rfl, rfl, rfl⟩
    case round =>
      obtain ⟨rfl, rfl, rfl⟩ := hrel
      go_wp2_with fail
      go_ret
      exact ⟨_, rfl, Kd.R_nil _ _ _ _ _, Below.refl _ _⟩
  · have hlen : 0 < L.length := List.length_pos_iff.2 hl
    obtain ⟨g, cap, cs, l1, l2, b1, b2, hcap, hc1, hat⟩ := past_at hP hlen
    have HAT := Aside0.mk hat
    have HLL := Aside0.mk hL
    have HLT : Aside0 (p < w.heap.size ∧ g < w.heap.size) := ⟨l1, l2⟩
    have HB0 := Aside0.mk (Below.refl w.heap.size w)
    clear hP hL hat hl hlen b1 b2 hcap l1 l2
    go_enter Tryz.func19, Tryz.ntmps19
    go_wp2_with fail
    go_loopg [13, 3] (L.length + 1) (fun kq v13 v3 w' => ∃ (i : Nat) (A : Option Addr) (cc : Nat), v13 = .int .i64 (i : Int) ∧ v3 = .slice A i cc ∧ Aside0 (L.length - i < kq ∧ i ≤ L.length) ∧ Aside0 (Below w.heap.size w w') ∧ Aside0 (Kd.R Kd.string 9 w' w.heap.size (fun _ => True) (.slice A i cc) ((L.map (·.name)).take i)))
    case atStart => exact ⟨0, none, 0, rfl, rfl, ⟨by omega, by omega⟩, HB0, ⟨Kd.R_nil _ _ _ _ _⟩⟩
    case round =>
      obtain ⟨i, A, cc, rfl, rfl, HI, HBe, HR⟩ := hrel
      obtain ⟨k1, rfl⟩ : ∃ k1, gk = k1 + 1 := ⟨gk - 1, by have := HI.out.1; omega⟩
      by_cases hlt : i < L.length
      · have hb : decide ((i : Int) < (L.length : Int)) = true := by simp; omega
        have hb2 : decide ((0 : Int) ≤ (i : Int)) = true := by simp
        have hi0 : (0 : Int) ≤ (i : Int) := by omega
        have hi1 : (i : Int) < (L.length : Int) := by omega
        obtain ⟨ci, hci, Ai, cpi, hci3, -⟩ := HAT.out i hlt
        have hci' := (HBe.out.cell (p := ⟨g, i, none⟩) HLT.out.2).trans hci
        have hcl : ci < w.heap.size := (Array.getElem?_eq_some_iff.1 hci3).1
        have hcn : w.cell? ⟨ci, 0, none⟩ = some (.string L[i].name) := by unfold World.cell?; rw [hci3]; rfl
        have hcn' := (HBe.out.cell (p := ⟨ci, 0, none⟩) hcl).trans hcn
        have hnx : (L.map (·.name)).take i ++ [L[i].name] = (L.map (·.name)).take (i + 1) := by
          rw [List.take_succ_eq_append_getElem (by rw [List.length_map]; exact hlt), List.getElem_map]
        have hln : ((L.map (·.name)).take i).length = i := by rw [List.length_take, List.length_map]; omega
        have HNX := Aside0.mk hnx
        have HLN := Aside0.mk hln
        have HLT2 := Aside0.mk hlt
        have HWR := Aside0.mk HBe.out.size
        clear hnx hln hci hci3 hcn hcl
        generalize L[i].name = nm at *
        generalize hX : (L.map (·.name)).take i = X at *
        have HRX : Aside0 (Kd.R Kd.string 9 wr w.heap.size (fun _ => True) (.slice A X.length cc) X) := ⟨by rw [HLN.out]; exact HR.out⟩
        clear HR hX
        go_wp2_with (at_builtin; go_loud (refine Kd.R_append Kd.string (w0 := wr) w.heap.size rfl (.tmp 17) (.tmp 22) 47 9 (.string ⟨#[]⟩) 16 rfl Tryz.underlying47 info9 rfl (by decide) (by omega) _ X nm [.string nm] (fun _ => True) (fun _ => False) (by rw [HLN.out]; rfl) (by first | rfl | (simp; done) | (go_simp; done)) rfl (fun _ hk => hk.elim) (fun _ _ => trivial) HRX.out (Below.refl w.heap.size wr) HWR.out (by have := HLN.out; have := HLL.out; have := HLT2.out; omega) ?_); intro v1 w7 ho hb hg hat; go_loud (obtain ⟨A8, c8, rfl⟩ := Kd.R_slice ho; have HB7 := Aside0.mk (HBe.out.trans hb); rw [show (X ++ [nm]).length = i + 1 by rw [List.length_append, HLN.out]; rfl] at ho; have HO7 := Aside0.mk ho; clear ho hb hg hat))
        go_roundg k1
        case measure => have := HI.out.1; have := HLT2.out; omega
        case rel => exact ⟨i + 1, A8, c8, congrArg (Value.int .i64) (by first | exact nx i (by have := HLL.out; have := HLT2.out; omega) | (have := HLL.out; have := HLT2.out; omega)), by rw [HLN.out], ⟨by have := HI.out.1; have := HLT2.out; omega, by have := HLT2.out; omega⟩, HB7, ⟨by rw [← HNX.out]; exact HO7.out⟩⟩
      · have hb : decide ((i : Int) < (L.length : Int)) = false := by simp; omega
        have hi : (L.map (·.name)).take i = L.map (·.name) := List.take_of_length_le (by rw [List.length_map]; omega)
        rw [hi] at HR
        clear hi
        go_wp2_with fail
        go_ret
        exact ⟨_, rfl, HR.out, HBe.out⟩
end Go.Proofs.YthimblhfjfngiaaGreat.PText

namespace Go.Proofs.YthimblhfjfngiaaGreat.PText
open Go.RowKit Go.Lib Go.Sort Go.Proofs.YthimblhfjfngiaaGreatW.PrintWords Go.Proofs.YthimblhfjfngiaaGreatW.PrintLast Go.Proofs.YthimblhfjfngiaaGreatW.PrintMore
set_option linter.unusedVariables false
set_option linter.unusedSimpArgs false
/-- a slice's value, in a row -/
def kL : Kd (Option Addr × Nat × Nat) := Kd.scalar (fun x : Option Addr × Nat × Nat => Value.slice x.1 x.2.1 x.2.2) (fun _ => rfl)
theorem info46 : (Tryz.prog.info? 37).map (fun i => (i.zero, i.size, i.bytes)) = some (some (.slice none 0 0), 1, 24) := by kernel_rfl
/-- whatever lies in blocks of other types than the document's past's own (itself, its rows of names and of files) stands -/
def RKept (w w' : World) : Prop := ∀ (k : Nat) (o : Obj), w.heap[k]? = some o → (∀ c fz, o ≠ .cells c 58 fz) → (∀ c fz, o ≠ .cells c 9 fz) → (∀ c fz, o ≠ .cells c 37 fz) → w'.heap[k]? = some o
theorem RKept.refl (w : World) : RKept w w := fun _ _ h _ _ _ => h
theorem RKept.trans {a b c : World} (h : RKept a b) (k : RKept b c) : RKept a c := fun i o hi h1 h2 h3 => k i o (h i o hi h1 h2 h3) h1 h2 h3
theorem RKept.of_below {w w' : World} (h : Below w.heap.size w w') : RKept w w' := fun k o hk _ _ _ => (h.block k (Array.getElem?_eq_some_iff.1 hk).1).trans hk
theorem RKept.grown {w w' : World} {base n t : Nat} {v : Value} {inner : List Value} {sz : Nat} (hg : w.grownBy w' v.ownBlock) (ho : w.ownsRow base t sz v n inner) (ht : t = 58 ∨ t = 9 ∨ t = 37) : RKept w w' := fun k o hk h1 h2 h3 => by
  rw [hg.block k (Array.getElem?_eq_some_iff.1 hk).1 ?_, hk]
  intro e
  obtain ⟨cells, hc⟩ := own_typed ho k e.symm
  rw [hk] at hc
  cases hc
  rcases ht with rfl | rfl | rfl
  · exact h1 _ _ rfl
  · exact h2 _ _ rfl
  · exact h3 _ _ rfl
theorem RKept.set {w : World} {q i : Nat} {cs : Array Value} {x : Value} (hq : w.heap[q]? = some (.cells cs 58 (0, 0))) : RKept w (w.setCell ⟨q, i, none⟩ x) := fun k o hk h1 h2 h3 => by
  rw [Below.heap_setCell _ _ _ _ (fun e => ?_), hk]
  subst e
  rw [hq] at hk
  cases hk
  exact h1 _ _ rfl
theorem FRow.rkeep {w w' : World} {A : Option Addr} {cap : Nat} {l : List S41} (h : FRow w A cap l) (hk : RKept w w') : FRow w' A cap l := by
  rcases h.lies with e | ⟨b, cs, e, hb⟩
  · subst e
    exact ⟨h.cap, ⟨rfl, by simp, fun q => absurd q (by simp)⟩, .inl rfl⟩
  · have hb' := hk b _ hb (fun c fz q => by cases q) (fun c fz q => by cases q) (fun c fz q => by cases q)
    exact ⟨h.cap, C_kept53 h.reads e (by rw [hb, hb']), .inr ⟨b, cs, e, hb'⟩⟩
theorem ComAt.rkeep {w w' : World} {c : Nat} {x : Com} (h : ComAt w c x) (hk : RKept w w') : ComAt w' c x := by
  obtain ⟨A, cap, h1, h2⟩ := h
  exact ⟨A, cap, hk c _ h1 (fun c fz q => by cases q) (fun c fz q => by cases q) (fun c fz q => by cases q), h2.rkeep hk⟩
theorem R_types' {α : Type} {d : Kd α} {e : Nat} {w w' : World} {base : Nat} {v : Value} {xs : List α} (h : Kd.R d e w base (fun _ => True) v xs) (hm : ∀ (k q : Nat) (cs : Array Value), q ∈ e :: d.E → w.heap[k]? = some (.cells cs q (0, 0)) → w'.heap[k]? = some (.cells cs q (0, 0))) : Kd.R d e w' base (fun _ => True) v xs :=
  Kd.R_mono (Kd.R_step (Kd.R_bound h) (fun k hk hk2 => by
    obtain ⟨-, -, -, q, hq, cs, hc⟩ := hk
    rw [hm k q cs hq hc, hc])) (fun _ _ => trivial)
/-- the program's past stands where the document's is written -/
theorem PastIs.rkeep {w w' : World} {base p : Nat} {L : List Com} (h : PastIs w base p L) (hk : RKept w w') : PastIs w' base p L := by
  obtain ⟨A, cap, ps, h1, h2, h3, h4, h5⟩ := h
  refine ⟨A, cap, ps, h1, h2, hk p _ h3 (fun c fz q => by cases q) (fun c fz q => by cases q) (fun c fz q => by cases q), R_types' h4 (fun k q cs hq hc => ?_), fun i a b => (h5 i a b).rkeep hk⟩
  have e : q = 63 := by rcases List.mem_cons.1 hq with h | h; exact h; cases h
  subst e
  exact hk k _ hc (fun c fz q => by cases q) (fun c fz q => by cases q) (fun c fz q => by cases q)
/-- the document's past: names and files of its commits -/
def RefIs (w : World) (base q : Nat) (L : List Com) : Prop :=
  ∃ (A1 A2 : Option Addr) (c1 c2 : Nat) (ps : List (Option Addr × Nat × Nat)), ps.length = L.length ∧ base ≤ q ∧ w.heap[q]? = some (.cells #[.slice A1 L.length c1, .slice A2 L.length c2] 58 (0, 0)) ∧ Kd.R Kd.string 9 w base (fun _ => True) (.slice A1 L.length c1) (L.map (·.name)) ∧
    Kd.R kL 37 w base (fun _ => True) (.slice A2 L.length c2) ps ∧ ∀ i, ∀ h : i < L.length, ∀ h' : i < ps.length, ps[i].2.1 = L[i].files.length ∧ FRow w ps[i].1 ps[i].2.2 L[i].files
theorem RefIs.keep {w w' : World} {base q : Nat} {L : List Com} (h : RefIs w base q L) (hk : PKept w w') : RefIs w' base q L := by
  obtain ⟨A1, A2, c1, c2, ps, h1, h2, h3, h4, h5, h6⟩ := h
  have one : ∀ (t : Nat) (e : List Nat), e = [] → t ≠ 61 → t ≠ 63 → ∀ (k q : Nat) (cs : Array Value), q ∈ t :: e → w.heap[k]? = some (.cells cs q (0, 0)) → w'.heap[k]? = some (.cells cs q (0, 0)) := fun t e he n1 n2 k q cs hq hc => by
    subst he
    have e : q = t := by rcases List.mem_cons.1 hq with h | h; exact h; cases h
    subst e
    exact hk k _ hc (fun c fz z => by cases z; exact n1 rfl) (fun c fz z => by cases z; exact n2 rfl)
  exact ⟨A1, A2, c1, c2, ps, h1, h2, hk q _ h3 (fun c fz z => by cases z) (fun c fz z => by cases z), R_types' h4 (one 9 _ rfl (by decide) (by decide)), R_types' h5 (one 37 _ rfl (by decide) (by decide)), fun i a b => ⟨(h6 i a b).1, (h6 i a b).2.keep hk⟩⟩
theorem RefIs.below {w w' : World} {base q : Nat} {L : List Com} (h : RefIs w base q L) (hb : Below w.heap.size w w') : RefIs w' base q L := h.keep (PKept.of_below hb)
end Go.Proofs.YthimblhfjfngiaaGreat.PText

namespace Go.Proofs.YthimblhfjfngiaaGreat.PText
open Go.RowKit Go.Lib Go.Sort Go.Proofs.YthimblhfjfngiaaGreatW.PrintWords Go.Proofs.YthimblhfjfngiaaGreatW.PrintLast Go.Proofs.YthimblhfjfngiaaGreatW.PrintMore
set_option linter.unusedVariables false
set_option linter.unusedSimpArgs false
theorem files_row {w : World} {base : Nat} {A2 : Option Addr} {c2 : Nat} {L : List Com} {ps : List (Option Addr × Nat × Nat)} (h1 : ps.length = L.length) (h5 : Kd.R kL 37 w base (fun _ => True) (.slice A2 L.length c2) ps)
    (h6 : ∀ i, ∀ h : i < L.length, ∀ h' : i < ps.length, ps[i].2.1 = L[i].files.length ∧ FRow w ps[i].1 ps[i].2.2 L[i].files) : Kd.C (Kd.slice 41 k41) w A2 (L.map (·.files)).length (L.map (·.files)) := by
  rw [← h1] at h5
  obtain ⟨q1, q2, q3⟩ := (Kd.R_reads' h5).2.2
  refine ⟨rfl, by rw [List.length_map, ← h1]; exact q2, fun hl => ?_⟩
  rw [List.length_map] at hl
  obtain ⟨ad, e, q4⟩ := q3 (by omega)
  refine ⟨ad, e, fun j p hj => ?_⟩
  obtain ⟨hj1, hj2⟩ := List.getElem?_eq_some_iff.1 hj
  have hjL : j < L.length := by rwa [List.length_map] at hj1
  have hjp : j < ps.length := by omega
  obtain ⟨c, e1, e2, e3⟩ := q4 j ps[j] (List.getElem?_eq_getElem hjp)
  obtain ⟨f1, f2⟩ := h6 j hjL hjp
  rw [List.getElem_map] at hj2
  subst hj2
  refine ⟨c, e1, ?_, e3⟩
  have e2' : c = [.slice ps[j].1 ps[j].2.1 ps[j].2.2] := e2
  rw [f1] at e2'
  exact ⟨ps[j].1, ps[j].2.2, e2', f2.cap, f2.reads⟩
theorem refIs_S {w : World} {base q : Nat} {L : List Com} (h : RefIs w base q L) : IsS58 w w q (L.map (·.name)) (L.map (·.files)) := by
  obtain ⟨A1, A2, c1, c2, ps, h1, h2, h3, h4, h5, h6⟩ := h
  have hn : (L.map (·.name)).length = L.length := List.length_map _
  refine ⟨A1, c1, A2, c2, by rw [List.length_map, List.length_map]; exact h3, trivial, ?_, files_row h1 h5 h6⟩
  have h4' : Kd.R Kd.string 9 w base (fun _ => True) (.slice A1 (L.map (·.name)).length c1) (L.map (·.name)) := by rw [hn]; exact h4
  exact (Kd.R_reads' h4').2.2
end Go.Proofs.YthimblhfjfngiaaGreat.PText

namespace Go.Proofs.YthimblhfjfngiaaGreat.PText
open Go.RowKit Go.Lib Go.Proofs.YthimblhfjfngiaaGreatW.PrintWords Go.Proofs.YthimblhfjfngiaaGreatW.PrintLast Go.Proofs.YthimblhfjfngiaaGreatW.PrintMore
set_option linter.unusedVariables false
set_option linter.unusedSimpArgs false
end Go.Proofs.YthimblhfjfngiaaGreat.PText

namespace Go.Proofs.YthimblhfjfngiaaGreat.PText
open Go.RowKit Go.Lib Go.Sort Go.Proofs.YthimblhfjfngiaaGreatW.PrintWords Go.Proofs.YthimblhfjfngiaaGreatW.PrintLast Go.Proofs.YthimblhfjfngiaaGreatW.PrintMore
set_option linter.unusedVariables false
set_option linter.unusedSimpArgs false
def noCom : Com := ⟨⟨#[]⟩, []⟩
/-- the commit before one -/
def prevC (L : List Com) (k : Nat) : Com := if k = 0 then noCom else L.getD (k - 1) noCom
set_option maxRecDepth 100000 in
set_option maxHeartbeats 2000000 in
theorem before_calls (base p : Nat) (L : List Com) (k : Nat) (w : World) (hP : PastIs w base p L) (hk : k < L.length) (hL : L.length ≤ 1000) :
    Calls Tryz.prog 34 #[.pointer (some ⟨p, 0, none⟩), .int .i64 (k : Int)] w fun e w' => ∃ c, e = .returned (.pointer (some ⟨c, 0, none⟩)) ∧ ComAt w' c (prevC L k) ∧ Below w.heap.size w w' := by
  by_cases h0 : k = 0
  · subst h0
    clear hP hk hL
    go_enter Tryz.func34, Tryz.ntmps34
    go_wp2_with fail
    go_ret
    exact ⟨_, rfl, (show ComAt _ _ noCom from ⟨none, 0, heap_nw _ _, Nat.le_refl _, ⟨rfl, Nat.zero_le _, fun q => absurd q (Nat.lt_irrefl 0)⟩, .inl rfl⟩), (Below.refl _ _).alloc (Nat.le_refl _) _⟩
  · obtain ⟨g, cap, cs, l1, l2, b1, b2, hcap, hc1, hat⟩ := past_at hP (by omega)
    obtain ⟨c, hc2, hcom⟩ := hat (k - 1) (by omega)
    have hpr : prevC L k = L[k - 1]'(by omega) := by
      unfold prevC
      rw [if_neg h0, List.getD_eq_getElem?_getD, List.getElem?_eq_getElem (by omega)]; rfl
    rw [hpr]
    generalize L[k - 1]'(by omega) = x at hcom ⊢
    obtain ⟨m, rfl⟩ : ∃ m, k = m + 1 := ⟨k - 1, by omega⟩
    have hHC := Aside0.mk hcom
    have hz : (((m + 1 : Nat) : Int) == 0) = false := beq_eq_false_iff_ne.2 (by omega)
    have hw0 : wrap64 (((m + 1 : Nat) : Int) - 1) = (m : Int) := by rw [w64 (by omega) (by omega)]; omega
    have hw1 : IntKind.i64.wrap (((m + 1 : Nat) : Int) - 1) = (m : Int) := (i64_w _).trans hw0
    have hm0 : (0 : Int) ≤ (m : Int) := by omega
    have hm1 : (m : Int) < (L.length : Int) := by omega
    have hc2' : w.cell? ⟨g, m, none⟩ = some (.pointer (some ⟨c, 0, none⟩)) := hc2
    clear hP hk hL hat hc2 hcap b1 b2 hpr hcom h0
    generalize hi : ((m + 1 : Nat) : Int) = i at *
    clear hi
    go_enter Tryz.func34, Tryz.ntmps34
    go_wp2_with fail
    go_ret
    exact ⟨_, rfl, hHC.out, Below.refl _ _⟩
end Go.Proofs.YthimblhfjfngiaaGreat.PText

namespace Go.Proofs.YthimblhfjfngiaaGreat.PText
open Go.RowKit Go.Lib Go.Sort Go.Proofs.YthimblhfjfngiaaGreatW.PrintWords Go.Proofs.YthimblhfjfngiaaGreatW.PrintLast Go.Proofs.YthimblhfjfngiaaGreatW.PrintMore
set_option linter.unusedVariables false
set_option linter.unusedSimpArgs false
/-- commits of small files -/
def Tiny (L : List Com) : Prop := ∀ c ∈ L, c.files.length ≤ 10000 ∧ ∀ x ∈ c.files, x.f1.size ≤ 10000
theorem Tiny.small {L : List Com} (h : Tiny L) : Small L := fun c m => ⟨(h c m).1, fun x hx => by have := (h c m).2 x hx; omega⟩
theorem prevC_tiny {L : List Com} (h : Tiny L) (k : Nat) : (prevC L k).files.length ≤ 10000 ∧ ∀ x ∈ (prevC L k).files, x.f1.size ≤ 10000 := by
  unfold prevC
  split
  · exact ⟨Nat.zero_le _, fun x m => by cases m⟩
  · rw [List.getD_eq_getElem?_getD]
    cases e : L[k - 1]? with
    | none => exact ⟨Nat.zero_le _, fun x m => by cases m⟩
    | some c => exact h c (List.mem_of_getElem? e)
theorem rfind_l0 (l : List S41) (file : ByteArray) (hl : l.length ≤ 100000) : ∀ (m i k : Nat), l.length - i = m → i ≤ l.length → m + 1 ≤ k → smockingref25_find.l0 k l file (i : Int) = some (findR (l.drop i) file)
  | 0, i, k, hm, hi, hk => by
    obtain ⟨k, rfl⟩ : ∃ q, k = q + 1 := ⟨k - 1, by omega⟩
    rw [smockingref25_find.l0, if_neg (by omega), List.drop_eq_nil_of_le (by omega)]
    rfl
  | m + 1, i, k, hm, hi, hk => by
    obtain ⟨k, rfl⟩ : ∃ q, k = q + 1 := ⟨k - 1, by omega⟩
    have hil : i < l.length := by omega
    rw [smockingref25_find.l0, if_pos (by omega), if_pos (by omega), rd53_at l i hil, List.drop_eq_getElem_cons hil]
    by_cases c : l[i].f0.toList = file.toList
    · rw [if_pos c]
      have q : nameP file l[i] = true := beq_iff_eq.2 c
      unfold findR
      rw [List.find?_cons, q]
    · rw [if_neg c, nx i (by omega), rfind_l0 l file hl m (i + 1) k (by omega) (by omega) (by omega)]
      have q : nameP file l[i] = false := beq_eq_false_iff_ne.2 c
      have e : findR (l[i] :: l.drop (i + 1)) file = findR (l.drop (i + 1)) file := by unfold findR; rw [List.find?_cons, q]
      rw [e]
theorem rfind_f (l : List S41) (file : ByteArray) (hl : l.length ≤ 100000) (k : Nat) (hk : l.length + 1 ≤ k) : smockingref25_find.f k l file = some (findR l file) := by
  have h := rfind_l0 l file hl l.length 0 k (by omega) (Nat.zero_le _) hk
  rw [List.drop_zero] at h
  exact h
theorem rdL2_at (L : List Com) (i : Nat) (h : i < L.length) : rd_L2 (L.map (·.files)) (i : Int) = L[i].files := by
  unfold rd_L2
  rw [Int.toNat_natCast, List.getD_eq_getElem?_getD, List.getElem?_map, List.getElem?_eq_getElem h]
  rfl
theorem s58_cell {w0 w : World} {g : Nat} {L : List Com} (h : IsS58 w0 w g (L.map (·.name)) (L.map (·.files))) : ∃ A c, w.cell? ⟨g, 1, none⟩ = some (.slice A L.length c) ∧ Kd.C (Kd.slice 41 k41) w0 A L.length (L.map (·.files)) := by
  obtain ⟨A0, c0, A1, c1, h1, -, h3, h4⟩ := h
  rw [List.length_map] at h4
  refine ⟨A1, c1, ?_, h4⟩
  have := cellS58_1 h1
  rwa [List.length_map] at this
end Go.Proofs.YthimblhfjfngiaaGreat.PText

namespace Go.Proofs.YthimblhfjfngiaaGreat.PText
open Go.RowKit Go.Lib Go.Sort Go.Proofs.YthimblhfjfngiaaGreatW.PrintWords Go.Proofs.YthimblhfjfngiaaGreatW.PrintLast Go.Proofs.YthimblhfjfngiaaGreatW.PrintMore
set_option linter.unusedVariables false
set_option linter.unusedSimpArgs false
theorem rhas_l0 (l : List ByteArray) (x : ByteArray) (hl : l.length ≤ 1000000) : ∀ (m i k : Nat), l.length - i = m → i ≤ l.length → m + 1 ≤ k → ∃ r, rf0_Has.l0 k l x (i : Int) = some r ∧ (0 ≤ r ↔ x ∈ l.drop i)
  | 0, i, k, hm, hi, hk => by
    obtain ⟨k, rfl⟩ : ∃ q, k = q + 1 := ⟨k - 1, by omega⟩
    rw [rf0_Has.l0, if_neg (by omega)]
    exact ⟨_, rfl, fun q => absurd q (by decide), fun q => by rw [List.drop_eq_nil_of_le (by omega)] at q; cases q⟩
  | m + 1, i, k, hm, hi, hk => by
    obtain ⟨k, rfl⟩ : ∃ q, k = q + 1 := ⟨k - 1, by omega⟩
    have hil : i < l.length := by omega
    rw [rf0_Has.l0, if_pos (by omega), if_pos (by omega), rdB l i hil, List.drop_eq_getElem_cons hil]
    by_cases e : l[i].toList = x.toList
    · rw [if_pos e]
      have e2 : l[i] = x := bL_ext (bL_inj.1 e)
      exact ⟨_, rfl, fun _ => by rw [e2]; exact List.mem_cons_self, fun _ => by omega⟩
    · rw [if_neg e, nx i (by omega)]
      obtain ⟨r, h1, h2⟩ := rhas_l0 l x hl m (i + 1) k (by omega) (by omega) (by omega)
      refine ⟨r, h1, fun q => List.mem_cons_of_mem _ (h2.1 q), fun q => h2.2 ?_⟩
      rcases List.mem_cons.1 q with q | q
      · exact absurd (by rw [q]) e
      · exact q
end Go.Proofs.YthimblhfjfngiaaGreat.PText

namespace Go.Proofs.YthimblhfjfngiaaGreat.PText
open Go.RowKit Go.Lib Go.Sort Go.Proofs.YthimblhfjfngiaaGreatW.PrintWords Go.Proofs.YthimblhfjfngiaaGreatW.PrintLast Go.Proofs.YthimblhfjfngiaaGreatW.PrintMore
set_option linter.unusedVariables false
set_option linter.unusedSimpArgs false
theorem s58_names {w0 w : World} {g : Nat} {L : List Com} (h : IsS58 w0 w g (L.map (·.name)) (L.map (·.files))) : ∃ A c, w.cell? ⟨g, 0, none⟩ = some (.slice A L.length c) ∧ Kd.C Kd.string w0 A L.length (L.map (·.name)) := by
  obtain ⟨A0, c0, A1, c1, h1, -, h3, h4⟩ := h
  rw [List.length_map] at h3
  refine ⟨A0, c0, ?_, h3⟩
  have := cellS58_0 h1
  rwa [List.length_map] at this
set_option maxRecDepth 100000 in
set_option maxHeartbeats 1000000 in
theorem rnames_calls (base q : Nat) (L : List Com) (w : World) (hR : RefIs w base q L) (hL : L.length ≤ 1000) :
    Calls Tryz.prog 20 #[.pointer (some ⟨q, 0, none⟩)] w fun e w' => ∃ v, e = .returned v ∧ Kd.R Kd.string 9 w' w.heap.size (fun _ => True) v (L.map (·.name)) ∧ Below w.heap.size w w' := by
  obtain ⟨A, c, hc1, hC⟩ := s58_names (refIs_S hR)
  have HC := Aside0.mk hC
  have hlt := World.block_lt_of_cell? _ _ hc1
  have HLL := Aside0.mk hL
  have H1 := Aside0.mk hc1
  have HLT := Aside0.mk hlt
  clear hR hC hL hlt
  generalize L.map (·.name) = N at *
  go_enter Tryz.func20, Tryz.ntmps20
  go_wp2_with (first
    | ((with_reducible refine gate_dst (N := 3) rfl ?_); refine Kd.R_lit Kd.string w.heap.size 9 ?hg (N := 3) ?hd (xs := ([] : List ByteArray)) (inner := []) (ok := fun _ => True) (okp := fun _ => True) ?hr ?hp (fun _ hk => hk) trivial (Below.refl _ _) (Nat.le_refl _) (by simp) ?_; (case hd => rfl); (case hg => rfl); (case hr => first | (go_simp; done) | (go_simp; rfl)); (case hp => exact (Reps.none _ _)); intro v1 w1 ho hb hg_ hnew_; have HO1 := Aside0.mk ho; have HB1 := Aside0.mk hb; have hd1 := (hb.cell HLT.out).trans H1.out; clear ho hb hg_ hnew_)
    | (at_builtin; refine Kd.R_append_rows Kd.string (w0 := w1) w.heap.size rfl (.tmp 3) (.tmp 7) 47 9 (.string ⟨#[]⟩) 16 rfl Tryz.underlying47 info9 rfl (by decide) (by omega) v1 [] N _ _ _ (fun _ => True) (fun _ => False) rfl rfl HO1.out (Kd.C_below HC.out HB1.out) (fun _ _ h => h) (fun _ h => h.elim) (fun _ _ => trivial) (Below.refl _ _) HB1.out.size (by have := HLL.out; simp only [List.length_nil]; omega) ?_; intro v2 w2 ho hb hg hat; have HO2 := Aside0.mk ho; have HB2 := Aside0.mk (HB1.out.trans hb); clear ho hb hg hat)
    | fail)
  go_ret
  exact ⟨_, rfl, HO2.out, HB2.out⟩
set_option maxRecDepth 100000 in
set_option maxHeartbeats 1000000 in
theorem rat_out (base q : Nat) (L : List Com) (k : Int) (w : World) (hR : RefIs w base q L) (hk : ¬ (0 ≤ k ∧ k < (L.length : Int))) :
    Calls Tryz.prog 22 #[.pointer (some ⟨q, 0, none⟩), .int .i64 k] w fun e w' => e = .returned (.tuple #[.slice none 0 0, .int .i64 1]) ∧ Below w.heap.size w w' := by
  obtain ⟨A, c, hc1, hC⟩ := s58_cell (refIs_S hR)
  clear hR hC
  by_cases h0 : k < 0
  · have d0 : decide (k < 0) = true := decide_eq_true h0
    clear hk h0
    go_enter Tryz.func22, Tryz.ntmps22
    go_wp2_with fail
    go_ret2
    exact ⟨rfl, Below.refl _ _⟩
  · have d0 : decide (k < 0) = false := decide_eq_false h0
    have d1 : decide ((L.length : Int) ≤ k) = true := decide_eq_true (by omega)
    clear hk h0
    go_enter Tryz.func22, Tryz.ntmps22
    go_wp2_with fail
    go_ret2
    exact ⟨rfl, Below.refl _ _⟩
set_option maxRecDepth 100000 in
set_option maxHeartbeats 1000000 in
theorem rat_in (base q : Nat) (L : List Com) (k : Nat) (w : World) (hR : RefIs w base q L) (hk : k < L.length) (hf : L[k].files.length ≤ 10000) :
    Calls Tryz.prog 22 #[.pointer (some ⟨q, 0, none⟩), .int .i64 (k : Int)] w fun e w' => ∃ v, e = .returned (.tuple #[v, .int .i64 0]) ∧ Kd.R k41 41 w' w.heap.size (fun _ => True) v L[k].files ∧ Below w.heap.size w w' := by
  obtain ⟨A, c, hc1, hC⟩ := s58_cell (refIs_S hR)
  obtain ⟨ad, A0, c0, e0, hx0, hxc, hCL⟩ := at_L2 hC (k : Int) (by omega) (by omega)
  rw [rdL2_at L k hk, Int.toNat_natCast] at hx0
  rw [rdL2_at L k hk] at hxc hCL
  cases e0
  have hk0 : (0 : Int) ≤ (k : Int) := by omega
  have hk1 : (k : Int) < (L.length : Int) := by omega
  have d0 : decide ((k : Int) < 0) = false := decide_eq_false (by omega)
  have d1 : decide ((L.length : Int) ≤ (k : Int)) = false := decide_eq_false (by omega)
  have HLT := Aside0.mk (World.block_lt_of_cell? _ _ hc1)
  have HLX := Aside0.mk (World.block_lt_of_cell? _ _ hx0)
  have HC := Aside0.mk hCL
  have HF := Aside0.mk hf
  have H1 := Aside0.mk hc1
  have HX := Aside0.mk hx0
  clear hR hC hf hCL hxc
  generalize L[k].files = lf at *
  go_enter Tryz.func22, Tryz.ntmps22
  go_wp2_with (first
    | ((with_reducible refine gate_dst (N := 17) rfl ?_); refine Kd.R_lit k41 w.heap.size 41 ?hg (N := 17) ?hd (xs := ([] : List S41)) (inner := []) (ok := fun _ => True) (okp := fun _ => True) ?hr ?hp (fun _ hk => hk) trivial (Below.refl _ _) (Nat.le_refl _) (by simp) ?_; (case hd => rfl); (case hg => rfl); (case hr => first | (go_simp; done) | (go_simp; rfl)); (case hp => exact (Reps.none _ _)); intro v1 w1 ho hb hg_ hnew_; have HO1 := Aside0.mk ho; have HB1 := Aside0.mk hb; have hd1 := (hb.cell HLT.out).trans H1.out; have hd2 := (hb.cell HLX.out).trans HX.out; clear ho hb hg_ hnew_)
    | (at_builtin; refine Kd.R_append_rows k41 (w0 := w1) w.heap.size rfl (.tmp 17) (.tmp 24) 37 41 (.agg #[(.string ⟨#[]⟩), (.string ⟨#[]⟩)]) 32 rfl Tryz.underlying37 info41 rfl (by decide) (by omega) v1 [] lf _ _ _ (fun _ => True) (fun _ => False) rfl rfl HO1.out (Kd.C_below HC.out HB1.out) (fun _ _ h => h) (fun _ h => h.elim) (fun _ _ => trivial) (Below.refl _ _) HB1.out.size (by have := HF.out; simp only [List.length_nil]; omega) ?_; intro v2 w2 ho hb hg hat; have HO2 := Aside0.mk ho; have HB2 := Aside0.mk (HB1.out.trans hb); clear ho hb hg hat)
    | fail)
  go_ret2
  exact ⟨_, rfl, HO2.out, HB2.out⟩
end Go.Proofs.YthimblhfjfngiaaGreat.PText

