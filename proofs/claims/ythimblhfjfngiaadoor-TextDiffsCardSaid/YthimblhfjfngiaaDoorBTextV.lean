/- Chapter 01: what the claims share. Part 22 of 24. -/
import Derived.Test.YthimblhfjfngiaaDoorBTextU
import Derived.Lib.ItoaLen
import Derived.Lib.AppendIntMem
namespace Go.Proofs.YthimblhfjfngiaaDoor.PText
open Go.RowKit Go.Proofs.YthimblhfjfngiaaDoorW.PrintWords Go.Proofs.YthimblhfjfngiaaDoorW.PrintLast Go.Proofs.YthimblhfjfngiaaDoorW.PrintMore
set_option linter.unusedVariables false
set_option linter.unusedSimpArgs false
def firstN (a n : Nat) : Nat := if n = 0 then a else a + 1
def itS (n : Nat) : ByteArray := ⟨(Lib.itoa (n : Int)).toArray⟩
theorem yub_ (n : Nat) (h : n ≤ 10000000) : (itS n).size ≤ 21 := by
  have := Lib.itoa_length_le (n : Int) (by omega) (by omega)
  show (Lib.itoa (n : Int)).toArray.size ≤ 21
  simpa using this
def headT (a b n m : Nat) : ByteArray := ⟨#[64, 64, 32]⟩ ++ itS (firstN a n) ++ ⟨#[44]⟩ ++ itS n ++ ⟨#[32]⟩ ++ itS (firstN b m) ++ ⟨#[44]⟩ ++ itS m ++ ⟨#[32, 64, 64, 10]⟩
theorem first_row (a n : Nat) (w : World) (ha : a ≤ 1000000) : Calls Tryd.prog 83 #[.int .i64 (a : Int), .int .i64 (n : Int)] w fun e w' => e = .returned (.int .i64 (firstN a n : Int)) ∧ w' = w := by
  by_cases h : n = 0
  · subst h
    go_enter Tryd.func83, Tryd.ntmps83
    go_wp2
    go_ret
    exact ⟨rfl, rfl⟩
  · have h1 : ((n : Int) == 0) = false := beq_eq_false_iff_ne.mpr (by omega)
    have e1 : wrap64 ((a : Int) + 1) = (firstN a n : Int) := by
      rw [w64 (by omega) (by omega)]; unfold firstN; rw [if_neg h]; omega
    go_enter Tryd.func83, Tryd.ntmps83
    go_wp2
    go_ret
    exact ⟨congrArg (fun z => Ending.returned (Value.int .i64 z)) (by first | exact e1 | (rw [← e1, w64 (by omega) (by omega)])), rfl⟩
theorem itoa_row (n : Nat) (w : World) (h : n ≤ 10000000) (hG : Glob w) : Calls Tryd.prog 82 #[.int .i64 (n : Int)] w fun e w' => e = .returned (.string (itS n)) ∧ Below w.heap.size w w' :=
  (Tryd.strconv_Itoa (n : Int) (by omega) (by omega) w hG.pow).mono fun e w' h => by
    obtain ⟨h1, k, os, rfl⟩ := h
    exact ⟨h1, Lib.below_grow _ w (Nat.le_refl _) k os⟩
set_option maxHeartbeats 4000000 in
set_option maxRecDepth 100000 in
theorem head_row (a b : Nat) (A : Option Addr) (c : Nat) (l : List S78) (w : World) (hC : Kd.C k78 w A l.length l) (hc : l.length ≤ c) (hl : l.length ≤ 1000000) (ha : a ≤ 1000000) (hb0 : b ≤ 1000000) (hG : Glob w) :
    Calls Tryd.prog 63 #[.agg #[.int .i64 (a : Int), .int .i64 (b : Int), .slice A l.length c]] w fun e w' => e = .returned (.string (headT a b (cA l) (cB l))) ∧ Below w.heap.size w w' := by
  have HC := Aside0.mk hC
  have HL := Aside0.mk hc
  have HN := Aside0.mk hl
  have HG := Aside0.mk hG
  clear hC hc hl hG
  go_enter Tryd.func63, Tryd.ntmps63
  go_wp2_with (go_at_call 62; refine (yZ_.calls (l.length + 1) A c l _ _ _ (Kd.yK_ HC.out _) HL.out (counts_f l HN.out _ (Nat.le_refl _))).mono ?_; rintro e w4 ⟨rfl, hbb⟩; have hx0 : w4.cell? ⟨w.heap.size, 0, none⟩ = some (.int .i64 (a : Int)) := (hbb.cell (p := ⟨w.heap.size, 0, none⟩) (by simp)).trans (by simp); have hx1 : w4.cell? ⟨w.heap.size, 1, none⟩ = some (.int .i64 (b : Int)) := (hbb.cell (p := ⟨w.heap.size, 1, none⟩) (by simp)).trans (by simp); have HB := Aside0.mk hbb; clear hbb)
  have HG4 : Aside0 (Glob w4) := ⟨(HG.out.below ((Below.refl _ w).alloc (Nat.le_refl _) _)).below HB.out⟩
  have HBB : Aside0 (Below w.heap.size w w4) := ⟨((Below.refl _ w).alloc (Nat.le_refl _) _).trans (HB.out.mono (by simp))⟩
  have hs4 : w.heap.size < w4.heap.size := by have := HB.out.size; simp at this; omega
  have hA := cA_le l
  have hBl := cB_le l
  have hn := HN.out
  have hn1 : firstN a (cA l) ≤ 10000000 := by unfold firstN; split <;> omega
  have hn2 : cA l ≤ 10000000 := by omega
  have hn3 : firstN b (cB l) ≤ 10000000 := by unfold firstN; split <;> omega
  have hn4 : cB l ≤ 10000000 := by omega
  have z1 := yub_ _ hn1
  have z2 := yub_ _ hn2
  have z3 := yub_ _ hn3
  have z4 := yub_ _ hn4
  have q1 : (9223372036854775807 < 3 + (itS (firstN a (cA l))).size) = False := eq_false (by omega)
  have q2 : (9223372036854775807 < 3 + (itS (firstN a (cA l))).size + 1) = False := eq_false (by omega)
  have q3 : (9223372036854775807 < 3 + (itS (firstN a (cA l))).size + 1 + (itS (cA l)).size) = False := eq_false (by omega)
  have q4 : (9223372036854775807 < 3 + (itS (firstN a (cA l))).size + 1 + (itS (cA l)).size + 1) = False := eq_false (by omega)
  have q5 : (9223372036854775807 < 3 + (itS (firstN a (cA l))).size + 1 + (itS (cA l)).size + 1 + (itS (firstN b (cB l))).size) = False := eq_false (by omega)
  have q6 : (9223372036854775807 < 3 + (itS (firstN a (cA l))).size + 1 + (itS (cA l)).size + 1 + (itS (firstN b (cB l))).size + 1) = False := eq_false (by omega)
  have q7 : (9223372036854775807 < 3 + (itS (firstN a (cA l))).size + 1 + (itS (cA l)).size + 1 + (itS (firstN b (cB l))).size + 1 + (itS (cB l)).size) = False := eq_false (by omega)
  have q8 : (9223372036854775807 < 3 + (itS (firstN a (cA l))).size + 1 + (itS (cA l)).size + 1 + (itS (firstN b (cB l))).size + 1 + (itS (cB l)).size + 4) = False := eq_false (by omega)
  clear z1 z2 z3 z4 hA hBl hn HB
  go_region_held3 (fun w' => w'.cell? ⟨w.heap.size, 0, none⟩ = some (.int .i64 (a : Int)) ∧ w'.cell? ⟨w.heap.size, 1, none⟩ = some (.int .i64 (b : Int)) ∧ Below w4.heap.size w4 w')
    (first
      | exact ⟨hx0, hx1, yRb_ (Below.refl _ _)⟩
      | (go_split_ands; exact ⟨by assumption, by assumption, yRb_ (by assumption)⟩)
      | (go_split_ands; exact ⟨by assumption, by assumption, by assumption⟩)
      | (go_split_ands; have hq := ym_ (by assumption) hb; exact ⟨(hq.cell (p := ⟨w.heap.size, 0, none⟩) hs4).trans hx0, (hq.cell (p := ⟨w.heap.size, 1, none⟩) hs4).trans hx1, hq⟩))
    (first
      | (go_at_call 83; with_reducible refine (first_row a (cA l) _ ha).mono ?_; rintro e w5 ⟨rfl, rfl⟩)
      | (go_at_call 83; with_reducible refine (first_row b (cB l) _ hb0).mono ?_; rintro e w5 ⟨rfl, rfl⟩)
      | (go_at_call 82; with_reducible refine (itoa_row _ _ ?zn ?zg).mono ?_; (case zn => first | exact hn1 | exact hn2 | exact hn3 | exact hn4); (case zg => (go_split_ands; exact HG4.out.below (by assumption))); rintro e w5 ⟨rfl, hb⟩))
  go_wp2_with fail
  go_ret
  exact ⟨rfl, HBB.out.trans ((by go_split_ands; assumption : Below w4.heap.size w4 _).mono HBB.out.size)⟩
end Go.Proofs.YthimblhfjfngiaaDoor.PText

namespace Go.Proofs.YthimblhfjfngiaaDoor.PText
open Go.RowKit Go.Proofs.YthimblhfjfngiaaDoorW.PrintWords Go.Proofs.YthimblhfjfngiaaDoorW.PrintLast Go.Proofs.YthimblhfjfngiaaDoorW.PrintMore
set_option linter.unusedVariables false
set_option linter.unusedSimpArgs false
def noEndL : List UInt8 := [10, 92, 32, 110, 111, 32, 101, 110, 100, 10]
/-- a step's line of a difference -/
def stepT (x : S78) : List UInt8 := UInt8.ofNat x.f0.toNat :: (x.f1.data.toList ++ if Lib.hasSuffix x.f1.data.toList [10] = true then [] else noEndL)
/-- a hunk's lines -/
def hunkL (a b : Nat) (l : List S78) : List UInt8 := (headT a b (cA l) (cB l)).data.toList ++ (l.map stepT).flatten
theorem others_below {e : TypeId} {b : Option Nat} {w w' : World} (h : Below w.heap.size w w') : Lib.OthersKept e b w w' := fun k o hk _ _ => (h.block k (Array.getElem?_eq_some_iff.1 hk).1).trans hk
theorem byte_cell {c : Int} (h0 : 0 ≤ c) (h1 : c ≤ 255) : Lib.byteCells [UInt8.ofNat c.toNat] = [.int .u8 c] := by
  have e : (UInt8.ofNat c.toNat).toNat = c.toNat := by rw [UInt8.toNat_ofNat', Nat.mod_eq_of_lt (by omega)]
  show [Value.int .u8 ((UInt8.ofNat c.toNat).toNat : Int)] = _
  rw [e, Int.toNat_of_nonneg h0]
set_option maxHeartbeats 4000000 in
set_option maxRecDepth 100000 in
theorem htext_row (a b0 : Nat) (A : Option Addr) (c b : Nat) (P T : List UInt8) (l : List S78) (w : World) (hC : ∀ w', Below b w w' → Kd.C k78 w' A l.length l) (hc : l.length ≤ c) (hl : l.length ≤ 1000000) (ha : a ≤ 1000000) (hb0 : b0 ≤ 1000000) (hG : Glob w)
    (hop : ∀ x ∈ l, 0 ≤ x.f0 ∧ x.f0 ≤ 255) (hT : P ++ hunkL a b0 l = T) (hlen : T.length ≤ 140737488351232) (hb : b < w.heap.size) (hB : Lib.IsBuilderF 50 5 b b (Lib.byteCells P) w) :
    Calls Tryd.prog 45 #[.agg #[.int .i64 (a : Int), .int .i64 (b0 : Int), .slice A l.length c], .pointer (some ⟨b, 0, none⟩)] w fun e w' => (∃ v, e = .returned v) ∧ Lib.IsBuilderF 50 5 b b (Lib.byteCells T) w' ∧ Below b w w' ∧ Lib.OthersKept 5 (some b) w w' := by
  have HC := Aside0.mk hC
  have HL := Aside0.mk hc
  have HN := Aside0.mk hl
  have HBU := Aside0.mk hB
  have HSZ := Aside0.mk hb
  have HT := Aside0.mk hT
  have HLN := Aside0.mk hlen
  have HG := Aside0.mk hG
  have HOP := Aside0.mk hop
  have hsum := congrArg List.length hT
  unfold hunkL at hsum
  rw [List.length_append, List.length_append] at hsum
  have hh1 : P.length + (headT a b0 (cA l) (cB l)).size ≤ 140737488351232 := by
    have e : (headT a b0 (cA l) (cB l)).size = (headT a b0 (cA l) (cB l)).data.toList.length := by rw [Array.length_toList]; rfl
    omega
  have HH1 := Aside0.mk hh1
  clear hC hc hB hb hT hlen hG hop hsum hh1 hl
  go_enter Tryd.func45, Tryd.ntmps45
  go_wp2_with (first
    | (go_at_call 63; refine (head_row a b0 A c l _ (HC.out _ ((Below.refl _ w).alloc (Nat.le_of_lt HSZ.out) _)) HL.out HN.out ha hb0 (HG.out.below ((Below.refl _ w).alloc (Nat.le_refl _) _))).mono ?_; rintro e w4 ⟨rfl, hb⟩; have hx2 : w4.cell? ⟨w.heap.size, 2, none⟩ = some (.slice A l.length c) := (hb.cell (p := ⟨w.heap.size, 2, none⟩) (by simp)).trans (by simp); have HB := Aside0.mk hb; clear hb))
  refine (Tryd.Builder_WriteString_k b b (Lib.byteCells P) (headT a b0 (cA l) (cB l)) _ (builder_kept (HBU.out.alloc _) HB.out) (by rw [Lib.byteCells_length]; have := HH1.out; omega) (by have := HB.out.size; have := HSZ.out; simp at *; omega)).mono ?_
  rintro e w5 ⟨rfl, hbu, hbel, hok⟩
  have HO5 : Aside0 (Lib.OthersKept 5 (some b) w w5) := ⟨(((Lib.OthersKept.refl 5 (some b) w).alloc _).trans (others_below HB.out)).trans hok⟩
  have HB5 : Aside0 (Below b w w5) := ⟨(((Below.refl b w).alloc (Nat.le_of_lt HSZ.out) _).trans (HB.out.mono (by have := HSZ.out; simp; omega))).trans hbel⟩
  have HBU5 : Aside0 (Lib.IsBuilderF 50 5 b b (Lib.byteCells (P ++ (headT a b0 (cA l) (cB l)).data.toList)) w5) := ⟨by
    rw [Lib.byteCells_append, ← Lib.strCells_eq]
    exact Or.inr hbu⟩
  have hHK : w5.heap[w.heap.size]? = some (.cells #[.int .i64 (a : Int), .int .i64 (b0 : Int), .slice A l.length c] 70 (0, 0)) := by
    refine hok w.heap.size _ ?_ ?_ ?_
    · exact (HB.out.block w.heap.size (by simp)).trans (heap_new w _)
    · intro e; have := Option.some.inj e; have := HSZ.out; omega
    · intro c' fz e; cases e
  have hx2' : w5.cell? ⟨w.heap.size, 2, none⟩ = some (.slice A l.length c) := by simp [World.cell?, hHK]
  have HS5 : Aside0 (b < w5.heap.size) := ⟨by have := HB5.out.size; have := HSZ.out; omega⟩
  clear hbu hbel hok hHK HB
  go_wp2_with fail
  go_loopg [13] (l.length + 1) (fun kq v13 w' => ∃ (i : Nat) (D : List UInt8), v13 = .int .i64 (i : Int) ∧ Aside0 (l.length - i < kq ∧ i ≤ l.length) ∧ Aside0 (D ++ ((l.drop i).map stepT).flatten = T) ∧ Aside0 (Lib.IsBuilderF 50 5 b b (Lib.byteCells D) w') ∧ Aside0 (Below b w w') ∧ Aside0 (b < w'.heap.size) ∧ Aside0 (Lib.OthersKept 5 (some b) w w'))
  case atStart => exact ⟨0, _, rfl, ⟨by omega, by omega⟩, ⟨by rw [List.drop_zero, List.append_assoc]; exact HT.out⟩, HBU5, HB5, HS5, HO5⟩
  case round =>
    obtain ⟨i, D, rfl, HI, HD, HBi, HBe, HS, HO⟩ := hrel
    obtain ⟨k1, rfl⟩ : ∃ k1, gk = k1 + 1 := ⟨gk - 1, by have := HI.out.1; omega⟩
    by_cases hlt : i < l.length
    · have hb : decide ((i : Int) < (l.length : Int)) = true := by simp; omega
      have hb2 : decide ((0 : Int) ≤ (i : Int)) = true := by simp
      have p0 : (0 : Int) ≤ (i : Int) := by omega
      have q0 : (i : Int) < (l.length : Int) := by omega
      obtain ⟨ad, e0, hx0, hx1⟩ := at_T78 (HC.out wr HBe.out) (i : Int) p0 q0
      rw [rd78_at l i hlt] at hx0 hx1
      have HX := Aside0.mk (HOP.out l[i] (List.getElem_mem hlt))
      have hd : l.drop i = l[i] :: l.drop (i + 1) := List.drop_eq_getElem_cons hlt
      have HE : Aside0 (D ++ (stepT l[i] ++ ((l.drop (i + 1)).map stepT).flatten) = T) := ⟨by
        have := HD.out
        rw [hd, List.map_cons, List.flatten_cons] at this
        exact this⟩
      clear hd HD
      cases e0
      rw [Int.toNat_natCast] at hx0 hx1
      generalize l[i] = x at *
      have hsum := congrArg List.length HE.out
      have F4 : Aside0 (D.length + 1 + x.f1.size + 20 ≤ 140737488351300) := ⟨by
        rw [List.length_append, List.length_append] at hsum
        have e2 : (stepT x).length = (x.f1.data.toList ++ if Lib.hasSuffix x.f1.data.toList [10] = true then [] else noEndL).length + 1 := rfl
        rw [List.length_append] at e2
        have e := ypb_ x.f1
        have := HLN.out
        omega⟩
      have hsuf : ∃ q : Bool, Lib.hasSuffix x.f1.data.toList [10] = q := ⟨_, rfl⟩
      obtain ⟨q, hq⟩ := hsuf
      have HQ : Aside0 (stepT x = UInt8.ofNat x.f0.toNat :: (x.f1.data.toList ++ if q = true then [] else noEndL)) := ⟨by rw [← hq]; rfl⟩
      clear hsum
      go_wp2_with fail
      refine (Tryd.Builder_WriteByte_k b b (Lib.byteCells D) x.f0 _ (HBi.out.alloc _) (by rw [Lib.byteCells_length]; have := F4.out; omega) (by have := HS.out; simp; omega)).mono ?_
      rintro e w6 ⟨rfl, hbu, hbel, hok⟩
      have hHK : w6.heap[wr.heap.size]? = some (.cells #[.int .u8 x.f0, .string x.f1] 78 (0, 0)) := by
        refine hok wr.heap.size _ (heap_new wr _) ?_ ?_
        · intro e; have := Option.some.inj e; have := HS.out; omega
        · intro c' fz e; cases e
      have hx1' : w6.cell? ⟨wr.heap.size, 1, none⟩ = some (.string x.f1) := by simp [World.cell?, hHK]
      have HB6 : Aside0 (Below b w w6) := ⟨(HBe.out.alloc (Nat.le_of_lt HS.out) _).trans hbel⟩
      have HS6 : Aside0 (b < w6.heap.size) := ⟨by have := hbel.size; have := HS.out; simp at *; omega⟩
      have HO6 := Aside0.mk ((HO.out.alloc _).trans hok)
      have HU6 := Aside0.mk hbu
      have HK6 := Aside0.mk hHK
      clear hbu hbel hok hHK
      go_wp2_with fail
      refine (Tryd.Builder_WriteString_k b b _ x.f1 _ (Or.inr HU6.out) (by rw [List.length_append, Lib.byteCells_length]; have := F4.out; simp; omega) (Nat.le_of_lt HS6.out)).mono ?_
      rintro e w7 ⟨rfl, hbu, hbel, hok⟩
      have hHK : w7.heap[wr.heap.size]? = some (.cells #[.int .u8 x.f0, .string x.f1] 78 (0, 0)) := by
        refine hok wr.heap.size _ HK6.out ?_ ?_
        · intro e; have := Option.some.inj e; have := HS.out; omega
        · intro c' fz e; cases e
      have hx1'' : w7.cell? ⟨wr.heap.size, 1, none⟩ = some (.string x.f1) := by simp [World.cell?, hHK]
      have HB7 : Aside0 (Below b w w7) := ⟨HB6.out.trans hbel⟩
      have HS7 : Aside0 (b < w7.heap.size) := ⟨by have := hbel.size; have := HS6.out; omega⟩
      have HO7 := Aside0.mk (HO6.out.trans hok)
      have HU7 : Aside0 (Lib.IsBuilderF 50 5 b b (Lib.byteCells (D ++ UInt8.ofNat x.f0.toNat :: x.f1.data.toList)) w7) := ⟨by
        rw [show D ++ UInt8.ofNat x.f0.toNat :: x.f1.data.toList = D ++ [UInt8.ofNat x.f0.toNat] ++ x.f1.data.toList by simp, Lib.byteCells_append, Lib.byteCells_append, byte_cell HX.out.1 HX.out.2, ← Lib.strCells_eq]
        exact Or.inr hbu⟩
      clear hbu hbel hok hHK
      cases q with
      | true =>
        go_wp2_with (go_at_call 65; refine (Tryd.strings_HasSuffix x.f1 ⟨#[10]⟩ _ (by have := F4.out; omega)).mono ?_; rintro e w8 ⟨rfl, rfl⟩; rw [hq])
        go_roundg k1
        case measure => have := HI.out.1; omega
        case rel => exact ⟨i + 1, _, congrArg (Value.int .i64) (nx i (by have := HN.out; omega)), ⟨by have := HI.out.1; omega, by omega⟩, ⟨by have := HE.out; rw [HQ.out] at this; rw [← this]; simp⟩, HU7, HB7, HS7, HO7⟩
      | false =>
        go_wp2_with (go_at_call 65; refine (Tryd.strings_HasSuffix x.f1 ⟨#[10]⟩ _ (by have := F4.out; omega)).mono ?_; rintro e w8 ⟨rfl, rfl⟩; rw [hq])
        refine (Tryd.Builder_WriteString_k b b _ ⟨#[10, 92, 32, 110, 111, 32, 101, 110, 100, 10]⟩ _ HU7.out (by rw [Lib.byteCells_length, List.length_append, List.length_cons]; have := F4.out; have e := ypb_ x.f1; have e2 : (⟨#[10, 92, 32, 110, 111, 32, 101, 110, 100, 10]⟩ : ByteArray).size = 10 := rfl; omega) (Nat.le_of_lt HS7.out)).mono ?_
        rintro e w8 ⟨rfl, hbu, hbel, hok⟩
        have HB8 : Aside0 (Below b w w8) := ⟨HB7.out.trans hbel⟩
        have HS8 : Aside0 (b < w8.heap.size) := ⟨by have := hbel.size; have := HS7.out; omega⟩
        have HO8 := Aside0.mk (HO7.out.trans hok)
        have HU8 : Aside0 (Lib.IsBuilderF 50 5 b b (Lib.byteCells (D ++ UInt8.ofNat x.f0.toNat :: x.f1.data.toList ++ noEndL)) w8) := ⟨by
          rw [Lib.byteCells_append]
          exact Or.inr hbu⟩
        clear hbu hbel hok
        go_wp2_with fail
        go_roundg k1
        case measure => have := HI.out.1; omega
        case rel => exact ⟨i + 1, _, congrArg (Value.int .i64) (nx i (by have := HN.out; omega)), ⟨by have := HI.out.1; omega, by omega⟩, ⟨by have := HE.out; rw [HQ.out] at this; rw [← this]; simp⟩, HU8, HB8, HS8, HO8⟩
    · have hb : decide ((i : Int) < (l.length : Int)) = false := by simp; omega
      have hd : D = T := by
        have := HD.out
        rw [List.drop_of_length_le (by omega)] at this
        simpa using this
      go_wp2_with fail
      go_end0
      exact ⟨⟨_, rfl⟩, by rw [← hd]; exact HBi.out, HBe.out, HO.out⟩
end Go.Proofs.YthimblhfjfngiaaDoor.PText

