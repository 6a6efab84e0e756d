/- TextRefuses holds: for every two texts the statement answers true, where the seven listed package variables hold what the program's text lays. Part 18 of 21. -/
import Derived.Test.YtidlmkdoofcgnaaGreatDoorBRefusesQ
import Derived.Shelf.Abstract
import Derived.OwnWalkIn
import Derived.TacticsInMore
import Derived.LoopNIn
import Derived.LoopIn
import Derived.Lib.IndexLaws
namespace Go.Proofs.YtidlmkdoofcgnaaGreatDoor.PText
open Go.RowKit Go.Proofs.YtidlmkdoofcgnaaGreatDoorW.PrintWords Go.Proofs.YtidlmkdoofcgnaaGreatDoorW.PrintLast Go.Proofs.YtidlmkdoofcgnaaGreatDoorW.PrintMore
set_option linter.unusedVariables false
set_option linter.unusedSimpArgs false
def noEndL : List UInt8 := [10, 92, 32, 110, 111, 32, 101, 110, 100, 10]
/-- a step's line of a difference -/
def stepT (x : S66) : List UInt8 := UInt8.ofNat x.f0.toNat :: (x.f1.data.toList ++ if Lib.hasSuffix x.f1.data.toList [10] = true then [] else noEndL)
/-- a hunk's lines -/
def hunkL (a b : Nat) (l : List S66) : List UInt8 := (headT a b (cA l) (cB l)).data.toList ++ (l.map stepT).flatten
theorem others_below {e : TypeId} {b : Option Nat} {w w' : World} (h : Below w.heap.size w w') : Lib.OthersKept e b w w' := fun k o hk _ _ => (h.block k (Array.getElem?_eq_some_iff.1 hk).1).trans hk
theorem byte_cell {c : Int} (h0 : 0 ≤ c) (h1 : c ≤ 255) : Lib.byteCells [UInt8.ofNat c.toNat] = [.int .u8 c] := by
  have e : (UInt8.ofNat c.toNat).toNat = c.toNat := by rw [UInt8.toNat_ofNat', Nat.mod_eq_of_lt (by omega)]
  show [Value.int .u8 ((UInt8.ofNat c.toNat).toNat : Int)] = _
  rw [e, Int.toNat_of_nonneg h0]
set_option maxHeartbeats 4000000 in
set_option maxRecDepth 100000 in
theorem htext_row (a b0 : Nat) (A : Option Addr) (c b : Nat) (P T : List UInt8) (l : List S66) (w : World) (hC : ∀ w', Below b w w' → Kd.C k66 w' A l.length l) (hc : l.length ≤ c) (hl : l.length ≤ 1000000) (ha : a ≤ 1000000) (hb0 : b0 ≤ 1000000) (hG : Glob w)
    (hop : ∀ x ∈ l, 0 ≤ x.f0 ∧ x.f0 ≤ 255) (hT : P ++ hunkL a b0 l = T) (hlen : T.length ≤ 140737488351232) (hb : b < w.heap.size) (hB : Lib.IsBuilderF 72 5 b b (Lib.byteCells P) w) :
    Calls Tryz.prog 37 #[.agg #[.int .i64 (a : Int), .int .i64 (b0 : Int), .slice A l.length c], .pointer (some ⟨b, 0, none⟩)] w fun e w' => (∃ v, e = .returned v) ∧ Lib.IsBuilderF 72 5 b b (Lib.byteCells T) w' ∧ Below b w w' ∧ Lib.OthersKept 5 (some b) w w' := by
  have HC := Aside0.mk hC
  have HL := Aside0.mk hc
  have HN := Aside0.mk hl
  have HBU := Aside0.mk hB
  have HSZ := Aside0.mk hb
  have HT := Aside0.mk hT
  have HLN := Aside0.mk hlen
  have HG := Aside0.mk hG
  have HOP := Aside0.mk hop
  have hsum := congrArg List.length hT
  unfold hunkL at hsum
  rw [List.length_append, List.length_append] at hsum
  have hh1 : P.length + (headT a b0 (cA l) (cB l)).size ≤ 140737488351232 := by
    have e : (headT a b0 (cA l) (cB l)).size = (headT a b0 (cA l) (cB l)).data.toList.length := by rw [Array.length_toList]; rfl
    omega
  have HH1 := Aside0.mk hh1
  clear hC hc hB hb hT hlen hG hop hsum hh1 hl
  go_enter Tryz.func37, Tryz.ntmps37
  go_wp2_with (first
    | (go_at_call 58; refine (head_row a b0 A c l _ (HC.out _ ((Below.refl _ w).alloc (Nat.le_of_lt HSZ.out) _)) HL.out HN.out ha hb0 (HG.out.below ((Below.refl _ w).alloc (Nat.le_refl _) _))).mono ?_; rintro e w4 ⟨rfl, hb⟩; have hx2 : w4.cell? ⟨w.heap.size, 2, none⟩ = some (.slice A l.length c) := (hb.cell (p := ⟨w.heap.size, 2, none⟩) (by simp)).trans (by simp); have HB := Aside0.mk hb; clear hb))
  refine (Tryz.Builder_WriteString_k b b (Lib.byteCells P) (headT a b0 (cA l) (cB l)) _ (builder_kept (HBU.out.alloc _) HB.out) (by rw [Lib.byteCells_length]; have := HH1.out; omega) (by have := HB.out.size; have := HSZ.out; simp at *; omega)).mono ?_
  rintro e w5 ⟨rfl, hbu, hbel, hok⟩
  have HO5 : Aside0 (Lib.OthersKept 5 (some b) w w5) := ⟨(((Lib.OthersKept.refl 5 (some b) w).alloc _).trans (others_below HB.out)).trans hok⟩
  have HB5 : Aside0 (Below b w w5) := ⟨(((Below.refl b w).alloc (Nat.le_of_lt HSZ.out) _).trans (HB.out.mono (by have := HSZ.out; simp; omega))).trans hbel⟩
  have HBU5 : Aside0 (Lib.IsBuilderF 72 5 b b (Lib.byteCells (P ++ (headT a b0 (cA l) (cB l)).data.toList)) w5) := ⟨by
    rw [Lib.byteCells_append, ← Lib.strCells_eq]
    exact Or.inr hbu⟩
  have hHK : w5.heap[w.heap.size]? = some (.cells #[.int .i64 (a : Int), .int .i64 (b0 : Int), .slice A l.length c] 64 (0, 0)) := by
    refine hok w.heap.size _ ?_ ?_ ?_
    · exact (HB.out.block w.heap.size (by simp)).trans (heap_new w _)
    · intro e; have := Option.some.inj e; have := HSZ.out; omega
    · intro c' fz e; cases e
  have hx2' : w5.cell? ⟨w.heap.size, 2, none⟩ = some (.slice A l.length c) := by simp [World.cell?, hHK]
  have HS5 : Aside0 (b < w5.heap.size) := ⟨by have := HB5.out.size; have := HSZ.out; omega⟩
  clear hbu hbel hok hHK HB
  go_wp2_with fail
  go_loopg [13] (l.length + 1) (fun kq v13 w' => ∃ (i : Nat) (D : List UInt8), v13 = .int .i64 (i : Int) ∧ Aside0 (l.length - i < kq ∧ i ≤ l.length) ∧ Aside0 (D ++ ((l.drop i).map stepT).flatten = T) ∧ Aside0 (Lib.IsBuilderF 72 5 b b (Lib.byteCells D) w') ∧ Aside0 (Below b w w') ∧ Aside0 (b < w'.heap.size) ∧ Aside0 (Lib.OthersKept 5 (some b) w w'))
  case atStart => exact ⟨0, _, rfl, ⟨by omega, by omega⟩, ⟨by rw [List.drop_zero, List.append_assoc]; exact HT.out⟩, HBU5, HB5, HS5, HO5⟩
  case round =>
    obtain ⟨i, D, rfl, HI, HD, HBi, HBe, HS, HO⟩ := hrel
    obtain ⟨k1, rfl⟩ : ∃ k1, gk = k1 + 1 := ⟨gk - 1, by have := HI.out.1; omega⟩
    by_cases hlt : i < l.length
    · have hb : decide ((i : Int) < (l.length : Int)) = true := by simp; omega
      have hb2 : decide ((0 : Int) ≤ (i : Int)) = true := by simp
      have p0 : (0 : Int) ≤ (i : Int) := by omega
      have q0 : (i : Int) < (l.length : Int) := by omega
      obtain ⟨ad, e0, hx0, hx1⟩ := at_T66 (HC.out wr HBe.out) (i : Int) p0 q0
      rw [rd78_at l i hlt] at hx0 hx1
      have HX := Aside0.mk (HOP.out l[i] (List.getElem_mem hlt))
      have hd : l.drop i = l[i] :: l.drop (i + 1) := List.drop_eq_getElem_cons hlt
      have HE : Aside0 (D ++ (stepT l[i] ++ ((l.drop (i + 1)).map stepT).flatten) = T) := ⟨by
        have := HD.out
        rw [hd, List.map_cons, List.flatten_cons] at this
        exact this⟩
      clear hd HD
      cases e0
      rw [Int.toNat_natCast] at hx0 hx1
      generalize l[i] = x at *
      have hsum := congrArg List.length HE.out
      have F4 : Aside0 (D.length + 1 + x.f1.size + 20 ≤ 140737488351300) := ⟨by
        rw [List.length_append, List.length_append] at hsum
        have e2 : (stepT x).length = (x.f1.data.toList ++ if Lib.hasSuffix x.f1.data.toList [10] = true then [] else noEndL).length + 1 := rfl
        rw [List.length_append] at e2
        have e := size_list x.f1
        have := HLN.out
        omega⟩
      have hsuf : ∃ q : Bool, Lib.hasSuffix x.f1.data.toList [10] = q := ⟨_, rfl⟩
      obtain ⟨q, hq⟩ := hsuf
      have HQ : Aside0 (stepT x = UInt8.ofNat x.f0.toNat :: (x.f1.data.toList ++ if q = true then [] else noEndL)) := ⟨by rw [← hq]; rfl⟩
      clear hsum
      go_wp2_with fail
      refine (Tryz.Builder_WriteByte_k b b (Lib.byteCells D) x.f0 _ (HBi.out.alloc _) (by rw [Lib.byteCells_length]; have := F4.out; omega) (by have := HS.out; simp; omega)).mono ?_
      rintro e w6 ⟨rfl, hbu, hbel, hok⟩
      have hHK : w6.heap[wr.heap.size]? = some (.cells #[.int .u8 x.f0, .string x.f1] 66 (0, 0)) := by
        refine hok wr.heap.size _ (heap_new wr _) ?_ ?_
        · intro e; have := Option.some.inj e; have := HS.out; omega
        · intro c' fz e; cases e
      have hx1' : w6.cell? ⟨wr.heap.size, 1, none⟩ = some (.string x.f1) := by simp [World.cell?, hHK]
      have HB6 : Aside0 (Below b w w6) := ⟨(HBe.out.alloc (Nat.le_of_lt HS.out) _).trans hbel⟩
      have HS6 : Aside0 (b < w6.heap.size) := ⟨by have := hbel.size; have := HS.out; simp at *; omega⟩
      have HO6 := Aside0.mk ((HO.out.alloc _).trans hok)
      have HU6 := Aside0.mk hbu
      have HK6 := Aside0.mk hHK
      clear hbu hbel hok hHK
      go_wp2_with fail
      refine (Tryz.Builder_WriteString_k b b _ x.f1 _ (Or.inr HU6.out) (by rw [List.length_append, Lib.byteCells_length]; have := F4.out; simp; omega) (Nat.le_of_lt HS6.out)).mono ?_
      rintro e w7 ⟨rfl, hbu, hbel, hok⟩
      have hHK : w7.heap[wr.heap.size]? = some (.cells #[.int .u8 x.f0, .string x.f1] 66 (0, 0)) := by
        refine hok wr.heap.size _ HK6.out ?_ ?_
        · intro e; have := Option.some.inj e; have := HS.out; omega
        · intro c' fz e; cases e
      have hx1'' : w7.cell? ⟨wr.heap.size, 1, none⟩ = some (.string x.f1) := by simp [World.cell?, hHK]
      have HB7 : Aside0 (Below b w w7) := ⟨HB6.out.trans hbel⟩
      have HS7 : Aside0 (b < w7.heap.size) := ⟨by have := hbel.size; have := HS6.out; omega⟩
      have HO7 := Aside0.mk (HO6.out.trans hok)
      have HU7 : Aside0 (Lib.IsBuilderF 72 5 b b (Lib.byteCells (D ++ UInt8.ofNat x.f0.toNat :: x.f1.data.toList)) w7) := ⟨by
        rw [show D ++ UInt8.ofNat x.f0.toNat :: x.f1.data.toList = D ++ [UInt8.ofNat x.f0.toNat] ++ x.f1.data.toList by simp, Lib.byteCells_append, Lib.byteCells_append, byte_cell HX.out.1 HX.out.2, ← Lib.strCells_eq]
        exact Or.inr hbu⟩
      clear hbu hbel hok hHK
      cases q with
      | true =>
        go_wp2_with (go_at_call 33; refine (Tryz.strings_HasSuffix x.f1 ⟨#[10]⟩ _ (by have := F4.out; omega)).mono ?_; rintro e w8 ⟨rfl, rfl⟩; rw [hq])
        go_roundg k1
        case measure => have := HI.out.1; omega
        case rel => exact ⟨i + 1, _, congrArg (Value.int .i64) (nx i (by have := HN.out; omega)), ⟨by have := HI.out.1; omega, by omega⟩, ⟨by have := HE.out; rw [HQ.out] at this; rw [← this]; simp⟩, HU7, HB7, HS7, HO7⟩
      | false =>
        go_wp2_with (go_at_call 33; refine (Tryz.strings_HasSuffix x.f1 ⟨#[10]⟩ _ (by have := F4.out; omega)).mono ?_; rintro e w8 ⟨rfl, rfl⟩; rw [hq])
        refine (Tryz.Builder_WriteString_k b b _ ⟨#[10, 92, 32, 110, 111, 32, 101, 110, 100, 10]⟩ _ HU7.out (by rw [Lib.byteCells_length, List.length_append, List.length_cons]; have := F4.out; have e := size_list x.f1; have e2 : (⟨#[10, 92, 32, 110, 111, 32, 101, 110, 100, 10]⟩ : ByteArray).size = 10 := rfl; omega) (Nat.le_of_lt HS7.out)).mono ?_
        rintro e w8 ⟨rfl, hbu, hbel, hok⟩
        have HB8 : Aside0 (Below b w w8) := ⟨HB7.out.trans hbel⟩
        have HS8 : Aside0 (b < w8.heap.size) := ⟨by have := hbel.size; have := HS7.out; omega⟩
        have HO8 := Aside0.mk (HO7.out.trans hok)
        have HU8 : Aside0 (Lib.IsBuilderF 72 5 b b (Lib.byteCells (D ++ UInt8.ofNat x.f0.toNat :: x.f1.data.toList ++ noEndL)) w8) := ⟨by
          rw [Lib.byteCells_append]
          exact Or.inr hbu⟩
        clear hbu hbel hok
        go_wp2_with fail
        go_roundg k1
        case measure => have := HI.out.1; omega
        case rel => exact ⟨i + 1, _, congrArg (Value.int .i64) (nx i (by have := HN.out; omega)), ⟨by have := HI.out.1; omega, by omega⟩, ⟨by have := HE.out; rw [HQ.out] at this; rw [← this]; simp⟩, HU8, HB8, HS8, HO8⟩
    · have hb : decide ((i : Int) < (l.length : Int)) = false := by simp; omega
      have hd : D = T := by
        have := HD.out
        rw [List.drop_of_length_le (by omega)] at this
        simpa using this
      go_wp2_with fail
      go_end0
      exact ⟨⟨_, rfl⟩, by rw [← hd]; exact HBi.out, HBe.out, HO.out⟩
end Go.Proofs.YtidlmkdoofcgnaaGreatDoor.PText

namespace Go.Proofs.YtidlmkdoofcgnaaGreatDoor.PText
open Go.RowKit Go.Shelf Go.Proofs.YtidlmkdoofcgnaaGreatDoorW.PrintWords Go.Proofs.YtidlmkdoofcgnaaGreatDoorW.PrintLast Go.Proofs.YtidlmkdoofcgnaaGreatDoorW.PrintMore
set_option linter.unusedVariables false
set_option linter.unusedSimpArgs false
attribute [local go_sem] Oper.semAt_some
def linesB (s : ByteArray) : List ByteArray := (Tx.lines s.data.toList).map fun l => ⟨l.toArray⟩
def text_Lines.f (s : ByteArray) : Option (List ByteArray) := if s.size ≤ 1000000000 then some (linesB s) else none
/-- where the first line of a text ends -/
def lineEnd (s : ByteArray) : Nat := if Lib.indexByte s.data.toList 10 + 1 = 0 then s.size else (Lib.indexByte s.data.toList 10 + 1).toNat
theorem bytes_list {l : List UInt8} {i : Nat} (h : l[i]? = some 10) (k : ∀ j, j < i → l[j]? ≠ some 10) : ∃ a r, l = a ++ 10 :: r ∧ a.length = i ∧ (10 : UInt8) ∉ a := by
  have hlt : i < l.length := by
    rcases Nat.lt_or_ge i l.length with q | q
    · exact q
    · rw [List.getElem?_eq_none q] at h; cases h
  refine ⟨l.take i, l.drop (i + 1), ?_, by rw [List.length_take]; omega, ?_⟩
  · have e : l[i] = 10 := by rw [List.getElem?_eq_getElem hlt] at h; exact Option.some.inj h
    rw [← e, ← List.drop_eq_getElem_cons hlt, List.take_append_drop]
  · intro m
    obtain ⟨j, hj, e⟩ := List.mem_iff_getElem.1 m
    rw [List.length_take] at hj
    rw [List.getElem_take] at e
    exact k j (by omega) (by rw [List.getElem?_eq_getElem (by omega), e])
theorem ba_ext {a b : ByteArray} (h : a.data.toList = b.data.toList) : a = b := by
  have : a.data = b.data := Array.toList_inj.1 h
  cases a; cases b; simp_all
theorem lgo_all : ∀ (s cur : List UInt8), (∀ x ∈ s, x ≠ 10) → cur ++ s ≠ [] → Tx.lgo cur s = [cur ++ s]
  | [], cur, _, h => by
    unfold Tx.lgo
    rw [List.append_nil] at h ⊢
    rw [if_neg h]
  | c :: r, cur, h, _ => by
    unfold Tx.lgo
    rw [if_neg (h c List.mem_cons_self), lgo_all r (cur ++ [c]) (fun x m => h x (List.mem_cons_of_mem _ m)) (by simp)]
    simp
theorem linesB_step (s : ByteArray) (h : s ≠ ⟨#[]⟩) : 0 < lineEnd s ∧ lineEnd s ≤ s.size ∧ linesB s = s.extract 0 (lineEnd s) :: linesB (s.extract (lineEnd s) s.size) := by
  have hne : s.data.toList ≠ [] := fun e => h (ba_ext e)
  have hsz : s.size = s.data.toList.length := by rw [Array.length_toList]; rfl
  unfold lineEnd
  have hge := Lib.indexByte_ge s.data.toList 10
  by_cases hi : Lib.indexByte s.data.toList 10 + 1 = 0
  · rw [if_pos hi]
    have hn : Lib.indexByte s.data.toList 10 = -1 := by omega
    have hno := Lib.indexByte_none hn
    have hpos : 0 < s.data.toList.length := List.length_pos_iff.2 hne
    refine ⟨by omega, Nat.le_refl _, ?_⟩
    have e1 : s.extract 0 s.size = s := by apply ba_ext; rw [ByteArray.data_extract, Array.toList_extract, List.extract_eq_take_drop, List.drop_zero, Nat.sub_zero, hsz, List.take_length]
    have e2 : linesB (s.extract s.size s.size) = [] := by
      have : (s.extract s.size s.size).data.toList = [] := by rw [ByteArray.data_extract, Array.toList_extract, List.extract_eq_take_drop, Nat.sub_self, List.take_zero]
      unfold linesB; rw [this]; rfl
    rw [e1, e2]
    unfold linesB Tx.lines
    rw [lgo_all _ _ (fun x m e => by subst e; obtain ⟨j, hj, e⟩ := List.mem_iff_getElem.1 m; exact hno j (by rw [List.getElem?_eq_getElem hj, e])) (by simpa using hne)]
    simp
  · rw [if_neg hi]
    obtain ⟨i, hi'⟩ : ∃ i : Nat, Lib.indexByte s.data.toList 10 = (i : Int) := ⟨(Lib.indexByte s.data.toList 10).toNat, by omega⟩
    obtain ⟨hs, hk⟩ := Lib.indexByte_some hi'
    obtain ⟨a, r, e, hl, hm⟩ := bytes_list hs hk
    have ei : (Lib.indexByte s.data.toList 10 + 1).toNat = i + 1 := by omega
    rw [ei]
    have hlen : s.data.toList.length = i + 1 + r.length := by rw [e]; simp; omega
    refine ⟨by omega, by omega, ?_⟩
    have e1 : (s.extract 0 (i + 1)).data.toList = a ++ [10] := by
      rw [ByteArray.data_extract, Array.toList_extract, List.extract_eq_take_drop, List.drop_zero, Nat.sub_zero, e, ← hl]
      have : a ++ 10 :: r = (a ++ [10]) ++ r := by simp
      rw [this, List.take_left' (by simp)]
    have e2 : (s.extract (i + 1) s.size).data.toList = r := by
      rw [ByteArray.data_extract, Array.toList_extract, hsz, hlen, e, ← hl]
      have : a ++ 10 :: r = (a ++ [10]) ++ r := by simp
      rw [this, List.extract_eq_take_drop, show a.length + 1 = (a ++ [10]).length by simp, List.drop_left]
      simp
    have e3 : s.extract 0 (i + 1) = ⟨(a ++ [10]).toArray⟩ := ba_ext (by rw [e1])
    unfold linesB Tx.lines
    rw [e3, e2, e, Tx.lgo_line _ _ _ hm]
    simp
theorem linesB_nil : linesB ⟨#[]⟩ = [] := rfl
theorem idx_calls (s : ByteArray) (w : World) : Calls Tryz.prog 84 #[.string s, .int .u8 10] w fun e w' => e = .returned (.int .i64 (Lib.indexByte s.data.toList 10)) ∧ w' = w := Tryz.strings_IndexByte s 10 w
theorem lineEnd_none {s : ByteArray} (h : Lib.indexByte s.data.toList 10 + 1 = 0) : lineEnd s = s.size := by unfold lineEnd; rw [if_pos h]
theorem lineEnd_some {s : ByteArray} (h : ¬ Lib.indexByte s.data.toList 10 + 1 = 0) : ((lineEnd s : Nat) : Int) = Lib.indexByte s.data.toList 10 + 1 := by
  unfold lineEnd; rw [if_neg h]
  have := Lib.indexByte_ge s.data.toList 10
  omega
set_option maxRecDepth 100000 in
set_option maxHeartbeats 4000000 in
theorem each_in (l Bc : Nat) (s : ByteArray) (xs : List ByteArray) (hxs : xs = linesB s) (hsz : s.size ≤ 1000000000) (J : List ByteArray → World → Prop)
    (hJs : ∀ pre W v, J pre W → J pre (W.setCell ⟨Bc, 0, none⟩ v))
    (hY : ∀ pre x W, (∃ post, pre ++ x :: post = xs) → J pre W → YieldAt Fence.wide 2 Tryz.prog l #[.string x] W fun e W' => e = .returned (.bool true) ∧ J (pre ++ [x]) W' ∧ KeepsBox Bc 9 W W')
    (W : World) (hB : Boxed W Bc 9 (.string s)) (h0 : J [] W) :
    CallsIn Fence.wide 3 Tryz.prog 83 #[.func (.yield l) #[] #[], .pointer (some ⟨Bc, 0, none⟩)] W fun e W' => (∃ v, e = .returned v) ∧ J xs W' := by
  refine callsIn_of_wp Tryz.func83 rfl trivial ?_ rfl
  simp only [Tryz.ntmps83, List.size_toArray, List.length_cons, List.length_nil, Nat.reduceAdd, Nat.reduceSub, Array.replicate_succ, Array.replicate_zero, List.push_toArray, List.append_toArray, List.nil_append, List.cons_append]
  gi_wp2
  gi_loopw [] (fun wr => ∃ (pre : List ByteArray) (rest : ByteArray), xs = pre ++ linesB rest ∧ rest.size ≤ 1000000000 ∧ Boxed wr Bc 9 (.string rest) ∧ J pre wr)
    (fun wr => match wr.cell? ⟨Bc, 0, none⟩ with | some (.string r) => r.size | _ => 0)
  case atStart => exact ⟨[], s, hxs, hsz, hB, h0⟩
  case round =>
    obtain ⟨pre, rest, hx, hr, hb, hJ⟩ := hrel
    have hc := hb.cell
    have hf := hb.frozen
    by_cases he : rest = ⟨#[]⟩
    · subst he
      gi_wp2
      go_end0
      exact ⟨⟨_, rfl⟩, by rw [hx, linesB_nil, List.append_nil]; exact hJ⟩
    · obtain ⟨h1, h2, h3⟩ := linesB_step rest he
      have hbe : rest.toList.isEmpty = false := by
        cases q : rest.toList.isEmpty with
        | false => rfl
        | true => exact absurd (ba_ext (by rw [← Lib.toList_data rest]; exact List.isEmpty_iff.1 q)) he
      have hge := Lib.indexByte_ge rest.data.toList 10
      by_cases hi : Lib.indexByte rest.data.toList 10 + 1 = 0
      · have hle := lineEnd_none hi
        have hi' : Lib.indexByte rest.data.toList 10 = -1 := by omega
        have hx1 : rest.extract 0 (lineEnd rest) = rest := by
          apply ba_ext; rw [hle, ByteArray.data_extract, Array.toList_extract, List.extract_eq_take_drop, List.drop_zero, Nat.sub_zero]
          exact List.take_of_length_le (by rw [Array.length_toList]; exact Nat.le_refl _)
        have hx2 : rest.extract (lineEnd rest) rest.size = ⟨#[]⟩ := by
          apply ba_ext; rw [hle, ByteArray.data_extract, Array.toList_extract, List.extract_eq_take_drop, Nat.sub_self, List.take_zero]
        obtain ⟨fn, tmps, assign, body, hy, hR⟩ := hY pre rest wr ⟨linesB ⟨#[]⟩, by rw [hx, h3, hx1, hx2]⟩ hJ
        gi_wp2_with (refine ⟨trivial, ?_⟩; gi_at_call 84; refine (callsIn_wide.2 (idx_calls rest _)).mono ?_; rintro e w' ⟨rfl, rfl⟩)
        refine hR.mono ?_
        rintro e W3 ⟨rfl, hJ3, hk3⟩
        have hb3 := hk3 _ hb
        have hc3 := hb3.cell
        have hf3 := hb3.frozen
        gi_wp2
        go_roundw
        case rel => exact ⟨pre ++ [rest], ⟨#[]⟩, by rw [hx, h3, hx1, hx2]; simp, Nat.zero_le _, hb3.set _, hJs _ _ _ hJ3⟩
        case measure =>
          rw [(hb3.set _).cell, hb.cell]
          show 0 < rest.size
          omega
      · have hle := lineEnd_some hi
        obtain ⟨i, hi1⟩ : ∃ i : Nat, Lib.indexByte rest.data.toList 10 = (i : Int) := ⟨(Lib.indexByte rest.data.toList 10).toNat, by omega⟩
        have hle2 : lineEnd rest = i + 1 := by omega
        rw [hle2] at h1 h2 h3
        obtain ⟨fn, tmps, assign, body, hy, hR⟩ := hY pre (rest.extract 0 (i + 1)) wr ⟨_, by rw [hx, h3]⟩ hJ
        gi_wp2_with (refine ⟨trivial, ?_⟩; gi_at_call 84; refine (callsIn_wide.2 (idx_calls rest _)).mono ?_; rintro e w' ⟨rfl, rfl⟩)
        refine hR.mono ?_
        rintro e W3 ⟨rfl, hJ3, hk3⟩
        have hb3 := hk3 _ hb
        have hc3 := hb3.cell
        have hf3 := hb3.frozen
        gi_wp2
        go_roundw
        case rel => exact ⟨pre ++ [rest.extract 0 (i + 1)], rest.extract (i + 1) rest.size, by rw [hx, h3]; simp, by rw [ByteArray.size_extract]; omega, hb3.set _, hJs _ _ _ hJ3⟩
        case measure =>
          rw [(hb3.set _).cell, hb.cell]
          show (rest.extract (i + 1) rest.size).size < rest.size
          rw [ByteArray.size_extract]
          omega
theorem each_calls (s : ByteArray) (w : World) : Calls Tryz.prog 55 #[.string s] w fun e w' => e = .returned (.func (.func 83) #[] #[.pointer (some ⟨w.heap.size, 0, none⟩)]) ∧ w' = w.alloc (.cells #[.string s] 9) := by
  go_enter Tryz.func55, Tryz.ntmps55
  go_wp2
  go_ret
  exact ⟨rfl, rfl⟩
theorem info9L : (Tryz.prog.info? 9).map (fun i => (i.zero, i.size, i.bytes)) = some (some (.string ⟨#[]⟩), 1, 16) := by kernel_rfl
theorem flat_len : ∀ (L : List (List UInt8)), (∀ x ∈ L, x ≠ []) → L.length ≤ L.flatten.length
  | [], _ => Nat.le_refl _
  | x :: L, h => by
    have h1 : 0 < x.length := List.length_pos_iff.2 (h x List.mem_cons_self)
    have h2 := flat_len L (fun y m => h y (List.mem_cons_of_mem _ m))
    rw [List.flatten_cons, List.length_append, List.length_cons]
    omega
theorem linesB_len (s : ByteArray) : (linesB s).length ≤ s.size := by
  have h := flat_len (Tx.lines s.data.toList) (Tx.lines_ne _)
  rw [Tx.lines_flat, Array.length_toList] at h
  unfold linesB
  rw [List.length_map]
  exact h
set_option maxRecDepth 100000 in
set_option maxHeartbeats 4000000 in
theorem text_Lines.calls (a0 : ByteArray) (r : List ByteArray) (w : World) (h : text_Lines.f a0 = some r) :
    Calls Tryz.prog 32 #[.string a0] w fun e w' => ∃ v0_ : Value, e = .returned (v0_) ∧ Kd.R Kd.string 9 w' w.heap.size (fun _ => True) v0_ r ∧ Below w.heap.size w w' := by
  unfold text_Lines.f at h
  by_cases hsz : a0.size ≤ 1000000000
  · rw [if_pos hsz] at h
    have hr := Option.some.inj h
    clear h
    refine (callsIn_wide (n := 4)).1 ?_
    obtain ⟨i0, hi, hz0, hz1, hz2⟩ := info_parts info9L
    refine callsIn_of_wp_marks Tryz.func32 rfl trivial ?_ rfl
    simp only [Tryz.ntmps32, List.size_toArray, List.length_cons, List.length_nil, Nat.reduceAdd, Nat.reduceSub, Array.replicate_succ, Array.replicate_zero, List.push_toArray, List.append_toArray, List.nil_append, List.cons_append]
    gi_wp2_with (refine ⟨trivial, ?_⟩; gi_at_call 55; refine (callsIn_wide.2 (each_calls a0 _)).mono ?_; rintro e w' ⟨rfl, rfl⟩)
    have bO := Boxed.new w 45 (.slice none 0 0)
    have bS := Boxed.new (w.alloc (.cells #[.slice none 0 0] 45)) 9 (.string a0)
    simp only [World.size_alloc] at bS ⊢
    have hB0 : Below w.heap.size w ((w.alloc (.cells #[.slice none 0 0] 45)).alloc (.cells #[.string a0] 9)) := ((Below.refl _ w).alloc (Nat.le_refl _) _).alloc (by simp) _
    refine wpIn_rangeFunc_cell rfl (by omega) (gf := 83) (lb := #[.pointer (some ⟨w.heap.size + 1, 0, none⟩)]) rfl trivial (enters_of Tryz.func83 (by kernel_rfl) rfl)
      (encs := fun x : ByteArray => #[Value.string x]) (Bc := w.heap.size + 1) (t := 9) (v0 := .string a0) (xs := linesB a0) (fun l J W hJ hJs hY hB h0 => each_in l _ a0 _ rfl hsz J hJs hY W hB h0) bS (fun _ => rfl)
      (fun pre W => (∃ v, Boxed W w.heap.size 45 v ∧ W.ownsRow (w.heap.size + 2) 9 1 v pre.length (pre.map Value.string)) ∧ Below w.heap.size w W ∧ w.heap.size + 2 ≤ W.heap.size)
      ?own ?cell ⟨⟨_, bO.alloc _, World.ownsRow_nil _ _ _ _⟩, hB0, by simp⟩
      (fun x => { tmps := #[.string a0, undef, .slice none 0 0, .pointer (some ⟨w.heap.size, 0, none⟩), .string x, .string a0, .func (.func 83) #[] #[.pointer (some ⟨w.heap.size + 1, 0, none⟩)], .string x, undef, undef, undef, undef, undef], defers := [] }) ?assign ?body ?done
    case own =>
      rintro s A B row ⟨⟨v, hv, hrow⟩, hb, hs⟩ hg hr
      have hne : ∀ (b : Nat) (cs : Array Value) (t : TypeId) (fz : Nat × Nat), A.heap[b]? = some (.cells cs t fz) → some b ≠ row := fun b cs t fz hb' e => by
        obtain ⟨_, o, ho, hc⟩ := hr b e.symm
        rw [hb'] at ho; cases ho; cases hc
      refine ⟨⟨v, hv.kept hg (hne _ _ _ _ hv), hrow.kept hg ?_⟩, hb.grown hg hb.size (fun k e => ?_), Nat.le_trans hs hg.size⟩
      · rcases hrow.2 with ⟨rfl, _⟩ | ⟨g, cap, cur, rfl, _, hgb, _⟩
        · exact .inl rfl
        · exact .inr (hne _ _ _ _ hgb)
      · have := (hr k e).1
        simp at this
        omega
    case cell =>
      rintro s W v ⟨⟨u, hu, hr⟩, hb, hs⟩
      refine ⟨⟨u, hu.other (by omega) _, hr.kept (grownBy_setCell' _ _ _) (.inr fun e => ?_)⟩, hb.setCell (p := ⟨w.heap.size + 1, 0, none⟩) (by show _ ≤ w.heap.size + 1; omega) _, by simpa using hs⟩
      have := (hr.lt _ e).1
      omega
    case assign =>
      intro l x W K hK
      gi_wp2
      exact hK
    case body =>
      rintro l pre x W ⟨post, hp⟩ ⟨⟨v, hv, hrow⟩, hB, hS⟩
      have hc := hv.cell
      have hlen : pre.length + 1 ≤ 1000000000 := by
        have h1 := linesB_len a0
        rw [← hp, List.length_append, List.length_cons] at h1
        omega
      gi_wp2_with (gi_at_builtin; refine wpListIn_append_own _ rfl _ _ 45 rfl (w.heap.size + 2) 9 i0 (.string ⟨#[]⟩) 1 16 Tryz.underlying45 hi hz0 hz1 hz2 rfl (by decide) _ _ _ rfl (hrow.alloc _) ⟨W.heap.size, 0, none⟩ 1 1 [.string x] rfl rfl (cell_one_new _ _ _) (by simp [Value.oneCell']) (by simp only [maxLen]; omega) (by omega) (by simp; omega) ?_; intro v' w1 hown' hgrow _; obtain ⟨g', cap', rfl⟩ := ownsRow_succ hown'; obtain ⟨hv1, hv2, hr2, hk2, hb2⟩ := hv.appended (by decide) (own_weaken hrow (show w.heap.size ≤ w.heap.size + 2 by omega)) hB.size (Nat.le_refl _) (own_weaken hown' (show w.heap.size ≤ w.heap.size + 2 by omega)) hgrow; have hc1 := hv1.cell; have hf1 := hv1.frozen)
      refine ⟨hk2, ?_, ⟨_, hv2, ?_⟩, hB.trans hb2, ?_⟩
      · intro u hu
        exact ((hu.alloc _).kept hgrow (fun e => by have := (hrow.lt _ e.symm).1; omega)).other (by omega) _
      · rw [List.length_append, List.map_append]
        exact hown'.kept (grownBy_setCell' _ _ _) (.inr fun e => by have := (hown'.lt _ e).1; omega)
      · have := hgrow.size
        simp at this ⊢
        omega
    case done =>
      rintro D W hD ⟨⟨v, hv, hrow⟩, hB, hS⟩ hK
      have hc := hv.cell
      gi_wp2
      refine ⟨by simp, .inl ⟨_, _, rfl, run_takeDeferred hK, ?_⟩⟩
      refine ⟨_, results_tmp rfl _ _ _, v, rfl, ?_, hB.trans (belowK_b (w := w) (Nat.le_refl _) W D _ _ (by simp at hD; omega) hK rfl rfl)⟩
      have hr3 := ownsRow_putObj hrow (.deferred none) hK rfl
      rw [← hr]
      exact Kd.R_of_own (own_weaken hr3 (by omega)) (fun _ _ => trivial)
  · rw [if_neg hsz] at h; cases h
end Go.Proofs.YtidlmkdoofcgnaaGreatDoor.PText

