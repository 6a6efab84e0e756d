/- LexTexts holds of every list of tokens and every number that together are of bulk at most 1,048,576 (the second form), where the two listed package variables hold what the program's text lays. Part 2 of 5. -/
import Derived.Test.YtabnmkakgcifoaaDoorBTextsA
import Derived.BigCall
import Derived.Lib.OthersKept
import Derived.Lib.Hide
namespace Go.Proofs.YtabnmkakgcifoaaDoor.PLex
open Go.RowKit Go.Proofs.YtabnmkakgcifoaaDoorW.PrintWords Go.Proofs.YtabnmkakgcifoaaDoorW.PrintLast Go.Proofs.YtabnmkakgcifoaaDoorW.PrintMore
def textL (l : List S30) : List UInt8 := (l.map fun t => t.f1.data.toList ++ t.f2.data.toList).flatten
theorem textL_snoc (l : List S30) (t : S30) : textL (l ++ [t]) = textL l ++ (t.f1 ++ t.f2).data.toList := by
  simp [textL, ByteArray.data_append]
theorem textL_take (l : List S30) (i : Nat) : (textL (l.take i)).length ≤ (textL l).length := by
  have h : textL l = textL (l.take i) ++ textL (l.drop i) := by
    unfold textL
    rw [← List.flatten_append, ← List.map_append, List.take_append_drop]
  rw [h, List.length_append]
  omega
def lex_Text.f (l : List S30) : Option ByteArray := if (textL l).length ≤ 140737488351232 ∧ l.length ≤ 1000000000 then some ⟨(textL l).toArray⟩ else none
theorem alloc_set (w : World) (cs : Array Value) (t : TypeId) (f : Nat × Nat) (i : Nat) (v : Value) : (w.alloc (.cells cs t f)).setCell ⟨w.heap.size, i, none⟩ v = w.alloc (.cells (cs.setIfInBounds i v) t f) := by
  unfold World.setCell World.alloc
  simp only [World.mk.injEq, and_true]
  apply Array.ext_getElem?
  intro j
  rw [Array.getElem?_modify, Array.getElem?_push]
  by_cases h : w.heap.size = j
  · rw [if_pos h, if_pos h.symm, Array.getElem?_push, if_pos h.symm]; rfl
  · rw [if_neg h, Array.getElem?_push, if_neg (fun e => h e.symm), if_neg (fun e => h e.symm)]
theorem rd_nat (l : List S30) (i : Nat) (h : i < l.length) : l.take (i + 1) = l.take i ++ [rd_T30 l (i : Int)] := by
  rw [List.take_succ_eq_append_getElem h]
  unfold rd_T30
  rw [Int.toNat_natCast, List.getD_eq_getElem?_getD, List.getElem?_eq_getElem h]; rfl
set_option maxHeartbeats 4000000 in
set_option maxRecDepth 100000 in
theorem lex_Text.calls (A0 : Option Addr) (c0 : Nat) (l0 : List S30) (r : ByteArray) (w : World) (hr0 : Kd.C k30 w A0 l0.length l0) (_hc0 : l0.length ≤ c0) (h : lex_Text.f l0 = some r) :
    Calls Tryd.prog 26 #[.slice A0 l0.length c0] w fun e w' => e = .returned (.string r) ∧ Below w.heap.size w w' := by
  have h0 : Lib.IsBuilderF 60 5 w.heap.size w.heap.size [] (w.alloc (.cells #[.pointer none, .slice none 0 0] 60)) := Lib.IsBuilderF.of (Lib.fresh_isBuilder 60 5 w)
  have b0 : Below w.heap.size w (w.alloc (.cells #[.pointer none, .slice none 0 0] 60)) := (Below.refl _ w).alloc (Nat.le_refl _) _
  unfold lex_Text.f at h
  split at h
  · rename_i hh
    obtain ⟨hlen, hll⟩ := hh
    have HR := Lib.hid (Option.some.inj h)
    have HR0 := Aside0.mk hr0
    have HLEN := Lib.hid hlen
    have H0 := Aside0.mk h0
    have B0 := Aside0.mk b0
    clear h hr0 hlen h0 b0
    have hu30 := Tryd.underlying30
    go_enter Tryd.func26, Tryd.ntmps26
    go_wp2_with fail
    go_loopg [8] (l0.length + 1) (fun kq v8 w' => ∃ i : Nat, v8 = .int .i64 (i : Int) ∧ Aside0 (l0.length - i < kq ∧ i ≤ l0.length) ∧ Aside0 (Lib.IsBuilderF 60 5 w.heap.size w.heap.size (Lib.byteCells (textL (l0.take i))) w') ∧ Aside0 (Below w.heap.size w w'))
    case atStart => exact ⟨0, rfl, ⟨by omega, by omega⟩, H0, B0⟩
    case round =>
      obtain ⟨i, rfl, HA, HI, HB⟩ := hrel
      obtain ⟨k1, rfl⟩ : ∃ k1, gk = k1 + 1 := ⟨gk - 1, by have := HA.out.1; omega⟩
      by_cases hlt : i < l0.length
      · have hb : decide ((i : Int) < (l0.length : Int)) = true := by simp; omega
        have hb2 : decide ((0 : Int) ≤ (i : Int)) = true := by simp
        have p0 : (0 : Int) ≤ (i : Int) := by omega
        have q0 : (i : Int) < (l0.length : Int) := by omega
        obtain ⟨ad, e0, hx0, hx1, hx2, hx3⟩ := at_T30 HR0.out (i : Int) p0 q0
        cases e0
        replace hx0 := (HB.out.cell (World.block_lt_of_cell? w _ hx0)).trans hx0
        replace hx1 := (HB.out.cell (World.block_lt_of_cell? w _ hx1)).trans hx1
        replace hx2 := (HB.out.cell (World.block_lt_of_cell? w _ hx2)).trans hx2
        replace hx3 := (HB.out.cell (World.block_lt_of_cell? w _ hx3)).trans hx3
        rw [Int.toNat_natCast] at hx0 hx1 hx2 hx3
        have HRD := Lib.hid (rd_nat l0 i hlt)
        generalize rd_T30 l0 (i : Int) = x at *
        have hsz : (textL (l0.take i)).length + (x.f1.size + x.f2.size) ≤ 140737488351232 := by
          have h1 := textL_take l0 (i + 1)
          rw [HRD.out, textL_snoc, List.length_append, ByteArray.data_append, Array.toList_append, List.length_append, Array.length_toList (xs := x.f1.data), Array.length_toList (xs := x.f2.data)] at h1
          have := HLEN.out
          show _ + (x.f1.data.size + x.f2.data.size) ≤ _
          omega
        have HSZ := Lib.hid hsz
        have hcat : (x.f1.size + x.f2.size ≤ 9223372036854775807) = True := eq_true (by omega)
        have hcat2 : decide (x.f1.size + x.f2.size ≤ 9223372036854775807) = true := decide_eq_true (by omega)
        have hcat3 : (9223372036854775807 < x.f1.size + x.f2.size) = False := eq_false (by omega)
        clear hsz
        go_wp2_with fail
        refine (Tryd.Builder_WriteString_k w.heap.size w.heap.size _ (x.f1 ++ x.f2) _ (HI.out.alloc _) ?_ ?_).mono ?_
        · rw [Lib.byteCells_length, ByteArray.size_append]
          have := HSZ.out
          omega
        · have := HB.out.size
          simp
          omega
        rintro e w2 ⟨rfl, hb2, hbel, -⟩
        have HI2 : Aside0 (Lib.IsBuilderF 60 5 w.heap.size w.heap.size (Lib.byteCells (textL (l0.take (i + 1)))) w2) := ⟨by
          rw [HRD.out, textL_snoc, Lib.byteCells_append, ← Lib.strCells_eq]
          exact Or.inr hb2⟩
        have HB2 := Aside0.mk ((HB.out.alloc HB.out.size _).trans hbel)
        clear hb2 hbel
        go_wp2_with fail
        go_roundg k1
        case measure => omega
        case rel => exact ⟨i + 1, by simp, ⟨by have := HA.out.1; omega, by omega⟩, HI2, HB2⟩
      · have hb : decide ((i : Int) < (l0.length : Int)) = false := by simp; omega
        have HI2 : Aside0 (Lib.IsBuilderF 60 5 w.heap.size w.heap.size (Lib.byteCells (textL l0)) wr) := ⟨by
          have := HI.out
          rw [List.take_of_length_le (by omega)] at this
          exact this⟩
        clear HI
        go_wp2_with fail
        refine (Tryd.Builder_String_any_k w.heap.size w.heap.size (textL l0) _ HI2.out HB.out.size).mono ?_
        rintro e w2 ⟨rfl, -, hbel, -⟩
        have HB2 := Aside0.mk (HB.out.trans hbel)
        clear hbel
        go_wp2_with fail
        go_ret
        exact ⟨by rw [HR.out]; rfl, HB2.out⟩
  · cases h
end Go.Proofs.YtabnmkakgcifoaaDoor.PLex

