/- PastKeeps holds: for all steps and every file's name the statement answers true. Part 15 of 20. -/
import Derived.Test.YthimblhfjfngiaaBKeepsN
import Derived.BigCall
import Derived.Lib.Hide
import Derived.Shelf.Abstract
import Derived.OwnWalkIn
import Derived.TacticsInMore
import Derived.LoopNIn
import Derived.LoopIn
import Derived.Lib.IndexLaws
namespace Go.Proofs.Ythimblhfjfngiaa.PText
open Go.RowKit Go.Proofs.YthimblhfjfngiaaW.PrintWords Go.Proofs.YthimblhfjfngiaaW.PrintLast Go.Proofs.YthimblhfjfngiaaW.PrintMore
set_option linter.unusedVariables false
set_option linter.unusedSimpArgs false
/-- a builder stays where all that lay stays -/
theorem builder_kept {T e : TypeId} {B b : Nat} {bs : List Value} {W W' : World} (h : Lib.IsBuilderF T e B b bs W) (hb : Below W.heap.size W W') : Lib.IsBuilderF T e B b bs W' := by
  have one : ∀ p, Lib.BuilderAtF T e B b p bs W → Lib.BuilderAtF T e B b p bs W' := by
    rintro p ⟨hB, v, hv, hown, hne⟩
    have hlt : b < W.heap.size := (Array.getElem?_eq_some_iff.1 hv).1
    exact ⟨hB, v, (hb.block b hlt).trans hv, hown.kept (row := none) ⟨hb.os, hb.tape, hb.output, hb.size, fun k hk _ => hb.block k hk⟩ (Classical.em _), hne⟩
  rcases h with h | h
  · exact .inl (one _ h)
  · exact .inr (one _ h)
theorem heap_new (w : World) (o : Obj) : (w.alloc o).heap[w.heap.size]? = some o := by
  show (w.heap.push o)[w.heap.size]? = some o
  exact Array.getElem?_push_size
theorem heap_old {w : World} {k : Nat} {o : Obj} (h : w.heap[k]? = some o) (o' : Obj) : (w.alloc o').heap[k]? = some o := by
  have hk : k < w.heap.size := (Array.getElem?_eq_some_iff.1 h).1
  show (w.heap.push o')[k]? = some o
  rw [Array.getElem?_push, if_neg (by omega), h]
theorem add_block (a : Addr) (n : Nat) : (a.add n).block = a.block := by unfold Addr.add; split <;> rfl
theorem cell_same {w w' : World} {p : Addr} (h : w'.heap[p.block]? = w.heap[p.block]?) : w'.cell? p = w.cell? p := by unfold World.cell?; rw [h]
/-- where the row of some edits lies: a block of cells of their type, or there are none -/
theorem row_block {w : World} {B : Nat} {A : Option Addr} {c : Nat} {l : List S59} (h : Kd.R k59 59 w B (fun _ => True) (.slice A l.length c) l) :
    ∃ (g : Nat) (cs : Array Value), (l ≠ [] → A = some ⟨g, 0, none⟩) ∧ (l = [] ∨ (B ≤ g ∧ w.heap[g]? = some (.cells cs 59 (0, 0)))) := by
  by_cases hl : l = []
  · exact ⟨0, #[], fun q => absurd hl q, .inl hl⟩
  · obtain ⟨g, cap, hv, hb, _, cs, hc⟩ := Kd.R_form h (List.length_pos_iff.2 hl)
    cases hv
    exact ⟨g, cs, fun _ => rfl, .inr ⟨hb, hc⟩⟩
set_option maxHeartbeats 8000000 in
set_option maxRecDepth 100000 in
theorem text_Apply.calls (a0 : ByteArray) (A1 : Option Addr) (c1 : Nat) (l1 : List S59) (r1 : ByteArray) (r2 : Int) (w : World) (hr1 : Kd.C k59 w A1 l1.length l1) (hc1 : l1.length ≤ c1) (h : text_Apply.f a0 l1 = some (r1, r2)) :
    Calls Try.prog 28 #[.string a0, .slice A1 l1.length c1] w fun e w' => e = .returned (.tuple #[.string r1, .int .i64 r2]) ∧ Below w.heap.size w w' := by
  have H12 := Aside0.mk (text_Fine.calls a0 A1 c1 l1 (fineE a0.size l1) w hr1 hc1 rfl)
  have HC := Aside0.mk hr1
  have HL := Aside0.mk hc1
  clear hr1 hc1
  unfold text_Apply.f at h
  by_cases hf : fineE a0.size l1 = 0
  · rw [if_neg (by rw [hf]; decide)] at h
    rw [hf] at H12
    have CHN := Aside0.mk (fine_chain a0.size l1 hf)
    have HF := Aside0.mk hf
    clear hf
    have H32 := Aside0.mk (fun w2 (h2 : Kd.C k59 w2 A1 l1.length l1) => text_sorted.calls A1 c1 l1 (Tx.ord eltS l1) w2 h2 HL.out (by unfold text_sorted.f; rw [if_pos CHN.out.1]))
    have HH := Aside0.mk h
    clear h
    have HME := Aside0.mk (show madeE a0 l1 = Tx.ap a0.data.toList 0 ((Tx.ord eltS l1).map toE) from rfl)
    have CH := Aside0.mk CHN.out.2.2
    have HRL := Aside0.mk (Nat.le_trans (Tx.ord_len (lt := eltS) l1) CHN.out.1)
    clear CHN
    generalize Tx.ord eltS l1 = row at H32 CH HME HRL
    generalize madeE a0 l1 = M at HH HME
    have hu34 := Try.underlying59
    go_enter Try.func28, Try.ntmps28
    go_wp2_with (first
      | (go_at_call 44; refine H12.out.mono ?_; rintro e w2 ⟨rfl, hb⟩; have HB := Aside0.mk hb; clear hb H12)
      | (go_at_call 45; refine (H32.out _ (Kd.C_alloc (Kd.C_below HC.out HB.out) _)).mono ?_; rintro e w3 ⟨v3, rfl, ho, hb⟩; obtain ⟨A3, c3, rfl⟩ := Kd.R_slice ho; have HO := Aside0.mk ho; have HB3 := Aside0.mk hb; clear ho hb H32))
    have h0 : Lib.IsBuilderF 96 5 w2.heap.size w2.heap.size [] (w2.alloc (.cells #[.pointer none, .slice none 0 0] 96)) := Lib.IsBuilderF.of (Lib.fresh_isBuilder 96 5 w2)
    have hR := Kd.R_reads' HO.out
    obtain ⟨g, cs, hA, hg⟩ := row_block HO.out
    have hC := Aside0.mk hR.2.2
    have H1 := Aside0.mk (builder_kept h0 HB3.out)
    have HB4 : Aside0 (Below w.heap.size w w3) := ⟨((HB.out.alloc HB.out.size _).trans (HB3.out.mono (by have := HB.out.size; simp; omega)))⟩
    have HG : Aside0 (row = [] ∨ (w2.heap.size < g ∧ w3.heap[g]? = some (.cells cs 59 (0, 0)))) := ⟨hg.imp id (fun q => ⟨by have := q.1; simp at this; omega, q.2⟩)⟩
    have HA := Aside0.mk hA
    have HSZ := Aside0.mk HB3.out.size
    have HW := Aside0.mk HB.out.size
    clear h0 HB HB3 hR hg hA HO
    go_loopg [8, 20] (row.length + 1) (fun kq v8 v20 w' => ∃ (i : Nat) (p : Int) (P : List UInt8), v8 = .int .i64 p ∧ v20 = .int .i64 (i : Int) ∧ Aside0 (row.length - i < kq ∧ i ≤ row.length ∧ 0 ≤ p) ∧ Aside0 (Tx.Ch (a0.size : Int) p ((row.drop i).map toE)) ∧ Aside0 (P ++ Tx.ap a0.data.toList p ((row.drop i).map toE) = M) ∧ Aside0 (Lib.IsBuilderF 96 5 w2.heap.size w2.heap.size (Lib.byteCells P) w') ∧ Aside0 (Below w.heap.size w w') ∧ Aside0 (row = [] ∨ (w2.heap.size < g ∧ w'.heap[g]? = some (.cells cs 59 (0, 0)))) ∧ Aside0 (w2.heap.size < w'.heap.size))
    case atStart => exact ⟨0, 0, [], rfl, rfl, ⟨by omega, by omega, by omega⟩, CH, ⟨by rw [HME.out]; rfl⟩, H1, HB4, HG, ⟨by have := HSZ.out; simp at this; omega⟩⟩
    case round =>
      obtain ⟨i, p, P, rfl, rfl, HI, HC2, HP, HBu, HBe, HGe, HS⟩ := hrel
      obtain ⟨k1, rfl⟩ : ∃ k1, gk = k1 + 1 := ⟨gk - 1, by have := HI.out.1; omega⟩
      by_cases hlt : i < row.length
      · have hb : decide ((i : Int) < (row.length : Int)) = true := by simp; omega
        have hb2 : decide ((0 : Int) ≤ (i : Int)) = true := by simp
        have p0 : (0 : Int) ≤ (i : Int) := by omega
        have q0 : (i : Int) < (row.length : Int) := by omega
        obtain ⟨ad, e0, hx0, hx1, hx2⟩ := at_T59 hC.out (i : Int) p0 q0
        have hblk : ad.block = g := by
          have := HA.out (fun e => by rw [e] at hlt; cases hlt)
          rw [e0] at this; cases this; rfl
        have hgw : wr.heap[g]? = w3.heap[g]? := by
          rcases HG.out with q | q
          · rw [q] at hlt; cases hlt
          · rcases HGe.out with q2 | q2
            · rw [q2] at hlt; cases hlt
            · rw [q.2, q2.2]
        cases e0
        replace hx0 := (cell_same (w' := wr) (p := ad.add ((i : Int).toNat * 3)) (by simp only [add_block]; rw [hblk, hgw])).trans hx0
        replace hx1 := (cell_same (w' := wr) (p := ⟨(ad.add ((i : Int).toNat * 3)).block, (ad.add ((i : Int).toNat * 3)).off + 1, none⟩) (by simp only [add_block]; rw [hblk, hgw])).trans hx1
        replace hx2 := (cell_same (w' := wr) (p := ⟨(ad.add ((i : Int).toNat * 3)).block, (ad.add ((i : Int).toNat * 3)).off + 2, none⟩) (by simp only [add_block]; rw [hblk, hgw])).trans hx2
        rw [Int.toNat_natCast] at hx0 hx1 hx2
        rw [rd34_at row i hlt] at hx0 hx1 hx2
        have hd : row.drop i = row[i] :: row.drop (i + 1) := List.drop_eq_getElem_cons hlt
        have HD := Aside0.mk hd
        clear hd hgw
        generalize row[i] = x at *
        have hc := HC2.out
        rw [HD.out] at hc
        obtain ⟨hc1, hc2, hc3⟩ := hc
        replace hc1 : p ≤ x.f0 := hc1
        replace hc2 : x.f0 ≤ x.f1 := hc2
        have hc4 : x.f1 ≤ (a0.size : Int) := Tx.ch_le hc3
        have HC3 := Aside0.mk hc3
        clear hc3
        have hp0 : 0 ≤ p := HI.out.2.2
        have hf0 : x.f0 ≤ (a0.size : Int) := by omega
        have hap : P ++ (Tx.sl a0.data.toList p x.f0 ++ (toE x).x ++ Tx.ap a0.data.toList x.f1 ((row.drop (i + 1)).map toE)) = M := by
          have := HP.out
          rw [HD.out] at this
          exact this
        have HP2 := Aside0.mk hap
        have hML : M.length ≤ 140737488351232 := by
          have := HH.out
          by_cases q : M.length ≤ 140737488351232
          · exact q
          · rw [if_neg q] at this; cases this
        have hsz : P.length + ((a0.extract p.toNat x.f0.toNat).size + x.f2.size) ≤ 140737488351232 := by
          have h1 := congrArg List.length hap
          rw [List.length_append, List.length_append, List.length_append, ← ext_sl, ← size_list, toE_x, ← size_list] at h1
          omega
        have HML := Aside0.mk hML
        obtain ⟨E, hE⟩ : ∃ E, a0.extract p.toNat x.f0.toNat = E := ⟨_, rfl⟩
        rw [hE] at hsz
        have hcat : (E.size + x.f2.size ≤ 9223372036854775807) = True := eq_true (by omega)
        have hcat2 : decide (E.size + x.f2.size ≤ 9223372036854775807) = true := decide_eq_true (by omega)
        have hcat3 : (9223372036854775807 < E.size + x.f2.size) = False := eq_false (by omega)
        have HSZ2 := Aside0.mk hsz
        clear hap hsz hML hblk
        go_wp2_with fail
        go_region_held3 (fun w' => w'.cell? ⟨wr.heap.size, 0, none⟩ = some (.int .i64 x.f0) ∧ w'.cell? ⟨wr.heap.size, 1, none⟩ = some (.int .i64 x.f1) ∧ w'.cell? ⟨wr.heap.size, 2, none⟩ = some (.string x.f2))
          (first
            | go_keep
            | (refine ⟨?_, ?_, ?_⟩ <;> simp [World.cell?, HK]))
          (first | (go_at_call 46; refine (Try.Builder_WriteString_k w2.heap.size w2.heap.size (Lib.byteCells P) (E ++ x.f2) _ ?zb ?zl ?zs).mono ?_; (case zb => exact HBu.out.alloc _); (case zl => (rw [Lib.byteCells_length, ByteArray.size_append]; have := HSZ2.out; omega)); (case zs => (have := HS.out; simp; omega)); rintro e w4 ⟨rfl, hbu, hbel, hok⟩; have HK := hok wr.heap.size (.cells #[.int .i64 x.f0, .int .i64 x.f1, .string x.f2] 59 (0, 0)) (heap_new wr _) (by have := HS.out; intro e; have := Option.some.inj e; omega) (by intro c fz e; cases e)))
        have HB5 : Aside0 (Below w.heap.size w w4) := ⟨(HBe.out.alloc HBe.out.size _).drew.trans (hbel.mono HW.out)⟩
        have HS5 : Aside0 (w2.heap.size < w4.heap.size) := ⟨by have := hbel.size; have := HS.out; simp at *; omega⟩
        have HG5 : Aside0 (row = [] ∨ (w2.heap.size < g ∧ w4.heap[g]? = some (.cells cs 59 (0, 0)))) := ⟨HGe.out.imp id (fun q => ⟨q.1, hok g _ (heap_old q.2 _) (by intro e; have := Option.some.inj e; have := q.1; omega) (by intro c fz e; cases e)⟩)⟩
        have HBu5 : Aside0 (Lib.IsBuilderF 96 5 w2.heap.size w2.heap.size (Lib.byteCells (P ++ (E ++ x.f2).data.toList)) w4) := ⟨by
          rw [Lib.byteCells_append, ← Lib.strCells_eq]
          exact Or.inr hbu⟩
        have HP5 : Aside0 ((P ++ (E ++ x.f2).data.toList) ++ Tx.ap a0.data.toList x.f1 ((row.drop (i + 1)).map toE) = M) := ⟨by
          rw [ByteArray.data_append, Array.toList_append, ← hE, ext_sl, ← toE_x, List.append_assoc, HP2.out]⟩
        have hc1 := cell_same (w' := w4) (w := w4) (p := ⟨wr.heap.size, 1, none⟩) rfl
        have hx1' : w4.cell? ⟨wr.heap.size, 1, none⟩ = some (.int .i64 x.f1) := by simp [World.cell?, HK]
        clear hbu hbel hok HK hc1
        go_wp2_with fail
        go_roundg k1
        case measure => have := HI.out.1; omega
        case rel => exact ⟨i + 1, x.f1, P ++ (E ++ x.f2).data.toList, rfl, congrArg (Value.int .i64) (nx i (by have := HRL.out; omega)), ⟨by have := HI.out.1; omega, by omega, by omega⟩, HC3, HP5, HBu5, HB5, HG5, HS5⟩
      · have hb : decide ((i : Int) < (row.length : Int)) = false := by simp; omega
        have hp0 : 0 ≤ p := HI.out.2.2
        have hd : row.drop i = [] := List.drop_of_length_le (by omega)
        have hc := HC2.out
        rw [hd] at hc
        have hp1 : p ≤ (a0.size : Int) := hc
        have hPM : P ++ a0.data.toList.drop p.toNat = M := by
          have := HP.out
          rw [hd] at this
          exact this
        have HPM := Aside0.mk hPM
        clear hd hc hPM
        have hML : M.length ≤ 140737488351232 := by
          have := HH.out
          by_cases q : M.length ≤ 140737488351232
          · exact q
          · rw [if_neg q] at this; cases this
        have HML := Aside0.mk hML
        clear hML
        go_wp2_with fail
        refine (Try.Builder_WriteString_k w2.heap.size w2.heap.size (Lib.byteCells P) (a0.extract p.toNat a0.size) _ HBu.out ?_ (Nat.le_of_lt HS.out)).mono ?_
        · rw [Lib.byteCells_length, size_list, ext_end]
          have h1 := congrArg List.length HPM.out
          rw [List.length_append] at h1
          have := HML.out
          omega
        rintro e w4 ⟨rfl, hbu, hbel, -⟩
        have HB5 : Aside0 (Below w.heap.size w w4) := ⟨HBe.out.trans (hbel.mono HW.out)⟩
        have HS5 : Aside0 (w2.heap.size < w4.heap.size) := ⟨by have := hbel.size; have := HS.out; omega⟩
        have HBu5 : Aside0 (Lib.IsBuilderF 96 5 w2.heap.size w2.heap.size (Lib.byteCells M) w4) := ⟨by
          rw [← HPM.out, Lib.byteCells_append, ← ext_end, ← Lib.strCells_eq]
          exact Or.inr hbu⟩
        have HF := HH.out
        rw [if_pos HML.out] at HF
        clear hbu hbel HBu HBe
        have hlenB : (Lib.byteCells M).length = M.length := Lib.byteCells_length M
        by_cases hbig : 200000 < M.length
        · rw [if_pos hbig] at HF
          have h' := Option.some.inj HF
          have e1 : r1 = ⟨#[]⟩ := (congrArg Prod.fst h').symm
          have e2 : r2 = 2 := (congrArg Prod.snd h').symm
          clear HF h' HH
          subst e1 e2
          have hbg : decide (200000 < (M.length : Int)) = true := by simp; omega
          go_wp2_with (go_at_call 47; refine (Try.Builder_Len_f _ _ _ _ HBu5.out).mono ?_; rintro e w5 ⟨rfl, rfl⟩; rw [hlenB])
          go_ret2
          exact ⟨rfl, HB5.out⟩
        · rw [if_neg hbig] at HF
          have h' := Option.some.inj HF
          have e1 : r1 = ⟨M.toArray⟩ := (congrArg Prod.fst h').symm
          have e2 : r2 = 0 := (congrArg Prod.snd h').symm
          clear HF h' HH
          subst e1 e2
          have hbg : decide (200000 < (M.length : Int)) = false := by simp; omega
          go_wp2_with (first
            | (go_at_call 47; refine (Try.Builder_Len_f _ _ _ _ HBu5.out).mono ?_; rintro e w5 ⟨rfl, rfl⟩; rw [hlenB])
            | (go_at_call 48; refine (Try.Builder_String_any_k w2.heap.size w2.heap.size M _ HBu5.out (Nat.le_of_lt HS5.out)).mono ?_; rintro e w5 ⟨rfl, -, hbel, -⟩; have HB6 := Aside0.mk (HB5.out.trans (hbel.mono HW.out)); clear hbel))
          go_ret2
          exact ⟨rfl, HB6.out⟩
  · rw [if_pos hf] at h
    have h' := Option.some.inj h
    have hr : r1 = ⟨#[]⟩ ∧ r2 = fineE a0.size l1 := ⟨(congrArg Prod.fst h').symm, (congrArg Prod.snd h').symm⟩
    clear h h'
    obtain ⟨rfl, rfl⟩ := hr
    have b1 : (fineE a0.size l1 != 0) = true := by simpa using hf
    have b2 : (fineE a0.size l1 == 0) = false := by simpa using hf
    generalize fineE a0.size l1 = fe at *
    clear hf
    go_enter Try.func28, Try.ntmps28
    go_wp2_with (go_at_call 44; refine H12.out.mono ?_; rintro e w2 ⟨rfl, hb⟩; have HB := Aside0.mk hb; clear hb H12)
    go_ret2
    exact ⟨rfl, HB.out⟩
end Go.Proofs.Ythimblhfjfngiaa.PText

namespace Go.Proofs.Ythimblhfjfngiaa.PText
open Go.RowKit Go.Shelf Go.Proofs.YthimblhfjfngiaaW.PrintWords Go.Proofs.YthimblhfjfngiaaW.PrintLast Go.Proofs.YthimblhfjfngiaaW.PrintMore
set_option linter.unusedVariables false
set_option linter.unusedSimpArgs false
attribute [local go_sem] Oper.semAt_some
def linesB (s : ByteArray) : List ByteArray := (Tx.lines s.data.toList).map fun l => ⟨l.toArray⟩
def text_Lines.f (s : ByteArray) : Option (List ByteArray) := if s.size ≤ 1000000000 then some (linesB s) else none
/-- where the first line of a text ends -/
def lineEnd (s : ByteArray) : Nat := if Lib.indexByte s.data.toList 10 + 1 = 0 then s.size else (Lib.indexByte s.data.toList 10 + 1).toNat
theorem bytes_list {l : List UInt8} {i : Nat} (h : l[i]? = some 10) (k : ∀ j, j < i → l[j]? ≠ some 10) : ∃ a r, l = a ++ 10 :: r ∧ a.length = i ∧ (10 : UInt8) ∉ a := by
  have hlt : i < l.length := by
    rcases Nat.lt_or_ge i l.length with q | q
    · exact q
    · rw [List.getElem?_eq_none q] at h; cases h
  refine ⟨l.take i, l.drop (i + 1), ?_, by rw [List.length_take]; omega, ?_⟩
  · have e : l[i] = 10 := by rw [List.getElem?_eq_getElem hlt] at h; exact Option.some.inj h
    rw [← e, ← List.drop_eq_getElem_cons hlt, List.take_append_drop]
  · intro m
    obtain ⟨j, hj, e⟩ := List.mem_iff_getElem.1 m
    rw [List.length_take] at hj
    rw [List.getElem_take] at e
    exact k j (by omega) (by rw [List.getElem?_eq_getElem (by omega), e])
theorem ba_ext {a b : ByteArray} (h : a.data.toList = b.data.toList) : a = b := by
  have : a.data = b.data := Array.toList_inj.1 h
  cases a; cases b; simp_all
theorem lgo_all : ∀ (s cur : List UInt8), (∀ x ∈ s, x ≠ 10) → cur ++ s ≠ [] → Tx.lgo cur s = [cur ++ s]
  | [], cur, _, h => by
    unfold Tx.lgo
    rw [List.append_nil] at h ⊢
    rw [if_neg h]
  | c :: r, cur, h, _ => by
    unfold Tx.lgo
    rw [if_neg (h c List.mem_cons_self), lgo_all r (cur ++ [c]) (fun x m => h x (List.mem_cons_of_mem _ m)) (by simp)]
    simp
theorem linesB_step (s : ByteArray) (h : s ≠ ⟨#[]⟩) : 0 < lineEnd s ∧ lineEnd s ≤ s.size ∧ linesB s = s.extract 0 (lineEnd s) :: linesB (s.extract (lineEnd s) s.size) := by
  have hne : s.data.toList ≠ [] := fun e => h (ba_ext e)
  have hsz : s.size = s.data.toList.length := by rw [Array.length_toList]; rfl
  unfold lineEnd
  have hge := Lib.indexByte_ge s.data.toList 10
  by_cases hi : Lib.indexByte s.data.toList 10 + 1 = 0
  · rw [if_pos hi]
    have hn : Lib.indexByte s.data.toList 10 = -1 := by omega
    have hno := Lib.indexByte_none hn
    have hpos : 0 < s.data.toList.length := List.length_pos_iff.2 hne
    refine ⟨by omega, Nat.le_refl _, ?_⟩
    have e1 : s.extract 0 s.size = s := by apply ba_ext; rw [ByteArray.data_extract, Array.toList_extract, List.extract_eq_take_drop, List.drop_zero, Nat.sub_zero, hsz, List.take_length]
    have e2 : linesB (s.extract s.size s.size) = [] := by
      have : (s.extract s.size s.size).data.toList = [] := by rw [ByteArray.data_extract, Array.toList_extract, List.extract_eq_take_drop, Nat.sub_self, List.take_zero]
      unfold linesB; rw [this]; rfl
    rw [e1, e2]
    unfold linesB Tx.lines
    rw [lgo_all _ _ (fun x m e => by subst e; obtain ⟨j, hj, e⟩ := List.mem_iff_getElem.1 m; exact hno j (by rw [List.getElem?_eq_getElem hj, e])) (by simpa using hne)]
    simp
  · rw [if_neg hi]
    obtain ⟨i, hi'⟩ : ∃ i : Nat, Lib.indexByte s.data.toList 10 = (i : Int) := ⟨(Lib.indexByte s.data.toList 10).toNat, by omega⟩
    obtain ⟨hs, hk⟩ := Lib.indexByte_some hi'
    obtain ⟨a, r, e, hl, hm⟩ := bytes_list hs hk
    have ei : (Lib.indexByte s.data.toList 10 + 1).toNat = i + 1 := by omega
    rw [ei]
    have hlen : s.data.toList.length = i + 1 + r.length := by rw [e]; simp; omega
    refine ⟨by omega, by omega, ?_⟩
    have e1 : (s.extract 0 (i + 1)).data.toList = a ++ [10] := by
      rw [ByteArray.data_extract, Array.toList_extract, List.extract_eq_take_drop, List.drop_zero, Nat.sub_zero, e, ← hl]
      have : a ++ 10 :: r = (a ++ [10]) ++ r := by simp
      rw [this, List.take_left' (by simp)]
    have e2 : (s.extract (i + 1) s.size).data.toList = r := by
      rw [ByteArray.data_extract, Array.toList_extract, hsz, hlen, e, ← hl]
      have : a ++ 10 :: r = (a ++ [10]) ++ r := by simp
      rw [this, List.extract_eq_take_drop, show a.length + 1 = (a ++ [10]).length by simp, List.drop_left]
      simp
    have e3 : s.extract 0 (i + 1) = ⟨(a ++ [10]).toArray⟩ := ba_ext (by rw [e1])
    unfold linesB Tx.lines
    rw [e3, e2, e, Tx.lgo_line _ _ _ hm]
    simp
theorem linesB_nil : linesB ⟨#[]⟩ = [] := rfl
theorem idx_calls (s : ByteArray) (w : World) : Calls Try.prog 89 #[.string s, .int .u8 10] w fun e w' => e = .returned (.int .i64 (Lib.indexByte s.data.toList 10)) ∧ w' = w := Try.strings_IndexByte s 10 w
theorem lineEnd_none {s : ByteArray} (h : Lib.indexByte s.data.toList 10 + 1 = 0) : lineEnd s = s.size := by unfold lineEnd; rw [if_pos h]
theorem lineEnd_some {s : ByteArray} (h : ¬ Lib.indexByte s.data.toList 10 + 1 = 0) : ((lineEnd s : Nat) : Int) = Lib.indexByte s.data.toList 10 + 1 := by
  unfold lineEnd; rw [if_neg h]
  have := Lib.indexByte_ge s.data.toList 10
  omega
set_option maxRecDepth 100000 in
set_option maxHeartbeats 4000000 in
theorem each_in (l Bc : Nat) (s : ByteArray) (xs : List ByteArray) (hxs : xs = linesB s) (hsz : s.size ≤ 1000000000) (J : List ByteArray → World → Prop)
    (hJs : ∀ pre W v, J pre W → J pre (W.setCell ⟨Bc, 0, none⟩ v))
    (hY : ∀ pre x W, (∃ post, pre ++ x :: post = xs) → J pre W → YieldAt Fence.wide 2 Try.prog l #[.string x] W fun e W' => e = .returned (.bool true) ∧ J (pre ++ [x]) W' ∧ KeepsBox Bc 9 W W')
    (W : World) (hB : Boxed W Bc 9 (.string s)) (h0 : J [] W) :
    CallsIn Fence.wide 3 Try.prog 88 #[.func (.yield l) #[] #[], .pointer (some ⟨Bc, 0, none⟩)] W fun e W' => (∃ v, e = .returned v) ∧ J xs W' := by
  refine callsIn_of_wp Try.func88 rfl trivial ?_ rfl
  simp only [Try.ntmps88, List.size_toArray, List.length_cons, List.length_nil, Nat.reduceAdd, Nat.reduceSub, Array.replicate_succ, Array.replicate_zero, List.push_toArray, List.append_toArray, List.nil_append, List.cons_append]
  gi_wp2
  gi_loopw [] (fun wr => ∃ (pre : List ByteArray) (rest : ByteArray), xs = pre ++ linesB rest ∧ rest.size ≤ 1000000000 ∧ Boxed wr Bc 9 (.string rest) ∧ J pre wr)
    (fun wr => match wr.cell? ⟨Bc, 0, none⟩ with | some (.string r) => r.size | _ => 0)
  case atStart => exact ⟨[], s, hxs, hsz, hB, h0⟩
  case round =>
    obtain ⟨pre, rest, hx, hr, hb, hJ⟩ := hrel
    have hc := hb.cell
    have hf := hb.frozen
    by_cases he : rest = ⟨#[]⟩
    · subst he
      gi_wp2
      go_end0
      exact ⟨⟨_, rfl⟩, by rw [hx, linesB_nil, List.append_nil]; exact hJ⟩
    · obtain ⟨h1, h2, h3⟩ := linesB_step rest he
      have hbe : rest.toList.isEmpty = false := by
        cases q : rest.toList.isEmpty with
        | false => rfl
        | true => exact absurd (ba_ext (by rw [← Lib.toList_data rest]; exact List.isEmpty_iff.1 q)) he
      have hge := Lib.indexByte_ge rest.data.toList 10
      by_cases hi : Lib.indexByte rest.data.toList 10 + 1 = 0
      · have hle := lineEnd_none hi
        have hi' : Lib.indexByte rest.data.toList 10 = -1 := by omega
        have hx1 : rest.extract 0 (lineEnd rest) = rest := by
          apply ba_ext; rw [hle, ByteArray.data_extract, Array.toList_extract, List.extract_eq_take_drop, List.drop_zero, Nat.sub_zero]
          exact List.take_of_length_le (by rw [Array.length_toList]; exact Nat.le_refl _)
        have hx2 : rest.extract (lineEnd rest) rest.size = ⟨#[]⟩ := by
          apply ba_ext; rw [hle, ByteArray.data_extract, Array.toList_extract, List.extract_eq_take_drop, Nat.sub_self, List.take_zero]
        obtain ⟨fn, tmps, assign, body, hy, hR⟩ := hY pre rest wr ⟨linesB ⟨#[]⟩, by rw [hx, h3, hx1, hx2]⟩ hJ
        gi_wp2_with (refine ⟨trivial, ?_⟩; gi_at_call 89; refine (callsIn_wide.2 (idx_calls rest _)).mono ?_; rintro e w' ⟨rfl, rfl⟩)
        refine hR.mono ?_
        rintro e W3 ⟨rfl, hJ3, hk3⟩
        have hb3 := hk3 _ hb
        have hc3 := hb3.cell
        have hf3 := hb3.frozen
        gi_wp2
        go_roundw
        case rel => exact ⟨pre ++ [rest], ⟨#[]⟩, by rw [hx, h3, hx1, hx2]; simp, Nat.zero_le _, hb3.set _, hJs _ _ _ hJ3⟩
        case measure =>
          rw [(hb3.set _).cell, hb.cell]
          show 0 < rest.size
          omega
      · have hle := lineEnd_some hi
        obtain ⟨i, hi1⟩ : ∃ i : Nat, Lib.indexByte rest.data.toList 10 = (i : Int) := ⟨(Lib.indexByte rest.data.toList 10).toNat, by omega⟩
        have hle2 : lineEnd rest = i + 1 := by omega
        rw [hle2] at h1 h2 h3
        obtain ⟨fn, tmps, assign, body, hy, hR⟩ := hY pre (rest.extract 0 (i + 1)) wr ⟨_, by rw [hx, h3]⟩ hJ
        gi_wp2_with (refine ⟨trivial, ?_⟩; gi_at_call 89; refine (callsIn_wide.2 (idx_calls rest _)).mono ?_; rintro e w' ⟨rfl, rfl⟩)
        refine hR.mono ?_
        rintro e W3 ⟨rfl, hJ3, hk3⟩
        have hb3 := hk3 _ hb
        have hc3 := hb3.cell
        have hf3 := hb3.frozen
        gi_wp2
        go_roundw
        case rel => exact ⟨pre ++ [rest.extract 0 (i + 1)], rest.extract (i + 1) rest.size, by rw [hx, h3]; simp, by rw [ByteArray.size_extract]; omega, hb3.set _, hJs _ _ _ hJ3⟩
        case measure =>
          rw [(hb3.set _).cell, hb.cell]
          show (rest.extract (i + 1) rest.size).size < rest.size
          rw [ByteArray.size_extract]
          omega
theorem each_calls (s : ByteArray) (w : World) : Calls Try.prog 71 #[.string s] w fun e w' => e = .returned (.func (.func 88) #[] #[.pointer (some ⟨w.heap.size, 0, none⟩)]) ∧ w' = w.alloc (.cells #[.string s] 9) := by
  go_enter Try.func71, Try.ntmps71
  go_wp2
  go_ret
  exact ⟨rfl, rfl⟩
theorem info9L : (Try.prog.info? 9).map (fun i => (i.zero, i.size, i.bytes)) = some (some (.string ⟨#[]⟩), 1, 16) := by kernel_rfl
theorem flat_len : ∀ (L : List (List UInt8)), (∀ x ∈ L, x ≠ []) → L.length ≤ L.flatten.length
  | [], _ => Nat.le_refl _
  | x :: L, h => by
    have h1 : 0 < x.length := List.length_pos_iff.2 (h x List.mem_cons_self)
    have h2 := flat_len L (fun y m => h y (List.mem_cons_of_mem _ m))
    rw [List.flatten_cons, List.length_append, List.length_cons]
    omega
theorem linesB_len (s : ByteArray) : (linesB s).length ≤ s.size := by
  have h := flat_len (Tx.lines s.data.toList) (Tx.lines_ne _)
  rw [Tx.lines_flat, Array.length_toList] at h
  unfold linesB
  rw [List.length_map]
  exact h
set_option maxRecDepth 100000 in
set_option maxHeartbeats 4000000 in
theorem text_Lines.calls (a0 : ByteArray) (r : List ByteArray) (w : World) (h : text_Lines.f a0 = some r) :
    Calls Try.prog 55 #[.string a0] w fun e w' => ∃ v0_ : Value, e = .returned (v0_) ∧ Kd.R Kd.string 9 w' w.heap.size (fun _ => True) v0_ r ∧ Below w.heap.size w w' := by
  unfold text_Lines.f at h
  by_cases hsz : a0.size ≤ 1000000000
  · rw [if_pos hsz] at h
    have hr := Option.some.inj h
    clear h
    refine (callsIn_wide (n := 4)).1 ?_
    obtain ⟨i0, hi, hz0, hz1, hz2⟩ := info_parts info9L
    refine callsIn_of_wp_marks Try.func55 rfl trivial ?_ rfl
    simp only [Try.ntmps55, List.size_toArray, List.length_cons, List.length_nil, Nat.reduceAdd, Nat.reduceSub, Array.replicate_succ, Array.replicate_zero, List.push_toArray, List.append_toArray, List.nil_append, List.cons_append]
    gi_wp2_with (refine ⟨trivial, ?_⟩; gi_at_call 71; refine (callsIn_wide.2 (each_calls a0 _)).mono ?_; rintro e w' ⟨rfl, rfl⟩)
    have bO := Boxed.new w 32 (.slice none 0 0)
    have bS := Boxed.new (w.alloc (.cells #[.slice none 0 0] 32)) 9 (.string a0)
    simp only [World.size_alloc] at bS ⊢
    have hB0 : Below w.heap.size w ((w.alloc (.cells #[.slice none 0 0] 32)).alloc (.cells #[.string a0] 9)) := ((Below.refl _ w).alloc (Nat.le_refl _) _).alloc (by simp) _
    refine wpIn_rangeFunc_cell rfl (by omega) (gf := 88) (lb := #[.pointer (some ⟨w.heap.size + 1, 0, none⟩)]) rfl trivial (enters_of Try.func88 (by kernel_rfl) rfl)
      (encs := fun x : ByteArray => #[Value.string x]) (Bc := w.heap.size + 1) (t := 9) (v0 := .string a0) (xs := linesB a0) (fun l J W hJ hJs hY hB h0 => each_in l _ a0 _ rfl hsz J hJs hY W hB h0) bS (fun _ => rfl)
      (fun pre W => (∃ v, Boxed W w.heap.size 32 v ∧ W.ownsRow (w.heap.size + 2) 9 1 v pre.length (pre.map Value.string)) ∧ Below w.heap.size w W ∧ w.heap.size + 2 ≤ W.heap.size)
      ?own ?cell ⟨⟨_, bO.alloc _, World.ownsRow_nil _ _ _ _⟩, hB0, by simp⟩
      (fun x => { tmps := #[.string a0, undef, .slice none 0 0, .pointer (some ⟨w.heap.size, 0, none⟩), .string x, .string a0, .func (.func 88) #[] #[.pointer (some ⟨w.heap.size + 1, 0, none⟩)], .string x, undef, undef, undef, undef, undef], defers := [] }) ?assign ?body ?done
    case own =>
      rintro s A B row ⟨⟨v, hv, hrow⟩, hb, hs⟩ hg hr
      have hne : ∀ (b : Nat) (cs : Array Value) (t : TypeId) (fz : Nat × Nat), A.heap[b]? = some (.cells cs t fz) → some b ≠ row := fun b cs t fz hb' e => by
        obtain ⟨_, o, ho, hc⟩ := hr b e.symm
        rw [hb'] at ho; cases ho; cases hc
      refine ⟨⟨v, hv.kept hg (hne _ _ _ _ hv), hrow.kept hg ?_⟩, hb.grown hg hb.size (fun k e => ?_), Nat.le_trans hs hg.size⟩
      · rcases hrow.2 with ⟨rfl, _⟩ | ⟨g, cap, cur, rfl, _, hgb, _⟩
        · exact .inl rfl
        · exact .inr (hne _ _ _ _ hgb)
      · have := (hr k e).1
        simp at this
        omega
    case cell =>
      rintro s W v ⟨⟨u, hu, hr⟩, hb, hs⟩
      refine ⟨⟨u, hu.other (by omega) _, hr.kept (grownBy_setCell' _ _ _) (.inr fun e => ?_)⟩, hb.setCell (p := ⟨w.heap.size + 1, 0, none⟩) (by show _ ≤ w.heap.size + 1; omega) _, by simpa using hs⟩
      have := (hr.lt _ e).1
      omega
    case assign =>
      intro l x W K hK
      gi_wp2
      exact hK
    case body =>
      rintro l pre x W ⟨post, hp⟩ ⟨⟨v, hv, hrow⟩, hB, hS⟩
      have hc := hv.cell
      have hlen : pre.length + 1 ≤ 1000000000 := by
        have h1 := linesB_len a0
        rw [← hp, List.length_append, List.length_cons] at h1
        omega
      gi_wp2_with (gi_at_builtin; refine wpListIn_append_own _ rfl _ _ 32 rfl (w.heap.size + 2) 9 i0 (.string ⟨#[]⟩) 1 16 Try.underlying32 hi hz0 hz1 hz2 rfl (by decide) _ _ _ rfl (hrow.alloc _) ⟨W.heap.size, 0, none⟩ 1 1 [.string x] rfl rfl (cell_one_new _ _ _) (by simp [Value.oneCell']) (by simp only [maxLen]; omega) (by omega) (by simp; omega) ?_; intro v' w1 hown' hgrow _; obtain ⟨g', cap', rfl⟩ := ownsRow_succ hown'; obtain ⟨hv1, hv2, hr2, hk2, hb2⟩ := hv.appended (by decide) (own_weaken hrow (show w.heap.size ≤ w.heap.size + 2 by omega)) hB.size (Nat.le_refl _) (own_weaken hown' (show w.heap.size ≤ w.heap.size + 2 by omega)) hgrow; have hc1 := hv1.cell; have hf1 := hv1.frozen)
      refine ⟨hk2, ?_, ⟨_, hv2, ?_⟩, hB.trans hb2, ?_⟩
      · intro u hu
        exact ((hu.alloc _).kept hgrow (fun e => by have := (hrow.lt _ e.symm).1; omega)).other (by omega) _
      · rw [List.length_append, List.map_append]
        exact hown'.kept (grownBy_setCell' _ _ _) (.inr fun e => by have := (hown'.lt _ e).1; omega)
      · have := hgrow.size
        simp at this ⊢
        omega
    case done =>
      rintro D W hD ⟨⟨v, hv, hrow⟩, hB, hS⟩ hK
      have hc := hv.cell
      gi_wp2
      refine ⟨by simp, .inl ⟨_, _, rfl, run_takeDeferred hK, ?_⟩⟩
      refine ⟨_, results_tmp rfl _ _ _, v, rfl, ?_, hB.trans (belowK_b (w := w) (Nat.le_refl _) W D _ _ (by simp at hD; omega) hK rfl rfl)⟩
      have hr3 := ownsRow_putObj hrow (.deferred none) hK rfl
      rw [← hr]
      exact Kd.R_of_own (own_weaken hr3 (by omega)) (fun _ _ => trivial)
  · rw [if_neg hsz] at h; cases h
end Go.Proofs.Ythimblhfjfngiaa.PText

