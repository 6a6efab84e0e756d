/- Chapter 01: what the claims share. Part 17 of 18. -/
import Derived.Test.YthimblhfjfngiaaDoorBTextP
import Derived.BigCall
import Derived.Lib.OthersKept
import Derived.Lib.Hide
namespace Go.Proofs.YthimblhfjfngiaaDoor.PText
open Go.RowKit Go.Proofs.YthimblhfjfngiaaDoorW.PrintWords Go.Proofs.YthimblhfjfngiaaDoorW.PrintLast Go.Proofs.YthimblhfjfngiaaDoorW.PrintMore
set_option linter.unusedVariables false
set_option linter.unusedSimpArgs false
/-- a builder stays where all that lay stays -/
theorem builder_kept {T e : TypeId} {B b : Nat} {bs : List Value} {W W' : World} (h : Lib.IsBuilderF T e B b bs W) (hb : Below W.heap.size W W') : Lib.IsBuilderF T e B b bs W' := by
  have one : ∀ p, Lib.BuilderAtF T e B b p bs W → Lib.BuilderAtF T e B b p bs W' := by
    rintro p ⟨hB, v, hv, hown, hne⟩
    have hlt : b < W.heap.size := (Array.getElem?_eq_some_iff.1 hv).1
    exact ⟨hB, v, (hb.block b hlt).trans hv, hown.kept (row := none) ⟨hb.os, hb.tape, hb.output, hb.size, fun k hk _ => hb.block k hk⟩ (Classical.em _), hne⟩
  rcases h with h | h
  · exact .inl (one _ h)
  · exact .inr (one _ h)
theorem heap_new (w : World) (o : Obj) : (w.alloc o).heap[w.heap.size]? = some o := by
  show (w.heap.push o)[w.heap.size]? = some o
  exact Array.getElem?_push_size
theorem heap_old {w : World} {k : Nat} {o : Obj} (h : w.heap[k]? = some o) (o' : Obj) : (w.alloc o').heap[k]? = some o := by
  have hk : k < w.heap.size := (Array.getElem?_eq_some_iff.1 h).1
  show (w.heap.push o')[k]? = some o
  rw [Array.getElem?_push, if_neg (by omega), h]
theorem add_block (a : Addr) (n : Nat) : (a.add n).block = a.block := by unfold Addr.add; split <;> rfl
theorem cell_same {w w' : World} {p : Addr} (h : w'.heap[p.block]? = w.heap[p.block]?) : w'.cell? p = w.cell? p := by unfold World.cell?; rw [h]
/-- where the row of some edits lies: a block of cells of their type, or there are none -/
theorem row_block {w : World} {B : Nat} {A : Option Addr} {c : Nat} {l : List S34} (h : Kd.R k34 34 w B (fun _ => True) (.slice A l.length c) l) :
    ∃ (g : Nat) (cs : Array Value), (l ≠ [] → A = some ⟨g, 0, none⟩) ∧ (l = [] ∨ (B ≤ g ∧ w.heap[g]? = some (.cells cs 34 (0, 0)))) := by
  by_cases hl : l = []
  · exact ⟨0, #[], fun q => absurd hl q, .inl hl⟩
  · obtain ⟨g, cap, hv, hb, _, cs, hc⟩ := Kd.R_form h (List.length_pos_iff.2 hl)
    cases hv
    exact ⟨g, cs, fun _ => rfl, .inr ⟨hb, hc⟩⟩
set_option maxHeartbeats 8000000 in
set_option maxRecDepth 100000 in
theorem text_Apply.calls (a0 : ByteArray) (A1 : Option Addr) (c1 : Nat) (l1 : List S34) (r1 : ByteArray) (r2 : Int) (w : World) (hr1 : Kd.C k34 w A1 l1.length l1) (hc1 : l1.length ≤ c1) (h : text_Apply.f a0 l1 = some (r1, r2)) :
    Calls Tryd.prog 10 #[.string a0, .slice A1 l1.length c1] w fun e w' => e = .returned (.tuple #[.string r1, .int .i64 r2]) ∧ Below w.heap.size w w' := by
  have H12 := Aside0.mk (text_Fine.calls a0 A1 c1 l1 (fineE a0.size l1) w hr1 hc1 rfl)
  have HC := Aside0.mk hr1
  have HL := Aside0.mk hc1
  clear hr1 hc1
  unfold text_Apply.f at h
  by_cases hf : fineE a0.size l1 = 0
  · rw [if_neg (by rw [hf]; decide)] at h
    rw [hf] at H12
    have CHN := Aside0.mk (fine_chain a0.size l1 hf)
    have HF := Aside0.mk hf
    clear hf
    have H32 := Aside0.mk (fun w2 (h2 : Kd.C k34 w2 A1 l1.length l1) => text_sorted.calls A1 c1 l1 (Tx.ord eltS l1) w2 h2 HL.out (by unfold text_sorted.f; rw [if_pos CHN.out.1]))
    have HH := Aside0.mk h
    clear h
    have HME := Aside0.mk (show madeE a0 l1 = Tx.ap a0.data.toList 0 ((Tx.ord eltS l1).map toE) from rfl)
    have CH := Aside0.mk CHN.out.2.2
    have HRL := Aside0.mk (Nat.le_trans (Tx.ord_len (lt := eltS) l1) CHN.out.1)
    clear CHN
    generalize Tx.ord eltS l1 = row at H32 CH HME HRL
    generalize madeE a0 l1 = M at HH HME
    have hu34 := Tryd.underlying34
    go_enter Tryd.func10, Tryd.ntmps10
    go_wp2_with (first
      | (go_at_call 12; refine H12.out.mono ?_; rintro e w2 ⟨rfl, hb⟩; have HB := Aside0.mk hb; clear hb H12)
      | (go_at_call 32; refine (H32.out _ (Kd.C_alloc (Kd.C_below HC.out HB.out) _)).mono ?_; rintro e w3 ⟨v3, rfl, ho, hb⟩; obtain ⟨A3, c3, rfl⟩ := Kd.R_slice ho; have HO := Aside0.mk ho; have HB3 := Aside0.mk hb; clear ho hb H32))
    have h0 : Lib.IsBuilderF 50 5 w2.heap.size w2.heap.size [] (w2.alloc (.cells #[.pointer none, .slice none 0 0] 50)) := Lib.IsBuilderF.of (Lib.fresh_isBuilder 50 5 w2)
    have hR := Kd.R_reads' HO.out
    obtain ⟨g, cs, hA, hg⟩ := row_block HO.out
    have hC := Aside0.mk hR.2.2
    have H1 := Aside0.mk (builder_kept h0 HB3.out)
    have HB4 : Aside0 (Below w.heap.size w w3) := ⟨((HB.out.alloc HB.out.size _).trans (HB3.out.mono (by have := HB.out.size; simp; omega)))⟩
    have HG : Aside0 (row = [] ∨ (w2.heap.size < g ∧ w3.heap[g]? = some (.cells cs 34 (0, 0)))) := ⟨hg.imp id (fun q => ⟨by have := q.1; simp at this; omega, q.2⟩)⟩
    have HA := Aside0.mk hA
    have HSZ := Aside0.mk HB3.out.size
    have HW := Aside0.mk HB.out.size
    clear h0 HB HB3 hR hg hA HO
    go_loopg [8, 20] (row.length + 1) (fun kq v8 v20 w' => ∃ (i : Nat) (p : Int) (P : List UInt8), v8 = .int .i64 p ∧ v20 = .int .i64 (i : Int) ∧ Aside0 (row.length - i < kq ∧ i ≤ row.length ∧ 0 ≤ p) ∧ Aside0 (Tx.Ch (a0.size : Int) p ((row.drop i).map toE)) ∧ Aside0 (P ++ Tx.ap a0.data.toList p ((row.drop i).map toE) = M) ∧ Aside0 (Lib.IsBuilderF 50 5 w2.heap.size w2.heap.size (Lib.byteCells P) w') ∧ Aside0 (Below w.heap.size w w') ∧ Aside0 (row = [] ∨ (w2.heap.size < g ∧ w'.heap[g]? = some (.cells cs 34 (0, 0)))) ∧ Aside0 (w2.heap.size < w'.heap.size))
    case atStart => exact ⟨0, 0, [], rfl, rfl, ⟨by omega, by omega, by omega⟩, CH, ⟨by rw [HME.out]; rfl⟩, H1, HB4, HG, ⟨by have := HSZ.out; simp at this; omega⟩⟩
    case round =>
      obtain ⟨i, p, P, rfl, rfl, HI, HC2, HP, HBu, HBe, HGe, HS⟩ := hrel
      obtain ⟨k1, rfl⟩ : ∃ k1, gk = k1 + 1 := ⟨gk - 1, by have := HI.out.1; omega⟩
      by_cases hlt : i < row.length
      · have hb : decide ((i : Int) < (row.length : Int)) = true := by simp; omega
        have hb2 : decide ((0 : Int) ≤ (i : Int)) = true := by simp
        have p0 : (0 : Int) ≤ (i : Int) := by omega
        have q0 : (i : Int) < (row.length : Int) := by omega
        obtain ⟨ad, e0, hx0, hx1, hx2⟩ := at_T34 hC.out (i : Int) p0 q0
        have hblk : ad.block = g := by
          have := HA.out (fun e => by rw [e] at hlt; cases hlt)
          rw [e0] at this; cases this; rfl
        have hgw : wr.heap[g]? = w3.heap[g]? := by
          rcases HG.out with q | q
          · rw [q] at hlt; cases hlt
          · rcases HGe.out with q2 | q2
            · rw [q2] at hlt; cases hlt
            · rw [q.2, q2.2]
        cases e0
        replace hx0 := (cell_same (w' := wr) (p := ad.add ((i : Int).toNat * 3)) (by simp only [add_block]; rw [hblk, hgw])).trans hx0
        replace hx1 := (cell_same (w' := wr) (p := ⟨(ad.add ((i : Int).toNat * 3)).block, (ad.add ((i : Int).toNat * 3)).off + 1, none⟩) (by simp only [add_block]; rw [hblk, hgw])).trans hx1
        replace hx2 := (cell_same (w' := wr) (p := ⟨(ad.add ((i : Int).toNat * 3)).block, (ad.add ((i : Int).toNat * 3)).off + 2, none⟩) (by simp only [add_block]; rw [hblk, hgw])).trans hx2
        rw [Int.toNat_natCast] at hx0 hx1 hx2
        rw [rd34_at row i hlt] at hx0 hx1 hx2
        have hd : row.drop i = row[i] :: row.drop (i + 1) := List.drop_eq_getElem_cons hlt
        have HD := Aside0.mk hd
        clear hd hgw
        generalize row[i] = x at *
        have hc := HC2.out
        rw [HD.out] at hc
        obtain ⟨hc1, hc2, hc3⟩ := hc
        replace hc1 : p ≤ x.f0 := hc1
        replace hc2 : x.f0 ≤ x.f1 := hc2
        have hc4 : x.f1 ≤ (a0.size : Int) := Tx.ch_le hc3
        have HC3 := Aside0.mk hc3
        clear hc3
        have hp0 : 0 ≤ p := HI.out.2.2
        have hf0 : x.f0 ≤ (a0.size : Int) := by omega
        have hap : P ++ (Tx.sl a0.data.toList p x.f0 ++ (toE x).x ++ Tx.ap a0.data.toList x.f1 ((row.drop (i + 1)).map toE)) = M := by
          have := HP.out
          rw [HD.out] at this
          exact this
        have HP2 := Aside0.mk hap
        have hML : M.length ≤ 140737488351232 := by
          have := HH.out
          by_cases q : M.length ≤ 140737488351232
          · exact q
          · rw [if_neg q] at this; cases this
        have hsz : P.length + ((a0.extract p.toNat x.f0.toNat).size + x.f2.size) ≤ 140737488351232 := by
          have h1 := congrArg List.length hap
          rw [List.length_append, List.length_append, List.length_append, ← ext_sl, ← size_list, toE_x, ← size_list] at h1
          omega
        have HML := Aside0.mk hML
        obtain ⟨E, hE⟩ : ∃ E, a0.extract p.toNat x.f0.toNat = E := ⟨_, rfl⟩
        rw [hE] at hsz
        have hcat : (E.size + x.f2.size ≤ 9223372036854775807) = True := eq_true (by omega)
        have hcat2 : decide (E.size + x.f2.size ≤ 9223372036854775807) = true := decide_eq_true (by omega)
        have hcat3 : (9223372036854775807 < E.size + x.f2.size) = False := eq_false (by omega)
        have HSZ2 := Aside0.mk hsz
        clear hap hsz hML hblk
        go_wp2_with fail
        go_region_held3 (fun w' => w'.cell? ⟨wr.heap.size, 0, none⟩ = some (.int .i64 x.f0) ∧ w'.cell? ⟨wr.heap.size, 1, none⟩ = some (.int .i64 x.f1) ∧ w'.cell? ⟨wr.heap.size, 2, none⟩ = some (.string x.f2))
          (first
            | go_keep
            | (refine ⟨?_, ?_, ?_⟩ <;> simp [World.cell?, HK]))
          (first | (go_at_call 33; refine (Tryd.Builder_WriteString_k w2.heap.size w2.heap.size (Lib.byteCells P) (E ++ x.f2) _ ?zb ?zl ?zs).mono ?_; (case zb => exact HBu.out.alloc _); (case zl => (rw [Lib.byteCells_length, ByteArray.size_append]; have := HSZ2.out; omega)); (case zs => (have := HS.out; simp; omega)); rintro e w4 ⟨rfl, hbu, hbel, hok⟩; have HK := hok wr.heap.size (.cells #[.int .i64 x.f0, .int .i64 x.f1, .string x.f2] 34 (0, 0)) (heap_new wr _) (by have := HS.out; intro e; have := Option.some.inj e; omega) (by intro c fz e; cases e)))
        have HB5 : Aside0 (Below w.heap.size w w4) := ⟨(HBe.out.alloc HBe.out.size _).drew.trans (hbel.mono HW.out)⟩
        have HS5 : Aside0 (w2.heap.size < w4.heap.size) := ⟨by have := hbel.size; have := HS.out; simp at *; omega⟩
        have HG5 : Aside0 (row = [] ∨ (w2.heap.size < g ∧ w4.heap[g]? = some (.cells cs 34 (0, 0)))) := ⟨HGe.out.imp id (fun q => ⟨q.1, hok g _ (heap_old q.2 _) (by intro e; have := Option.some.inj e; have := q.1; omega) (by intro c fz e; cases e)⟩)⟩
        have HBu5 : Aside0 (Lib.IsBuilderF 50 5 w2.heap.size w2.heap.size (Lib.byteCells (P ++ (E ++ x.f2).data.toList)) w4) := ⟨by
          rw [Lib.byteCells_append, ← Lib.strCells_eq]
          exact Or.inr hbu⟩
        have HP5 : Aside0 ((P ++ (E ++ x.f2).data.toList) ++ Tx.ap a0.data.toList x.f1 ((row.drop (i + 1)).map toE) = M) := ⟨by
          rw [ByteArray.data_append, Array.toList_append, ← hE, ext_sl, ← toE_x, List.append_assoc, HP2.out]⟩
        have hc1 := cell_same (w' := w4) (w := w4) (p := ⟨wr.heap.size, 1, none⟩) rfl
        have hx1' : w4.cell? ⟨wr.heap.size, 1, none⟩ = some (.int .i64 x.f1) := by simp [World.cell?, HK]
        clear hbu hbel hok HK hc1
        go_wp2_with fail
        go_roundg k1
        case measure => have := HI.out.1; omega
        case rel => exact ⟨i + 1, x.f1, P ++ (E ++ x.f2).data.toList, rfl, congrArg (Value.int .i64) (nx i (by have := HRL.out; omega)), ⟨by have := HI.out.1; omega, by omega, by omega⟩, HC3, HP5, HBu5, HB5, HG5, HS5⟩
      · have hb : decide ((i : Int) < (row.length : Int)) = false := by simp; omega
        have hp0 : 0 ≤ p := HI.out.2.2
        have hd : row.drop i = [] := List.drop_of_length_le (by omega)
        have hc := HC2.out
        rw [hd] at hc
        have hp1 : p ≤ (a0.size : Int) := hc
        have hPM : P ++ a0.data.toList.drop p.toNat = M := by
          have := HP.out
          rw [hd] at this
          exact this
        have HPM := Aside0.mk hPM
        clear hd hc hPM
        have hML : M.length ≤ 140737488351232 := by
          have := HH.out
          by_cases q : M.length ≤ 140737488351232
          · exact q
          · rw [if_neg q] at this; cases this
        have HML := Aside0.mk hML
        clear hML
        go_wp2_with fail
        refine (Tryd.Builder_WriteString_k w2.heap.size w2.heap.size (Lib.byteCells P) (a0.extract p.toNat a0.size) _ HBu.out ?_ (Nat.le_of_lt HS.out)).mono ?_
        · rw [Lib.byteCells_length, size_list, ext_end]
          have h1 := congrArg List.length HPM.out
          rw [List.length_append] at h1
          have := HML.out
          omega
        rintro e w4 ⟨rfl, hbu, hbel, -⟩
        have HB5 : Aside0 (Below w.heap.size w w4) := ⟨HBe.out.trans (hbel.mono HW.out)⟩
        have HS5 : Aside0 (w2.heap.size < w4.heap.size) := ⟨by have := hbel.size; have := HS.out; omega⟩
        have HBu5 : Aside0 (Lib.IsBuilderF 50 5 w2.heap.size w2.heap.size (Lib.byteCells M) w4) := ⟨by
          rw [← HPM.out, Lib.byteCells_append, ← ext_end, ← Lib.strCells_eq]
          exact Or.inr hbu⟩
        have HF := HH.out
        rw [if_pos HML.out] at HF
        clear hbu hbel HBu HBe
        have hlenB : (Lib.byteCells M).length = M.length := Lib.byteCells_length M
        by_cases hbig : 200000 < M.length
        · rw [if_pos hbig] at HF
          have h' := Option.some.inj HF
          have e1 : r1 = ⟨#[]⟩ := (congrArg Prod.fst h').symm
          have e2 : r2 = 2 := (congrArg Prod.snd h').symm
          clear HF h' HH
          subst e1 e2
          have hbg : decide (200000 < (M.length : Int)) = true := by simp; omega
          go_wp2_with (go_at_call 34; refine (Tryd.Builder_Len_f _ _ _ _ HBu5.out).mono ?_; rintro e w5 ⟨rfl, rfl⟩; rw [hlenB])
          go_ret2
          exact ⟨rfl, HB5.out⟩
        · rw [if_neg hbig] at HF
          have h' := Option.some.inj HF
          have e1 : r1 = ⟨M.toArray⟩ := (congrArg Prod.fst h').symm
          have e2 : r2 = 0 := (congrArg Prod.snd h').symm
          clear HF h' HH
          subst e1 e2
          have hbg : decide (200000 < (M.length : Int)) = false := by simp; omega
          go_wp2_with (first
            | (go_at_call 34; refine (Tryd.Builder_Len_f _ _ _ _ HBu5.out).mono ?_; rintro e w5 ⟨rfl, rfl⟩; rw [hlenB])
            | (go_at_call 35; refine (Tryd.Builder_String_any_k w2.heap.size w2.heap.size M _ HBu5.out (Nat.le_of_lt HS5.out)).mono ?_; rintro e w5 ⟨rfl, -, hbel, -⟩; have HB6 := Aside0.mk (HB5.out.trans (hbel.mono HW.out)); clear hbel))
          go_ret2
          exact ⟨rfl, HB6.out⟩
  · rw [if_pos hf] at h
    have h' := Option.some.inj h
    have hr : r1 = ⟨#[]⟩ ∧ r2 = fineE a0.size l1 := ⟨(congrArg Prod.fst h').symm, (congrArg Prod.snd h').symm⟩
    clear h h'
    obtain ⟨rfl, rfl⟩ := hr
    have b1 : (fineE a0.size l1 != 0) = true := by simpa using hf
    have b2 : (fineE a0.size l1 == 0) = false := by simpa using hf
    generalize fineE a0.size l1 = fe at *
    clear hf
    go_enter Tryd.func10, Tryd.ntmps10
    go_wp2_with (go_at_call 12; refine H12.out.mono ?_; rintro e w2 ⟨rfl, hb⟩; have HB := Aside0.mk hb; clear hb H12)
    go_ret2
    exact ⟨rfl, HB.out⟩
end Go.Proofs.YthimblhfjfngiaaDoor.PText

namespace Go.Proofs.YthimblhfjfngiaaDoor.PText
open Go.RowKit Go.Proofs.YthimblhfjfngiaaDoorW.PrintWords Go.Proofs.YthimblhfjfngiaaDoorW.PrintLast Go.Proofs.YthimblhfjfngiaaDoorW.PrintMore
attribute [local go_sem] max2_int min2_int max_two min_two max_three min_three max_four min_four   -- for this text's walks alone
set_option linter.unusedVariables false
set_option linter.unusedSimpArgs false

def text_Inverse.l0 : Nat → ByteArray → List (S34) → Int → List (S34) → Int → Int → Option ((List (S34)) × Int)
 | 0, _, _, _, _, _, _ => none
 | k + 1, x0, x8, x9, x23, x24, x25 => if x25 < x24 then (if 0 ≤ x25 then (if x25 < (x23.length : Int) then (if 0 ≤ ((rd_T34 x23 x25).f0) then (if ((rd_T34 x23 x25).f0) ≤ ((rd_T34 x23 x25).f1) then (if ((rd_T34 x23 x25).f1) ≤ (x0.size : Int) then (if x8.length < 4398046511104 then (text_Inverse.l0 k x0 (x8 ++ [(⟨wrap64 (((rd_T34 x23 x25).f0) + x9), wrap64 ((wrap64 (((rd_T34 x23 x25).f0) + x9)) + (((rd_T34 x23 x25).f2).size : Int)), x0.extract (((rd_T34 x23 x25).f0) : Int).toNat (((rd_T34 x23 x25).f1) : Int).toNat⟩ : S34)]) (wrap64 (x9 + (wrap64 ((((rd_T34 x23 x25).f2).size : Int) - (wrap64 (((rd_T34 x23 x25).f1) - ((rd_T34 x23 x25).f0))))))) x23 x24 (wrap64 (x25 + 1))) else (none)) else (none)) else (none)) else (none)) else (none)) else (none)) else ((text_joined.f k x8).bind fun t212 => (some (t212, 0)))
def text_Inverse.f (k : Nat) (a0 : ByteArray) (l1 : List (S34)) : Option ((List (S34)) × Int) := (text_Apply.f a0 l1).bind fun bt202 => (if bt202.2 = 0 then ((text_sorted.f l1).bind fun t204 => (text_Inverse.l0 k a0 ([] : List (S34)) 0 t204 (t204.length : Int) 0)) else (some (([] : List (S34)), bt202.2)))
def text_Inverse.T10 : Bool × List (List Nat × List Nat) := (true, [([], []), ([], []), ([], []), ([], []), ([3], [3]), ([4], [4]), ([2, 5], [2, 5]), ([], []), ([], []), ([8], [8]), ([], []), ([10], [10]), ([7, 9, 11], [7, 9, 11]), ([1, 6, 12], [1, 6, 12]), ([13], [13]), ([0, 14], [0, 14]), ([15, 15, 0, 1, 2, 3, 4, 5, 6, 7, 8, 9, 10, 11, 12, 13, 14, 15], [0, 15])])
def text_Inverse.B10 : List Nat := [0, 0, 0, 0, 8, 24, 60, 0, 0, 256, 0, 1024, 3968, 8190, 16382, 32767, 65535]
theorem text_Inverse.tab10 : rtab .any (opsOf Tryd.f14 10) = text_Inverse.T10 := by kernel_rfl
theorem text_Inverse.bits10 : waitsOk text_Inverse.T10.2 text_Inverse.B10 = true := by kernel_rfl
set_option maxHeartbeats 8000000 in
set_option maxRecDepth 100000 in
theorem text_Inverse.calls (k : Nat) (a0 : ByteArray) (A1 : Option Addr) (c1 : Nat) (l1 : List (S34)) (r1 : List (S34)) (r2 : Int) (w : World) (hr1 : Kd.C k34 w A1 l1.length l1) (hc1 : l1.length ≤ c1) (h : text_Inverse.f k a0 l1 = some (r1, r2)) :
  Calls Tryd.prog 14 #[.string a0, .slice A1 l1.length c1] w fun e w' => ∃ v0_ : Value, e = .returned (.tuple #[v0_, .int .i64 r2]) ∧ Kd.R k34 34 w' w.heap.size (fun _ => True) v0_ r1 ∧ Below w.heap.size w w' := by
 have hu34 := Tryd.underlying34
 have HR1 := Aside0.mk hr1
 have HC1 := Aside0.mk hc1
 clear hr1 hc1
 have HB := Aside0.mk (Below.refl w.heap.size w)
 have H : ((text_Apply.f a0 l1).bind fun bt202 => (if bt202.2 = 0 then ((text_sorted.f l1).bind fun t204 => (text_Inverse.l0 k a0 ([] : List (S34)) 0 t204 (t204.length : Int) 0)) else (some (([] : List (S34)), bt202.2)))) = some (r1, r2) := h
 clear h
 replace H := Option.bind_eq_some_iff.mp H
 obtain ⟨⟨t202, t203⟩, A30, H⟩ := H
 replace H : (if t203 = 0 then ((text_sorted.f l1).bind fun t204 => (text_Inverse.l0 k a0 ([] : List (S34)) 0 t204 (t204.length : Int) 0)) else (some (([] : List (S34)), t203))) = some (r1, r2) := H
 have A3 := Aside0.mk A30
 clear A30
 by_cases c4 : t203 = 0
 ·rw [if_pos c4] at H
  have c4b0 : (t203 == 0) = true := beq_iff_eq.mpr c4
  have c4b1 : (t203 != 0) = false := bne_eq_false_iff_eq.mpr c4
  clear c4
  replace H := Option.bind_eq_some_iff.mp H
  obtain ⟨t204, A50, H⟩ := H
  replace H : (text_Inverse.l0 k a0 ([] : List (S34)) 0 t204 (t204.length : Int) 0) = some (r1, r2) := H
  have A5 := Aside0.mk A50
  clear A50
  have H' := Aside0.mk H
  clear H
  go_enter Tryd.func14, Tryd.ntmps14
  go_wp2_with (first | ((with_reducible refine gate_callee (f := 10) rfl ?_); refine goesL_ (some 16) rfl rfl Tryd.func10 (by kernel_rfl) rfl #[.string a0, .slice A1 l1.length c1] rfl (by (try simp only [List.map_toArray, List.map_cons, List.map_nil]); first | done | rfl | (simp only [List.length_drop, List.length_take]; rfl)) ?_; (with_reducible refine (text_Apply.calls a0 _ _ l1 t202 t203 _ ?side1 ?side2 A3.out).mono ?_); (case side1 => repeat (first | exact HR1.out | (with_reducible refine Kd.C_alloc ?_ _) | (with_reducible refine Kd.C_drewN ?_ _) | (with_reducible refine Kd.C_drew ?_))); (case side2 => exact HC1.out); rintro e w6 ⟨rfl, hb⟩; refine ⟨_, rfl, ?_⟩; have n0_ := Aside0.mk (below_step (by repeat (first | (with_reducible first | exact HB.out | apply below_alloc | apply pw_below_drewN | apply below_drew1) | exact HB.out)) hb); clear HB; have HB := n0_; clear n0_; (try clear hb); (try clear hb2); (try clear hk); (try clear hi)) | ((with_reducible refine gate_callee (f := 32) rfl ?_); refine goesL_ (some 23) rfl rfl Tryd.func32 (by kernel_rfl) rfl #[.slice A1 l1.length c1] rfl (by (try simp only [List.map_toArray, List.map_cons, List.map_nil]); first | done | rfl | (simp only [List.length_drop, List.length_take]; rfl)) ?_; (with_reducible refine (text_sorted.calls _ _ l1 t204 _ ?side1 ?side2 A5.out).mono ?_); (case side1 => repeat (first | exact (Kd.C_below HR1.out HB.out) | (with_reducible refine Kd.C_alloc ?_ _) | (with_reducible refine Kd.C_drewN ?_ _) | (with_reducible refine Kd.C_drew ?_))); (case side2 => exact HC1.out); rintro e w7 ⟨v205, rfl, ho0, hb⟩; refine ⟨_, rfl, ?_⟩; have n0_ := Aside0.mk (Kd.R_lower ho0 (below_size (by repeat (first | (with_reducible first | exact HB.out | apply below_alloc | apply pw_below_drewN | apply below_drew1) | exact HB.out)))); have n1_ := Aside0.mk (below_step (by repeat (first | (with_reducible first | exact HB.out | apply below_alloc | apply pw_below_drewN | apply below_drew1) | exact HB.out)) hb); clear HB; have HO206 := n0_; have HB := n1_; clear n0_ n1_; (try clear hb); (try clear hb2); (try clear hk); (try clear hi); (try clear ho0); obtain ⟨Ao8, co8, eo8⟩ := Kd.R_slice HO206.out; subst eo8))
  try simp only [Act.put, List.setIfInBounds_toArray, List.set_cons_succ, List.set_cons_zero]
  go_loopg [8, 9, 25] k (fun kq v8 v9 v25 w' => ∃ (x8_1 : List (S34)) (x9_1 : Int) (x25_1 : Int), v9 = .int .i64 x9_1 ∧ v25 = .int .i64 x25_1 ∧ Aside0 (text_Inverse.l0 kq a0 x8_1 x9_1 t204 (t204.length : Int) x25_1 = some (r1, r2)) ∧ Aside0 (kq ≤ k) ∧ Aside0 (Kd.R k34 34 w' w.heap.size (fun k_ => some k_ ≠ ((.slice Ao8 t204.length co8) : Value).ownBlock) v8 x8_1) ∧ Aside0 (Kd.R k34 34 w' w.heap.size (fun k_ => some k_ ≠ (v8 : Value).ownBlock) (.slice Ao8 t204.length co8) t204) ∧ Aside0 (Below w.heap.size w w'))
  case atStart => exact ⟨(([] : List (S34))), (0), (0), (by first | rfl | (simp; done) | (simp [*]; done)), (by first | rfl | (simp; done) | (simp [*]; done)), H', ⟨Nat.le_refl _⟩, ⟨by first | exact Kd.R_nil _ _ _ _ _ | exact Kd.N_nil _ _ _ _ _ | exact Kd.V_nil _ _ _ _ _ | exact Kd.Q_nil _ _ _ _ _ | exact Kd.S_nil _ _ _ _ _⟩, ⟨by (with_reducible repeat (first | apply Kd.R_alloc | apply Kd.R_drewN | apply Kd.R_drew)); exact Kd.R_mono HO206.out (fun _ hk => (by simp [Value.ownBlock]))⟩, ⟨by repeat (first | (with_reducible first | exact HB.out | apply below_alloc | apply pw_below_drewN | apply below_drew1) | exact HB.out)⟩⟩
  case round =>
   clear H'
   try clear c1
   try clear p2
   try clear c3
   try clear c4
   try clear c4b0
   try clear c4b1
   obtain ⟨x8_1, x9_1, x25_1, rfl, rfl, HA, HK1, HO_8, HO_23, HB⟩ := hrel
   cases gk with
   | zero => exact absurd HA.out (by simp [text_Inverse.l0])
   | succ k1 =>
    have H := HA.out
    clear HA
    simp only [text_Inverse.l0] at H
    by_cases c9 : x25_1 < (t204.length : Int)
    ·rw [if_pos c9] at H
     have c9b0 : decide (x25_1 < (t204.length : Int)) = true := decide_eq_true c9
     clear c9
     by_cases c10 : 0 ≤ x25_1
     ·rw [if_pos c10] at H
      have c10b0 : decide (0 ≤ x25_1) = true := decide_eq_true c10
      clear c10
      by_cases c11 : x25_1 < (t204.length : Int)
      ·rw [if_pos c11] at H
       have c11b0 : decide (x25_1 < (t204.length : Int)) = true := decide_eq_true c11
       clear c11
       by_cases c12 : 0 ≤ ((rd_T34 t204 x25_1).f0)
       ·rw [if_pos c12] at H
        have c12b0 := eq_true c12
        have c12b1 : decide (0 ≤ ((rd_T34 t204 x25_1).f0)) = true := decide_eq_true c12
        clear c12
        by_cases c13 : ((rd_T34 t204 x25_1).f0) ≤ ((rd_T34 t204 x25_1).f1)
        ·rw [if_pos c13] at H
         have c13b0 := eq_true c13
         have c13b1 : decide (((rd_T34 t204 x25_1).f0) ≤ ((rd_T34 t204 x25_1).f1)) = true := decide_eq_true c13
         clear c13
         by_cases c14 : ((rd_T34 t204 x25_1).f1) ≤ (a0.size : Int)
         ·rw [if_pos c14] at H
          have c14b0 := eq_true c14
          have c14b1 : decide (((rd_T34 t204 x25_1).f1) ≤ (a0.size : Int)) = true := decide_eq_true c14
          clear c14
          by_cases c15 : x8_1.length < 4398046511104
          ·rw [if_pos c15] at H
           have LMc15 := Aside0.mk c15
           clear c15
           obtain ⟨y209, hy209⟩ : ∃ y_ : List (S34), y_ = (x8_1 ++ [(⟨wrap64 (((rd_T34 t204 x25_1).f0) + x9_1), wrap64 ((wrap64 (((rd_T34 t204 x25_1).f0) + x9_1)) + (((rd_T34 t204 x25_1).f2).size : Int)), a0.extract (((rd_T34 t204 x25_1).f0) : Int).toNat (((rd_T34 t204 x25_1).f1) : Int).toNat⟩ : S34)]) := ⟨_, rfl⟩
           replace H : (text_Inverse.l0 k1 a0 y209 (wrap64 (x9_1 + (wrap64 ((((rd_T34 t204 x25_1).f2).size : Int) - (wrap64 (((rd_T34 t204 x25_1).f1) - ((rd_T34 t204 x25_1).f0))))))) t204 (t204.length : Int) (wrap64 (x25_1 + 1))) = some (r1, r2) := by first | (rw [hy209]; with_reducible exact H) | (have H2_ := (Option.bind_some _ _).symm.trans H; rw [hy209]; with_reducible exact H2_) | (have H2_ := (Option.bind_some _ _).symm.trans H; with_reducible exact H2_) | with_reducible exact H | (rw [hy209]; exact H) | exact H
           have Ny209 := Aside0.mk hy209
           clear hy209
           have H' := Aside0.mk H
           clear H
           have p207 : 0 ≤ (x25_1 : Int) := of_decide_eq_true (by first | (with_reducible assumption) | assumption)
           have q207 : x25_1 < (t204.length : Int) := of_decide_eq_true (by first | (with_reducible assumption) | assumption)
           obtain ⟨ad207, e207, hx207_0, hx207_1, hx207_2⟩ := at_T34 (Kd.R_reads' HO_23.out).2.2 x25_1 p207 q207
           cases e207
           replace p207 := eq_true p207
           replace q207 := eq_true q207
           try go_wp2_with (first | ((with_reducible refine gate_dst (N := 11) rfl ?_); refine box_event ?hg (N := 11) ?hd (cs := #[.int .i64 0, .int .i64 0, .string (⟨#[]⟩ : ByteArray)]) (t := 34) ?hr ?_; (case hd => rfl); (case hg => rfl); (case hr => first | (go_simp; done) | (go_simp; rfl)); intro gb208 hg w16 hbox hb; have n0_ := Aside0.mk (Kd.R_below (Kd.R_elderB (by (with_reducible repeat (first | apply Kd.R_alloc | apply Kd.R_drewN | apply Kd.R_drew)); exact HO_8.out) gb208 (Nat.le_of_eq hg.symm)) hb); have n1_ := Aside0.mk (Kd.R_below (Kd.R_elderB (by (with_reducible repeat (first | apply Kd.R_alloc | apply Kd.R_drewN | apply Kd.R_drew)); exact HO_23.out) gb208 (Nat.le_of_eq hg.symm)) hb); have n2_ := Aside0.mk (below_step (by repeat (first | (with_reducible first | exact HB.out | apply below_alloc | apply pw_below_drewN | apply below_drew1) | exact HB.out)) hb); have n3_ := Aside0.mk (hbox); have n4_ := Aside0.mk ((by rw [hg]; exact (below_size (by repeat (first | (with_reducible first | exact HB.out | apply below_alloc | apply pw_below_drewN | apply below_drew1) | exact HB.out))) : w.heap.size ≤ gb208)); have n5_ := Aside0.mk ((by rw [hg]; exact (below_size (by repeat (first | (with_reducible first | exact HB.out | apply below_alloc | apply pw_below_drewN | apply below_drew1) | exact HB.out))) : w.heap.size ≤ gb208)); clear HO_8; clear HO_23; clear HB; have HO_8 := n0_; have HO_23 := n1_; have HB := n2_; have BK208 := n3_; have GW208 := n4_; have GE208 := n5_; clear n0_ n1_ n2_ n3_ n4_ n5_; clear hb hbox hg; have hcz17_0 : w16.cell? ⟨gb208, 0, none⟩ = some (.int .i64 0) := (blk_cell BK208.out 0).trans rfl; have hcz17_1 : w16.cell? ⟨gb208, 1, none⟩ = some (.int .i64 0) := (blk_cell BK208.out 1).trans rfl; have hcz17_2 : w16.cell? ⟨gb208, 2, none⟩ = some (.string (⟨#[]⟩ : ByteArray)) := (blk_cell BK208.out 2).trans rfl; have hfz17_0 := blk_frozen BK208.out 0; have hfz17_1 := blk_frozen BK208.out 1; have hfz17_2 := blk_frozen BK208.out 2))
           have n0_ : Aside0 (Kd.R k34 34 (((w16.setCell ⟨gb208, 0, none⟩ (.int .i64 ((rd_T34 t204 x25_1).f0))).setCell ⟨gb208, 1, none⟩ (.int .i64 ((rd_T34 t204 x25_1).f1))).setCell ⟨gb208, 2, none⟩ (.string ((rd_T34 t204 x25_1).f2))) w.heap.size (fun k_ => some k_ ≠ (.slice (some ad207) t204.length co8 : Value).ownBlock ∧ k_ ≠ gb208) u8 x8_1) := ⟨by (with_reducible repeat (first | apply Kd.R_alloc | apply Kd.R_drewN | apply Kd.R_drew)); exact Kd.R_mono (Kd.R_far (p := ⟨gb208, 2, none⟩) (Kd.R_far (p := ⟨gb208, 1, none⟩) (Kd.R_far (p := ⟨gb208, 0, none⟩) (Kd.R_mono HO_8.out (fun k_ hk => (⟨hk, hk.2⟩ : _ ∧ k_ ≠ gb208))) (fun _ hk => hk.2) (.int .i64 ((rd_T34 t204 x25_1).f0))) (fun _ hk => hk.2) (.int .i64 ((rd_T34 t204 x25_1).f1))) (fun _ hk => hk.2) (.string ((rd_T34 t204 x25_1).f2))) (fun _ hk => ⟨hk.1.1, hk.1.2⟩)⟩
           have n1_ : Aside0 (Kd.R k34 34 (((w16.setCell ⟨gb208, 0, none⟩ (.int .i64 ((rd_T34 t204 x25_1).f0))).setCell ⟨gb208, 1, none⟩ (.int .i64 ((rd_T34 t204 x25_1).f1))).setCell ⟨gb208, 2, none⟩ (.string ((rd_T34 t204 x25_1).f2))) w.heap.size (fun k_ => some k_ ≠ (u8 : Value).ownBlock ∧ k_ ≠ gb208) (.slice (some ad207) t204.length co8) t204) := ⟨by (with_reducible repeat (first | apply Kd.R_alloc | apply Kd.R_drewN | apply Kd.R_drew)); exact Kd.R_mono (Kd.R_far (p := ⟨gb208, 2, none⟩) (Kd.R_far (p := ⟨gb208, 1, none⟩) (Kd.R_far (p := ⟨gb208, 0, none⟩) (Kd.R_mono HO_23.out (fun k_ hk => (⟨hk, hk.2⟩ : _ ∧ k_ ≠ gb208))) (fun _ hk => hk.2) (.int .i64 ((rd_T34 t204 x25_1).f0))) (fun _ hk => hk.2) (.int .i64 ((rd_T34 t204 x25_1).f1))) (fun _ hk => hk.2) (.string ((rd_T34 t204 x25_1).f2))) (fun _ hk => ⟨hk.1.1, hk.1.2⟩)⟩
           have n2_ : Aside0 ((((w16.setCell ⟨gb208, 0, none⟩ (.int .i64 ((rd_T34 t204 x25_1).f0))).setCell ⟨gb208, 1, none⟩ (.int .i64 ((rd_T34 t204 x25_1).f1))).setCell ⟨gb208, 2, none⟩ (.string ((rd_T34 t204 x25_1).f2))).heap[gb208]? = some (.cells #[.int .i64 ((rd_T34 t204 x25_1).f0), .int .i64 ((rd_T34 t204 x25_1).f1), .string ((rd_T34 t204 x25_1).f2)] 34 (0, 0))) := ⟨by (with_reducible repeat (first | refine blk_drewN ?_ _ | refine blk_drew ?_ | refine blk_alloc ?_ _)); refine blk_put (cs := #[.int .i64 ((rd_T34 t204 x25_1).f0), .int .i64 ((rd_T34 t204 x25_1).f1), .string (⟨#[]⟩ : ByteArray)]) ?_ 2 _ rfl; (with_reducible repeat (first | refine blk_drewN ?_ _ | refine blk_drew ?_ | refine blk_alloc ?_ _)); refine blk_put (cs := #[.int .i64 ((rd_T34 t204 x25_1).f0), .int .i64 0, .string (⟨#[]⟩ : ByteArray)]) ?_ 1 _ rfl; (with_reducible repeat (first | refine blk_drewN ?_ _ | refine blk_drew ?_ | refine blk_alloc ?_ _)); refine blk_put (cs := #[.int .i64 0, .int .i64 0, .string (⟨#[]⟩ : ByteArray)]) ?_ 0 _ rfl; (with_reducible repeat (first | refine blk_drewN ?_ _ | refine blk_drew ?_ | refine blk_alloc ?_ _)); exact BK208.out⟩
           have n3_ : Aside0 (Below w.heap.size w (((w16.setCell ⟨gb208, 0, none⟩ (.int .i64 ((rd_T34 t204 x25_1).f0))).setCell ⟨gb208, 1, none⟩ (.int .i64 ((rd_T34 t204 x25_1).f1))).setCell ⟨gb208, 2, none⟩ (.string ((rd_T34 t204 x25_1).f2)))) := ⟨by repeat (first | (with_reducible first | exact HB.out | apply below_alloc | apply pw_below_drewN | apply below_drew1 | refine below_set ?_ GE208.out) | exact HB.out)⟩
           (try clear HO_8)
           (try clear HO_23)
           (try clear BK208)
           (try clear HB)
           generalize (((w16.setCell ⟨gb208, 0, none⟩ (.int .i64 ((rd_T34 t204 x25_1).f0))).setCell ⟨gb208, 1, none⟩ (.int .i64 ((rd_T34 t204 x25_1).f1))).setCell ⟨gb208, 2, none⟩ (.string ((rd_T34 t204 x25_1).f2))) = w18 at n0_ n1_ n2_ n3_ ⊢
           have HO_8 := n0_
           have HO_23 := n1_
           have BK208 := n2_
           have HB := n3_
           clear n0_ n1_ n2_ n3_
           have n0_ := Aside0.mk (Kd.R_drew HO_8.out)
           have n1_ := Aside0.mk (Kd.R_drew HO_23.out)
           have n2_ := Aside0.mk (blk_drew BK208.out)
           have n3_ := Aside0.mk (below_drew1 HB.out)
           clear HO_8
           clear HO_23
           clear BK208
           clear HB
           have HO_8 := n0_
           have HO_23 := n1_
           have BK208 := n2_
           have HB := n3_
           clear n0_ n1_ n2_ n3_
           refine start_ (n := 17) (S := fun w' => w'.cell? ⟨gb208, 0, none⟩ = some (.int .i64 ((rd_T34 t204 x25_1).f0)) ∧ w'.cell? ⟨gb208, 1, none⟩ = some (.int .i64 ((rd_T34 t204 x25_1).f1)) ∧ w'.cell? ⟨gb208, 2, none⟩ = some (.string ((rd_T34 t204 x25_1).f2))) (ds := []) (bA 17 0) (by kernel_rfl) rfl rfl ⟨(blk_cell BK208.out 0).trans rfl, (blk_cell BK208.out 1).trans rfl, (blk_cell BK208.out 2).trans rfl⟩ (fun hHeld => ?_); refine with_tabW text_Inverse.tab10 text_Inverse.bits10 (fun HT_ HW_ => ?_)
           generalize w18.drew = w19 at HO_8 HO_23 BK208 HB hHeld ⊢
           refine pu_ 0 33 (bA 17 1) HT_ ?_
           refine pu_ 1 34 (bA 17 3) HT_ ?_
           refine pu_ 2 35 (bA 17 7) HT_ ?_
           refine pu_ 3 36 (bA 17 15) HT_ ?_
           refine pu_ 7 40 (bA 17 143) HT_ ?_
           refine pu_ 8 41 (bA 17 399) HT_ ?_
           refine pu_ 10 43 (bA 17 1423) HT_ ?_
           refine tk_ 4 37 (bA 17 1439) rfl HT_ HW_ hHeld (by rintro w' ⟨s0, s1, s2⟩; go_simp; with_reducible rfl) ?_
           refine pu_ 5 38 (bA 17 1471) HT_ ?_
           refine pu_ 6 39 (bA 17 1535) HT_ ?_
           refine tk_ 9 42 (bA 17 2047) rfl HT_ HW_ hHeld (by rintro w' ⟨s0, s1, s2⟩; go_simp; with_reducible rfl) ?_
           refine tk_ 11 44 (bA 17 4095) rfl HT_ HW_ hHeld (by rintro w' ⟨s0, s1, s2⟩; go_simp; with_reducible rfl) ?_
           refine pu_ 12 45 (bA 17 8191) HT_ ?_
           refine pu_ 13 46 (bA 17 16383) HT_ ?_
           refine one_ (i := 14) (N := some 47) (bA 17 32767) rfl rfl (one_of HT_.out (by kernel_rfl)) (by decide) (fun K hK => ?_)
           refine value_ (w1 := ?_) (v := ?_) (by rfl) rfl ?_ ?_
           rotate_left 2
           ·go_simp
            constructor
            ·rfl
            ·rfl
           refine hK.out _ _ ⟨(blk_cell (blk_alloc BK208.out _) 0).trans rfl, (blk_cell (blk_alloc BK208.out _) 1).trans rfl, (blk_cell (blk_alloc BK208.out _) 2).trans rfl⟩ (fun hHeld => ?_)
           clear hK K
           refine norm_ (a' := ?_) ?_ ?_
           rotate_left
           ·show Act.put _ (some 47) _ = _
            simp only [Act.put, q1_, q2_, q3_, i64_w, i32_w]
            rfl
           refine one_ (i := 15) (N := some 48) (bA 17 65535) rfl rfl (one_of HT_.out (by kernel_rfl)) (by decide) (fun K hK => ?_)
           refine Kd.R_append_step k34 (w0 := w) w.heap.size (by rfl) (.tmp 33) (.tmp 47) 22 34 (.agg #[(.int .i64 0), (.int .i64 0), (.string ⟨#[]⟩)]) 32 rfl Tryd.underlying22 info34 rfl (by decide) (by omega) u8 x8_1 (⟨wrap64 (((rd_T34 t204 x25_1).f0) + x9_1), wrap64 ((wrap64 (((rd_T34 t204 x25_1).f0) + x9_1)) + (((rd_T34 t204 x25_1).f2).size : Int)), a0.extract (((rd_T34 t204 x25_1).f0) : Int).toNat (((rd_T34 t204 x25_1).f1) : Int).toNat⟩ : S34) [.int .i64 (wrap64 (((rd_T34 t204 x25_1).f0) + x9_1)), .int .i64 (wrap64 ((wrap64 (((rd_T34 t204 x25_1).f0) + x9_1)) + (((rd_T34 t204 x25_1).f2).size : Int))), .string (a0.extract (((rd_T34 t204 x25_1).f0) : Int).toNat (((rd_T34 t204 x25_1).f1) : Int).toNat)] (fun k_ => some k_ ≠ (.slice (some ad207) t204.length co8 : Value).ownBlock ∧ k_ ≠ gb208) (fun _ => False) rfl rfl ?aP (fun _ hk => hk.elim) ?aF ?aO ?aB ?aS ?aL ?_
           (case aP => exact k34_mkM _ _ _ (⟨wrap64 (((rd_T34 t204 x25_1).f0) + x9_1), wrap64 ((wrap64 (((rd_T34 t204 x25_1).f0) + x9_1)) + (((rd_T34 t204 x25_1).f2).size : Int)), a0.extract (((rd_T34 t204 x25_1).f0) : Int).toNat (((rd_T34 t204 x25_1).f1) : Int).toNat⟩ : S34))
           (case aB => exact (by repeat (first | (with_reducible first | exact HB.out | apply below_alloc | apply pw_below_drewN | apply below_drew1 | refine below_set ?_ GE208.out) | exact HB.out)))
           (case aF => exact (fun k_ hk => ⟨Kd.fresh' (Kd.R_lt (by (with_reducible repeat (first | apply Kd.R_alloc | apply Kd.R_drewN | apply Kd.R_drew)); exact HO_23.out)) k_ hk, Kd.freshB (g := gb208) (o := .cells #[.int .i64 ((rd_T34 t204 x25_1).f0), .int .i64 ((rd_T34 t204 x25_1).f1), .string ((rd_T34 t204 x25_1).f2)] 34 (0, 0)) (by (with_reducible repeat (first | refine blk_drewN ?_ _ | refine blk_drew ?_ | refine blk_alloc ?_ _)); exact BK208.out) k_ hk⟩))
           (case aO => exact (by (with_reducible repeat (first | apply Kd.R_alloc | apply Kd.R_drewN | apply Kd.R_drew)); exact HO_8.out))
           (case aS => exact (below_size (by repeat (first | (with_reducible first | exact HB.out | apply below_alloc | apply pw_below_drewN | apply below_drew1 | refine below_set ?_ GE208.out) | exact HB.out))))
           (case aL => have := LMc15.out; omega)
           intro v210 w20 ho hb hg hat
           rw [← Ny209.out] at ho
           have n0_ := Aside0.mk (Kd.R_after (ok := (fun k_ => k_ ≠ gb208)) (by (with_reducible repeat (first | apply Kd.R_alloc | apply Kd.R_drewN | apply Kd.R_drew)); exact Kd.R_mono HO_23.out (fun _ hk => ⟨hk.2, hk.1⟩)) hg hat)
           have n1_ := Aside0.mk (blk_grown (g := gb208) (o := .cells #[.int .i64 ((rd_T34 t204 x25_1).f0), .int .i64 ((rd_T34 t204 x25_1).f1), .string ((rd_T34 t204 x25_1).f2)] 34 (0, 0)) (by (with_reducible repeat (first | refine blk_drewN ?_ _ | refine blk_drew ?_ | refine blk_alloc ?_ _)); exact BK208.out) hg (Kd.R_away HO_8.out (fun _ hk => hk.2)))
           have n2_ := Aside0.mk (hb)
           have n3_ := Aside0.mk (ho)
           clear HO_23
           clear BK208
           clear HB
           clear HO_8
           have HO_23 := n0_
           have BK208 := n1_
           have HB := n2_
           have HO211 := n3_
           clear n0_ n1_ n2_ n3_
           clear ho hb hg hat
           refine hK.out _ _ ⟨(blk_cell BK208.out 0).trans rfl, (blk_cell BK208.out 1).trans rfl, (blk_cell BK208.out 2).trans rfl⟩ (fun hHeld => ?_)
           clear hK K
           refine norm_ (a' := ?_) ?_ ?_
           rotate_left
           ·show Act.put _ (some 48) _ = _
            simp only [Act.put, q1_, q2_, q3_, i64_w, i32_w]
            rfl
           refine pu_ 16 8 (bA 17 131071) HT_ ?_
           refine done_ (done_of HT_.out (by kernel_rfl)) ?_
           have hcz21_0 : w20.cell? ⟨gb208, 0, none⟩ = some (.int .i64 ((rd_T34 t204 x25_1).f0)) := (blk_cell BK208.out 0).trans rfl
           have hcz21_1 : w20.cell? ⟨gb208, 1, none⟩ = some (.int .i64 ((rd_T34 t204 x25_1).f1)) := (blk_cell BK208.out 1).trans rfl
           have hcz21_2 : w20.cell? ⟨gb208, 2, none⟩ = some (.string ((rd_T34 t204 x25_1).f2)) := (blk_cell BK208.out 2).trans rfl
           have hfz21_0 := blk_frozen BK208.out 0
           have hfz21_1 := blk_frozen BK208.out 1
           have hfz21_2 := blk_frozen BK208.out 2
           try go_wp2
           go_roundg k1
           case measure => have := HK1.out; omega
           case rel => exact ⟨(y209), (wrap64 (x9_1 + (wrap64 ((((rd_T34 t204 x25_1).f2).size : Int) - (wrap64 (((rd_T34 t204 x25_1).f1) - ((rd_T34 t204 x25_1).f0))))))), (wrap64 (x25_1 + 1)), (by first | rfl | (simp; done) | (simp [*]; done)), (by first | rfl | (simp; done) | (simp [*]; done)), H', ⟨by have := HK1.out; omega⟩, ⟨by (with_reducible repeat (first | apply Kd.R_alloc | apply Kd.R_drewN | apply Kd.R_drew)); exact Kd.R_mono HO211.out (fun _ hk => hk.1)⟩, ⟨by (with_reducible repeat (first | apply Kd.R_alloc | apply Kd.R_drewN | apply Kd.R_drew)); exact Kd.R_mono HO_23.out (fun _ hk => hk.2)⟩, ⟨by repeat (first | (with_reducible first | exact HB.out | apply below_alloc | apply pw_below_drewN | apply below_drew1 | refine below_set ?_ GE208.out) | exact HB.out)⟩⟩
          ·rw [if_neg c15] at H
           exact absurd H (by simp)
         ·rw [if_neg c14] at H
          exact absurd H (by simp)
        ·rw [if_neg c13] at H
         exact absurd H (by simp)
       ·rw [if_neg c12] at H
        exact absurd H (by simp)
      ·rw [if_neg c11] at H
       exact absurd H (by simp)
     ·rw [if_neg c10] at H
      exact absurd H (by simp)
    ·rw [if_neg c9] at H
     have c9b0 : decide (x25_1 < (t204.length : Int)) = false := decide_eq_false c9
     clear c9
     replace H := Option.bind_eq_some_iff.mp H
     obtain ⟨t212, A220, H⟩ := H
     replace H : (some (t212, 0)) = some (r1, r2) := H
     have A22 := Aside0.mk A220
     clear A220
     simp only [Option.some.injEq, Prod.mk.injEq] at H
     obtain ⟨rfl, rfl⟩ := H
     obtain ⟨Ao23, co23, eo23⟩ := Kd.R_slice HO_8.out
     subst eo23
     go_wp2_with (first | ((with_reducible refine gate_callee (f := 41) rfl ?_); refine goesL_ (some 62) rfl rfl Tryd.func41 (by kernel_rfl) rfl #[.slice Ao23 x8_1.length co23] rfl (by (try simp only [List.map_toArray, List.map_cons, List.map_nil]); first | done | rfl | (simp only [List.length_drop, List.length_take]; rfl)) ?_; (with_reducible refine (text_joined.calls k1 _ _ x8_1 t212 _ ?side1 ?side2 A22.out).mono ?_); (case side1 => repeat (first | exact (Kd.R_reads' HO_8.out).2.2 | (with_reducible refine Kd.C_alloc ?_ _) | (with_reducible refine Kd.C_drewN ?_ _) | (with_reducible refine Kd.C_drew ?_))); (case side2 => exact (Kd.R_reads' HO_8.out).2.1); rintro e w24 ⟨v213, rfl, ho0, hb⟩; refine ⟨_, rfl, ?_⟩; have n0_ := Aside0.mk (Kd.R_elder' (by (with_reducible repeat (first | apply Kd.R_alloc | apply Kd.R_drewN | apply Kd.R_drew)); exact HO_8.out) (Kd.R_base ho0) hb); have n1_ := Aside0.mk (Kd.R_elder' (by (with_reducible repeat (first | apply Kd.R_alloc | apply Kd.R_drewN | apply Kd.R_drew)); exact HO_23.out) (Kd.R_base ho0) hb); have n2_ := Aside0.mk (Kd.R_lower (Kd.R_new' (Kd.R_new' ho0 (Kd.R_lt (by (with_reducible repeat (first | apply Kd.R_alloc | apply Kd.R_drewN | apply Kd.R_drew)); exact HO_8.out))) (Kd.R_lt (by (with_reducible repeat (first | apply Kd.R_alloc | apply Kd.R_drewN | apply Kd.R_drew)); exact HO_23.out))) (below_size (by repeat (first | (with_reducible first | exact HB.out | apply below_alloc | apply pw_below_drewN | apply below_drew1) | exact HB.out)))); have n3_ := Aside0.mk (below_step (by repeat (first | (with_reducible first | exact HB.out | apply below_alloc | apply pw_below_drewN | apply below_drew1) | exact HB.out)) hb); clear HO_8; clear HO_23; clear HB; have HO_8 := n0_; have HO_23 := n1_; have HO214 := n2_; have HB := n3_; clear n0_ n1_ n2_ n3_; (try clear hb); (try clear hb2); (try clear hk); (try clear hi); (try clear ho0)))
     go_ret2
     exact ⟨_, by first | rfl | (simp [errW_none, errW_some] <;> rfl) | (simp [*, errW_none, errW_some] <;> rfl), by (with_reducible repeat (first | apply Kd.R_alloc | apply Kd.R_drewN | apply Kd.R_drew)); exact Kd.R_mono HO214.out (fun _ hk => trivial), by repeat (first | (with_reducible first | exact HB.out | apply below_alloc | apply pw_below_drewN | apply below_drew1) | exact HB.out)⟩
 ·rw [if_neg c4] at H
  have c4b0 : (t203 == 0) = false := beq_eq_false_iff_ne.mpr c4
  have c4b1 : (t203 != 0) = true := bne_iff_ne.mpr c4
  simp only [Option.some.injEq, Prod.mk.injEq] at H
  obtain ⟨rfl, rfl⟩ := H
  go_enter Tryd.func14, Tryd.ntmps14
  go_wp2_with (first | ((with_reducible refine gate_callee (f := 10) rfl ?_); refine goesL_ (some 16) rfl rfl Tryd.func10 (by kernel_rfl) rfl #[.string a0, .slice A1 l1.length c1] rfl (by (try simp only [List.map_toArray, List.map_cons, List.map_nil]); first | done | rfl | (simp only [List.length_drop, List.length_take]; rfl)) ?_; (with_reducible refine (text_Apply.calls a0 _ _ l1 t202 t203 _ ?side1 ?side2 A3.out).mono ?_); (case side1 => repeat (first | exact HR1.out | (with_reducible refine Kd.C_alloc ?_ _) | (with_reducible refine Kd.C_drewN ?_ _) | (with_reducible refine Kd.C_drew ?_))); (case side2 => exact HC1.out); rintro e w25 ⟨rfl, hb⟩; refine ⟨_, rfl, ?_⟩; have n0_ := Aside0.mk (below_step (by repeat (first | (with_reducible first | exact HB.out | apply below_alloc | apply pw_below_drewN | apply below_drew1) | exact HB.out)) hb); clear HB; have HB := n0_; clear n0_; (try clear hb); (try clear hb2); (try clear hk); (try clear hi)))
  go_ret2
  exact ⟨_, by first | rfl | (simp [errW_none, errW_some] <;> rfl) | (simp [*, errW_none, errW_some] <;> rfl), by first | exact Kd.R_nil _ _ _ _ _ | exact Kd.N_nil _ _ _ _ _ | exact Kd.V_nil _ _ _ _ _ | exact Kd.Q_nil _ _ _ _ _ | exact Kd.S_nil _ _ _ _ _, by repeat (first | (with_reducible first | exact HB.out | apply below_alloc | apply pw_below_drewN | apply below_drew1) | exact HB.out)⟩

end Go.Proofs.YthimblhfjfngiaaDoor.PText

