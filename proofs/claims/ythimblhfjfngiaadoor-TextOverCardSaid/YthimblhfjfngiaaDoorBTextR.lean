/- Chapter 01: what the claims share. Part 18 of 18. -/
import Derived.Test.YthimblhfjfngiaaDoorBTextQ
import Derived.Shelf.Abstract
import Derived.OwnWalkIn
import Derived.TacticsInMore
import Derived.LoopNIn
import Derived.LoopIn
import Derived.Lib.IndexLaws
namespace Go.Proofs.YthimblhfjfngiaaDoor.PText
open Go.RowKit Go.Shelf Go.Proofs.YthimblhfjfngiaaDoorW.PrintWords Go.Proofs.YthimblhfjfngiaaDoorW.PrintLast Go.Proofs.YthimblhfjfngiaaDoorW.PrintMore
set_option linter.unusedVariables false
set_option linter.unusedSimpArgs false
attribute [local go_sem] Oper.semAt_some
def linesB (s : ByteArray) : List ByteArray := (Tx.lines s.data.toList).map fun l => ⟨l.toArray⟩
def text_Lines.f (s : ByteArray) : Option (List ByteArray) := if s.size ≤ 1000000000 then some (linesB s) else none
/-- where the first line of a text ends -/
def lineEnd (s : ByteArray) : Nat := if Lib.indexByte s.data.toList 10 + 1 = 0 then s.size else (Lib.indexByte s.data.toList 10 + 1).toNat
theorem bytes_list {l : List UInt8} {i : Nat} (h : l[i]? = some 10) (k : ∀ j, j < i → l[j]? ≠ some 10) : ∃ a r, l = a ++ 10 :: r ∧ a.length = i ∧ (10 : UInt8) ∉ a := by
  have hlt : i < l.length := by
    rcases Nat.lt_or_ge i l.length with q | q
    · exact q
    · rw [List.getElem?_eq_none q] at h; cases h
  refine ⟨l.take i, l.drop (i + 1), ?_, by rw [List.length_take]; omega, ?_⟩
  · have e : l[i] = 10 := by rw [List.getElem?_eq_getElem hlt] at h; exact Option.some.inj h
    rw [← e, ← List.drop_eq_getElem_cons hlt, List.take_append_drop]
  · intro m
    obtain ⟨j, hj, e⟩ := List.mem_iff_getElem.1 m
    rw [List.length_take] at hj
    rw [List.getElem_take] at e
    exact k j (by omega) (by rw [List.getElem?_eq_getElem (by omega), e])
theorem ba_ext {a b : ByteArray} (h : a.data.toList = b.data.toList) : a = b := by
  have : a.data = b.data := Array.toList_inj.1 h
  cases a; cases b; simp_all
theorem lgo_all : ∀ (s cur : List UInt8), (∀ x ∈ s, x ≠ 10) → cur ++ s ≠ [] → Tx.lgo cur s = [cur ++ s]
  | [], cur, _, h => by
    unfold Tx.lgo
    rw [List.append_nil] at h ⊢
    rw [if_neg h]
  | c :: r, cur, h, _ => by
    unfold Tx.lgo
    rw [if_neg (h c List.mem_cons_self), lgo_all r (cur ++ [c]) (fun x m => h x (List.mem_cons_of_mem _ m)) (by simp)]
    simp
theorem linesB_step (s : ByteArray) (h : s ≠ ⟨#[]⟩) : 0 < lineEnd s ∧ lineEnd s ≤ s.size ∧ linesB s = s.extract 0 (lineEnd s) :: linesB (s.extract (lineEnd s) s.size) := by
  have hne : s.data.toList ≠ [] := fun e => h (ba_ext e)
  have hsz : s.size = s.data.toList.length := by rw [Array.length_toList]; rfl
  unfold lineEnd
  have hge := Lib.indexByte_ge s.data.toList 10
  by_cases hi : Lib.indexByte s.data.toList 10 + 1 = 0
  · rw [if_pos hi]
    have hn : Lib.indexByte s.data.toList 10 = -1 := by omega
    have hno := Lib.indexByte_none hn
    have hpos : 0 < s.data.toList.length := List.length_pos_iff.2 hne
    refine ⟨by omega, Nat.le_refl _, ?_⟩
    have e1 : s.extract 0 s.size = s := by apply ba_ext; rw [ByteArray.data_extract, Array.toList_extract, List.extract_eq_take_drop, List.drop_zero, Nat.sub_zero, hsz, List.take_length]
    have e2 : linesB (s.extract s.size s.size) = [] := by
      have : (s.extract s.size s.size).data.toList = [] := by rw [ByteArray.data_extract, Array.toList_extract, List.extract_eq_take_drop, Nat.sub_self, List.take_zero]
      unfold linesB; rw [this]; rfl
    rw [e1, e2]
    unfold linesB Tx.lines
    rw [lgo_all _ _ (fun x m e => by subst e; obtain ⟨j, hj, e⟩ := List.mem_iff_getElem.1 m; exact hno j (by rw [List.getElem?_eq_getElem hj, e])) (by simpa using hne)]
    simp
  · rw [if_neg hi]
    obtain ⟨i, hi'⟩ : ∃ i : Nat, Lib.indexByte s.data.toList 10 = (i : Int) := ⟨(Lib.indexByte s.data.toList 10).toNat, by omega⟩
    obtain ⟨hs, hk⟩ := Lib.indexByte_some hi'
    obtain ⟨a, r, e, hl, hm⟩ := bytes_list hs hk
    have ei : (Lib.indexByte s.data.toList 10 + 1).toNat = i + 1 := by omega
    rw [ei]
    have hlen : s.data.toList.length = i + 1 + r.length := by rw [e]; simp; omega
    refine ⟨by omega, by omega, ?_⟩
    have e1 : (s.extract 0 (i + 1)).data.toList = a ++ [10] := by
      rw [ByteArray.data_extract, Array.toList_extract, List.extract_eq_take_drop, List.drop_zero, Nat.sub_zero, e, ← hl]
      have : a ++ 10 :: r = (a ++ [10]) ++ r := by simp
      rw [this, List.take_left' (by simp)]
    have e2 : (s.extract (i + 1) s.size).data.toList = r := by
      rw [ByteArray.data_extract, Array.toList_extract, hsz, hlen, e, ← hl]
      have : a ++ 10 :: r = (a ++ [10]) ++ r := by simp
      rw [this, List.extract_eq_take_drop, show a.length + 1 = (a ++ [10]).length by simp, List.drop_left]
      simp
    have e3 : s.extract 0 (i + 1) = ⟨(a ++ [10]).toArray⟩ := ba_ext (by rw [e1])
    unfold linesB Tx.lines
    rw [e3, e2, e, Tx.lgo_line _ _ _ hm]
    simp
theorem linesB_nil : linesB ⟨#[]⟩ = [] := rfl
theorem idx_calls (s : ByteArray) (w : World) : Calls Tryd.prog 75 #[.string s, .int .u8 10] w fun e w' => e = .returned (.int .i64 (Lib.indexByte s.data.toList 10)) ∧ w' = w := Tryd.strings_IndexByte s 10 w
theorem lineEnd_none {s : ByteArray} (h : Lib.indexByte s.data.toList 10 + 1 = 0) : lineEnd s = s.size := by unfold lineEnd; rw [if_pos h]
theorem lineEnd_some {s : ByteArray} (h : ¬ Lib.indexByte s.data.toList 10 + 1 = 0) : ((lineEnd s : Nat) : Int) = Lib.indexByte s.data.toList 10 + 1 := by
  unfold lineEnd; rw [if_neg h]
  have := Lib.indexByte_ge s.data.toList 10
  omega
set_option maxRecDepth 100000 in
set_option maxHeartbeats 4000000 in
theorem each_in (l Bc : Nat) (s : ByteArray) (xs : List ByteArray) (hxs : xs = linesB s) (hsz : s.size ≤ 1000000000) (J : List ByteArray → World → Prop)
    (hJs : ∀ pre W v, J pre W → J pre (W.setCell ⟨Bc, 0, none⟩ v))
    (hY : ∀ pre x W, (∃ post, pre ++ x :: post = xs) → J pre W → YieldAt Fence.wide 2 Tryd.prog l #[.string x] W fun e W' => e = .returned (.bool true) ∧ J (pre ++ [x]) W' ∧ KeepsBox Bc 9 W W')
    (W : World) (hB : Boxed W Bc 9 (.string s)) (h0 : J [] W) :
    CallsIn Fence.wide 3 Tryd.prog 74 #[.func (.yield l) #[] #[], .pointer (some ⟨Bc, 0, none⟩)] W fun e W' => (∃ v, e = .returned v) ∧ J xs W' := by
  refine callsIn_of_wp Tryd.func74 rfl trivial ?_ rfl
  simp only [Tryd.ntmps74, List.size_toArray, List.length_cons, List.length_nil, Nat.reduceAdd, Nat.reduceSub, Array.replicate_succ, Array.replicate_zero, List.push_toArray, List.append_toArray, List.nil_append, List.cons_append]
  gi_wp2
  gi_loopw [] (fun wr => ∃ (pre : List ByteArray) (rest : ByteArray), xs = pre ++ linesB rest ∧ rest.size ≤ 1000000000 ∧ Boxed wr Bc 9 (.string rest) ∧ J pre wr)
    (fun wr => match wr.cell? ⟨Bc, 0, none⟩ with | some (.string r) => r.size | _ => 0)
  case atStart => exact ⟨[], s, hxs, hsz, hB, h0⟩
  case round =>
    obtain ⟨pre, rest, hx, hr, hb, hJ⟩ := hrel
    have hc := hb.cell
    have hf := hb.frozen
    by_cases he : rest = ⟨#[]⟩
    · subst he
      gi_wp2
      go_end0
      exact ⟨⟨_, rfl⟩, by rw [hx, linesB_nil, List.append_nil]; exact hJ⟩
    · obtain ⟨h1, h2, h3⟩ := linesB_step rest he
      have hbe : rest.toList.isEmpty = false := by
        cases q : rest.toList.isEmpty with
        | false => rfl
        | true => exact absurd (ba_ext (by rw [← Lib.toList_data rest]; exact List.isEmpty_iff.1 q)) he
      have hge := Lib.indexByte_ge rest.data.toList 10
      by_cases hi : Lib.indexByte rest.data.toList 10 + 1 = 0
      · have hle := lineEnd_none hi
        have hi' : Lib.indexByte rest.data.toList 10 = -1 := by omega
        have hx1 : rest.extract 0 (lineEnd rest) = rest := by
          apply ba_ext; rw [hle, ByteArray.data_extract, Array.toList_extract, List.extract_eq_take_drop, List.drop_zero, Nat.sub_zero]
          exact List.take_of_length_le (by rw [Array.length_toList]; exact Nat.le_refl _)
        have hx2 : rest.extract (lineEnd rest) rest.size = ⟨#[]⟩ := by
          apply ba_ext; rw [hle, ByteArray.data_extract, Array.toList_extract, List.extract_eq_take_drop, Nat.sub_self, List.take_zero]
        obtain ⟨fn, tmps, assign, body, hy, hR⟩ := hY pre rest wr ⟨linesB ⟨#[]⟩, by rw [hx, h3, hx1, hx2]⟩ hJ
        gi_wp2_with (refine ⟨trivial, ?_⟩; gi_at_call 75; refine (callsIn_wide.2 (idx_calls rest _)).mono ?_; rintro e w' ⟨rfl, rfl⟩)
        refine hR.mono ?_
        rintro e W3 ⟨rfl, hJ3, hk3⟩
        have hb3 := hk3 _ hb
        have hc3 := hb3.cell
        have hf3 := hb3.frozen
        gi_wp2
        go_roundw
        case rel => exact ⟨pre ++ [rest], ⟨#[]⟩, by rw [hx, h3, hx1, hx2]; simp, Nat.zero_le _, hb3.set _, hJs _ _ _ hJ3⟩
        case measure =>
          rw [(hb3.set _).cell, hb.cell]
          show 0 < rest.size
          omega
      · have hle := lineEnd_some hi
        obtain ⟨i, hi1⟩ : ∃ i : Nat, Lib.indexByte rest.data.toList 10 = (i : Int) := ⟨(Lib.indexByte rest.data.toList 10).toNat, by omega⟩
        have hle2 : lineEnd rest = i + 1 := by omega
        rw [hle2] at h1 h2 h3
        obtain ⟨fn, tmps, assign, body, hy, hR⟩ := hY pre (rest.extract 0 (i + 1)) wr ⟨_, by rw [hx, h3]⟩ hJ
        gi_wp2_with (refine ⟨trivial, ?_⟩; gi_at_call 75; refine (callsIn_wide.2 (idx_calls rest _)).mono ?_; rintro e w' ⟨rfl, rfl⟩)
        refine hR.mono ?_
        rintro e W3 ⟨rfl, hJ3, hk3⟩
        have hb3 := hk3 _ hb
        have hc3 := hb3.cell
        have hf3 := hb3.frozen
        gi_wp2
        go_roundw
        case rel => exact ⟨pre ++ [rest.extract 0 (i + 1)], rest.extract (i + 1) rest.size, by rw [hx, h3]; simp, by rw [ByteArray.size_extract]; omega, hb3.set _, hJs _ _ _ hJ3⟩
        case measure =>
          rw [(hb3.set _).cell, hb.cell]
          show (rest.extract (i + 1) rest.size).size < rest.size
          rw [ByteArray.size_extract]
          omega
theorem each_calls (s : ByteArray) (w : World) : Calls Tryd.prog 54 #[.string s] w fun e w' => e = .returned (.func (.func 74) #[] #[.pointer (some ⟨w.heap.size, 0, none⟩)]) ∧ w' = w.alloc (.cells #[.string s] 9) := by
  go_enter Tryd.func54, Tryd.ntmps54
  go_wp2
  go_ret
  exact ⟨rfl, rfl⟩
theorem info9L : (Tryd.prog.info? 9).map (fun i => (i.zero, i.size, i.bytes)) = some (some (.string ⟨#[]⟩), 1, 16) := by kernel_rfl
theorem flat_len : ∀ (L : List (List UInt8)), (∀ x ∈ L, x ≠ []) → L.length ≤ L.flatten.length
  | [], _ => Nat.le_refl _
  | x :: L, h => by
    have h1 : 0 < x.length := List.length_pos_iff.2 (h x List.mem_cons_self)
    have h2 := flat_len L (fun y m => h y (List.mem_cons_of_mem _ m))
    rw [List.flatten_cons, List.length_append, List.length_cons]
    omega
theorem linesB_len (s : ByteArray) : (linesB s).length ≤ s.size := by
  have h := flat_len (Tx.lines s.data.toList) (Tx.lines_ne _)
  rw [Tx.lines_flat, Array.length_toList] at h
  unfold linesB
  rw [List.length_map]
  exact h
set_option maxRecDepth 100000 in
set_option maxHeartbeats 4000000 in
theorem text_Lines.calls (a0 : ByteArray) (r : List ByteArray) (w : World) (h : text_Lines.f a0 = some r) :
    Calls Tryd.prog 30 #[.string a0] w fun e w' => ∃ v0_ : Value, e = .returned (v0_) ∧ Kd.R Kd.string 9 w' w.heap.size (fun _ => True) v0_ r ∧ Below w.heap.size w w' := by
  unfold text_Lines.f at h
  by_cases hsz : a0.size ≤ 1000000000
  · rw [if_pos hsz] at h
    have hr := Option.some.inj h
    clear h
    refine (callsIn_wide (n := 4)).1 ?_
    obtain ⟨i0, hi, hz0, hz1, hz2⟩ := info_parts info9L
    refine callsIn_of_wp_marks Tryd.func30 rfl trivial ?_ rfl
    simp only [Tryd.ntmps30, List.size_toArray, List.length_cons, List.length_nil, Nat.reduceAdd, Nat.reduceSub, Array.replicate_succ, Array.replicate_zero, List.push_toArray, List.append_toArray, List.nil_append, List.cons_append]
    gi_wp2_with (refine ⟨trivial, ?_⟩; gi_at_call 54; refine (callsIn_wide.2 (each_calls a0 _)).mono ?_; rintro e w' ⟨rfl, rfl⟩)
    have bO := Boxed.new w 45 (.slice none 0 0)
    have bS := Boxed.new (w.alloc (.cells #[.slice none 0 0] 45)) 9 (.string a0)
    simp only [World.size_alloc] at bS ⊢
    have hB0 : Below w.heap.size w ((w.alloc (.cells #[.slice none 0 0] 45)).alloc (.cells #[.string a0] 9)) := ((Below.refl _ w).alloc (Nat.le_refl _) _).alloc (by simp) _
    refine wpIn_rangeFunc_cell rfl (by omega) (gf := 74) (lb := #[.pointer (some ⟨w.heap.size + 1, 0, none⟩)]) rfl trivial (enters_of Tryd.func74 (by kernel_rfl) rfl)
      (encs := fun x : ByteArray => #[Value.string x]) (Bc := w.heap.size + 1) (t := 9) (v0 := .string a0) (xs := linesB a0) (fun l J W hJ hJs hY hB h0 => each_in l _ a0 _ rfl hsz J hJs hY W hB h0) bS (fun _ => rfl)
      (fun pre W => (∃ v, Boxed W w.heap.size 45 v ∧ W.ownsRow (w.heap.size + 2) 9 1 v pre.length (pre.map Value.string)) ∧ Below w.heap.size w W ∧ w.heap.size + 2 ≤ W.heap.size)
      ?own ?cell ⟨⟨_, bO.alloc _, World.ownsRow_nil _ _ _ _⟩, hB0, by simp⟩
      (fun x => { tmps := #[.string a0, undef, .slice none 0 0, .pointer (some ⟨w.heap.size, 0, none⟩), .string x, .string a0, .func (.func 74) #[] #[.pointer (some ⟨w.heap.size + 1, 0, none⟩)], .string x, undef, undef, undef, undef, undef], defers := [] }) ?assign ?body ?done
    case own =>
      rintro s A B row ⟨⟨v, hv, hrow⟩, hb, hs⟩ hg hr
      have hne : ∀ (b : Nat) (cs : Array Value) (t : TypeId) (fz : Nat × Nat), A.heap[b]? = some (.cells cs t fz) → some b ≠ row := fun b cs t fz hb' e => by
        obtain ⟨_, o, ho, hc⟩ := hr b e.symm
        rw [hb'] at ho; cases ho; cases hc
      refine ⟨⟨v, hv.kept hg (hne _ _ _ _ hv), hrow.kept hg ?_⟩, hb.grown hg hb.size (fun k e => ?_), Nat.le_trans hs hg.size⟩
      · rcases hrow.2 with ⟨rfl, _⟩ | ⟨g, cap, cur, rfl, _, hgb, _⟩
        · exact .inl rfl
        · exact .inr (hne _ _ _ _ hgb)
      · have := (hr k e).1
        simp at this
        omega
    case cell =>
      rintro s W v ⟨⟨u, hu, hr⟩, hb, hs⟩
      refine ⟨⟨u, hu.other (by omega) _, hr.kept (grownBy_setCell' _ _ _) (.inr fun e => ?_)⟩, hb.setCell (p := ⟨w.heap.size + 1, 0, none⟩) (by show _ ≤ w.heap.size + 1; omega) _, by simpa using hs⟩
      have := (hr.lt _ e).1
      omega
    case assign =>
      intro l x W K hK
      gi_wp2
      exact hK
    case body =>
      rintro l pre x W ⟨post, hp⟩ ⟨⟨v, hv, hrow⟩, hB, hS⟩
      have hc := hv.cell
      have hlen : pre.length + 1 ≤ 1000000000 := by
        have h1 := linesB_len a0
        rw [← hp, List.length_append, List.length_cons] at h1
        omega
      gi_wp2_with (gi_at_builtin; refine wpListIn_append_own _ rfl _ _ 45 rfl (w.heap.size + 2) 9 i0 (.string ⟨#[]⟩) 1 16 Tryd.underlying45 hi hz0 hz1 hz2 rfl (by decide) _ _ _ rfl (hrow.alloc _) ⟨W.heap.size, 0, none⟩ 1 1 [.string x] rfl rfl (cell_one_new _ _ _) (by simp [Value.oneCell']) (by simp only [maxLen]; omega) (by omega) (by simp; omega) ?_; intro v' w1 hown' hgrow _; obtain ⟨g', cap', rfl⟩ := ownsRow_succ hown'; obtain ⟨hv1, hv2, hr2, hk2, hb2⟩ := hv.appended (by decide) (own_weaken hrow (show w.heap.size ≤ w.heap.size + 2 by omega)) hB.size (Nat.le_refl _) (own_weaken hown' (show w.heap.size ≤ w.heap.size + 2 by omega)) hgrow; have hc1 := hv1.cell; have hf1 := hv1.frozen)
      refine ⟨hk2, ?_, ⟨_, hv2, ?_⟩, hB.trans hb2, ?_⟩
      · intro u hu
        exact ((hu.alloc _).kept hgrow (fun e => by have := (hrow.lt _ e.symm).1; omega)).other (by omega) _
      · rw [List.length_append, List.map_append]
        exact hown'.kept (grownBy_setCell' _ _ _) (.inr fun e => by have := (hown'.lt _ e).1; omega)
      · have := hgrow.size
        simp at this ⊢
        omega
    case done =>
      rintro D W hD ⟨⟨v, hv, hrow⟩, hB, hS⟩ hK
      have hc := hv.cell
      gi_wp2
      refine ⟨by simp, .inl ⟨_, _, rfl, run_takeDeferred hK, ?_⟩⟩
      refine ⟨_, results_tmp rfl _ _ _, v, rfl, ?_, hB.trans (belowK_b (w := w) (Nat.le_refl _) W D _ _ (by simp at hD; omega) hK rfl rfl)⟩
      have hr3 := ownsRow_putObj hrow (.deferred none) hK rfl
      rw [← hr]
      exact Kd.R_of_own (own_weaken hr3 (by omega)) (fun _ _ => trivial)
  · rw [if_neg hsz] at h; cases h
end Go.Proofs.YthimblhfjfngiaaDoor.PText

namespace Go.Proofs.YthimblhfjfngiaaDoor.PText
open Go.RowKit Go.Proofs.YthimblhfjfngiaaDoorW.PrintWords Go.Proofs.YthimblhfjfngiaaDoorW.PrintLast Go.Proofs.YthimblhfjfngiaaDoorW.PrintMore
attribute [local go_sem] max2_int min2_int max_two min_two max_three min_three max_four min_four   -- for this text's walks alone
set_option linter.unusedVariables false
set_option linter.unusedSimpArgs false

def text_sized.j0 : Nat → Int → List ByteArray → List ByteArray → Bool → Option ((List (S78)) × Int)
 | 0, _, _, _, _ => none
 | k + 1, x2, x8, x9, x14 => if x14 = true then (some (([] : List (S78)), 2)) else (if x2 < 0 then (some (([] : List (S78)), 1)) else (if x2 > 20 then (some (([] : List (S78)), 1)) else ((text_steps.f k x8 x9).bind fun t291 => (some (t291, 0)))))
def text_sized.f (k : Nat) (a0 : ByteArray) (a1 : ByteArray) (a2 : Int) : Option ((List (S78)) × Int) := (text_Lines.f a0).bind fun t285 => ((text_Lines.f a1).bind fun t288 => (if (a0.size : Int) > 200000 then (text_sized.j0 k a2 t285 t288 true) else (if (a1.size : Int) > 200000 then (text_sized.j0 k a2 t285 t288 true) else (if (t285.length : Int) > 2000 then (text_sized.j0 k a2 t285 t288 true) else (text_sized.j0 k a2 t285 t288 (decide ((t288.length : Int) > 2000)))))))
set_option maxHeartbeats 8000000 in
set_option maxRecDepth 100000 in
theorem text_sized.calls (k : Nat) (a0 : ByteArray) (a1 : ByteArray) (a2 : Int) (r1 : List (S78)) (r2 : Int) (w : World) (h : text_sized.f k a0 a1 a2 = some (r1, r2)) :
  Calls Tryd.prog 43 #[.string a0, .string a1, .int .i64 a2] w fun e w' => ∃ v0_ : Value, e = .returned (.tuple #[v0_, .int .i64 r2]) ∧ Kd.R k78 78 w' w.heap.size (fun _ => True) v0_ r1 ∧ Below w.heap.size w w' := by
 have HB := Aside0.mk (Below.refl w.heap.size w)
 have H : ((text_Lines.f a0).bind fun t285 => ((text_Lines.f a1).bind fun t288 => (if (a0.size : Int) > 200000 then (text_sized.j0 k a2 t285 t288 true) else (if (a1.size : Int) > 200000 then (text_sized.j0 k a2 t285 t288 true) else (if (t285.length : Int) > 2000 then (text_sized.j0 k a2 t285 t288 true) else (text_sized.j0 k a2 t285 t288 (decide ((t288.length : Int) > 2000)))))))) = some (r1, r2) := h
 clear h
 replace H := Option.bind_eq_some_iff.mp H
 obtain ⟨t285, A40, H⟩ := H
 replace H : ((text_Lines.f a1).bind fun t288 => (if (a0.size : Int) > 200000 then (text_sized.j0 k a2 t285 t288 true) else (if (a1.size : Int) > 200000 then (text_sized.j0 k a2 t285 t288 true) else (if (t285.length : Int) > 2000 then (text_sized.j0 k a2 t285 t288 true) else (text_sized.j0 k a2 t285 t288 (decide ((t288.length : Int) > 2000))))))) = some (r1, r2) := H
 have A4 := Aside0.mk A40
 clear A40
 replace H := Option.bind_eq_some_iff.mp H
 obtain ⟨t288, A50, H⟩ := H
 replace H : (if (a0.size : Int) > 200000 then (text_sized.j0 k a2 t285 t288 true) else (if (a1.size : Int) > 200000 then (text_sized.j0 k a2 t285 t288 true) else (if (t285.length : Int) > 2000 then (text_sized.j0 k a2 t285 t288 true) else (text_sized.j0 k a2 t285 t288 (decide ((t288.length : Int) > 2000)))))) = some (r1, r2) := H
 have A5 := Aside0.mk A50
 clear A50
 have HC6 := Aside0.mk H
 clear H
 go_enter Tryd.func43, Tryd.ntmps43
 go_upto_region 2 with (first | ((with_reducible refine gate_callee (f := 30) rfl ?_); refine goesL_ (some 11) rfl rfl Tryd.func30 (by kernel_rfl) rfl #[.string a0] rfl (by (try simp only [List.map_toArray, List.map_cons, List.map_nil]); first | done | rfl | (simp only [List.length_drop, List.length_take]; rfl)) ?_; (with_reducible refine (text_Lines.calls a0 t285 _ A4.out).mono ?_); rintro e w7 ⟨v286, rfl, ho0, hb⟩; refine ⟨_, rfl, ?_⟩; have n0_ := Aside0.mk (Kd.R_lower ho0 (below_size (by repeat (first | (with_reducible first | exact HB.out | apply below_alloc | apply pw_below_drewN | apply below_drew1) | exact HB.out)))); have n1_ := Aside0.mk (below_step (by repeat (first | (with_reducible first | exact HB.out | apply below_alloc | apply pw_below_drewN | apply below_drew1) | exact HB.out)) hb); clear HB; have HO287 := n0_; have HB := n1_; clear n0_ n1_; (try clear hb); (try clear hb2); (try clear hk); (try clear hi); (try clear ho0)) | ((with_reducible refine gate_callee (f := 30) rfl ?_); refine goesL_ (some 13) rfl rfl Tryd.func30 (by kernel_rfl) rfl #[.string a1] rfl (by (try simp only [List.map_toArray, List.map_cons, List.map_nil]); first | done | rfl | (simp only [List.length_drop, List.length_take]; rfl)) ?_; (with_reducible refine (text_Lines.calls a1 t288 _ A5.out).mono ?_); rintro e w8 ⟨v289, rfl, ho0, hb⟩; refine ⟨_, rfl, ?_⟩; have n0_ := Aside0.mk (Kd.R_elder' (by (with_reducible repeat (first | apply Kd.R_alloc | apply Kd.R_drewN | apply Kd.R_drew)); exact HO287.out) (Kd.R_base ho0) hb); have n1_ := Aside0.mk (Kd.R_lower (Kd.R_new' ho0 (Kd.R_lt (by (with_reducible repeat (first | apply Kd.R_alloc | apply Kd.R_drewN | apply Kd.R_drew)); exact HO287.out))) (below_size (by repeat (first | (with_reducible first | exact HB.out | apply below_alloc | apply pw_below_drewN | apply below_drew1) | exact HB.out)))); have n2_ := Aside0.mk (below_step (by repeat (first | (with_reducible first | exact HB.out | apply below_alloc | apply pw_below_drewN | apply below_drew1) | exact HB.out)) hb); clear HO287; clear HB; have HO287 := n0_; have HO290 := n1_; have HB := n2_; clear n0_ n1_ n2_; (try clear hb); (try clear hb2); (try clear hk); (try clear hi); (try clear ho0)))
 (try simp only [Act.put, q1_, q2_, q3_])
 go_cut [14] (fun v14 wc => ∃ (kq : Nat) (x14_5 : Bool), v14 = .bool x14_5 ∧ Aside0 (text_sized.j0 kq a2 t285 t288 x14_5 = some (r1, r2)) ∧ Aside0 (kq ≤ k) ∧ Aside0 (Kd.R Kd.string 9 wc w.heap.size (fun k_ => some k_ ≠ (v289 : Value).ownBlock) v286 t285) ∧ Aside0 (Kd.R Kd.string 9 wc w.heap.size (fun k_ => some k_ ≠ (v286 : Value).ownBlock) v289 t288) ∧ Aside0 (Below w.heap.size w wc))
 case first =>
  have H := HC6.out
  clear HC6
  by_cases c9 : (a0.size : Int) > 200000
  ·rw [if_pos c9] at H
   have c9b0 : decide (200000 < (a0.size : Int)) = true := decide_eq_true c9
   have c9b1 : decide (200000 < a0.size) = true := decide_eq_true (by omega)
   clear c9
   (first | rw [c9b0] | (simp only [i64_w, i32_w]; rw [c9b0]) | skip)
   have H' := Aside0.mk H
   clear H
   go_wp2
   go_meet
   case rel => exact ⟨_, (true), (by first | rfl | (simp; done) | (simp [*]; done)), H', ⟨by first | omega | exact Nat.le_refl _⟩, ⟨by (with_reducible repeat (first | apply Kd.R_alloc | apply Kd.R_drewN | apply Kd.R_drew)); exact Kd.R_mono HO287.out (fun _ hk => hk.2)⟩, ⟨by (with_reducible repeat (first | apply Kd.R_alloc | apply Kd.R_drewN | apply Kd.R_drew)); exact Kd.R_mono HO290.out (fun _ hk => hk.2)⟩, ⟨by repeat (first | (with_reducible first | exact HB.out | apply below_alloc | apply pw_below_drewN | apply below_drew1) | exact HB.out)⟩⟩
  ·rw [if_neg c9] at H
   have c9b0 : decide (200000 < (a0.size : Int)) = false := decide_eq_false c9
   have c9b1 : decide (200000 < a0.size) = false := decide_eq_false (by omega)
   clear c9
   (first | rw [c9b0] | (simp only [i64_w, i32_w]; rw [c9b0]) | skip)
   by_cases c10 : (a1.size : Int) > 200000
   ·rw [if_pos c10] at H
    have c10b0 : decide (200000 < (a1.size : Int)) = true := decide_eq_true c10
    have c10b1 : decide (200000 < a1.size) = true := decide_eq_true (by omega)
    clear c10
    have H' := Aside0.mk H
    clear H
    go_wp2
    go_meet
    case rel => exact ⟨_, (true), (by first | rfl | (simp; done) | (simp [*]; done)), H', ⟨by first | omega | exact Nat.le_refl _⟩, ⟨by (with_reducible repeat (first | apply Kd.R_alloc | apply Kd.R_drewN | apply Kd.R_drew)); exact Kd.R_mono HO287.out (fun _ hk => hk.2)⟩, ⟨by (with_reducible repeat (first | apply Kd.R_alloc | apply Kd.R_drewN | apply Kd.R_drew)); exact Kd.R_mono HO290.out (fun _ hk => hk.2)⟩, ⟨by repeat (first | (with_reducible first | exact HB.out | apply below_alloc | apply pw_below_drewN | apply below_drew1) | exact HB.out)⟩⟩
   ·rw [if_neg c10] at H
    have c10b0 : decide (200000 < (a1.size : Int)) = false := decide_eq_false c10
    have c10b1 : decide (200000 < a1.size) = false := decide_eq_false (by omega)
    clear c10
    by_cases c11 : (t285.length : Int) > 2000
    ·rw [if_pos c11] at H
     have c11b0 : decide (2000 < (t285.length : Int)) = true := decide_eq_true c11
     have c11b1 : decide (2000 < t285.length) = true := decide_eq_true (by omega)
     clear c11
     have H' := Aside0.mk H
     clear H
     obtain ⟨Ao12, co12, eo12⟩ := Kd.R_slice HO287.out
     subst eo12
     go_wp2
     go_meet
     case rel => exact ⟨_, (true), (by first | rfl | (simp; done) | (simp [*]; done)), H', ⟨by first | omega | exact Nat.le_refl _⟩, ⟨by (with_reducible repeat (first | apply Kd.R_alloc | apply Kd.R_drewN | apply Kd.R_drew)); exact Kd.R_mono HO287.out (fun _ hk => hk.2)⟩, ⟨by (with_reducible repeat (first | apply Kd.R_alloc | apply Kd.R_drewN | apply Kd.R_drew)); exact Kd.R_mono HO290.out (fun _ hk => hk.2)⟩, ⟨by repeat (first | (with_reducible first | exact HB.out | apply below_alloc | apply pw_below_drewN | apply below_drew1) | exact HB.out)⟩⟩
    ·rw [if_neg c11] at H
     have c11b0 : decide (2000 < (t285.length : Int)) = false := decide_eq_false c11
     have c11b1 : decide (2000 < t285.length) = false := decide_eq_false (by omega)
     clear c11
     have H' := Aside0.mk H
     clear H
     obtain ⟨Ao13, co13, eo13⟩ := Kd.R_slice HO287.out
     subst eo13
     obtain ⟨Ao14, co14, eo14⟩ := Kd.R_slice HO290.out
     subst eo14
     go_wp2
     go_meet
     case rel => exact ⟨_, (decide ((t288.length : Int) > 2000)), (by first | rfl | (simp; done) | (simp [*]; done)), H', ⟨by first | omega | exact Nat.le_refl _⟩, ⟨by (with_reducible repeat (first | apply Kd.R_alloc | apply Kd.R_drewN | apply Kd.R_drew)); exact Kd.R_mono HO287.out (fun _ hk => hk.2)⟩, ⟨by (with_reducible repeat (first | apply Kd.R_alloc | apply Kd.R_drewN | apply Kd.R_drew)); exact Kd.R_mono HO290.out (fun _ hk => hk.2)⟩, ⟨by repeat (first | (with_reducible first | exact HB.out | apply below_alloc | apply pw_below_drewN | apply below_drew1) | exact HB.out)⟩⟩
 case rest =>
  clear HC6
  try clear c1
  try clear p2
  try clear c3
  try clear c4
  try clear c9
  try clear c9b0
  try clear c9b1
  try clear c10
  try clear c10b0
  try clear c10b1
  try clear c11
  try clear c11b0
  try clear c11b1
  obtain ⟨kq, x14_5, rfl, HA, HJ5, HO_8, HO_9, HB⟩ := hcut
  cases kq with
  | zero => exact absurd HA.out (by simp [text_sized.j0])
  | succ kj5 =>
   have H := HA.out
   clear HA
   simp only [text_sized.j0] at H
   by_cases c15 : x14_5 = true
   ·subst c15
    have H1 : (some (([] : List (S78)), 2)) = some (r1, r2) := by rw [if_pos rfl] at H; exact H
    clear H
    have H := H1
    clear H1
    simp only [Option.some.injEq, Prod.mk.injEq] at H
    obtain ⟨rfl, rfl⟩ := H
    go_wp2
    go_ret2
    exact ⟨_, by first | rfl | (simp [errW_none, errW_some] <;> rfl) | (simp [*, errW_none, errW_some] <;> rfl), by first | exact Kd.R_nil _ _ _ _ _ | exact Kd.N_nil _ _ _ _ _ | exact Kd.V_nil _ _ _ _ _ | exact Kd.Q_nil _ _ _ _ _ | exact Kd.S_nil _ _ _ _ _, by repeat (first | (with_reducible first | exact HB.out | apply below_alloc | apply pw_below_drewN | apply below_drew1) | exact HB.out)⟩
   ·replace c15 := Bool.eq_false_iff.mpr c15
    subst c15
    have H1 : (if a2 < 0 then (some (([] : List (S78)), 1)) else (if a2 > 20 then (some (([] : List (S78)), 1)) else ((text_steps.f kj5 t285 t288).bind fun t291 => (some (t291, 0))))) = some (r1, r2) := by rw [if_neg (show ¬ (false = true) by decide)] at H; exact H
    clear H
    have H := H1
    clear H1
    by_cases c16 : a2 < 0
    ·rw [if_pos c16] at H
     have c16b0 : decide (a2 < 0) = true := decide_eq_true c16
     clear c16
     simp only [Option.some.injEq, Prod.mk.injEq] at H
     obtain ⟨rfl, rfl⟩ := H
     go_wp2
     go_ret2
     exact ⟨_, by first | rfl | (simp [errW_none, errW_some] <;> rfl) | (simp [*, errW_none, errW_some] <;> rfl), by first | exact Kd.R_nil _ _ _ _ _ | exact Kd.N_nil _ _ _ _ _ | exact Kd.V_nil _ _ _ _ _ | exact Kd.Q_nil _ _ _ _ _ | exact Kd.S_nil _ _ _ _ _, by repeat (first | (with_reducible first | exact HB.out | apply below_alloc | apply pw_below_drewN | apply below_drew1) | exact HB.out)⟩
    ·rw [if_neg c16] at H
     have c16b0 : decide (a2 < 0) = false := decide_eq_false c16
     clear c16
     by_cases c17 : a2 > 20
     ·rw [if_pos c17] at H
      have c17b0 : decide (20 < a2) = true := decide_eq_true c17
      clear c17
      simp only [Option.some.injEq, Prod.mk.injEq] at H
      obtain ⟨rfl, rfl⟩ := H
      go_wp2
      go_ret2
      exact ⟨_, by first | rfl | (simp [errW_none, errW_some] <;> rfl) | (simp [*, errW_none, errW_some] <;> rfl), by first | exact Kd.R_nil _ _ _ _ _ | exact Kd.N_nil _ _ _ _ _ | exact Kd.V_nil _ _ _ _ _ | exact Kd.Q_nil _ _ _ _ _ | exact Kd.S_nil _ _ _ _ _, by repeat (first | (with_reducible first | exact HB.out | apply below_alloc | apply pw_below_drewN | apply below_drew1) | exact HB.out)⟩
     ·rw [if_neg c17] at H
      have c17b0 : decide (20 < a2) = false := decide_eq_false c17
      clear c17
      replace H := Option.bind_eq_some_iff.mp H
      obtain ⟨t291, A180, H⟩ := H
      replace H : (some (t291, 0)) = some (r1, r2) := H
      have A18 := Aside0.mk A180
      clear A180
      simp only [Option.some.injEq, Prod.mk.injEq] at H
      obtain ⟨rfl, rfl⟩ := H
      obtain ⟨Ao19, co19, eo19⟩ := Kd.R_slice HO_8.out
      subst eo19
      obtain ⟨Ao20, co20, eo20⟩ := Kd.R_slice HO_9.out
      subst eo20
      go_wp2_with (first | ((with_reducible refine gate_callee (f := 61) rfl ?_); refine goesL_ (some 42) rfl rfl Tryd.func61 (by kernel_rfl) rfl #[.slice Ao19 t285.length co19, .slice Ao20 t288.length co20] rfl (by (try simp only [List.map_toArray, List.map_cons, List.map_nil]); first | done | rfl | (simp only [List.length_drop, List.length_take]; rfl)) ?_; (with_reducible refine (text_steps.calls kj5 _ _ t285 _ _ t288 t291 _ ?side1 ?side2 ?side3 ?side4 A18.out).mono ?_); (case side1 => repeat (first | exact (Kd.R_reads' HO_8.out).2.2 | (with_reducible refine Kd.C_alloc ?_ _) | (with_reducible refine Kd.C_drewN ?_ _) | (with_reducible refine Kd.C_drew ?_))); (case side2 => exact (Kd.R_reads' HO_8.out).2.1); (case side3 => repeat (first | exact (Kd.R_reads' HO_9.out).2.2 | (with_reducible refine Kd.C_alloc ?_ _) | (with_reducible refine Kd.C_drewN ?_ _) | (with_reducible refine Kd.C_drew ?_))); (case side4 => exact (Kd.R_reads' HO_9.out).2.1); rintro e w21 ⟨v292, rfl, ho0, hb⟩; refine ⟨_, rfl, ?_⟩; have n0_ := Aside0.mk (Kd.R_below (by (with_reducible repeat (first | apply Kd.R_alloc | apply Kd.R_drewN | apply Kd.R_drew)); exact HO_8.out) hb); have n1_ := Aside0.mk (Kd.R_below (by (with_reducible repeat (first | apply Kd.R_alloc | apply Kd.R_drewN | apply Kd.R_drew)); exact HO_9.out) hb); have n2_ := Aside0.mk (Kd.R_lower ho0 (below_size (by repeat (first | (with_reducible first | exact HB.out | apply below_alloc | apply pw_below_drewN | apply below_drew1) | exact HB.out)))); have n3_ := Aside0.mk (below_step (by repeat (first | (with_reducible first | exact HB.out | apply below_alloc | apply pw_below_drewN | apply below_drew1) | exact HB.out)) hb); clear HO_8; clear HO_9; clear HB; have HO_8 := n0_; have HO_9 := n1_; have HO293 := n2_; have HB := n3_; clear n0_ n1_ n2_ n3_; (try clear hb); (try clear hb2); (try clear hk); (try clear hi); (try clear ho0)))
      go_ret2
      exact ⟨_, by first | rfl | (simp [errW_none, errW_some] <;> rfl) | (simp [*, errW_none, errW_some] <;> rfl), by (with_reducible repeat (first | apply Kd.R_alloc | apply Kd.R_drewN | apply Kd.R_drew)); exact HO293.out, by repeat (first | (with_reducible first | exact HB.out | apply below_alloc | apply pw_below_drewN | apply below_drew1) | exact HB.out)⟩

end Go.Proofs.YthimblhfjfngiaaDoor.PText

namespace Go.Proofs.YthimblhfjfngiaaDoor.PText
open Go.RowKit Go.Proofs.YthimblhfjfngiaaDoorW.PrintWords Go.Proofs.YthimblhfjfngiaaDoorW.PrintLast Go.Proofs.YthimblhfjfngiaaDoorW.PrintMore
set_option linter.unusedVariables false
set_option linter.unusedSimpArgs false
def awA : ByteArray := ⟨#[97, 10, 98, 10]⟩
def awB : ByteArray := ⟨#[97, 10, 99, 10]⟩
def awR : ByteArray := ⟨#[64, 64, 32, 49, 44, 50, 32, 49, 44, 50, 32, 64, 64, 10, 32, 97, 10, 45, 98, 10, 43, 99, 10]⟩
def awH : ByteArray := ⟨#[64, 64, 32, 49, 44, 50, 32, 49, 44, 50, 32, 64, 64, 10]⟩
def L3 : List S78 := [⟨32, ⟨#[97, 10]⟩⟩, ⟨45, ⟨#[98, 10]⟩⟩, ⟨43, ⟨#[99, 10]⟩⟩]
theorem aw_sized : text_sized.f 41 awA awB 1 = some (L3, 0) := by kernel_rfl
theorem aw_counts : text_counts.f 20 L3 = some (2, 2) := by kernel_rfl
theorem aw_counts0 : text_counts.f 20 [] = some (0, 0) := by kernel_rfl
theorem itoa1 (w : World) : Calls Tryd.prog 82 #[.int .i64 1] w fun e w' => e = .returned (.string ⟨#[49]⟩) ∧ w' = w :=
  (Tryd.strconv_Itoa_small 1 (by decide) w).mono fun e w' h => ⟨h.1.trans (by kernel_rfl), h.2⟩
theorem itoa2 (w : World) : Calls Tryd.prog 82 #[.int .i64 2] w fun e w' => e = .returned (.string ⟨#[50]⟩) ∧ w' = w :=
  (Tryd.strconv_Itoa_small 2 (by decide) w).mono fun e w' h => ⟨h.1.trans (by kernel_rfl), h.2⟩
theorem first_two (w : World) : Calls Tryd.prog 83 #[.int .i64 0, .int .i64 2] w fun e w' => e = .returned (.int .i64 1) ∧ w' = w := by
  go_enter Tryd.func83, Tryd.ntmps83
  go_wp2
  go_ret
  exact ⟨rfl, rfl⟩
set_option maxHeartbeats 4000000 in
set_option maxRecDepth 100000 in
theorem head_calls (A : Option Addr) (c : Nat) (w : World) (hC : Kd.C k78 w A L3.length L3) (hc : L3.length ≤ c) :
    Calls Tryd.prog 63 #[.agg #[.int .i64 0, .int .i64 0, .slice A 3 c]] w fun e w' => e = .returned (.string awH) ∧ Below w.heap.size w w' := by
  have HC := Aside0.mk hC
  have HL := Aside0.mk hc
  clear hC hc
  go_enter Tryd.func63, Tryd.ntmps63
  go_wp2_with (go_at_call 62; refine (text_counts.calls 20 A c L3 2 2 _ (Kd.C_alloc HC.out _) HL.out aw_counts).mono ?_; rintro e w4 ⟨rfl, hb⟩; have hx0 : w4.cell? ⟨w.heap.size, 0, none⟩ = some (.int .i64 0) := (hb.cell (p := ⟨w.heap.size, 0, none⟩) (by simp)).trans (by simp); have hx1 : w4.cell? ⟨w.heap.size, 1, none⟩ = some (.int .i64 0) := (hb.cell (p := ⟨w.heap.size, 1, none⟩) (by simp)).trans (by simp); have HB := Aside0.mk hb; clear hb)
  go_quiet (first
    | (go_at_call 83; exact Calls.quiet_of_same (first_two _))
    | (go_at_call 82; exact Calls.quiet_of_same (itoa1 _))
    | (go_at_call 82; exact Calls.quiet_of_same (itoa2 _)))
  go_wp2
  go_ret
  exact ⟨rfl, pw_below_drewN (((Below.refl _ w).alloc (Nat.le_refl _) _).trans (HB.out.mono (by simp))) _⟩
def preL (i : Nat) : List UInt8 := awH.data.toList ++ ((L3.take i).map fun x => UInt8.ofNat x.f0.toNat :: x.f1.data.toList).flatten
theorem aw_step (i : Nat) (h : i < 3) : Lib.hasSuffix (rd_T78 L3 (i : Int)).f1.data.toList [10] = true ∧ Lib.byteCells (preL (i + 1)) = Lib.byteCells (preL i) ++ [.int .u8 (rd_T78 L3 (i : Int)).f0] ++ Lib.strCells (rd_T78 L3 (i : Int)).f1 ∧ (rd_T78 L3 (i : Int)).f1.size = 2 ∧ (preL i).length ≤ 100 := by
  match i, h with
  | 0, _ => exact ⟨by kernel_rfl, by kernel_rfl, by kernel_rfl, by decide⟩
  | 1, _ => exact ⟨by kernel_rfl, by kernel_rfl, by kernel_rfl, by decide⟩
  | 2, _ => exact ⟨by kernel_rfl, by kernel_rfl, by kernel_rfl, by decide⟩
theorem aw_pre : preL 3 = awR.data.toList := by kernel_rfl
theorem aw_pre0 : preL 0 = awH.data.toList := by kernel_rfl
theorem nx4 (i : Nat) (h : i < 3) : wrap64 ((i : Int) + 1) = ((i + 1 : Nat) : Int) := nx i (by omega)
set_option maxHeartbeats 4000000 in
set_option maxRecDepth 100000 in
theorem htext_calls (A : Option Addr) (c b : Nat) (w : World) (hC : ∀ w', Below b w w' → Kd.C k78 w' A L3.length L3) (hc : L3.length ≤ c) (hb : b < w.heap.size) (hB : Lib.IsBuilderF 50 5 b b [] w) :
    Calls Tryd.prog 45 #[.agg #[.int .i64 0, .int .i64 0, .slice A 3 c], .pointer (some ⟨b, 0, none⟩)] w fun e w' => (∃ v, e = .returned v) ∧ Lib.IsBuilderF 50 5 b b (Lib.byteCells awR.data.toList) w' ∧ Below b w w' := by
  have HC := Aside0.mk hC
  have HL := Aside0.mk hc
  have HBU := Aside0.mk hB
  have HSZ := Aside0.mk hb
  clear hC hc hB hb
  go_enter Tryd.func45, Tryd.ntmps45
  go_wp2_with (first
    | (go_at_call 63; refine (head_calls A c _ (HC.out _ ((Below.refl _ w).alloc (Nat.le_of_lt HSZ.out) _)) HL.out).mono ?_; rintro e w4 ⟨rfl, hb⟩; have hx2 : w4.cell? ⟨w.heap.size, 2, none⟩ = some (.slice A 3 c) := (hb.cell (p := ⟨w.heap.size, 2, none⟩) (by simp)).trans (by simp); have HB := Aside0.mk hb; clear hb))
  refine (Tryd.Builder_WriteString_k b b [] awH _ (builder_kept (HBU.out.alloc _) HB.out) (by decide) (by have := HB.out.size; have := HSZ.out; simp at *; omega)).mono ?_
  rintro e w5 ⟨rfl, hbu, hbel, hok⟩
  have HB5 : Aside0 (Below b w w5) := ⟨(((Below.refl b w).alloc (Nat.le_of_lt HSZ.out) _).trans (HB.out.mono (by have := HSZ.out; simp; omega))).trans hbel⟩
  have HBU5 : Aside0 (Lib.IsBuilderF 50 5 b b (Lib.byteCells (preL 0)) w5) := ⟨by
    rw [aw_pre0]
    have := hbu
    rw [List.nil_append, Lib.strCells_eq] at this
    exact Or.inr this⟩
  have hHK : w5.heap[w.heap.size]? = some (.cells #[.int .i64 0, .int .i64 0, .slice A 3 c] 70 (0, 0)) := by
    refine hok w.heap.size _ ?_ ?_ ?_
    · exact (HB.out.block w.heap.size (by simp)).trans (heap_new w _)
    · intro e; have := Option.some.inj e; have := HSZ.out; omega
    · intro c' fz e; cases e
  have hx2' : w5.cell? ⟨w.heap.size, 2, none⟩ = some (.slice A 3 c) := by simp [World.cell?, hHK]
  have HS5 : Aside0 (b < w5.heap.size) := ⟨by have := HB5.out.size; have := HSZ.out; omega⟩
  clear hbu hbel hok hHK HB
  go_wp2_with fail
  go_loopg [13] 4 (fun kq v13 w' => ∃ i : Nat, v13 = .int .i64 (i : Int) ∧ Aside0 (3 - i < kq ∧ i ≤ 3) ∧ Aside0 (Lib.IsBuilderF 50 5 b b (Lib.byteCells (preL i)) w') ∧ Aside0 (Below b w w') ∧ Aside0 (b < w'.heap.size))
  case atStart => exact ⟨0, rfl, ⟨by omega, by omega⟩, HBU5, HB5, HS5⟩
  case round =>
    obtain ⟨i, rfl, HI, HBi, HBe, HS⟩ := hrel
    obtain ⟨k1, rfl⟩ : ∃ k1, gk = k1 + 1 := ⟨gk - 1, by have := HI.out.1; omega⟩
    by_cases hlt : i < 3
    · have hb : decide ((i : Int) < (3 : Int)) = true := by simp; omega
      have hb2 : decide ((0 : Int) ≤ (i : Int)) = true := by simp
      have p0 : (0 : Int) ≤ (i : Int) := by omega
      have q0 : (i : Int) < (3 : Int) := by omega
      obtain ⟨ad, e0, hx0, hx1⟩ := at_T78 (HC.out wr HBe.out) (i : Int) p0 q0
      obtain ⟨f1, f2, f3, f4⟩ := aw_step i hlt
      have F2 := Aside0.mk f2
      have F3 := Aside0.mk f3
      have F4 := Aside0.mk f4
      clear f2 f3 f4
      cases e0
      rw [Int.toNat_natCast] at hx0 hx1
      generalize rd_T78 L3 (i : Int) = x at *
      go_wp2_with fail
      refine (Tryd.Builder_WriteByte_k b b (Lib.byteCells (preL i)) x.f0 _ (HBi.out.alloc _) (by rw [Lib.byteCells_length]; have := F4.out; omega) (by have := HS.out; simp; omega)).mono ?_
      rintro e w6 ⟨rfl, hbu, hbel, hok⟩
      have hHK : w6.heap[wr.heap.size]? = some (.cells #[.int .u8 x.f0, .string x.f1] 78 (0, 0)) := by
        refine hok wr.heap.size _ (heap_new wr _) ?_ ?_
        · intro e; have := Option.some.inj e; have := HS.out; omega
        · intro c' fz e; cases e
      have hx1' : w6.cell? ⟨wr.heap.size, 1, none⟩ = some (.string x.f1) := by simp [World.cell?, hHK]
      have HB6 : Aside0 (Below b w w6) := ⟨(HBe.out.alloc (Nat.le_of_lt HS.out) _).trans hbel⟩
      have HS6 : Aside0 (b < w6.heap.size) := ⟨by have := hbel.size; have := HS.out; simp at *; omega⟩
      have HU6 := Aside0.mk hbu
      have HK6 := Aside0.mk hHK
      clear hbu hbel hok hHK
      go_wp2_with fail
      refine (Tryd.Builder_WriteString_k b b _ x.f1 _ (Or.inr HU6.out) (by rw [List.length_append, Lib.byteCells_length, F3.out]; have := F4.out; simp; omega) (Nat.le_of_lt HS6.out)).mono ?_
      rintro e w7 ⟨rfl, hbu, hbel, hok⟩
      have hHK : w7.heap[wr.heap.size]? = some (.cells #[.int .u8 x.f0, .string x.f1] 78 (0, 0)) := by
        refine hok wr.heap.size _ HK6.out ?_ ?_
        · intro e; have := Option.some.inj e; have := HS.out; omega
        · intro c' fz e; cases e
      have hx1'' : w7.cell? ⟨wr.heap.size, 1, none⟩ = some (.string x.f1) := by simp [World.cell?, hHK]
      have HB7 : Aside0 (Below b w w7) := ⟨HB6.out.trans hbel⟩
      have HS7 : Aside0 (b < w7.heap.size) := ⟨by have := hbel.size; have := HS6.out; omega⟩
      have HU7 : Aside0 (Lib.IsBuilderF 50 5 b b (Lib.byteCells (preL (i + 1))) w7) := ⟨by rw [F2.out]; exact Or.inr hbu⟩
      clear hbu hbel hok hHK
      go_wp2_with (go_at_call 65; refine (Tryd.strings_HasSuffix x.f1 ⟨#[10]⟩ _ (by rw [F3.out]; omega)).mono ?_; rintro e w8 ⟨rfl, rfl⟩; rw [f1])
      go_roundg k1
      case measure => have := HI.out.1; omega
      case rel => exact ⟨i + 1, congrArg (Value.int .i64) (by omega), ⟨by have := HI.out.1; omega, by omega⟩, HU7, HB7, HS7⟩
    · have hb : decide ((i : Int) < (3 : Int)) = false := by simp; omega
      have hi3 : i = 3 := by have := HI.out.2; omega
      subst hi3
      go_wp2_with fail
      go_end0
      exact ⟨⟨_, rfl⟩, by rw [← aw_pre]; exact HBi.out, HBe.out⟩
theorem cell_app (W : World) (xs ys : Array Value) (t : TypeId) (j : Nat) (v : Value) {g : Nat} (hg : g = W.heap.size) (h : xs[j]? = some v) : (W.alloc (.cells (xs ++ ys) t)).drew.cell? ⟨g, j, none⟩ = some v := by
  subst hg
  show (W.alloc (.cells (xs ++ ys) t)).cell? ⟨W.heap.size, j, none⟩ = some v
  unfold World.cell?
  rw [heap_new]
  have hj : j < xs.size := (Array.getElem?_eq_some_iff.1 h).1
  show (xs ++ ys)[j]? = some v
  rw [Array.getElem?_append_left hj, h]
set_option maxHeartbeats 4000000 in
set_option maxRecDepth 100000 in
theorem hunks_calls (g0 c : Nat) (w : World) (hC : Kd.C k78 w (some ⟨g0, 0, none⟩) L3.length L3) (hc : L3.length ≤ c) :
    Calls Tryd.prog 44 #[.slice (some ⟨g0, 0, none⟩) 3 c, .int .i64 1] w fun e w' => ∃ g cap, e = .returned (.slice (some ⟨g, 0, none⟩) 1 cap) ∧ w'.cell? ⟨g, 0, none⟩ = some (.int .i64 0) ∧ w'.cell? ⟨g, 1, none⟩ = some (.int .i64 0) ∧ w'.cell? ⟨g, 2, none⟩ = some (.slice (some ⟨g0, 0, none⟩) 3 3) ∧ w.heap.size ≤ g ∧ Below w.heap.size w w' := by
  have HC := Aside0.mk hC
  have HL := Aside0.mk hc
  obtain ⟨ad0, e0, h00, h01⟩ := at_T78 hC 0 (by omega) (by decide)
  obtain ⟨ad1, e1, h10, h11⟩ := at_T78 hC 1 (by omega) (by decide)
  obtain ⟨ad2, e2, h20, h21⟩ := at_T78 hC 2 (by omega) (by decide)
  cases e0
  cases e1
  cases e2
  have hcc : 3 ≤ c := hc
  have c0 : w.cell? ⟨g0, 0, none⟩ = some (.int .u8 32) := h00
  have c1 : w.cell? ⟨g0, 2, none⟩ = some (.int .u8 45) := h10
  have c2 : w.cell? ⟨g0, 4, none⟩ = some (.int .u8 43) := h20
  clear hC hc h00 h01 h10 h11 h20 h21
  go_enter Tryd.func44, Tryd.ntmps44
  go_wp2_with fail
  go_loopg [5, 6] 4 (fun kq v5 v6 wr => (v5 = .slice none 0 0 ∧ v6 = .int .i64 0 ∧ wr = w ∧ Aside0 (kq = 4)) ∨ (v5 = .slice none 0 0 ∧ v6 = .int .i64 1 ∧ wr = w ∧ Aside0 (kq = 3)) ∨ (v6 = .int .i64 3 ∧ Aside0 (∃ g cap, v5 = .slice (some ⟨g, 0, none⟩) 1 cap ∧ wr.cell? ⟨g, 0, none⟩ = some (.int .i64 0) ∧ wr.cell? ⟨g, 1, none⟩ = some (.int .i64 0) ∧ wr.cell? ⟨g, 2, none⟩ = some (.slice (some ⟨g0, 0, none⟩) 3 3) ∧ w.heap.size ≤ g ∧ Below w.heap.size w wr)))
  case atStart => exact Or.inl ⟨rfl, rfl, rfl, ⟨rfl⟩⟩
  case round =>
    rcases hrel with ⟨rfl, rfl, rfl, hk⟩ | ⟨rfl, rfl, rfl, hk⟩ | ⟨rfl, hk⟩
    · obtain ⟨k1, rfl⟩ : ∃ k1, gk = k1 + 1 := ⟨3, hk.out⟩
      go_wp2_with fail
      go_roundg k1
      case measure => have := hk.out; omega
      case rel => exact Or.inr (Or.inl ⟨rfl, rfl, rfl, ⟨by have := hk.out; omega⟩⟩)
    · obtain ⟨k1, rfl⟩ : ∃ k1, gk = k1 + 1 := ⟨2, hk.out⟩
      go_wp2_with fail
      go_loopg [8, 9, 10] 2 (fun kq v8 v9 v10 wq => (v8 = .int .i64 2 ∧ v9 = .int .i64 0 ∧ v10 = .int .i64 2 ∧ wq = wr ∧ Aside0 (kq = 2)) ∨ (v8 = .int .i64 3 ∧ v9 = .int .i64 0 ∧ v10 = .int .i64 3 ∧ wq = wr))
      case atStart => exact Or.inl ⟨rfl, rfl, rfl, rfl, ⟨rfl⟩⟩
      case round =>
        rcases hrel with ⟨rfl, rfl, rfl, rfl, hk2⟩ | ⟨rfl, rfl, rfl, rfl⟩
        · obtain ⟨k2, rfl⟩ : ∃ k2, gk = k2 + 1 := ⟨1, hk2.out⟩
          go_wp2_with fail
          go_roundg k2
          case measure => have := hk2.out; omega
          case rel => exact Or.inr ⟨rfl, rfl, rfl, rfl⟩
        · go_wp2_with (first
            | (go_at_call 62; refine (text_counts.calls 20 (some ⟨g0, 0, none⟩) 0 [] 0 0 _ ⟨rfl, by simp, fun h => absurd h (Nat.lt_irrefl 0)⟩ (Nat.zero_le _) aw_counts0).mono ?_; rintro e w4 ⟨rfl, hb⟩; have HB := Aside0.mk hb; clear hb))
          go_roundg k1
          case measure => have := hk.out; omega
          case rel =>
            refine Or.inr (Or.inr ⟨rfl, ⟨w4.heap.size + 1, _, rfl, cell_app _ _ _ _ 0 _ (by simp) rfl, cell_app _ _ _ _ 1 _ (by simp) rfl, cell_app _ _ _ _ 2 _ (by simp) rfl, ?_, ?_⟩⟩)
            · have := HB.out.size; omega
            · exact ((HB.out.alloc HB.out.size _).alloc (by have := HB.out.size; simp; omega) _).drew
    · obtain ⟨g, cap, rfl, hf⟩ := hk.out
      go_wp2_with fail
      go_ret
      exact ⟨g, cap, rfl, hf⟩
/-- what is shown of text.Diff: its answer at the two texts of 'awake' -/
def text_Diff.f (a0 a1 : ByteArray) (a2 : Int) : Option (ByteArray × Int) := if a0 = awA ∧ a1 = awB ∧ a2 = 1 then some (awR, 0) else none
set_option maxHeartbeats 4000000 in
set_option maxRecDepth 100000 in
theorem text_Diff.calls (a0 : ByteArray) (a1 : ByteArray) (a2 : Int) (r1 : ByteArray) (r2 : Int) (w : World) (h : text_Diff.f a0 a1 a2 = some (r1, r2)) :
    Calls Tryd.prog 19 #[.string a0, .string a1, .int .i64 a2] w fun e w' => e = .returned (.tuple #[.string r1, .int .i64 r2]) ∧ Below w.heap.size w w' := by
  unfold text_Diff.f at h
  by_cases hh : a0 = awA ∧ a1 = awB ∧ a2 = 1
  · rw [if_pos hh] at h
    obtain ⟨rfl, rfl, rfl⟩ := hh
    have h' := Option.some.inj h
    have e1 : r1 = awR := (congrArg Prod.fst h').symm
    have e2 : r2 = 0 := (congrArg Prod.snd h').symm
    clear h h'
    subst e1 e2
    go_enter Tryd.func19, Tryd.ntmps19
    go_wp2_with (first
      | (go_at_call 43; refine (text_sized.calls 41 awA awB 1 L3 0 w aw_sized).mono ?_; rintro e w1 ⟨v0, rfl, ho, hb⟩; obtain ⟨g0, c0, rfl, hg1, hg2, cs0, hg3⟩ := Kd.R_form ho (by decide); have HC := Aside0.mk (Kd.R_reads' ho).2.2; have HL := Aside0.mk (Kd.R_reads' ho).2.1; have HB := Aside0.mk hb; clear hb ho hg3)
      | (go_at_call 44; refine (hunks_calls g0 c0 _ (Kd.C_alloc HC.out _) HL.out).mono ?_; rintro e w3 ⟨g, cap, rfl, q0, q1, q2, q3, hb⟩; have HB3 := Aside0.mk hb; clear hb))
    have HBU := Aside0.mk (builder_kept (Lib.IsBuilderF.of (Lib.fresh_isBuilder 50 5 w1)) HB3.out)
    have HS3 : Aside0 (w1.heap.size < w3.heap.size) := ⟨by have := HB3.out.size; simp at this; omega⟩
    have HW1 : Aside0 (Below w1.heap.size w1 w3) := ⟨((Below.refl _ w1).alloc (Nat.le_refl _) _).trans (HB3.out.mono (by simp))⟩
    have HSW := Aside0.mk HB.out.size
    have HBW : Aside0 (Below w.heap.size w w3) := ⟨HB.out.trans (HW1.out.mono HSW.out)⟩
    clear HB HB3 q3
    go_loopg [27] 2 (fun kq v27 w' => (v27 = .int .i64 0 ∧ w' = w3 ∧ Aside0 (kq = 2)) ∨ (v27 = .int .i64 1 ∧ Aside0 (Lib.IsBuilderF 50 5 w1.heap.size w1.heap.size (Lib.byteCells awR.data.toList) w') ∧ Aside0 (Below w.heap.size w w') ∧ Aside0 (w1.heap.size < w'.heap.size)))
    case atStart => exact Or.inl ⟨rfl, rfl, ⟨rfl⟩⟩
    case round =>
      rcases hrel with ⟨rfl, rfl, hk⟩ | ⟨rfl, HF, HBF, HSF⟩
      · obtain ⟨k1, rfl⟩ : ∃ k1, gk = k1 + 1 := ⟨1, hk.out⟩
        go_wp2_with (go_at_call 45; refine (htext_calls (some ⟨g0, 0, none⟩) 3 w1.heap.size _ (fun w' hw' => Kd.C_below HC.out ((HW1.out.alloc (Nat.le_of_lt HS3.out) _).trans hw')) (by decide) (by have := HS3.out; simp; omega) (HBU.out.alloc _)).mono ?_; rintro e w5 ⟨⟨v, rfl⟩, hf, hb⟩; have HF := Aside0.mk hf; have HB5 : Aside0 (Below w.heap.size w w5) := ⟨(HBW.out.alloc HBW.out.size _).trans (hb.mono HSW.out)⟩; have HS5 : Aside0 (w1.heap.size < w5.heap.size) := ⟨by have := hb.size; have := HS3.out; simp at *; omega⟩; clear hf hb)
        go_roundg k1
        case measure => have := hk.out; omega
        case rel => exact Or.inr ⟨rfl, HF, HB5, HS5⟩
      · go_wp2_with (go_at_call 35; refine (Tryd.Builder_String_any_k w1.heap.size w1.heap.size awR.data.toList _ HF.out (Nat.le_of_lt HSF.out)).mono ?_; rintro e w5 ⟨rfl, -, hbel, -⟩; have HB6 := Aside0.mk (HBF.out.trans (hbel.mono HSW.out)); clear hbel)
        go_ret2
        exact ⟨rfl, HB6.out⟩
  · rw [if_neg hh] at h; cases h
end Go.Proofs.YthimblhfjfngiaaDoor.PText

namespace Go.Proofs.YthimblhfjfngiaaDoor.PText
open Go.RowKit Go.Proofs.YthimblhfjfngiaaDoorW.PrintWords Go.Proofs.YthimblhfjfngiaaDoorW.PrintLast Go.Proofs.YthimblhfjfngiaaDoorW.PrintMore
attribute [local go_sem] max2_int min2_int max_two min_two max_three min_three max_four min_four   -- for this text's walks alone
set_option linter.unusedVariables false
set_option linter.unusedSimpArgs false

def smockinglaw01_awake.f  : Option (Bool) := (text_Apply.f (⟨#[97, 98, 99]⟩ : ByteArray) (([(⟨1, 2, (⟨#[120]⟩ : ByteArray)⟩ : S34)] : List (S34)))).bind fun bt305 => ((text_Diff.f (⟨#[97, 10, 98, 10]⟩ : ByteArray) (⟨#[97, 10, 99, 10]⟩ : ByteArray) 1).bind fun bt307 => (if bt305.2 = 0 then (if bt305.1.toList = ([97, 120, 99] : List UInt8) then (if bt307.2 = 0 then (some (bt307.1.toList == ([64, 64, 32, 49, 44, 50, 32, 49, 44, 50, 32, 64, 64, 10, 32, 97, 10, 45, 98, 10, 43, 99, 10] : List UInt8))) else (some false)) else (some false)) else (some false)))
set_option maxHeartbeats 8000000 in
set_option maxRecDepth 100000 in
theorem smockinglaw01_awake.calls  (r : Bool) (w : World) (h : smockinglaw01_awake.f  = some r) :
  Calls Tryd.prog 17 #[] w fun e w' => e = .returned (.bool r) ∧ Below w.heap.size w w' := by
 have hu34 := Tryd.underlying34
 have HB := Aside0.mk (Below.refl w.heap.size w)
 have H : ((text_Apply.f (⟨#[97, 98, 99]⟩ : ByteArray) (([(⟨1, 2, (⟨#[120]⟩ : ByteArray)⟩ : S34)] : List (S34)))).bind fun bt305 => ((text_Diff.f (⟨#[97, 10, 98, 10]⟩ : ByteArray) (⟨#[97, 10, 99, 10]⟩ : ByteArray) 1).bind fun bt307 => (if bt305.2 = 0 then (if bt305.1.toList = ([97, 120, 99] : List UInt8) then (if bt307.2 = 0 then (some (bt307.1.toList == ([64, 64, 32, 49, 44, 50, 32, 49, 44, 50, 32, 64, 64, 10, 32, 97, 10, 45, 98, 10, 43, 99, 10] : List UInt8))) else (some false)) else (some false)) else (some false)))) = some r := h
 clear h
 obtain ⟨y302, hy302⟩ : ∃ y_ : List (S34), y_ = (([(⟨1, 2, (⟨#[120]⟩ : ByteArray)⟩ : S34)] : List (S34))) := ⟨_, rfl⟩
 replace H : ((text_Apply.f (⟨#[97, 98, 99]⟩ : ByteArray) y302).bind fun bt305 => ((text_Diff.f (⟨#[97, 10, 98, 10]⟩ : ByteArray) (⟨#[97, 10, 99, 10]⟩ : ByteArray) 1).bind fun bt307 => (if bt305.2 = 0 then (if bt305.1.toList = ([97, 120, 99] : List UInt8) then (if bt307.2 = 0 then (some (bt307.1.toList == ([64, 64, 32, 49, 44, 50, 32, 49, 44, 50, 32, 64, 64, 10, 32, 97, 10, 45, 98, 10, 43, 99, 10] : List UInt8))) else (some false)) else (some false)) else (some false)))) = some r := by first | (rw [hy302]; with_reducible exact H) | (have H2_ := (Option.bind_some _ _).symm.trans H; rw [hy302]; with_reducible exact H2_) | (have H2_ := (Option.bind_some _ _).symm.trans H; with_reducible exact H2_) | with_reducible exact H | (rw [hy302]; exact H) | exact H
 have Ny302 := Aside0.mk hy302
 clear hy302
 replace H := Option.bind_eq_some_iff.mp H
 obtain ⟨⟨t305, t306⟩, A10, H⟩ := H
 replace H : ((text_Diff.f (⟨#[97, 10, 98, 10]⟩ : ByteArray) (⟨#[97, 10, 99, 10]⟩ : ByteArray) 1).bind fun bt307 => (if t306 = 0 then (if t305.toList = ([97, 120, 99] : List UInt8) then (if bt307.2 = 0 then (some (bt307.1.toList == ([64, 64, 32, 49, 44, 50, 32, 49, 44, 50, 32, 64, 64, 10, 32, 97, 10, 45, 98, 10, 43, 99, 10] : List UInt8))) else (some false)) else (some false)) else (some false))) = some r := H
 have A1 := Aside0.mk A10
 clear A10
 replace H := Option.bind_eq_some_iff.mp H
 obtain ⟨⟨t307, t308⟩, A20, H⟩ := H
 replace H : (if t306 = 0 then (if t305.toList = ([97, 120, 99] : List UInt8) then (if t308 = 0 then (some (t307.toList == ([64, 64, 32, 49, 44, 50, 32, 49, 44, 50, 32, 64, 64, 10, 32, 97, 10, 45, 98, 10, 43, 99, 10] : List UInt8))) else (some false)) else (some false)) else (some false)) = some r := H
 have A2 := Aside0.mk A20
 clear A20
 by_cases c3 : t306 = 0
 ·rw [if_pos c3] at H
  have c3b0 : (t306 == 0) = true := beq_iff_eq.mpr c3
  have c3b1 : (t306 != 0) = false := bne_eq_false_iff_eq.mpr c3
  clear c3
  by_cases c4 : t305.toList = ([97, 120, 99] : List UInt8)
  ·rw [if_pos c4] at H
   have c4b0 : (t305.toList == ([97, 120, 99] : List UInt8)) = true := beq_iff_eq.mpr c4
   have c4b1 : (t305.toList != ([97, 120, 99] : List UInt8)) = false := bne_eq_false_iff_eq.mpr c4
   clear c4
   by_cases c5 : t308 = 0
   ·rw [if_pos c5] at H
    have c5b0 : (t308 == 0) = true := beq_iff_eq.mpr c5
    have c5b1 : (t308 != 0) = false := bne_eq_false_iff_eq.mpr c5
    clear c5
    obtain rfl := Option.some.inj H
    go_enter Tryd.func17, Tryd.ntmps17
    go_wp2_with (first | ((with_reducible refine gate_dst (N := 7) rfl ?_); refine Kd.R_lit k34 _ 34 ?hg (N := 7) ?hd (xs := ([(⟨1, 2, (⟨#[120]⟩ : ByteArray)⟩ : S34)] : List (S34))) (inner := [.int .i64 1, .int .i64 2, .string (⟨#[120]⟩ : ByteArray)]) (ok := fun _ => True) (okp := fun _ => True) ?hr ?hp (fun _ hk => hk) trivial (Below.refl _ _) (Nat.le_refl _) (by simp) ?_; (case hd => rfl); (case hg => rfl); (case hr => first | (go_simp; done) | (go_simp; rfl)); (case hp => exact (Reps.c3 (show Kd.M k34 _ _ _ (⟨1, 2, (⟨#[120]⟩ : ByteArray)⟩ : S34) [.int .i64 1, .int .i64 2, .string (⟨#[120]⟩ : ByteArray)] from (k34_mkM _ _ _ (⟨1, 2, (⟨#[120]⟩ : ByteArray)⟩ : S34) )) (Reps.none _ _))); intro v303 w6 ho7 hb hg_ hnew_; clear hg_ hnew_; (first | rw [← Ny302.out] at ho7 | (simp only [Int.reduceToNat] at ho7; rw [← Ny302.out] at ho7)); have n0_ := Aside0.mk (Kd.R_lower ho7 (below_size (by repeat (first | (with_reducible first | exact HB.out | apply below_alloc | apply pw_below_drewN | apply below_drew1) | exact HB.out)))); have n1_ := Aside0.mk (below_step (by repeat (first | (with_reducible first | exact HB.out | apply below_alloc | apply pw_below_drewN | apply below_drew1) | exact HB.out)) hb); clear HB; have HO304 := n0_; have HB := n1_; clear n0_ n1_; clear hb ho7; obtain ⟨Ao8, co8, eo8⟩ := Kd.R_slice HO304.out; subst eo8) | ((with_reducible refine gate_callee (f := 10) rfl ?_); refine goesL_ (some 8) rfl rfl Tryd.func10 (by kernel_rfl) rfl #[.string (⟨#[97, 98, 99]⟩ : ByteArray), .slice Ao8 y302.length co8] rfl (by (try simp only [List.map_toArray, List.map_cons, List.map_nil]); first | done | rfl | (simp only [List.length_drop, List.length_take]; rfl)) ?_; (with_reducible refine (text_Apply.calls (⟨#[97, 98, 99]⟩ : ByteArray) _ _ y302 t305 t306 _ ?side1 ?side2 A1.out).mono ?_); (case side1 => repeat (first | exact (Kd.R_reads' HO304.out).2.2 | (with_reducible refine Kd.C_alloc ?_ _) | (with_reducible refine Kd.C_drewN ?_ _) | (with_reducible refine Kd.C_drew ?_))); (case side2 => exact (Kd.R_reads' HO304.out).2.1); rintro e w9 ⟨rfl, hb⟩; refine ⟨_, rfl, ?_⟩; have n0_ := Aside0.mk (Kd.R_below (by (with_reducible repeat (first | apply Kd.R_alloc | apply Kd.R_drewN | apply Kd.R_drew)); exact HO304.out) hb); have n1_ := Aside0.mk (below_step (by repeat (first | (with_reducible first | exact HB.out | apply below_alloc | apply pw_below_drewN | apply below_drew1) | exact HB.out)) hb); clear HO304; clear HB; have HO304 := n0_; have HB := n1_; clear n0_ n1_; (try clear hb); (try clear hb2); (try clear hk); (try clear hi)) | ((with_reducible refine gate_callee (f := 19) rfl ?_); refine goesL_ (some 12) rfl rfl Tryd.func19 (by kernel_rfl) rfl #[.string (⟨#[97, 10, 98, 10]⟩ : ByteArray), .string (⟨#[97, 10, 99, 10]⟩ : ByteArray), .int .i64 1] rfl (by (try simp only [List.map_toArray, List.map_cons, List.map_nil]); first | done | rfl | (simp only [List.length_drop, List.length_take]; rfl)) ?_; (with_reducible refine (text_Diff.calls (⟨#[97, 10, 98, 10]⟩ : ByteArray) (⟨#[97, 10, 99, 10]⟩ : ByteArray) 1 t307 t308 _ A2.out).mono ?_); rintro e w10 ⟨rfl, hb⟩; refine ⟨_, rfl, ?_⟩; have n0_ := Aside0.mk (Kd.R_below (by (with_reducible repeat (first | apply Kd.R_alloc | apply Kd.R_drewN | apply Kd.R_drew)); exact HO304.out) hb); have n1_ := Aside0.mk (below_step (by repeat (first | (with_reducible first | exact HB.out | apply below_alloc | apply pw_below_drewN | apply below_drew1) | exact HB.out)) hb); clear HO304; clear HB; have HO304 := n0_; have HB := n1_; clear n0_ n1_; (try clear hb); (try clear hb2); (try clear hk); (try clear hi)))
    go_ret
    exact ⟨by first | rfl | (simp [errW_none, errW_some] <;> rfl) | (simp [*, errW_none, errW_some] <;> rfl), by repeat (first | (with_reducible first | exact HB.out | apply below_alloc | apply pw_below_drewN | apply below_drew1) | exact HB.out)⟩
   ·rw [if_neg c5] at H
    have c5b0 : (t308 == 0) = false := beq_eq_false_iff_ne.mpr c5
    have c5b1 : (t308 != 0) = true := bne_iff_ne.mpr c5
    obtain rfl := Option.some.inj H
    go_enter Tryd.func17, Tryd.ntmps17
    go_wp2_with (first | ((with_reducible refine gate_dst (N := 7) rfl ?_); refine Kd.R_lit k34 _ 34 ?hg (N := 7) ?hd (xs := ([(⟨1, 2, (⟨#[120]⟩ : ByteArray)⟩ : S34)] : List (S34))) (inner := [.int .i64 1, .int .i64 2, .string (⟨#[120]⟩ : ByteArray)]) (ok := fun _ => True) (okp := fun _ => True) ?hr ?hp (fun _ hk => hk) trivial (Below.refl _ _) (Nat.le_refl _) (by simp) ?_; (case hd => rfl); (case hg => rfl); (case hr => first | (go_simp; done) | (go_simp; rfl)); (case hp => exact (Reps.c3 (show Kd.M k34 _ _ _ (⟨1, 2, (⟨#[120]⟩ : ByteArray)⟩ : S34) [.int .i64 1, .int .i64 2, .string (⟨#[120]⟩ : ByteArray)] from (k34_mkM _ _ _ (⟨1, 2, (⟨#[120]⟩ : ByteArray)⟩ : S34) )) (Reps.none _ _))); intro v303 w11 ho12 hb hg_ hnew_; clear hg_ hnew_; (first | rw [← Ny302.out] at ho12 | (simp only [Int.reduceToNat] at ho12; rw [← Ny302.out] at ho12)); have n0_ := Aside0.mk (Kd.R_lower ho12 (below_size (by repeat (first | (with_reducible first | exact HB.out | apply below_alloc | apply pw_below_drewN | apply below_drew1) | exact HB.out)))); have n1_ := Aside0.mk (below_step (by repeat (first | (with_reducible first | exact HB.out | apply below_alloc | apply pw_below_drewN | apply below_drew1) | exact HB.out)) hb); clear HB; have HO304 := n0_; have HB := n1_; clear n0_ n1_; clear hb ho12; obtain ⟨Ao13, co13, eo13⟩ := Kd.R_slice HO304.out; subst eo13) | ((with_reducible refine gate_callee (f := 10) rfl ?_); refine goesL_ (some 8) rfl rfl Tryd.func10 (by kernel_rfl) rfl #[.string (⟨#[97, 98, 99]⟩ : ByteArray), .slice Ao13 y302.length co13] rfl (by (try simp only [List.map_toArray, List.map_cons, List.map_nil]); first | done | rfl | (simp only [List.length_drop, List.length_take]; rfl)) ?_; (with_reducible refine (text_Apply.calls (⟨#[97, 98, 99]⟩ : ByteArray) _ _ y302 t305 t306 _ ?side1 ?side2 A1.out).mono ?_); (case side1 => repeat (first | exact (Kd.R_reads' HO304.out).2.2 | (with_reducible refine Kd.C_alloc ?_ _) | (with_reducible refine Kd.C_drewN ?_ _) | (with_reducible refine Kd.C_drew ?_))); (case side2 => exact (Kd.R_reads' HO304.out).2.1); rintro e w14 ⟨rfl, hb⟩; refine ⟨_, rfl, ?_⟩; have n0_ := Aside0.mk (Kd.R_below (by (with_reducible repeat (first | apply Kd.R_alloc | apply Kd.R_drewN | apply Kd.R_drew)); exact HO304.out) hb); have n1_ := Aside0.mk (below_step (by repeat (first | (with_reducible first | exact HB.out | apply below_alloc | apply pw_below_drewN | apply below_drew1) | exact HB.out)) hb); clear HO304; clear HB; have HO304 := n0_; have HB := n1_; clear n0_ n1_; (try clear hb); (try clear hb2); (try clear hk); (try clear hi)) | ((with_reducible refine gate_callee (f := 19) rfl ?_); refine goesL_ (some 12) rfl rfl Tryd.func19 (by kernel_rfl) rfl #[.string (⟨#[97, 10, 98, 10]⟩ : ByteArray), .string (⟨#[97, 10, 99, 10]⟩ : ByteArray), .int .i64 1] rfl (by (try simp only [List.map_toArray, List.map_cons, List.map_nil]); first | done | rfl | (simp only [List.length_drop, List.length_take]; rfl)) ?_; (with_reducible refine (text_Diff.calls (⟨#[97, 10, 98, 10]⟩ : ByteArray) (⟨#[97, 10, 99, 10]⟩ : ByteArray) 1 t307 t308 _ A2.out).mono ?_); rintro e w15 ⟨rfl, hb⟩; refine ⟨_, rfl, ?_⟩; have n0_ := Aside0.mk (Kd.R_below (by (with_reducible repeat (first | apply Kd.R_alloc | apply Kd.R_drewN | apply Kd.R_drew)); exact HO304.out) hb); have n1_ := Aside0.mk (below_step (by repeat (first | (with_reducible first | exact HB.out | apply below_alloc | apply pw_below_drewN | apply below_drew1) | exact HB.out)) hb); clear HO304; clear HB; have HO304 := n0_; have HB := n1_; clear n0_ n1_; (try clear hb); (try clear hb2); (try clear hk); (try clear hi)))
    go_ret
    exact ⟨by first | rfl | (simp [errW_none, errW_some] <;> rfl) | (simp [*, errW_none, errW_some] <;> rfl), by repeat (first | (with_reducible first | exact HB.out | apply below_alloc | apply pw_below_drewN | apply below_drew1) | exact HB.out)⟩
  ·rw [if_neg c4] at H
   have c4b0 : (t305.toList == ([97, 120, 99] : List UInt8)) = false := beq_eq_false_iff_ne.mpr c4
   have c4b1 : (t305.toList != ([97, 120, 99] : List UInt8)) = true := bne_iff_ne.mpr c4
   obtain rfl := Option.some.inj H
   go_enter Tryd.func17, Tryd.ntmps17
   go_wp2_with (first | ((with_reducible refine gate_dst (N := 7) rfl ?_); refine Kd.R_lit k34 _ 34 ?hg (N := 7) ?hd (xs := ([(⟨1, 2, (⟨#[120]⟩ : ByteArray)⟩ : S34)] : List (S34))) (inner := [.int .i64 1, .int .i64 2, .string (⟨#[120]⟩ : ByteArray)]) (ok := fun _ => True) (okp := fun _ => True) ?hr ?hp (fun _ hk => hk) trivial (Below.refl _ _) (Nat.le_refl _) (by simp) ?_; (case hd => rfl); (case hg => rfl); (case hr => first | (go_simp; done) | (go_simp; rfl)); (case hp => exact (Reps.c3 (show Kd.M k34 _ _ _ (⟨1, 2, (⟨#[120]⟩ : ByteArray)⟩ : S34) [.int .i64 1, .int .i64 2, .string (⟨#[120]⟩ : ByteArray)] from (k34_mkM _ _ _ (⟨1, 2, (⟨#[120]⟩ : ByteArray)⟩ : S34) )) (Reps.none _ _))); intro v303 w16 ho17 hb hg_ hnew_; clear hg_ hnew_; (first | rw [← Ny302.out] at ho17 | (simp only [Int.reduceToNat] at ho17; rw [← Ny302.out] at ho17)); have n0_ := Aside0.mk (Kd.R_lower ho17 (below_size (by repeat (first | (with_reducible first | exact HB.out | apply below_alloc | apply pw_below_drewN | apply below_drew1) | exact HB.out)))); have n1_ := Aside0.mk (below_step (by repeat (first | (with_reducible first | exact HB.out | apply below_alloc | apply pw_below_drewN | apply below_drew1) | exact HB.out)) hb); clear HB; have HO304 := n0_; have HB := n1_; clear n0_ n1_; clear hb ho17; obtain ⟨Ao18, co18, eo18⟩ := Kd.R_slice HO304.out; subst eo18) | ((with_reducible refine gate_callee (f := 10) rfl ?_); refine goesL_ (some 8) rfl rfl Tryd.func10 (by kernel_rfl) rfl #[.string (⟨#[97, 98, 99]⟩ : ByteArray), .slice Ao18 y302.length co18] rfl (by (try simp only [List.map_toArray, List.map_cons, List.map_nil]); first | done | rfl | (simp only [List.length_drop, List.length_take]; rfl)) ?_; (with_reducible refine (text_Apply.calls (⟨#[97, 98, 99]⟩ : ByteArray) _ _ y302 t305 t306 _ ?side1 ?side2 A1.out).mono ?_); (case side1 => repeat (first | exact (Kd.R_reads' HO304.out).2.2 | (with_reducible refine Kd.C_alloc ?_ _) | (with_reducible refine Kd.C_drewN ?_ _) | (with_reducible refine Kd.C_drew ?_))); (case side2 => exact (Kd.R_reads' HO304.out).2.1); rintro e w19 ⟨rfl, hb⟩; refine ⟨_, rfl, ?_⟩; have n0_ := Aside0.mk (Kd.R_below (by (with_reducible repeat (first | apply Kd.R_alloc | apply Kd.R_drewN | apply Kd.R_drew)); exact HO304.out) hb); have n1_ := Aside0.mk (below_step (by repeat (first | (with_reducible first | exact HB.out | apply below_alloc | apply pw_below_drewN | apply below_drew1) | exact HB.out)) hb); clear HO304; clear HB; have HO304 := n0_; have HB := n1_; clear n0_ n1_; (try clear hb); (try clear hb2); (try clear hk); (try clear hi)) | ((with_reducible refine gate_callee (f := 19) rfl ?_); refine goesL_ (some 12) rfl rfl Tryd.func19 (by kernel_rfl) rfl #[.string (⟨#[97, 10, 98, 10]⟩ : ByteArray), .string (⟨#[97, 10, 99, 10]⟩ : ByteArray), .int .i64 1] rfl (by (try simp only [List.map_toArray, List.map_cons, List.map_nil]); first | done | rfl | (simp only [List.length_drop, List.length_take]; rfl)) ?_; (with_reducible refine (text_Diff.calls (⟨#[97, 10, 98, 10]⟩ : ByteArray) (⟨#[97, 10, 99, 10]⟩ : ByteArray) 1 t307 t308 _ A2.out).mono ?_); rintro e w20 ⟨rfl, hb⟩; refine ⟨_, rfl, ?_⟩; have n0_ := Aside0.mk (Kd.R_below (by (with_reducible repeat (first | apply Kd.R_alloc | apply Kd.R_drewN | apply Kd.R_drew)); exact HO304.out) hb); have n1_ := Aside0.mk (below_step (by repeat (first | (with_reducible first | exact HB.out | apply below_alloc | apply pw_below_drewN | apply below_drew1) | exact HB.out)) hb); clear HO304; clear HB; have HO304 := n0_; have HB := n1_; clear n0_ n1_; (try clear hb); (try clear hb2); (try clear hk); (try clear hi)))
   go_ret
   exact ⟨by first | rfl | (simp [errW_none, errW_some] <;> rfl) | (simp [*, errW_none, errW_some] <;> rfl), by repeat (first | (with_reducible first | exact HB.out | apply below_alloc | apply pw_below_drewN | apply below_drew1) | exact HB.out)⟩
 ·rw [if_neg c3] at H
  have c3b0 : (t306 == 0) = false := beq_eq_false_iff_ne.mpr c3
  have c3b1 : (t306 != 0) = true := bne_iff_ne.mpr c3
  obtain rfl := Option.some.inj H
  go_enter Tryd.func17, Tryd.ntmps17
  go_wp2_with (first | ((with_reducible refine gate_dst (N := 7) rfl ?_); refine Kd.R_lit k34 _ 34 ?hg (N := 7) ?hd (xs := ([(⟨1, 2, (⟨#[120]⟩ : ByteArray)⟩ : S34)] : List (S34))) (inner := [.int .i64 1, .int .i64 2, .string (⟨#[120]⟩ : ByteArray)]) (ok := fun _ => True) (okp := fun _ => True) ?hr ?hp (fun _ hk => hk) trivial (Below.refl _ _) (Nat.le_refl _) (by simp) ?_; (case hd => rfl); (case hg => rfl); (case hr => first | (go_simp; done) | (go_simp; rfl)); (case hp => exact (Reps.c3 (show Kd.M k34 _ _ _ (⟨1, 2, (⟨#[120]⟩ : ByteArray)⟩ : S34) [.int .i64 1, .int .i64 2, .string (⟨#[120]⟩ : ByteArray)] from (k34_mkM _ _ _ (⟨1, 2, (⟨#[120]⟩ : ByteArray)⟩ : S34) )) (Reps.none _ _))); intro v303 w21 ho22 hb hg_ hnew_; clear hg_ hnew_; (first | rw [← Ny302.out] at ho22 | (simp only [Int.reduceToNat] at ho22; rw [← Ny302.out] at ho22)); have n0_ := Aside0.mk (Kd.R_lower ho22 (below_size (by repeat (first | (with_reducible first | exact HB.out | apply below_alloc | apply pw_below_drewN | apply below_drew1) | exact HB.out)))); have n1_ := Aside0.mk (below_step (by repeat (first | (with_reducible first | exact HB.out | apply below_alloc | apply pw_below_drewN | apply below_drew1) | exact HB.out)) hb); clear HB; have HO304 := n0_; have HB := n1_; clear n0_ n1_; clear hb ho22; obtain ⟨Ao23, co23, eo23⟩ := Kd.R_slice HO304.out; subst eo23) | ((with_reducible refine gate_callee (f := 10) rfl ?_); refine goesL_ (some 8) rfl rfl Tryd.func10 (by kernel_rfl) rfl #[.string (⟨#[97, 98, 99]⟩ : ByteArray), .slice Ao23 y302.length co23] rfl (by (try simp only [List.map_toArray, List.map_cons, List.map_nil]); first | done | rfl | (simp only [List.length_drop, List.length_take]; rfl)) ?_; (with_reducible refine (text_Apply.calls (⟨#[97, 98, 99]⟩ : ByteArray) _ _ y302 t305 t306 _ ?side1 ?side2 A1.out).mono ?_); (case side1 => repeat (first | exact (Kd.R_reads' HO304.out).2.2 | (with_reducible refine Kd.C_alloc ?_ _) | (with_reducible refine Kd.C_drewN ?_ _) | (with_reducible refine Kd.C_drew ?_))); (case side2 => exact (Kd.R_reads' HO304.out).2.1); rintro e w24 ⟨rfl, hb⟩; refine ⟨_, rfl, ?_⟩; have n0_ := Aside0.mk (Kd.R_below (by (with_reducible repeat (first | apply Kd.R_alloc | apply Kd.R_drewN | apply Kd.R_drew)); exact HO304.out) hb); have n1_ := Aside0.mk (below_step (by repeat (first | (with_reducible first | exact HB.out | apply below_alloc | apply pw_below_drewN | apply below_drew1) | exact HB.out)) hb); clear HO304; clear HB; have HO304 := n0_; have HB := n1_; clear n0_ n1_; (try clear hb); (try clear hb2); (try clear hk); (try clear hi)) | ((with_reducible refine gate_callee (f := 19) rfl ?_); refine goesL_ (some 12) rfl rfl Tryd.func19 (by kernel_rfl) rfl #[.string (⟨#[97, 10, 98, 10]⟩ : ByteArray), .string (⟨#[97, 10, 99, 10]⟩ : ByteArray), .int .i64 1] rfl (by (try simp only [List.map_toArray, List.map_cons, List.map_nil]); first | done | rfl | (simp only [List.length_drop, List.length_take]; rfl)) ?_; (with_reducible refine (text_Diff.calls (⟨#[97, 10, 98, 10]⟩ : ByteArray) (⟨#[97, 10, 99, 10]⟩ : ByteArray) 1 t307 t308 _ A2.out).mono ?_); rintro e w25 ⟨rfl, hb⟩; refine ⟨_, rfl, ?_⟩; have n0_ := Aside0.mk (Kd.R_below (by (with_reducible repeat (first | apply Kd.R_alloc | apply Kd.R_drewN | apply Kd.R_drew)); exact HO304.out) hb); have n1_ := Aside0.mk (below_step (by repeat (first | (with_reducible first | exact HB.out | apply below_alloc | apply pw_below_drewN | apply below_drew1) | exact HB.out)) hb); clear HO304; clear HB; have HO304 := n0_; have HB := n1_; clear n0_ n1_; (try clear hb); (try clear hb2); (try clear hk); (try clear hi)))
  go_ret
  exact ⟨by first | rfl | (simp [errW_none, errW_some] <;> rfl) | (simp [*, errW_none, errW_some] <;> rfl), by repeat (first | (with_reducible first | exact HB.out | apply below_alloc | apply pw_below_drewN | apply below_drew1) | exact HB.out)⟩

end Go.Proofs.YthimblhfjfngiaaDoor.PText

namespace Go.Proofs.YthimblhfjfngiaaDoor.PText
open Go.RowKit Go.Lib Go.Proofs.YthimblhfjfngiaaDoorW.PrintWords Go.Proofs.YthimblhfjfngiaaDoorW.PrintLast Go.Proofs.YthimblhfjfngiaaDoorW.PrintMore
theorem awake_f : smockinglaw01_awake.f = some true := by kernel_rfl
theorem gains_le {n : Int} : ∀ {l : List S34} {p : Int}, Tx.Ch n p (l.map toE) → Tx.gains (l.map toE) ≤ (sumS l : Int)
  | [], _, _ => by simp [Tx.gains, sumS]
  | x :: l, p, h => by
    have h1 : (toE x).f ≤ (toE x).t := h.2.1
    have h2 := gains_le (l := l) h.2.2
    have e : Tx.gains ((x :: l).map toE) = Tx.gain (toE x) + Tx.gains (l.map toE) := rfl
    have e2 : Tx.gain (toE x) = ((toE x).x.length : Int) - ((toE x).t - (toE x).f) := rfl
    rw [e, e2, sumS_cons, toE_x, ← size_list]
    omega
theorem made_len {s : ByteArray} {l : List S34} (h : fineE s.size l = 0) : (madeE s l).length ≤ s.size + sumS l := by
  have hc := (fine_chain s.size l h).2.2
  rw [size_list] at hc
  have h1 := Tx.ap_len (s := s.data.toList) (Int.le_refl 0) hc
  have h2 := gains_le hc
  have h3 := sumS_ord l
  unfold madeE
  rw [size_list]
  omega
/-- what making edits answers -/
def applyR (s : ByteArray) (l : List S34) : ByteArray × Int := if fineE s.size l ≠ 0 then (⟨#[]⟩, fineE s.size l) else if 200000 < (madeE s l).length then (⟨#[]⟩, 2) else (⟨(madeE s l).toArray⟩, 0)
theorem apply_f (s : ByteArray) (l : List S34) (h : s.size + sumS l ≤ 100000000000) : text_Apply.f s l = some (applyR s l) := by
  unfold text_Apply.f applyR
  by_cases hf : fineE s.size l = 0
  · have := made_len hf
    rw [if_neg (show ¬ (fineE s.size l ≠ 0) from fun q => q hf), if_neg (show ¬ (fineE s.size l ≠ 0) from fun q => q hf), if_pos (by omega)]
    by_cases hb : 200000 < (madeE s l).length
    · rw [if_pos hb, if_pos hb]
    · rw [if_neg hb, if_neg hb]
  · rw [if_pos hf, if_pos hf]
theorem tinv_l0 (s : ByteArray) (hs : s.size ≤ 100000000000) (row : List S34) (hl : row.length ≤ 10000) : ∀ (m i k B : Nat) (out : List S34) (p sh : Int), row.length - i = m → i ≤ row.length → m + 1 + B ≤ k → 0 ≤ p →
    Tx.Ch (s.size : Int) p ((row.drop i).map toE) → -p ≤ sh → sh + (sumS (row.drop i) : Int) ≤ 1000000000000 → out.length ≤ i →
    ∃ k', B ≤ k' ∧ text_Inverse.l0 k s out sh row (row.length : Int) (i : Int) = (text_joined.f k' (out ++ invS s sh (row.drop i))).bind fun t => some (t, 0) := by
  intro m
  induction m with
  | zero =>
    intro i k B out p sh hm hi hk hp hc h1 h2 ho
    obtain ⟨k, rfl⟩ : ∃ q, k = q + 1 := ⟨k - 1, by omega⟩
    refine ⟨k, by omega, ?_⟩
    rw [text_Inverse.l0, if_neg (by omega), List.drop_of_length_le (by omega)]
    simp [invS]
  | succ m ih =>
    intro i k B out p sh hm hi hk hp hc h1 h2 ho
    obtain ⟨k, rfl⟩ : ∃ q, k = q + 1 := ⟨k - 1, by omega⟩
    have hlt : i < row.length := by omega
    have hd : row.drop i = row[i] :: row.drop (i + 1) := List.drop_eq_getElem_cons hlt
    rw [hd] at hc h2 ⊢
    obtain ⟨hc1, hc2, hc3⟩ := hc
    replace hc1 : p ≤ row[i].f0 := hc1
    replace hc2 : row[i].f0 ≤ row[i].f1 := hc2
    replace hc3 : Tx.Ch (s.size : Int) row[i].f1 ((row.drop (i + 1)).map toE) := hc3
    have hc4 := Tx.ch_le hc3
    rw [sumS_cons] at h2
    have w1 : wrap64 (row[i].f0 + sh) = row[i].f0 + sh := w64 (by omega) (by omega)
    have w2 : wrap64 (row[i].f0 + sh + (row[i].f2.size : Int)) = row[i].f0 + sh + (row[i].f2.size : Int) := w64 (by omega) (by omega)
    have w3 : wrap64 (row[i].f1 - row[i].f0) = row[i].f1 - row[i].f0 := w64 (by omega) (by omega)
    have w4 : wrap64 ((row[i].f2.size : Int) - (row[i].f1 - row[i].f0)) = (row[i].f2.size : Int) - (row[i].f1 - row[i].f0) := w64 (by omega) (by omega)
    have w5 : wrap64 (sh + ((row[i].f2.size : Int) - (row[i].f1 - row[i].f0))) = sh + ((row[i].f2.size : Int) - (row[i].f1 - row[i].f0)) := w64 (by omega) (by omega)
    obtain ⟨k', g1, g2⟩ := ih (i + 1) k B (out ++ [(⟨row[i].f0 + sh, row[i].f0 + sh + (row[i].f2.size : Int), s.extract row[i].f0.toNat row[i].f1.toNat⟩ : S34)]) row[i].f1 (sh + ((row[i].f2.size : Int) - (row[i].f1 - row[i].f0))) (by omega) (by omega) (by omega) (by omega) hc3 (by omega) (by omega) (by rw [List.length_append, List.length_singleton]; omega)
    refine ⟨k', g1, ?_⟩
    rw [text_Inverse.l0, if_pos (by omega), if_pos (by omega), if_pos (by omega), rd34_at row i hlt, if_pos (by omega), if_pos hc2, if_pos hc4, if_pos (by omega), w1, w2, w3, w4, w5, nx i (by omega), g2]
    have e4 : invS s sh (row[i] :: row.drop (i + 1)) = (⟨row[i].f0 + sh, row[i].f0 + sh + (row[i].f2.size : Int), s.extract row[i].f0.toNat row[i].f1.toNat⟩ : S34) :: invS s (sh + ((row[i].f2.size : Int) - (row[i].f1 - row[i].f0))) (row.drop (i + 1)) := rfl
    rw [e4, List.append_assoc out, List.singleton_append]
/-- what the inverse answers -/
def inverseR (s : ByteArray) (l : List S34) : List S34 × Int := if (applyR s l).2 = 0 then (jnS (invS s 0 (Tx.ord eltS l)), 0) else ([], (applyR s l).2)
theorem apply_zero {s : ByteArray} {l : List S34} (h : (applyR s l).2 = 0) : fineE s.size l = 0 ∧ applyR s l = (⟨(madeE s l).toArray⟩, 0) := by
  unfold applyR at h ⊢
  by_cases hf : fineE s.size l = 0
  · rw [if_neg (show ¬ (fineE s.size l ≠ 0) from fun q => q hf)] at h ⊢
    by_cases hb : 200000 < (madeE s l).length
    · rw [if_pos hb] at h; cases h
    · rw [if_neg hb]; exact ⟨hf, rfl⟩
  · rw [if_pos hf] at h; exact absurd h hf
theorem inv_bounds {s : ByteArray} {l : List S34} {N : Nat} (hN : l.length ≤ N) (hN2 : N ≤ 10000) (h : s.size + sumS l ≤ 100000000000) : (invS s 0 (Tx.ord eltS l)).length ≤ N ∧ sumS (invS s 0 (Tx.ord eltS l)) ≤ 1000000000000000 := by
  have ho : (Tx.ord eltS l).length ≤ N := Nat.le_trans (Tx.ord_len l) hN
  refine ⟨by rw [invS_len]; exact ho, Nat.le_trans (invS_sum s _ 0) ?_⟩
  exact Nat.le_trans (Nat.mul_le_mul (show (Tx.ord eltS l).length ≤ 10000 by omega) (show s.size ≤ 100000000000 by omega)) (by decide)
theorem inverse_f (s : ByteArray) (l : List S34) (N : Nat) (hN : l.length ≤ N) (hN2 : N ≤ 10000) (h : s.size + sumS l ≤ 100000000000) (k : Nat) (hk : 2 * N + 10 ≤ k) : text_Inverse.f k s l = some (inverseR s l) := by
  unfold text_Inverse.f inverseR
  rw [apply_f s l h, Option.bind_some]
  by_cases hz : (applyR s l).2 = 0
  · have hf := (apply_zero hz).1
    have hc := (fine_chain s.size l hf).2.2
    have ho : (Tx.ord eltS l).length ≤ N := Nat.le_trans (Tx.ord_len l) hN
    rw [if_pos hz, if_pos hz]
    have es : text_sorted.f l = some (Tx.ord eltS l) := by unfold text_sorted.f; rw [if_pos (by omega)]
    rw [es, Option.bind_some]
    have h3 := sumS_ord l
    obtain ⟨k', g1, g2⟩ := tinv_l0 s (by omega) (Tx.ord eltS l) (by omega) (Tx.ord eltS l).length 0 k (N + 2) [] 0 0 (by omega) (by omega) (by omega) (Int.le_refl 0) (by rw [List.drop_zero]; exact hc) (by omega) (by rw [List.drop_zero]; omega) (Nat.le_refl _)
    rw [List.drop_zero, List.nil_append] at g2
    obtain ⟨b1, b2⟩ := inv_bounds hN hN2 h
    rw [tjoined_f _ (by omega) b2 k' (by omega), Option.bind_some] at g2
    exact g2
  · rw [if_neg hz, if_neg hz]
theorem heavy_l0 (l : List S34) (hl : l.length ≤ 1000000000000000) (hz : ∀ x ∈ l, x.f2.size ≤ 1000000000000000) : ∀ (m i k n : Nat), l.length - i = m → i ≤ l.length → m + 1 ≤ k → n ≤ 2000000000000000 →
    ∃ b, smockinglaw01_heavy.l0 k l (n : Int) (i : Int) = some b ∧ (b = false → n + sumS (l.drop i) ≤ 6000) := by
  intro m
  induction m with
  | zero =>
    intro i k n hm hi hk hn
    obtain ⟨k, rfl⟩ : ∃ q, k = q + 1 := ⟨k - 1, by omega⟩
    rw [smockinglaw01_heavy.l0, if_neg (by omega), List.drop_of_length_le (by omega)]
    by_cases c1 : (n : Int) > 6000
    · rw [if_pos c1]; exact ⟨true, rfl, fun q => by cases q⟩
    · rw [if_neg c1]
      have hs0 : sumS [] = 0 := rfl
      by_cases c2 : (l.length : Int) > 60
      · rw [if_pos c2]; exact ⟨_, rfl, fun _ => by omega⟩
      · rw [if_neg c2]; exact ⟨_, rfl, fun _ => by omega⟩
  | succ m ih =>
    intro i k n hm hi hk hn
    obtain ⟨k, rfl⟩ : ∃ q, k = q + 1 := ⟨k - 1, by omega⟩
    have hlt : i < l.length := by omega
    have hd : l.drop i = l[i] :: l.drop (i + 1) := List.drop_eq_getElem_cons hlt
    rw [smockinglaw01_heavy.l0, if_pos (by omega)]
    by_cases c1 : (n : Int) ≤ 6000
    · have hx := hz l[i] (List.getElem_mem hlt)
      obtain ⟨b, g1, g2⟩ := ih (i + 1) k (n + l[i].f2.size) (by omega) (by omega) (by omega) (by omega)
      rw [if_pos c1, if_pos (by omega), rd34_at l i hlt, show wrap64 ((n : Int) + (l[i].f2.size : Int)) = ((n + l[i].f2.size : Nat) : Int) by rw [w64 (by omega) (by omega)]; omega,
        show wrap64 ((i : Int) + 1) = ((i + 1 : Nat) : Int) by rw [w64 (by omega) (by omega)]; omega]
      refine ⟨b, g1, fun q => ?_⟩
      have := g2 q
      rw [hd, sumS_cons]
      omega
    · rw [if_neg c1, if_pos (by omega)]
      exact ⟨true, rfl, fun q => by cases q⟩
theorem heavy_f (s : ByteArray) (l : List S34) (hs : s.size ≤ 1000000000000000) (hl : l.length ≤ 1000000000000000) (hz : ∀ x ∈ l, x.f2.size ≤ 1000000000000000) (k : Nat) (hk : l.length + 1 ≤ k) :
    ∃ b, smockinglaw01_heavy.f k s l = some b ∧ (b = false → s.size + sumS l ≤ 6000) := by
  obtain ⟨b, g1, g2⟩ := heavy_l0 l hl hz l.length 0 k s.size (by omega) (by omega) hk (by omega)
  rw [List.drop_zero] at g2
  exact ⟨b, g1, g2⟩
end Go.Proofs.YthimblhfjfngiaaDoor.PText

