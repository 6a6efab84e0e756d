/- Chapter 01: what the claims share. Part 23 of 24. -/
import Derived.Test.YthimblhfjfngiaaDoorBTextV
import Derived.Shelf.Abstract
import Derived.OwnWalkIn
import Derived.TacticsInMore
import Derived.LoopNIn
import Derived.LoopIn
import Derived.Lib.IndexLaws
namespace Go.Proofs.YthimblhfjfngiaaDoor.PText
open Go.RowKit Go.Shelf Go.Proofs.YthimblhfjfngiaaDoorW.PrintWords Go.Proofs.YthimblhfjfngiaaDoorW.PrintLast Go.Proofs.YthimblhfjfngiaaDoorW.PrintMore
set_option linter.unusedVariables false
set_option linter.unusedSimpArgs false
attribute [local go_sem] Oper.semAt_some
def linesB (s : ByteArray) : List ByteArray := (Tx.lines s.data.toList).map fun l => ⟨l.toArray⟩
def yfb_.f (s : ByteArray) : Option (List ByteArray) := if s.size ≤ 1000000000 then some (linesB s) else none
/-- where the first line of a text ends -/
def lineEnd (s : ByteArray) : Nat := if Lib.indexByte s.data.toList 10 + 1 = 0 then s.size else (Lib.indexByte s.data.toList 10 + 1).toNat
theorem bytes_list {l : List UInt8} {i : Nat} (h : l[i]? = some 10) (k : ∀ j, j < i → l[j]? ≠ some 10) : ∃ a r, l = a ++ 10 :: r ∧ a.length = i ∧ (10 : UInt8) ∉ a := by
  have hlt : i < l.length := by
    rcases Nat.lt_or_ge i l.length with q | q
    · exact q
    · rw [List.getElem?_eq_none q] at h; cases h
  refine ⟨l.take i, l.drop (i + 1), ?_, by rw [List.length_take]; omega, ?_⟩
  · have e : l[i] = 10 := by rw [List.getElem?_eq_getElem hlt] at h; exact Option.some.inj h
    rw [← e, ← List.drop_eq_getElem_cons hlt, List.take_append_drop]
  · intro m
    obtain ⟨j, hj, e⟩ := List.mem_iff_getElem.1 m
    rw [List.length_take] at hj
    rw [List.getElem_take] at e
    exact k j (by omega) (by rw [List.getElem?_eq_getElem (by omega), e])
theorem ba_ext {a b : ByteArray} (h : a.data.toList = b.data.toList) : a = b := by
  have : a.data = b.data := Array.toList_inj.1 h
  cases a; cases b; simp_all
theorem lgo_all : ∀ (s cur : List UInt8), (∀ x ∈ s, x ≠ 10) → cur ++ s ≠ [] → Tx.lgo cur s = [cur ++ s]
  | [], cur, _, h => by
    unfold Tx.lgo
    rw [List.append_nil] at h ⊢
    rw [if_neg h]
  | c :: r, cur, h, _ => by
    unfold Tx.lgo
    rw [if_neg (h c List.mem_cons_self), lgo_all r (cur ++ [c]) (fun x m => h x (List.mem_cons_of_mem _ m)) (by simp)]
    simp
theorem linesB_step (s : ByteArray) (h : s ≠ ⟨#[]⟩) : 0 < lineEnd s ∧ lineEnd s ≤ s.size ∧ linesB s = s.extract 0 (lineEnd s) :: linesB (s.extract (lineEnd s) s.size) := by
  have hne : s.data.toList ≠ [] := fun e => h (ba_ext e)
  have hsz : s.size = s.data.toList.length := by rw [Array.length_toList]; rfl
  unfold lineEnd
  have hge := Lib.indexByte_ge s.data.toList 10
  by_cases hi : Lib.indexByte s.data.toList 10 + 1 = 0
  · rw [if_pos hi]
    have hn : Lib.indexByte s.data.toList 10 = -1 := by omega
    have hno := Lib.indexByte_none hn
    have hpos : 0 < s.data.toList.length := List.length_pos_iff.2 hne
    refine ⟨by omega, Nat.le_refl _, ?_⟩
    have e1 : s.extract 0 s.size = s := by apply ba_ext; rw [ByteArray.data_extract, Array.toList_extract, List.extract_eq_take_drop, List.drop_zero, Nat.sub_zero, hsz, List.take_length]
    have e2 : linesB (s.extract s.size s.size) = [] := by
      have : (s.extract s.size s.size).data.toList = [] := by rw [ByteArray.data_extract, Array.toList_extract, List.extract_eq_take_drop, Nat.sub_self, List.take_zero]
      unfold linesB; rw [this]; rfl
    rw [e1, e2]
    unfold linesB Tx.lines
    rw [lgo_all _ _ (fun x m e => by subst e; obtain ⟨j, hj, e⟩ := List.mem_iff_getElem.1 m; exact hno j (by rw [List.getElem?_eq_getElem hj, e])) (by simpa using hne)]
    simp
  · rw [if_neg hi]
    obtain ⟨i, hi'⟩ : ∃ i : Nat, Lib.indexByte s.data.toList 10 = (i : Int) := ⟨(Lib.indexByte s.data.toList 10).toNat, by omega⟩
    obtain ⟨hs, hk⟩ := Lib.indexByte_some hi'
    obtain ⟨a, r, e, hl, hm⟩ := bytes_list hs hk
    have ei : (Lib.indexByte s.data.toList 10 + 1).toNat = i + 1 := by omega
    rw [ei]
    have hlen : s.data.toList.length = i + 1 + r.length := by rw [e]; simp; omega
    refine ⟨by omega, by omega, ?_⟩
    have e1 : (s.extract 0 (i + 1)).data.toList = a ++ [10] := by
      rw [ByteArray.data_extract, Array.toList_extract, List.extract_eq_take_drop, List.drop_zero, Nat.sub_zero, e, ← hl]
      have : a ++ 10 :: r = (a ++ [10]) ++ r := by simp
      rw [this, List.take_left' (by simp)]
    have e2 : (s.extract (i + 1) s.size).data.toList = r := by
      rw [ByteArray.data_extract, Array.toList_extract, hsz, hlen, e, ← hl]
      have : a ++ 10 :: r = (a ++ [10]) ++ r := by simp
      rw [this, List.extract_eq_take_drop, show a.length + 1 = (a ++ [10]).length by simp, List.drop_left]
      simp
    have e3 : s.extract 0 (i + 1) = ⟨(a ++ [10]).toArray⟩ := ba_ext (by rw [e1])
    unfold linesB Tx.lines
    rw [e3, e2, e, Tx.lgo_line _ _ _ hm]
    simp
theorem linesB_nil : linesB ⟨#[]⟩ = [] := rfl
theorem idx_calls (s : ByteArray) (w : World) : Calls Tryd.prog 75 #[.string s, .int .u8 10] w fun e w' => e = .returned (.int .i64 (Lib.indexByte s.data.toList 10)) ∧ w' = w := Tryd.strings_IndexByte s 10 w
theorem lineEnd_none {s : ByteArray} (h : Lib.indexByte s.data.toList 10 + 1 = 0) : lineEnd s = s.size := by unfold lineEnd; rw [if_pos h]
theorem lineEnd_some {s : ByteArray} (h : ¬ Lib.indexByte s.data.toList 10 + 1 = 0) : ((lineEnd s : Nat) : Int) = Lib.indexByte s.data.toList 10 + 1 := by
  unfold lineEnd; rw [if_neg h]
  have := Lib.indexByte_ge s.data.toList 10
  omega
set_option maxRecDepth 100000 in
set_option maxHeartbeats 4000000 in
theorem each_in (l Bc : Nat) (s : ByteArray) (xs : List ByteArray) (hxs : xs = linesB s) (hsz : s.size ≤ 1000000000) (J : List ByteArray → World → Prop)
    (hJs : ∀ pre W v, J pre W → J pre (W.setCell ⟨Bc, 0, none⟩ v))
    (hY : ∀ pre x W, (∃ post, pre ++ x :: post = xs) → J pre W → YieldAt Fence.wide 2 Tryd.prog l #[.string x] W fun e W' => e = .returned (.bool true) ∧ J (pre ++ [x]) W' ∧ ywb_ Bc 9 W W')
    (W : World) (hB : Boxed W Bc 9 (.string s)) (h0 : J [] W) :
    CallsIn Fence.wide 3 Tryd.prog 74 #[.func (.yield l) #[] #[], .pointer (some ⟨Bc, 0, none⟩)] W fun e W' => (∃ v, e = .returned v) ∧ J xs W' := by
  refine callsIn_of_wp Tryd.func74 rfl trivial ?_ rfl
  simp only [Tryd.ntmps74, List.size_toArray, List.length_cons, List.length_nil, Nat.reduceAdd, Nat.reduceSub, Array.replicate_succ, Array.replicate_zero, List.push_toArray, List.append_toArray, List.nil_append, List.cons_append]
  gi_wp2
  gi_loopw [] (fun wr => ∃ (pre : List ByteArray) (rest : ByteArray), xs = pre ++ linesB rest ∧ rest.size ≤ 1000000000 ∧ Boxed wr Bc 9 (.string rest) ∧ J pre wr)
    (fun wr => match wr.cell? ⟨Bc, 0, none⟩ with | some (.string r) => r.size | _ => 0)
  case atStart => exact ⟨[], s, hxs, hsz, hB, h0⟩
  case round =>
    obtain ⟨pre, rest, hx, hr, hb, hJ⟩ := hrel
    have hc := hb.cell
    have hf := hb.frozen
    by_cases he : rest = ⟨#[]⟩
    · subst he
      gi_wp2
      go_end0
      exact ⟨⟨_, rfl⟩, by rw [hx, linesB_nil, List.append_nil]; exact hJ⟩
    · obtain ⟨h1, h2, h3⟩ := linesB_step rest he
      have hbe : rest.toList.isEmpty = false := by
        cases q : rest.toList.isEmpty with
        | false => rfl
        | true => exact absurd (ba_ext (by rw [← Lib.toList_data rest]; exact List.isEmpty_iff.1 q)) he
      have hge := Lib.indexByte_ge rest.data.toList 10
      by_cases hi : Lib.indexByte rest.data.toList 10 + 1 = 0
      · have hle := lineEnd_none hi
        have hi' : Lib.indexByte rest.data.toList 10 = -1 := by omega
        have hx1 : rest.extract 0 (lineEnd rest) = rest := by
          apply ba_ext; rw [hle, ByteArray.data_extract, Array.toList_extract, List.extract_eq_take_drop, List.drop_zero, Nat.sub_zero]
          exact List.take_of_length_le (by rw [Array.length_toList]; exact Nat.le_refl _)
        have hx2 : rest.extract (lineEnd rest) rest.size = ⟨#[]⟩ := by
          apply ba_ext; rw [hle, ByteArray.data_extract, Array.toList_extract, List.extract_eq_take_drop, Nat.sub_self, List.take_zero]
        obtain ⟨fn, tmps, assign, body, hy, hR⟩ := hY pre rest wr ⟨linesB ⟨#[]⟩, by rw [hx, h3, hx1, hx2]⟩ hJ
        gi_wp2_with (refine ⟨trivial, ?_⟩; gi_at_call 75; refine (callsIn_wide.2 (idx_calls rest _)).mono ?_; rintro e w' ⟨rfl, rfl⟩)
        refine hR.mono ?_
        rintro e W3 ⟨rfl, hJ3, hk3⟩
        have hb3 := hk3 _ hb
        have hc3 := hb3.cell
        have hf3 := hb3.frozen
        gi_wp2
        go_roundw
        case rel => exact ⟨pre ++ [rest], ⟨#[]⟩, by rw [hx, h3, hx1, hx2]; simp, Nat.zero_le _, hb3.set _, hJs _ _ _ hJ3⟩
        case measure =>
          rw [(hb3.set _).cell, hb.cell]
          show 0 < rest.size
          omega
      · have hle := lineEnd_some hi
        obtain ⟨i, hi1⟩ : ∃ i : Nat, Lib.indexByte rest.data.toList 10 = (i : Int) := ⟨(Lib.indexByte rest.data.toList 10).toNat, by omega⟩
        have hle2 : lineEnd rest = i + 1 := by omega
        rw [hle2] at h1 h2 h3
        obtain ⟨fn, tmps, assign, body, hy, hR⟩ := hY pre (rest.extract 0 (i + 1)) wr ⟨_, by rw [hx, h3]⟩ hJ
        gi_wp2_with (refine ⟨trivial, ?_⟩; gi_at_call 75; refine (callsIn_wide.2 (idx_calls rest _)).mono ?_; rintro e w' ⟨rfl, rfl⟩)
        refine hR.mono ?_
        rintro e W3 ⟨rfl, hJ3, hk3⟩
        have hb3 := hk3 _ hb
        have hc3 := hb3.cell
        have hf3 := hb3.frozen
        gi_wp2
        go_roundw
        case rel => exact ⟨pre ++ [rest.extract 0 (i + 1)], rest.extract (i + 1) rest.size, by rw [hx, h3]; simp, by rw [ByteArray.size_extract]; omega, hb3.set _, hJs _ _ _ hJ3⟩
        case measure =>
          rw [(hb3.set _).cell, hb.cell]
          show (rest.extract (i + 1) rest.size).size < rest.size
          rw [ByteArray.size_extract]
          omega
theorem each_calls (s : ByteArray) (w : World) : Calls Tryd.prog 54 #[.string s] w fun e w' => e = .returned (.func (.func 74) #[] #[.pointer (some ⟨w.heap.size, 0, none⟩)]) ∧ w' = w.alloc (.cells #[.string s] 9) := by
  go_enter Tryd.func54, Tryd.ntmps54
  go_wp2
  go_ret
  exact ⟨rfl, rfl⟩
theorem info9L : (Tryd.prog.info? 9).map (fun i => (i.zero, i.size, i.bytes)) = some (some (.string ⟨#[]⟩), 1, 16) := by kernel_rfl
theorem flat_len : ∀ (L : List (List UInt8)), (∀ x ∈ L, x ≠ []) → L.length ≤ L.flatten.length
  | [], _ => Nat.le_refl _
  | x :: L, h => by
    have h1 : 0 < x.length := List.length_pos_iff.2 (h x List.mem_cons_self)
    have h2 := flat_len L (fun y m => h y (List.mem_cons_of_mem _ m))
    rw [List.flatten_cons, List.length_append, List.length_cons]
    omega
theorem linesB_len (s : ByteArray) : (linesB s).length ≤ s.size := by
  have h := flat_len (Tx.lines s.data.toList) (Tx.lines_ne _)
  rw [Tx.yMb_, Array.length_toList] at h
  unfold linesB
  rw [List.length_map]
  exact h
set_option maxRecDepth 100000 in
set_option maxHeartbeats 4000000 in
theorem yfb_.calls (a0 : ByteArray) (r : List ByteArray) (w : World) (h : yfb_.f a0 = some r) :
    Calls Tryd.prog 30 #[.string a0] w fun e w' => ∃ v0_ : Value, e = .returned (v0_) ∧ Kd.R Kd.string 9 w' w.heap.size (fun _ => True) v0_ r ∧ Below w.heap.size w w' := by
  unfold yfb_.f at h
  by_cases hsz : a0.size ≤ 1000000000
  · rw [if_pos hsz] at h
    have hr := Option.some.inj h
    clear h
    refine (callsIn_wide (n := 4)).1 ?_
    obtain ⟨i0, hi, hz0, hz1, hz2⟩ := info_parts info9L
    refine callsIn_of_wp_marks Tryd.func30 rfl trivial ?_ rfl
    simp only [Tryd.ntmps30, List.size_toArray, List.length_cons, List.length_nil, Nat.reduceAdd, Nat.reduceSub, Array.replicate_succ, Array.replicate_zero, List.push_toArray, List.append_toArray, List.nil_append, List.cons_append]
    gi_wp2_with (refine ⟨trivial, ?_⟩; gi_at_call 54; refine (callsIn_wide.2 (each_calls a0 _)).mono ?_; rintro e w' ⟨rfl, rfl⟩)
    have bO := Boxed.new w 45 (.slice none 0 0)
    have bS := Boxed.new (w.alloc (.cells #[.slice none 0 0] 45)) 9 (.string a0)
    simp only [World.size_alloc] at bS ⊢
    have hB0 : Below w.heap.size w ((w.alloc (.cells #[.slice none 0 0] 45)).alloc (.cells #[.string a0] 9)) := ((Below.refl _ w).alloc (Nat.le_refl _) _).alloc (by simp) _
    refine wpIn_rangeFunc_cell rfl (by omega) (gf := 74) (lb := #[.pointer (some ⟨w.heap.size + 1, 0, none⟩)]) rfl trivial (enters_of Tryd.func74 (by kernel_rfl) rfl)
      (encs := fun x : ByteArray => #[Value.string x]) (Bc := w.heap.size + 1) (t := 9) (v0 := .string a0) (xs := linesB a0) (fun l J W hJ hJs hY hB h0 => each_in l _ a0 _ rfl hsz J hJs hY W hB h0) bS (fun _ => rfl)
      (fun pre W => (∃ v, Boxed W w.heap.size 45 v ∧ W.ownsRow (w.heap.size + 2) 9 1 v pre.length (pre.map Value.string)) ∧ Below w.heap.size w W ∧ w.heap.size + 2 ≤ W.heap.size)
      ?own ?cell ⟨⟨_, bO.alloc _, World.ownsRow_nil _ _ _ _⟩, hB0, by simp⟩
      (fun x => { tmps := #[.string a0, undef, .slice none 0 0, .pointer (some ⟨w.heap.size, 0, none⟩), .string x, .string a0, .func (.func 74) #[] #[.pointer (some ⟨w.heap.size + 1, 0, none⟩)], .string x, undef, undef, undef, undef, undef], defers := [] }) ?assign ?body ?done
    case own =>
      rintro s A B row ⟨⟨v, hv, hrow⟩, hb, hs⟩ hg hr
      have hne : ∀ (b : Nat) (cs : Array Value) (t : TypeId) (fz : Nat × Nat), A.heap[b]? = some (.cells cs t fz) → some b ≠ row := fun b cs t fz hb' e => by
        obtain ⟨_, o, ho, hc⟩ := hr b e.symm
        rw [hb'] at ho; cases ho; cases hc
      refine ⟨⟨v, hv.kept hg (hne _ _ _ _ hv), hrow.kept hg ?_⟩, hb.grown hg hb.size (fun k e => ?_), Nat.le_trans hs hg.size⟩
      · rcases hrow.2 with ⟨rfl, _⟩ | ⟨g, cap, cur, rfl, _, hgb, _⟩
        · exact .inl rfl
        · exact .inr (hne _ _ _ _ hgb)
      · have := (hr k e).1
        simp at this
        omega
    case cell =>
      rintro s W v ⟨⟨u, hu, hr⟩, hb, hs⟩
      refine ⟨⟨u, hu.other (by omega) _, hr.kept (grownBy_setCell' _ _ _) (.inr fun e => ?_)⟩, hb.setCell (p := ⟨w.heap.size + 1, 0, none⟩) (by show _ ≤ w.heap.size + 1; omega) _, by simpa using hs⟩
      have := (hr.lt _ e).1
      omega
    case assign =>
      intro l x W K hK
      gi_wp2
      exact hK
    case body =>
      rintro l pre x W ⟨post, hp⟩ ⟨⟨v, hv, hrow⟩, hB, hS⟩
      have hc := hv.cell
      have hlen : pre.length + 1 ≤ 1000000000 := by
        have h1 := linesB_len a0
        rw [← hp, List.length_append, List.length_cons] at h1
        omega
      gi_wp2_with (gi_at_builtin; refine wpListIn_append_own _ rfl _ _ 45 rfl (w.heap.size + 2) 9 i0 (.string ⟨#[]⟩) 1 16 Tryd.underlying45 hi hz0 hz1 hz2 rfl (by decide) _ _ _ rfl (hrow.alloc _) ⟨W.heap.size, 0, none⟩ 1 1 [.string x] rfl rfl (cell_one_new _ _ _) (by simp [Value.oneCell']) (by simp only [maxLen]; omega) (by omega) (by simp; omega) ?_; intro v' w1 hown' hgrow _; obtain ⟨g', cap', rfl⟩ := ownsRow_succ hown'; obtain ⟨hv1, hv2, hr2, hk2, hb2⟩ := hv.appended (by decide) (own_weaken hrow (show w.heap.size ≤ w.heap.size + 2 by omega)) hB.size (Nat.le_refl _) (own_weaken hown' (show w.heap.size ≤ w.heap.size + 2 by omega)) hgrow; have hc1 := hv1.cell; have hf1 := hv1.frozen)
      refine ⟨hk2, ?_, ⟨_, hv2, ?_⟩, hB.trans hb2, ?_⟩
      · intro u hu
        exact ((hu.alloc _).kept hgrow (fun e => by have := (hrow.lt _ e.symm).1; omega)).other (by omega) _
      · rw [List.length_append, List.map_append]
        exact hown'.kept (grownBy_setCell' _ _ _) (.inr fun e => by have := (hown'.lt _ e).1; omega)
      · have := hgrow.size
        simp at this ⊢
        omega
    case done =>
      rintro D W hD ⟨⟨v, hv, hrow⟩, hB, hS⟩ hK
      have hc := hv.cell
      gi_wp2
      refine ⟨by simp, .inl ⟨_, _, rfl, run_takeDeferred hK, ?_⟩⟩
      refine ⟨_, results_tmp rfl _ _ _, v, rfl, ?_, hB.trans (belowK_b (w := w) (Nat.le_refl _) W D _ _ (by simp at hD; omega) hK rfl rfl)⟩
      have hr3 := ownsRow_putObj hrow (.deferred none) hK rfl
      rw [← hr]
      exact Kd.yPb_ (own_weaken hr3 (by omega)) (fun _ _ => trivial)
  · rw [if_neg hsz] at h; cases h
end Go.Proofs.YthimblhfjfngiaaDoor.PText

namespace Go.Proofs.YthimblhfjfngiaaDoor.PText
open Go.RowKit Go.Proofs.YthimblhfjfngiaaDoorW.PrintWords Go.Proofs.YthimblhfjfngiaaDoorW.PrintLast Go.Proofs.YthimblhfjfngiaaDoorW.PrintMore
attribute [local go_sem] y1_ y2_ ycb_ ydb_ yV_ yW_ y3_ y4_   -- for this text's walks alone
set_option linter.unusedVariables false
set_option linter.unusedSimpArgs false

def yF_.j0 : Nat → Int → List ByteArray → List ByteArray → Bool → Option ((List (S78)) × Int)
 | 0, _, _, _, _ => none
 | k + 1, x2, x8, x9, x14 => if x14 = true then (some (([] : List (S78)), 2)) else (if x2 < 0 then (some (([] : List (S78)), 1)) else (if x2 > 20 then (some (([] : List (S78)), 1)) else ((yj_.f k x8 x9).bind fun t291 => (some (t291, 0)))))
def yF_.f (k : Nat) (a0 : ByteArray) (a1 : ByteArray) (a2 : Int) : Option ((List (S78)) × Int) := (yfb_.f a0).bind fun t285 => ((yfb_.f a1).bind fun t288 => (if (a0.size : Int) > 200000 then (yF_.j0 k a2 t285 t288 true) else (if (a1.size : Int) > 200000 then (yF_.j0 k a2 t285 t288 true) else (if (t285.length : Int) > 2000 then (yF_.j0 k a2 t285 t288 true) else (yF_.j0 k a2 t285 t288 (decide ((t288.length : Int) > 2000)))))))
set_option maxHeartbeats 8000000 in
set_option maxRecDepth 100000 in
theorem yF_.calls (k : Nat) (a0 : ByteArray) (a1 : ByteArray) (a2 : Int) (r1 : List (S78)) (r2 : Int) (w : World) (h : yF_.f k a0 a1 a2 = some (r1, r2)) :
  Calls Tryd.prog 43 #[.string a0, .string a1, .int .i64 a2] w fun e w' => ∃ v0_ : Value, e = .returned (.tuple #[v0_, .int .i64 r2]) ∧ Kd.R k78 78 w' w.heap.size (fun _ => True) v0_ r1 ∧ Below w.heap.size w w' := by
 have HB := Aside0.mk (Below.refl w.heap.size w)
 have H : ((yfb_.f a0).bind fun t285 => ((yfb_.f a1).bind fun t288 => (if (a0.size : Int) > 200000 then (yF_.j0 k a2 t285 t288 true) else (if (a1.size : Int) > 200000 then (yF_.j0 k a2 t285 t288 true) else (if (t285.length : Int) > 2000 then (yF_.j0 k a2 t285 t288 true) else (yF_.j0 k a2 t285 t288 (decide ((t288.length : Int) > 2000)))))))) = some (r1, r2) := h
 clear h
 replace H := Option.bind_eq_some_iff.mp H
 obtain ⟨t285, A40, H⟩ := H
 replace H : ((yfb_.f a1).bind fun t288 => (if (a0.size : Int) > 200000 then (yF_.j0 k a2 t285 t288 true) else (if (a1.size : Int) > 200000 then (yF_.j0 k a2 t285 t288 true) else (if (t285.length : Int) > 2000 then (yF_.j0 k a2 t285 t288 true) else (yF_.j0 k a2 t285 t288 (decide ((t288.length : Int) > 2000))))))) = some (r1, r2) := H
 have A4 := Aside0.mk A40
 clear A40
 replace H := Option.bind_eq_some_iff.mp H
 obtain ⟨t288, A50, H⟩ := H
 replace H : (if (a0.size : Int) > 200000 then (yF_.j0 k a2 t285 t288 true) else (if (a1.size : Int) > 200000 then (yF_.j0 k a2 t285 t288 true) else (if (t285.length : Int) > 2000 then (yF_.j0 k a2 t285 t288 true) else (yF_.j0 k a2 t285 t288 (decide ((t288.length : Int) > 2000)))))) = some (r1, r2) := H
 have A5 := Aside0.mk A50
 clear A50
 have HC6 := Aside0.mk H
 clear H
 go_enter Tryd.func43, Tryd.ntmps43
 go_upto_region 2 with (first | ((with_reducible refine ys_ (f := 30) rfl ?_); refine goesL_ (some 11) rfl rfl Tryd.func30 (by kernel_rfl) rfl #[.string a0] rfl (by (try simp only [List.map_toArray, List.map_cons, List.map_nil]); first | done | rfl | (simp only [List.length_drop, List.length_take]; rfl)) ?_; (with_reducible refine (yfb_.calls a0 t285 _ A4.out).mono ?_); rintro e w7 ⟨v286, rfl, ho0, hb⟩; refine ⟨_, rfl, ?_⟩; have n0_ := Aside0.mk (Kd.yY_ ho0 (yk_ (by repeat (with_reducible first | exact HB.out | apply yc_ | apply ya_ | apply yb_)))); have n1_ := Aside0.mk (ym_ (by repeat (with_reducible first | exact HB.out | apply yc_ | apply ya_ | apply yb_)) hb); clear HB; have HO287 := n0_; have HB := n1_; clear n0_ n1_; (try clear hb); (try clear hb2); (try clear hk); (try clear hi); (try clear ho0)) | ((with_reducible refine ys_ (f := 30) rfl ?_); refine goesL_ (some 13) rfl rfl Tryd.func30 (by kernel_rfl) rfl #[.string a1] rfl (by (try simp only [List.map_toArray, List.map_cons, List.map_nil]); first | done | rfl | (simp only [List.length_drop, List.length_take]; rfl)) ?_; (with_reducible refine (yfb_.calls a1 t288 _ A5.out).mono ?_); rintro e w8 ⟨v289, rfl, ho0, hb⟩; refine ⟨_, rfl, ?_⟩; have n0_ := Aside0.mk (Kd.yXb_ (by (with_reducible repeat (first | apply Kd.yh_ | apply Kd.yi_ | apply Kd.R_drew)); exact HO287.out) (Kd.R_base ho0) hb); have n1_ := Aside0.mk (Kd.yY_ (Kd.R_new' ho0 (Kd.R_lt (by (with_reducible repeat (first | apply Kd.yh_ | apply Kd.yi_ | apply Kd.R_drew)); exact HO287.out))) (yk_ (by repeat (with_reducible first | exact HB.out | apply yc_ | apply ya_ | apply yb_)))); have n2_ := Aside0.mk (ym_ (by repeat (with_reducible first | exact HB.out | apply yc_ | apply ya_ | apply yb_)) hb); clear HO287; clear HB; have HO287 := n0_; have HO290 := n1_; have HB := n2_; clear n0_ n1_ n2_; (try clear hb); (try clear hb2); (try clear hk); (try clear hi); (try clear ho0)))
 (try simp only [Act.put, q1_, q2_, q3_])
 go_cut [14] (fun v14 wc => ∃ (kq : Nat) (x14_5 : Bool), v14 = .bool x14_5 ∧ Aside0 (yF_.j0 kq a2 t285 t288 x14_5 = some (r1, r2)) ∧ Aside0 (kq ≤ k) ∧ Aside0 (Kd.R Kd.string 9 wc w.heap.size (fun k_ => some k_ ≠ (v289 : Value).ownBlock) v286 t285) ∧ Aside0 (Kd.R Kd.string 9 wc w.heap.size (fun k_ => some k_ ≠ (v286 : Value).ownBlock) v289 t288) ∧ Aside0 (Below w.heap.size w wc))
 case first =>
  have H := HC6.out
  clear HC6
  by_cases c9 : (a0.size : Int) > 200000
  ·rw [if_pos c9] at H
   have c9b0 : decide (200000 < (a0.size : Int)) = true := decide_eq_true c9
   have c9b1 : decide (200000 < a0.size) = true := decide_eq_true (by omega)
   clear c9
   (first | rw [c9b0] | (simp only [i64_w, i32_w]; rw [c9b0]) | skip)
   have H' := Aside0.mk H
   clear H
   go_wp2
   go_meet
   case rel => exact ⟨_, (true), (by first | rfl | (simp; done) | (simp [*]; done)), H', ⟨by first | omega | exact Nat.le_refl _⟩, ⟨by (with_reducible repeat (first | apply Kd.yh_ | apply Kd.yi_ | apply Kd.R_drew)); exact Kd.R_mono HO287.out (fun _ hk => hk.2)⟩, ⟨by (with_reducible repeat (first | apply Kd.yh_ | apply Kd.yi_ | apply Kd.R_drew)); exact Kd.R_mono HO290.out (fun _ hk => hk.2)⟩, ⟨by repeat (with_reducible first | exact HB.out | apply yc_ | apply ya_ | apply yb_)⟩⟩
  ·rw [if_neg c9] at H
   have c9b0 : decide (200000 < (a0.size : Int)) = false := decide_eq_false c9
   have c9b1 : decide (200000 < a0.size) = false := decide_eq_false (by omega)
   clear c9
   (first | rw [c9b0] | (simp only [i64_w, i32_w]; rw [c9b0]) | skip)
   by_cases c10 : (a1.size : Int) > 200000
   ·rw [if_pos c10] at H
    have c10b0 : decide (200000 < (a1.size : Int)) = true := decide_eq_true c10
    have c10b1 : decide (200000 < a1.size) = true := decide_eq_true (by omega)
    clear c10
    have H' := Aside0.mk H
    clear H
    go_wp2
    go_meet
    case rel => exact ⟨_, (true), (by first | rfl | (simp; done) | (simp [*]; done)), H', ⟨by first | omega | exact Nat.le_refl _⟩, ⟨by (with_reducible repeat (first | apply Kd.yh_ | apply Kd.yi_ | apply Kd.R_drew)); exact Kd.R_mono HO287.out (fun _ hk => hk.2)⟩, ⟨by (with_reducible repeat (first | apply Kd.yh_ | apply Kd.yi_ | apply Kd.R_drew)); exact Kd.R_mono HO290.out (fun _ hk => hk.2)⟩, ⟨by repeat (with_reducible first | exact HB.out | apply yc_ | apply ya_ | apply yb_)⟩⟩
   ·rw [if_neg c10] at H
    have c10b0 : decide (200000 < (a1.size : Int)) = false := decide_eq_false c10
    have c10b1 : decide (200000 < a1.size) = false := decide_eq_false (by omega)
    clear c10
    by_cases c11 : (t285.length : Int) > 2000
    ·rw [if_pos c11] at H
     have c11b0 : decide (2000 < (t285.length : Int)) = true := decide_eq_true c11
     have c11b1 : decide (2000 < t285.length) = true := decide_eq_true (by omega)
     clear c11
     have H' := Aside0.mk H
     clear H
     obtain ⟨Ao12, co12, eo12⟩ := Kd.yC_ HO287.out
     subst eo12
     go_wp2
     go_meet
     case rel => exact ⟨_, (true), (by first | rfl | (simp; done) | (simp [*]; done)), H', ⟨by first | omega | exact Nat.le_refl _⟩, ⟨by (with_reducible repeat (first | apply Kd.yh_ | apply Kd.yi_ | apply Kd.R_drew)); exact Kd.R_mono HO287.out (fun _ hk => hk.2)⟩, ⟨by (with_reducible repeat (first | apply Kd.yh_ | apply Kd.yi_ | apply Kd.R_drew)); exact Kd.R_mono HO290.out (fun _ hk => hk.2)⟩, ⟨by repeat (with_reducible first | exact HB.out | apply yc_ | apply ya_ | apply yb_)⟩⟩
    ·rw [if_neg c11] at H
     have c11b0 : decide (2000 < (t285.length : Int)) = false := decide_eq_false c11
     have c11b1 : decide (2000 < t285.length) = false := decide_eq_false (by omega)
     clear c11
     have H' := Aside0.mk H
     clear H
     obtain ⟨Ao13, co13, eo13⟩ := Kd.yC_ HO287.out
     subst eo13
     obtain ⟨Ao14, co14, eo14⟩ := Kd.yC_ HO290.out
     subst eo14
     go_wp2
     go_meet
     case rel => exact ⟨_, (decide ((t288.length : Int) > 2000)), (by first | rfl | (simp; done) | (simp [*]; done)), H', ⟨by first | omega | exact Nat.le_refl _⟩, ⟨by (with_reducible repeat (first | apply Kd.yh_ | apply Kd.yi_ | apply Kd.R_drew)); exact Kd.R_mono HO287.out (fun _ hk => hk.2)⟩, ⟨by (with_reducible repeat (first | apply Kd.yh_ | apply Kd.yi_ | apply Kd.R_drew)); exact Kd.R_mono HO290.out (fun _ hk => hk.2)⟩, ⟨by repeat (with_reducible first | exact HB.out | apply yc_ | apply ya_ | apply yb_)⟩⟩
 case rest =>
  clear HC6
  try clear c1
  try clear p2
  try clear c3
  try clear c4
  try clear c9
  try clear c9b0
  try clear c9b1
  try clear c10
  try clear c10b0
  try clear c10b1
  try clear c11
  try clear c11b0
  try clear c11b1
  obtain ⟨kq, x14_5, rfl, HA, HJ5, HO_8, HO_9, HB⟩ := hcut
  cases kq with
  | zero => exact absurd HA.out (by simp [yF_.j0])
  | succ kj5 =>
   have H := HA.out
   clear HA
   simp only [yF_.j0] at H
   by_cases c15 : x14_5 = true
   ·subst c15
    have H1 : (some (([] : List (S78)), 2)) = some (r1, r2) := by rw [if_pos rfl] at H; exact H
    clear H
    have H := H1
    clear H1
    simp only [Option.some.injEq, Prod.mk.injEq] at H
    obtain ⟨rfl, rfl⟩ := H
    go_wp2
    go_ret2
    exact ⟨_, by first | rfl | (simp [yu_, yv_] <;> rfl) | (simp [*, yu_, yv_] <;> rfl), by first | exact Kd.R_nil _ _ _ _ _ | exact Kd.N_nil _ _ _ _ _ | exact Kd.V_nil _ _ _ _ _ | exact Kd.Q_nil _ _ _ _ _ | exact Kd.S_nil _ _ _ _ _, by repeat (with_reducible first | exact HB.out | apply yc_ | apply ya_ | apply yb_)⟩
   ·replace c15 := Bool.eq_false_iff.mpr c15
    subst c15
    have H1 : (if a2 < 0 then (some (([] : List (S78)), 1)) else (if a2 > 20 then (some (([] : List (S78)), 1)) else ((yj_.f kj5 t285 t288).bind fun t291 => (some (t291, 0))))) = some (r1, r2) := by rw [if_neg (show ¬ (false = true) by decide)] at H; exact H
    clear H
    have H := H1
    clear H1
    by_cases c16 : a2 < 0
    ·rw [if_pos c16] at H
     have c16b0 : decide (a2 < 0) = true := decide_eq_true c16
     clear c16
     simp only [Option.some.injEq, Prod.mk.injEq] at H
     obtain ⟨rfl, rfl⟩ := H
     go_wp2
     go_ret2
     exact ⟨_, by first | rfl | (simp [yu_, yv_] <;> rfl) | (simp [*, yu_, yv_] <;> rfl), by first | exact Kd.R_nil _ _ _ _ _ | exact Kd.N_nil _ _ _ _ _ | exact Kd.V_nil _ _ _ _ _ | exact Kd.Q_nil _ _ _ _ _ | exact Kd.S_nil _ _ _ _ _, by repeat (with_reducible first | exact HB.out | apply yc_ | apply ya_ | apply yb_)⟩
    ·rw [if_neg c16] at H
     have c16b0 : decide (a2 < 0) = false := decide_eq_false c16
     clear c16
     by_cases c17 : a2 > 20
     ·rw [if_pos c17] at H
      have c17b0 : decide (20 < a2) = true := decide_eq_true c17
      clear c17
      simp only [Option.some.injEq, Prod.mk.injEq] at H
      obtain ⟨rfl, rfl⟩ := H
      go_wp2
      go_ret2
      exact ⟨_, by first | rfl | (simp [yu_, yv_] <;> rfl) | (simp [*, yu_, yv_] <;> rfl), by first | exact Kd.R_nil _ _ _ _ _ | exact Kd.N_nil _ _ _ _ _ | exact Kd.V_nil _ _ _ _ _ | exact Kd.Q_nil _ _ _ _ _ | exact Kd.S_nil _ _ _ _ _, by repeat (with_reducible first | exact HB.out | apply yc_ | apply ya_ | apply yb_)⟩
     ·rw [if_neg c17] at H
      have c17b0 : decide (20 < a2) = false := decide_eq_false c17
      clear c17
      replace H := Option.bind_eq_some_iff.mp H
      obtain ⟨t291, A180, H⟩ := H
      replace H : (some (t291, 0)) = some (r1, r2) := H
      have A18 := Aside0.mk A180
      clear A180
      simp only [Option.some.injEq, Prod.mk.injEq] at H
      obtain ⟨rfl, rfl⟩ := H
      obtain ⟨Ao19, co19, eo19⟩ := Kd.yC_ HO_8.out
      subst eo19
      obtain ⟨Ao20, co20, eo20⟩ := Kd.yC_ HO_9.out
      subst eo20
      go_wp2_with (first | ((with_reducible refine ys_ (f := 61) rfl ?_); refine goesL_ (some 42) rfl rfl Tryd.func61 (by kernel_rfl) rfl #[.slice Ao19 t285.length co19, .slice Ao20 t288.length co20] rfl (by (try simp only [List.map_toArray, List.map_cons, List.map_nil]); first | done | rfl | (simp only [List.length_drop, List.length_take]; rfl)) ?_; (with_reducible refine (yj_.calls kj5 _ _ t285 _ _ t288 t291 _ ?side1 ?side2 ?side3 ?side4 A18.out).mono ?_); (case side1 => repeat (first | exact (Kd.yo_ HO_8.out).2.2 | (with_reducible refine Kd.yK_ ?_ _) | (with_reducible refine Kd.yR_ ?_ _) | (with_reducible refine Kd.C_drew ?_))); (case side2 => exact (Kd.yo_ HO_8.out).2.1); (case side3 => repeat (first | exact (Kd.yo_ HO_9.out).2.2 | (with_reducible refine Kd.yK_ ?_ _) | (with_reducible refine Kd.yR_ ?_ _) | (with_reducible refine Kd.C_drew ?_))); (case side4 => exact (Kd.yo_ HO_9.out).2.1); rintro e w21 ⟨v292, rfl, ho0, hb⟩; refine ⟨_, rfl, ?_⟩; have n0_ := Aside0.mk (Kd.yM_ (by (with_reducible repeat (first | apply Kd.yh_ | apply Kd.yi_ | apply Kd.R_drew)); exact HO_8.out) hb); have n1_ := Aside0.mk (Kd.yM_ (by (with_reducible repeat (first | apply Kd.yh_ | apply Kd.yi_ | apply Kd.R_drew)); exact HO_9.out) hb); have n2_ := Aside0.mk (Kd.yY_ ho0 (yk_ (by repeat (with_reducible first | exact HB.out | apply yc_ | apply ya_ | apply yb_)))); have n3_ := Aside0.mk (ym_ (by repeat (with_reducible first | exact HB.out | apply yc_ | apply ya_ | apply yb_)) hb); clear HO_8; clear HO_9; clear HB; have HO_8 := n0_; have HO_9 := n1_; have HO293 := n2_; have HB := n3_; clear n0_ n1_ n2_ n3_; (try clear hb); (try clear hb2); (try clear hk); (try clear hi); (try clear ho0)))
      go_ret2
      exact ⟨_, by first | rfl | (simp [yu_, yv_] <;> rfl) | (simp [*, yu_, yv_] <;> rfl), by (with_reducible repeat (first | apply Kd.yh_ | apply Kd.yi_ | apply Kd.R_drew)); exact HO293.out, by repeat (with_reducible first | exact HB.out | apply yc_ | apply ya_ | apply yb_)⟩

end Go.Proofs.YthimblhfjfngiaaDoor.PText

namespace Go.Proofs.YthimblhfjfngiaaDoor.PText
open Go.RowKit Go.Proofs.YthimblhfjfngiaaDoorW.PrintWords Go.Proofs.YthimblhfjfngiaaDoorW.PrintLast Go.Proofs.YthimblhfjfngiaaDoorW.PrintMore
attribute [local go_sem] y1_ y2_ ycb_ ydb_ yV_ yW_ y3_ y4_   -- for this text's walks alone
set_option linter.unusedVariables false
set_option linter.unusedSimpArgs false

def yx_.l0 : Nat → List (S34) → Int → Bool → List (S78) → Int → Int → Option ((List (S34)) × Int)
 | 0, _, _, _, _, _, _ => none
 | k + 1, x8, x9, x10, x23, x24, x25 => if x25 < x24 then (if 0 ≤ x25 then (if x25 < (x23.length : Int) then (if ((rd_T78 x23 x25).f0) = 32 then (yx_.l0 k x8 (wrap64 (x9 + (((rd_T78 x23 x25).f1).size : Int))) false x23 x24 (wrap64 (x25 + 1))) else (if x10 = true then (if 0 ≤ (wrap64 ((x8.length : Int) - 1)) then (if (wrap64 ((x8.length : Int) - 1)) < (x8.length : Int) then (if ((rd_T78 x23 x25).f0) = 45 then (yx_.l0 k (x8.set ((wrap64 ((x8.length : Int) - 1)) : Int).toNat (⟨(rd_T34 x8 (wrap64 ((x8.length : Int) - 1))).f0, wrap64 (x9 + (((rd_T78 x23 x25).f1).size : Int)), (rd_T34 x8 (wrap64 ((x8.length : Int) - 1))).f2⟩ : S34)) (wrap64 (x9 + (((rd_T78 x23 x25).f1).size : Int))) true x23 x24 (wrap64 (x25 + 1))) else (if ((rd_T34 x8 (wrap64 ((x8.length : Int) - 1))).f2).size + ((rd_T78 x23 x25).f1).size ≤ 9223372036854775807 then (yx_.l0 k (x8.set ((wrap64 ((x8.length : Int) - 1)) : Int).toNat (⟨(rd_T34 x8 (wrap64 ((x8.length : Int) - 1))).f0, (rd_T34 x8 (wrap64 ((x8.length : Int) - 1))).f1, ((rd_T34 x8 (wrap64 ((x8.length : Int) - 1))).f2) ++ ((rd_T78 x23 x25).f1)⟩ : S34)) x9 true x23 x24 (wrap64 (x25 + 1))) else (none))) else (none)) else (none)) else (if x8.length < 4398046511104 then ((some (x8 ++ [(⟨x9, x9, (⟨#[]⟩ : ByteArray)⟩ : S34)] : List (S34))).bind fun y516 => (if 0 ≤ (wrap64 ((y516.length : Int) - 1)) then (if (wrap64 ((y516.length : Int) - 1)) < (y516.length : Int) then (if ((rd_T78 x23 x25).f0) = 45 then (yx_.l0 k (y516.set ((wrap64 ((y516.length : Int) - 1)) : Int).toNat (⟨(rd_T34 y516 (wrap64 ((y516.length : Int) - 1))).f0, wrap64 (x9 + (((rd_T78 x23 x25).f1).size : Int)), (rd_T34 y516 (wrap64 ((y516.length : Int) - 1))).f2⟩ : S34)) (wrap64 (x9 + (((rd_T78 x23 x25).f1).size : Int))) true x23 x24 (wrap64 (x25 + 1))) else (if ((rd_T34 y516 (wrap64 ((y516.length : Int) - 1))).f2).size + ((rd_T78 x23 x25).f1).size ≤ 9223372036854775807 then (yx_.l0 k (y516.set ((wrap64 ((y516.length : Int) - 1)) : Int).toNat (⟨(rd_T34 y516 (wrap64 ((y516.length : Int) - 1))).f0, (rd_T34 y516 (wrap64 ((y516.length : Int) - 1))).f1, ((rd_T34 y516 (wrap64 ((y516.length : Int) - 1))).f2) ++ ((rd_T78 x23 x25).f1)⟩ : S34)) x9 true x23 x24 (wrap64 (x25 + 1))) else (none))) else (none)) else (none))) else (none)))) else (none)) else (none)) else (some (x8, 0))
def yx_.f (k : Nat) (a0 : ByteArray) (a1 : ByteArray) : Option ((List (S34)) × Int) := (yF_.f k a0 a1 0).bind fun bt508 => (if bt508.2 = 0 then (yx_.l0 k ([] : List (S34)) 0 false bt508.1 (bt508.1.length : Int) 0) else (some (([] : List (S34)), bt508.2)))
def yx_.T19 : Bool × List (List Nat × List Nat) := (true, [([], []), ([0], [0]), ([1], [1]), ([2], [2]), ([], []), ([4], [4]), ([3, 5], [3, 5]), ([0, 0, 1, 2, 3, 4, 5, 6], [0]), ([7, 0, 1, 2, 3, 4, 5, 6], [7]), ([8, 6, 0, 1, 2, 3, 4, 5, 6], [6, 8])])
def yx_.B19 : List Nat := [0, 1, 3, 7, 0, 16, 63, 127, 255, 511]
theorem yx_.tab19 : rtab .any (opsOf Tryd.f21 19) = yx_.T19 := by kernel_rfl
theorem yx_.bits19 : waitsOk yx_.T19.2 yx_.B19 = true := by kernel_rfl
set_option maxHeartbeats 8000000 in
set_option maxRecDepth 100000 in
theorem yx_.calls (k : Nat) (a0 : ByteArray) (a1 : ByteArray) (r1 : List (S34)) (r2 : Int) (w : World) (h : yx_.f k a0 a1 = some (r1, r2)) :
  Calls Tryd.prog 21 #[.string a0, .string a1] w fun e w' => ∃ v0_ : Value, e = .returned (.tuple #[v0_, .int .i64 r2]) ∧ Kd.R k34 34 w' w.heap.size (fun _ => True) v0_ r1 ∧ Below w.heap.size w w' := by
 have hu78 := Tryd.underlying78
 have hu34 := Tryd.underlying34
 have HB := Aside0.mk (Below.refl w.heap.size w)
 have H : ((yF_.f k a0 a1 0).bind fun bt508 => (if bt508.2 = 0 then (yx_.l0 k ([] : List (S34)) 0 false bt508.1 (bt508.1.length : Int) 0) else (some (([] : List (S34)), bt508.2)))) = some (r1, r2) := h
 clear h
 replace H := Option.bind_eq_some_iff.mp H
 obtain ⟨⟨t508, t509⟩, A30, H⟩ := H
 replace H : (if t509 = 0 then (yx_.l0 k ([] : List (S34)) 0 false t508 (t508.length : Int) 0) else (some (([] : List (S34)), t509))) = some (r1, r2) := H
 have A3 := Aside0.mk A30
 clear A30
 by_cases c4 : t509 = 0
 ·rw [if_pos c4] at H
  have c4b0 : (t509 == 0) = true := beq_iff_eq.mpr c4
  have c4b1 : (t509 != 0) = false := bne_eq_false_iff_eq.mpr c4
  clear c4
  have H' := Aside0.mk H
  clear H
  go_enter Tryd.func21, Tryd.ntmps21
  go_wp2_with (first | ((with_reducible refine ys_ (f := 43) rfl ?_); refine goesL_ (some 17) rfl rfl Tryd.func43 (by kernel_rfl) rfl #[.string a0, .string a1, .int .i64 0] rfl (by (try simp only [List.map_toArray, List.map_cons, List.map_nil]); first | done | rfl | (simp only [List.length_drop, List.length_take]; rfl)) ?_; (with_reducible refine (yF_.calls k a0 a1 0 t508 t509 _ A3.out).mono ?_); rintro e w5 ⟨v510, rfl, ho0, hb⟩; refine ⟨_, rfl, ?_⟩; have n0_ := Aside0.mk (Kd.yY_ ho0 (yk_ (by repeat (with_reducible first | exact HB.out | apply yc_ | apply ya_ | apply yb_)))); have n1_ := Aside0.mk (ym_ (by repeat (with_reducible first | exact HB.out | apply yc_ | apply ya_ | apply yb_)) hb); clear HB; have HO511 := n0_; have HB := n1_; clear n0_ n1_; (try clear hb); (try clear hb2); (try clear hk); (try clear hi); (try clear ho0); obtain ⟨Ao6, co6, eo6⟩ := Kd.yC_ HO511.out; subst eo6))
  try simp only [Act.put, List.setIfInBounds_toArray, List.set_cons_succ, List.set_cons_zero]
  go_loopg [8, 9, 10, 25] k (fun kq v8 v9 v10 v25 w' => ∃ (x8_1 : List (S34)) (x9_1 : Int) (x10_1 : Bool) (x25_1 : Int), v9 = .int .i64 x9_1 ∧ v10 = .bool x10_1 ∧ v25 = .int .i64 x25_1 ∧ Aside0 (yx_.l0 kq x8_1 x9_1 x10_1 t508 (t508.length : Int) x25_1 = some (r1, r2)) ∧ Aside0 (kq ≤ k) ∧ Aside0 (Kd.R k34 34 w' w.heap.size (fun _ => True) v8 x8_1) ∧ Aside0 (Kd.R k78 78 w' w.heap.size (fun _ => True) (.slice Ao6 t508.length co6) t508) ∧ Aside0 (Below w.heap.size w w'))
  case atStart => exact ⟨(([] : List (S34))), (0), (false), (0), (by first | rfl | (simp; done) | (simp [*]; done)), (by first | rfl | (simp; done) | (simp [*]; done)), (by first | rfl | (simp; done) | (simp [*]; done)), H', ⟨Nat.le_refl _⟩, ⟨by first | exact Kd.R_nil _ _ _ _ _ | exact Kd.N_nil _ _ _ _ _ | exact Kd.V_nil _ _ _ _ _ | exact Kd.Q_nil _ _ _ _ _ | exact Kd.S_nil _ _ _ _ _⟩, ⟨by (with_reducible repeat (first | apply Kd.yh_ | apply Kd.yi_ | apply Kd.R_drew)); exact HO511.out⟩, ⟨by repeat (with_reducible first | exact HB.out | apply yc_ | apply ya_ | apply yb_)⟩⟩
  case round =>
   clear H'
   try clear c2
   try clear p2
   try clear c4
   try clear c4b0
   try clear c4b1
   obtain ⟨x8_1, x9_1, x10_1, x25_1, rfl, rfl, rfl, HA, HK1, HO_8, HO_23, HB⟩ := hrel
   cases gk with
   | zero => exact absurd HA.out (by simp [yx_.l0])
   | succ k1 =>
    have H := HA.out
    clear HA
    simp only [yx_.l0] at H
    by_cases c7 : x25_1 < (t508.length : Int)
    ·rw [if_pos c7] at H
     have c7b0 : decide (x25_1 < (t508.length : Int)) = true := decide_eq_true c7
     clear c7
     by_cases c8 : 0 ≤ x25_1
     ·rw [if_pos c8] at H
      have c8b0 : decide (0 ≤ x25_1) = true := decide_eq_true c8
      clear c8
      by_cases c9 : x25_1 < (t508.length : Int)
      ·rw [if_pos c9] at H
       have c9b0 : decide (x25_1 < (t508.length : Int)) = true := decide_eq_true c9
       clear c9
       by_cases c10 : ((rd_T78 t508 x25_1).f0) = 32
       ·rw [if_pos c10] at H
        have c10b0 : (((rd_T78 t508 x25_1).f0) == 32) = true := beq_iff_eq.mpr c10
        have c10b1 : (((rd_T78 t508 x25_1).f0) != 32) = false := bne_eq_false_iff_eq.mpr c10
        clear c10
        have H' := Aside0.mk H
        clear H
        have p512 : 0 ≤ (x25_1 : Int) := of_decide_eq_true (by assumption)
        have q512 : x25_1 < (t508.length : Int) := of_decide_eq_true (by assumption)
        obtain ⟨ad512, e512, hx512_0, hx512_1⟩ := at_T78 (Kd.yo_ HO_23.out).2.2 x25_1 p512 q512
        cases e512
        replace p512 := eq_true p512
        replace q512 := eq_true q512
        go_wp2_with (first | ((with_reducible refine yS_ (N := 12) rfl ?_); refine ykb_ ?hg (N := 12) ?hd (cs := #[.int .u8 0, .string (⟨#[]⟩ : ByteArray)]) (t := 78) ?hr ?_; (case hd => rfl); (case hg => rfl); (case hr => first | (go_simp; done) | (go_simp; rfl)); intro gb513 hg w11 hbox hb; have n0_ := Aside0.mk (Kd.yM_ (by (with_reducible repeat (first | apply Kd.yh_ | apply Kd.yi_ | apply Kd.R_drew)); exact HO_8.out) hb); have n1_ := Aside0.mk (Kd.yM_ (Kd.R_elderB (by (with_reducible repeat (first | apply Kd.yh_ | apply Kd.yi_ | apply Kd.R_drew)); exact HO_23.out) gb513 (Nat.le_of_eq hg.symm)) hb); have n2_ := Aside0.mk (ym_ (by repeat (with_reducible first | exact HB.out | apply yc_ | apply ya_ | apply yb_)) hb); have n3_ := Aside0.mk (hbox); have n4_ := Aside0.mk ((by rw [hg]; exact (yk_ (by repeat (with_reducible first | exact HB.out | apply yc_ | apply ya_ | apply yb_))) : w.heap.size ≤ gb513)); have n5_ := Aside0.mk ((by rw [hg]; exact (yk_ (by repeat (with_reducible first | exact HB.out | apply yc_ | apply ya_ | apply yb_))) : w.heap.size ≤ gb513)); clear HO_8; clear HO_23; clear HB; have HO_8 := n0_; have HO_23 := n1_; have HB := n2_; have BK513 := n3_; have GW513 := n4_; have GE513 := n5_; clear n0_ n1_ n2_ n3_ n4_ n5_; clear hb hbox hg; have hcz12_0 : w11.cell? ⟨gb513, 0, none⟩ = some (.int .u8 0) := (yl_ BK513.out 0).trans rfl; have hcz12_1 : w11.cell? ⟨gb513, 1, none⟩ = some (.string (⟨#[]⟩ : ByteArray)) := (yl_ BK513.out 1).trans rfl; have hfz12_0 := yw_ BK513.out 0; have hfz12_1 := yw_ BK513.out 1))
        go_roundg k1
        case measure => have := HK1.out; omega
        case rel => exact ⟨(x8_1), (wrap64 (x9_1 + (((rd_T78 t508 x25_1).f1).size : Int))), (false), (wrap64 (x25_1 + 1)), (by first | rfl | (simp; done) | (simp [*]; done)), (by first | rfl | (simp; done) | (simp [*]; done)), (by first | rfl | (simp; done) | (simp [*]; done)), H', ⟨by have := HK1.out; omega⟩, ⟨by (with_reducible repeat (first | apply Kd.yh_ | apply Kd.yi_ | apply Kd.R_drew)); exact Kd.R_mono (Kd.R_far (p := ⟨gb513, 1, none⟩) (Kd.R_far (p := ⟨gb513, 0, none⟩) (Kd.yHb_ HO_8.out BK513.out (by decide)) (fun _ hk => hk.2) (.int .u8 ((rd_T78 t508 x25_1).f0))) (fun _ hk => hk.2) (.string ((rd_T78 t508 x25_1).f1))) (fun _ hk => trivial)⟩, ⟨by (with_reducible repeat (first | apply Kd.yh_ | apply Kd.yi_ | apply Kd.R_drew)); exact Kd.R_mono (Kd.R_far (p := ⟨gb513, 1, none⟩) (Kd.R_far (p := ⟨gb513, 0, none⟩) (Kd.R_mono HO_23.out (fun k_ hk => (⟨hk, hk.2⟩ : _ ∧ k_ ≠ gb513))) (fun _ hk => hk.2) (.int .u8 ((rd_T78 t508 x25_1).f0))) (fun _ hk => hk.2) (.string ((rd_T78 t508 x25_1).f1))) (fun _ hk => trivial)⟩, ⟨by repeat (with_reducible first | exact HB.out | apply yc_ | apply ya_ | apply yb_ | refine yr_ ?_ GE513.out)⟩⟩
       ·rw [if_neg c10] at H
        have c10b0 : (((rd_T78 t508 x25_1).f0) == 32) = false := beq_eq_false_iff_ne.mpr c10
        have c10b1 : (((rd_T78 t508 x25_1).f0) != 32) = true := bne_iff_ne.mpr c10
        by_cases c13 : x10_1 = true
        ·subst c13
         have H1 : (if 0 ≤ (wrap64 ((x8_1.length : Int) - 1)) then (if (wrap64 ((x8_1.length : Int) - 1)) < (x8_1.length : Int) then (if ((rd_T78 t508 x25_1).f0) = 45 then (yx_.l0 k1 (x8_1.set ((wrap64 ((x8_1.length : Int) - 1)) : Int).toNat (⟨(rd_T34 x8_1 (wrap64 ((x8_1.length : Int) - 1))).f0, wrap64 (x9_1 + (((rd_T78 t508 x25_1).f1).size : Int)), (rd_T34 x8_1 (wrap64 ((x8_1.length : Int) - 1))).f2⟩ : S34)) (wrap64 (x9_1 + (((rd_T78 t508 x25_1).f1).size : Int))) true t508 (t508.length : Int) (wrap64 (x25_1 + 1))) else (if ((rd_T34 x8_1 (wrap64 ((x8_1.length : Int) - 1))).f2).size + ((rd_T78 t508 x25_1).f1).size ≤ 9223372036854775807 then (yx_.l0 k1 (x8_1.set ((wrap64 ((x8_1.length : Int) - 1)) : Int).toNat (⟨(rd_T34 x8_1 (wrap64 ((x8_1.length : Int) - 1))).f0, (rd_T34 x8_1 (wrap64 ((x8_1.length : Int) - 1))).f1, ((rd_T34 x8_1 (wrap64 ((x8_1.length : Int) - 1))).f2) ++ ((rd_T78 t508 x25_1).f1)⟩ : S34)) x9_1 true t508 (t508.length : Int) (wrap64 (x25_1 + 1))) else (none))) else (none)) else (none)) = some (r1, r2) := by rw [if_pos rfl] at H; exact H
         clear H
         have H := H1
         clear H1
         obtain ⟨ji14, hji14⟩ : ∃ j_ : Int, (wrap64 ((x8_1.length : Int) - 1)) = j_ := ⟨_, rfl⟩
         replace H : (if 0 ≤ (ji14) then (if (ji14) < (x8_1.length : Int) then (if ((rd_T78 t508 x25_1).f0) = 45 then (yx_.l0 k1 (x8_1.set ((ji14) : Int).toNat (⟨(rd_T34 x8_1 (ji14)).f0, wrap64 (x9_1 + (((rd_T78 t508 x25_1).f1).size : Int)), (rd_T34 x8_1 (ji14)).f2⟩ : S34)) (wrap64 (x9_1 + (((rd_T78 t508 x25_1).f1).size : Int))) true t508 (t508.length : Int) (wrap64 (x25_1 + 1))) else (if ((rd_T34 x8_1 (ji14)).f2).size + ((rd_T78 t508 x25_1).f1).size ≤ 9223372036854775807 then (yx_.l0 k1 (x8_1.set ((ji14) : Int).toNat (⟨(rd_T34 x8_1 (ji14)).f0, (rd_T34 x8_1 (ji14)).f1, ((rd_T34 x8_1 (ji14)).f2) ++ ((rd_T78 t508 x25_1).f1)⟩ : S34)) x9_1 true t508 (t508.length : Int) (wrap64 (x25_1 + 1))) else (none))) else (none)) else (none)) = some (r1, r2) := by first | (rw [hji14] at H; exact H) | (simp only [hji14] at H ⊢; exact H)
         have hji14w : (IntKind.i64.wrap ((x8_1.length : Int) - 1)) = ji14 := (i64_w _).trans hji14
         by_cases c15 : 0 ≤ (ji14)
         ·rw [if_pos c15] at H
          have c15b0 : decide (0 ≤ (ji14)) = true := decide_eq_true c15
          clear c15
          by_cases c16 : (ji14) < (x8_1.length : Int)
          ·rw [if_pos c16] at H
           have c16b0 : decide ((ji14) < (x8_1.length : Int)) = true := decide_eq_true c16
           clear c16
           by_cases c18 : ((rd_T78 t508 x25_1).f0) = 45
           ·rw [if_pos c18] at H
            have c18b0 : (((rd_T78 t508 x25_1).f0) == 45) = true := beq_iff_eq.mpr c18
            have c18b1 : (((rd_T78 t508 x25_1).f0) != 45) = false := bne_eq_false_iff_eq.mpr c18
            clear c18
            obtain ⟨y514, hy514⟩ : ∃ y_ : List (S34), y_ = (x8_1.set ((ji14) : Int).toNat (⟨(rd_T34 x8_1 (ji14)).f0, wrap64 (x9_1 + (((rd_T78 t508 x25_1).f1).size : Int)), (rd_T34 x8_1 (ji14)).f2⟩ : S34)) := ⟨_, rfl⟩
            replace H : (yx_.l0 k1 y514 (wrap64 (x9_1 + (((rd_T78 t508 x25_1).f1).size : Int))) true t508 (t508.length : Int) (wrap64 (x25_1 + 1))) = some (r1, r2) := by first | (rw [hy514]; with_reducible exact H) | (have H2_ := (Option.bind_some _ _).symm.trans H; rw [hy514]; with_reducible exact H2_) | (have H2_ := (Option.bind_some _ _).symm.trans H; with_reducible exact H2_) | with_reducible exact H | (rw [hy514]; exact H) | exact H
            have Ny514 := Aside0.mk hy514
            clear hy514
            have H' := Aside0.mk H
            clear H
            have p512 : 0 ≤ (x25_1 : Int) := of_decide_eq_true (by assumption)
            have q512 : x25_1 < (t508.length : Int) := of_decide_eq_true (by assumption)
            obtain ⟨ad512, e512, hx512_0, hx512_1⟩ := at_T78 (Kd.yo_ HO_23.out).2.2 x25_1 p512 q512
            cases e512
            replace p512 := eq_true p512
            replace q512 := eq_true q512
            go_wp2_with (first | ((with_reducible refine yS_ (N := 12) rfl ?_); refine ykb_ ?hg (N := 12) ?hd (cs := #[.int .u8 0, .string (⟨#[]⟩ : ByteArray)]) (t := 78) ?hr ?_; (case hd => rfl); (case hg => rfl); (case hr => first | (go_simp; done) | (go_simp; rfl)); intro gb513 hg w19 hbox hb; have n0_ := Aside0.mk (Kd.yM_ (by (with_reducible repeat (first | apply Kd.yh_ | apply Kd.yi_ | apply Kd.R_drew)); exact HO_8.out) hb); have n1_ := Aside0.mk (Kd.yM_ (Kd.R_elderB (by (with_reducible repeat (first | apply Kd.yh_ | apply Kd.yi_ | apply Kd.R_drew)); exact HO_23.out) gb513 (Nat.le_of_eq hg.symm)) hb); have n2_ := Aside0.mk (ym_ (by repeat (with_reducible first | exact HB.out | apply yc_ | apply ya_ | apply yb_)) hb); have n3_ := Aside0.mk (hbox); have n4_ := Aside0.mk ((by rw [hg]; exact (yk_ (by repeat (with_reducible first | exact HB.out | apply yc_ | apply ya_ | apply yb_))) : w.heap.size ≤ gb513)); have n5_ := Aside0.mk ((by rw [hg]; exact (yk_ (by repeat (with_reducible first | exact HB.out | apply yc_ | apply ya_ | apply yb_))) : w.heap.size ≤ gb513)); clear HO_8; clear HO_23; clear HB; have HO_8 := n0_; have HO_23 := n1_; have HB := n2_; have BK513 := n3_; have GW513 := n4_; have GE513 := n5_; clear n0_ n1_ n2_ n3_ n4_ n5_; clear hb hbox hg; have hcz20_0 : w19.cell? ⟨gb513, 0, none⟩ = some (.int .u8 0) := (yl_ BK513.out 0).trans rfl; have hcz20_1 : w19.cell? ⟨gb513, 1, none⟩ = some (.string (⟨#[]⟩ : ByteArray)) := (yl_ BK513.out 1).trans rfl; have hfz20_0 := yw_ BK513.out 0; have hfz20_1 := yw_ BK513.out 1) | ((with_reducible refine yQ_ (t := 78) (p := 12) rfl ?_); refine yG_ (t := 78) (p := 12) (v := ?vo_w21) (w1 := ((w19.setCell ⟨gb513, 0, none⟩ (.int .u8 ((rd_T78 t508 x25_1).f0))).setCell ⟨gb513, 1, none⟩ (.string ((rd_T78 t508 x25_1).f1)))) ?hg ?ho ?hn ?hr ?_; (case ho => rfl); (case hg => rfl); (case hn => rfl); (case hr => first | (go_simp; done) | (go_simp; rfl)); intro w21 hw; have n0_ : Aside0 (Kd.R k34 34 w21 w.heap.size (fun _ => True) u8 x8_1) := ⟨(by rw [hw]; exact (by (with_reducible repeat (first | apply Kd.yh_ | apply Kd.yi_ | apply Kd.R_drew)); exact Kd.R_mono (Kd.R_far (p := ⟨gb513, 1, none⟩) (Kd.R_far (p := ⟨gb513, 0, none⟩) (Kd.yHb_ HO_8.out BK513.out (by decide)) (fun _ hk => hk.2) (.int .u8 ((rd_T78 t508 x25_1).f0))) (fun _ hk => hk.2) (.string ((rd_T78 t508 x25_1).f1))) (fun _ hk => trivial)))⟩; have n1_ : Aside0 (Kd.R k78 78 w21 w.heap.size (fun k_ => k_ ≠ gb513) (.slice (some ad512) t508.length co6) t508) := ⟨(by rw [hw]; exact (by (with_reducible repeat (first | apply Kd.yh_ | apply Kd.yi_ | apply Kd.R_drew)); exact Kd.R_mono (Kd.R_far (p := ⟨gb513, 1, none⟩) (Kd.R_far (p := ⟨gb513, 0, none⟩) (Kd.R_mono HO_23.out (fun k_ hk => (⟨hk, hk.2⟩ : _ ∧ k_ ≠ gb513))) (fun _ hk => hk.2) (.int .u8 ((rd_T78 t508 x25_1).f0))) (fun _ hk => hk.2) (.string ((rd_T78 t508 x25_1).f1))) (fun _ hk => hk.1.2)))⟩; have n2_ : Aside0 (w21.heap[gb513]? = some (.cells #[.int .u8 ((rd_T78 t508 x25_1).f0), .string ((rd_T78 t508 x25_1).f1)] 78 (0, 0))) := ⟨(by rw [hw]; exact (by (with_reducible repeat (first | refine yA_ ?_ _ | refine yB_ ?_ | refine yz_ ?_ _)); refine ylb_ (cs := #[.int .u8 ((rd_T78 t508 x25_1).f0), .string (⟨#[]⟩ : ByteArray)]) ?_ 1 _ rfl; (with_reducible repeat (first | refine yA_ ?_ _ | refine yB_ ?_ | refine yz_ ?_ _)); refine ylb_ (cs := #[.int .u8 0, .string (⟨#[]⟩ : ByteArray)]) ?_ 0 _ rfl; (with_reducible repeat (first | refine yA_ ?_ _ | refine yB_ ?_ | refine yz_ ?_ _)); exact BK513.out))⟩; have n3_ : Aside0 (Below w.heap.size w w21) := ⟨(by rw [hw]; exact (by repeat (with_reducible first | exact HB.out | apply yc_ | apply ya_ | apply yb_ | refine yr_ ?_ GE513.out)))⟩; clear hw; clear HO_8; clear HO_23; clear BK513; clear HB; have HO_8 := n0_; have HO_23 := n1_; have BK513 := n2_; have HB := n3_; clear n0_ n1_ n2_ n3_; have hcz22_0 : w21.cell? ⟨gb513, 0, none⟩ = some (.int .u8 ((rd_T78 t508 x25_1).f0)) := (yl_ BK513.out 0).trans rfl; have hcz22_1 : w21.cell? ⟨gb513, 1, none⟩ = some (.string ((rd_T78 t508 x25_1).f1)) := (yl_ BK513.out 1).trans rfl; have hfz22_0 := yw_ BK513.out 0; have hfz22_1 := yw_ BK513.out 1; obtain ⟨Ao23, co23, eo23⟩ := Kd.yC_ HO_8.out; subst eo23; have p17 : 0 ≤ ((ji14) : Int) := of_decide_eq_true (by assumption); have q17 : ((ji14) : Int) < ((x8_1.length : Int) : Int) := of_decide_eq_true (by assumption); obtain ⟨go17, co17, eo17, gb17, gl17, cl17, HG17⟩ := Kd.R_form HO_8.out (by omega); (first | cases eo17 | (injection eo17 with ea_ en_ ec_; (first | subst ea_ | (injection ea_ with ea_; subst ea_)); subst ec_; clear en_)); have GB17 := Aside0.mk gb17; have GG17 := Aside0.mk HG17; clear gb17 gl17 HG17; obtain ⟨ce17, hcl17, hM17, hcc17, hfr17⟩ := Kd.R_elem HO_8.out z34 ((ji14) : Int) p17 q17; obtain rfl := yFb_ hM17; have hx17_0 : w21.cell? ⟨go17, ((ji14) : Int).toNat * 3, none⟩ = some (.int .i64 ((rd_T34 x8_1 (ji14)).f0)) := hcc17 0 _ rfl; have hx17_1 : w21.cell? ⟨go17, ((ji14) : Int).toNat * 3 + 1, none⟩ = some (.int .i64 ((rd_T34 x8_1 (ji14)).f1)) := hcc17 1 _ rfl; have hx17_2 : w21.cell? ⟨go17, ((ji14) : Int).toNat * 3 + 2, none⟩ = some (.string ((rd_T34 x8_1 (ji14)).f2)) := hcc17 2 _ rfl; have hf17_0 : w21.frozen? ⟨go17, ((ji14) : Int).toNat * 3, none⟩ = false := hfr17 0; have hf17_1 : w21.frozen? ⟨go17, ((ji14) : Int).toNat * 3 + 1, none⟩ = false := hfr17 1; have hf17_2 : w21.frozen? ⟨go17, ((ji14) : Int).toNat * 3 + 2, none⟩ = false := hfr17 2; clear hcl17 hcc17 hfr17 hM17; replace p17 := eq_true p17; replace q17 := eq_true q17; have HX24 := Aside0.mk (show Kd.R k34 34 w21 w.heap.size (fun _ => True) (.slice (some ⟨go17, 0, none⟩) x8_1.length co23) x8_1 from (by (with_reducible repeat (first | apply Kd.yh_ | apply Kd.yi_ | apply Kd.R_drew)); exact HO_8.out)); obtain ⟨ce24, hcl24, hM24, hcc24, hfr24⟩ := Kd.R_elem HX24.out z34 ((ji14) : Int) (of_decide_eq_true (by assumption)) (by have h_ : ((ji14) : Int) < ((x8_1.length : Int) : Int) := of_decide_eq_true (by assumption); first | exact h_ | (have e_ := (Kd.yo_ HO_8.out).1; omega) | simpa using h_); obtain rfl := yFb_ hM24; have HP24 := Kd.R_seg HX24.out ((ji14) : Int) (of_decide_eq_true (by assumption)) (by have h_ : ((ji14) : Int) < ((x8_1.length : Int) : Int) := of_decide_eq_true (by assumption); first | exact h_ | (have e_ := (Kd.yo_ HO_8.out).1; omega) | simpa using h_) (seg := [.int .i64 (wrap64 (x9_1 + (((rd_T78 t508 x25_1).f1).size : Int)))]) (j := 1) hcl24 hcc24 (show 2 ≤ 3 from by decide) (x' := (⟨(rd_T34 x8_1 (ji14)).f0, wrap64 (x9_1 + (((rd_T78 t508 x25_1).f1).size : Int)), (rd_T34 x8_1 (ji14)).f2⟩ : S34)) (yJb_ _ _ _ (⟨(rd_T34 x8_1 (ji14)).f0, wrap64 (x9_1 + (((rd_T78 t508 x25_1).f1).size : Int)), (rd_T34 x8_1 (ji14)).f2⟩ : S34) ) (fun _ hk => hk); have hx24_1 := hcc24 1 _ rfl; (try simp only [show (k34).sz = 3 from rfl, Nat.mul_one, Nat.add_zero] at hx24_1); have hf24_1 := hfr24 1; (try simp only [show (k34).sz = 3 from rfl, Nat.mul_one, Nat.add_zero] at hf24_1); clear hcl24 hcc24 hfr24 hM24) | ((with_reducible refine yQ_ (t := 3) (p := 61) rfl ?_); refine yG_ (t := 3) (p := 61) (v := ?vo_w25) (w1 := (w21.setCell ⟨go17, ((ji14) : Int).toNat * 3 + 1, none⟩ (.int .i64 (wrap64 (x9_1 + (((rd_T78 t508 x25_1).f1).size : Int)))))) ?hg ?ho ?hn ?hr ?_; (case ho => rfl); (case hg => rfl); (case hn => rfl); (case hr => first | (go_simp; done) | (go_simp; rfl)); intro w25 hw; have hg : w21.grownBy w25 (some go17) := (by rw [hw]; exact HP24.2); have hp_ : Kd.R k34 34 w25 w.heap.size (fun _ => True) (.slice (some ⟨go17, 0, none⟩) x8_1.length co23) y514 := (by rw [hw, Ny514.out]; exact HP24.1); clear HP24; have n0_ := Aside0.mk (hp_); have n1_ := Aside0.mk (Kd.yhb_ (v := (.slice (some ⟨go17, 0, none⟩) x8_1.length co23)) (by (with_reducible repeat (first | apply Kd.yh_ | apply Kd.yi_ | apply Kd.R_drew)); exact HO_23.out) (Kd.yU_ HO_8.out) (by decide) hg); have n2_ := Aside0.mk (y1b_ (g := gb513) (o := .cells #[.int .u8 ((rd_T78 t508 x25_1).f0), .string ((rd_T78 t508 x25_1).f1)] 78 (0, 0)) (by (with_reducible repeat (first | refine yA_ ?_ _ | refine yB_ ?_ | refine yz_ ?_ _)); exact BK513.out) hg (Kd.R_ne HO_8.out BK513.out (by decide))); have n3_ := Aside0.mk ((by rw [hw]; exact yr_ (HB.out) GB17.out : Below w.heap.size w w25)); clear HO_8; clear HO_23; clear BK513; clear HB; have HO_8 := n0_; have HO_23 := n1_; have BK513 := n2_; have HB := n3_; clear n0_ n1_ n2_ n3_; clear hg hw hp_))
            go_roundg k1
            case measure => have := HK1.out; omega
            case rel => exact ⟨(y514), (wrap64 (x9_1 + (((rd_T78 t508 x25_1).f1).size : Int))), (true), (wrap64 (x25_1 + 1)), (by first | rfl | (simp; done) | (simp [*]; done)), (by first | rfl | (simp; done) | (simp [*]; done)), (by first | rfl | (simp; done) | (simp [*]; done)), H', ⟨by have := HK1.out; omega⟩, ⟨by (with_reducible repeat (first | apply Kd.yh_ | apply Kd.yi_ | apply Kd.R_drew)); exact HO_8.out⟩, ⟨by (with_reducible repeat (first | apply Kd.yh_ | apply Kd.yi_ | apply Kd.R_drew)); exact Kd.R_mono HO_23.out (fun _ hk => trivial)⟩, ⟨by repeat (with_reducible first | exact HB.out | apply yc_ | apply ya_ | apply yb_ | refine yr_ ?_ GE513.out)⟩⟩
           ·rw [if_neg c18] at H
            have c18b0 : (((rd_T78 t508 x25_1).f0) == 45) = false := beq_eq_false_iff_ne.mpr c18
            have c18b1 : (((rd_T78 t508 x25_1).f0) != 45) = true := bne_iff_ne.mpr c18
            by_cases c26 : ((rd_T34 x8_1 (ji14)).f2).size + ((rd_T78 t508 x25_1).f1).size ≤ 9223372036854775807
            ·rw [if_pos c26] at H
             have c26b0 := eq_true c26
             have c26b1 : decide (((rd_T34 x8_1 (ji14)).f2).size + ((rd_T78 t508 x25_1).f1).size ≤ 9223372036854775807) = true := decide_eq_true c26
             try have c26b2 : (9223372036854775807 < ((rd_T34 x8_1 (ji14)).f2).size + ((rd_T78 t508 x25_1).f1).size) = False := eq_false (Nat.not_lt.2 c26)
             obtain ⟨y515, hy515⟩ : ∃ y_ : List (S34), y_ = (x8_1.set ((ji14) : Int).toNat (⟨(rd_T34 x8_1 (ji14)).f0, (rd_T34 x8_1 (ji14)).f1, ((rd_T34 x8_1 (ji14)).f2) ++ ((rd_T78 t508 x25_1).f1)⟩ : S34)) := ⟨_, rfl⟩
             replace H : (yx_.l0 k1 y515 x9_1 true t508 (t508.length : Int) (wrap64 (x25_1 + 1))) = some (r1, r2) := by first | (rw [hy515]; with_reducible exact H) | (have H2_ := (Option.bind_some _ _).symm.trans H; rw [hy515]; with_reducible exact H2_) | (have H2_ := (Option.bind_some _ _).symm.trans H; with_reducible exact H2_) | with_reducible exact H | (rw [hy515]; exact H) | exact H
             have Ny515 := Aside0.mk hy515
             clear hy515
             have H' := Aside0.mk H
             clear H
             have p512 : 0 ≤ (x25_1 : Int) := of_decide_eq_true (by assumption)
             have q512 : x25_1 < (t508.length : Int) := of_decide_eq_true (by assumption)
             obtain ⟨ad512, e512, hx512_0, hx512_1⟩ := at_T78 (Kd.yo_ HO_23.out).2.2 x25_1 p512 q512
             cases e512
             replace p512 := eq_true p512
             replace q512 := eq_true q512
             try go_wp2_with (first | ((with_reducible refine yS_ (N := 12) rfl ?_); refine ykb_ ?hg (N := 12) ?hd (cs := #[.int .u8 0, .string (⟨#[]⟩ : ByteArray)]) (t := 78) ?hr ?_; (case hd => rfl); (case hg => rfl); (case hr => first | (go_simp; done) | (go_simp; rfl)); intro gb513 hg w27 hbox hb; have n0_ := Aside0.mk (Kd.yM_ (by (with_reducible repeat (first | apply Kd.yh_ | apply Kd.yi_ | apply Kd.R_drew)); exact HO_8.out) hb); have n1_ := Aside0.mk (Kd.yM_ (Kd.R_elderB (by (with_reducible repeat (first | apply Kd.yh_ | apply Kd.yi_ | apply Kd.R_drew)); exact HO_23.out) gb513 (Nat.le_of_eq hg.symm)) hb); have n2_ := Aside0.mk (ym_ (by repeat (with_reducible first | exact HB.out | apply yc_ | apply ya_ | apply yb_)) hb); have n3_ := Aside0.mk (hbox); have n4_ := Aside0.mk ((by rw [hg]; exact (yk_ (by repeat (with_reducible first | exact HB.out | apply yc_ | apply ya_ | apply yb_))) : w.heap.size ≤ gb513)); have n5_ := Aside0.mk ((by rw [hg]; exact (yk_ (by repeat (with_reducible first | exact HB.out | apply yc_ | apply ya_ | apply yb_))) : w.heap.size ≤ gb513)); clear HO_8; clear HO_23; clear HB; have HO_8 := n0_; have HO_23 := n1_; have HB := n2_; have BK513 := n3_; have GW513 := n4_; have GE513 := n5_; clear n0_ n1_ n2_ n3_ n4_ n5_; clear hb hbox hg; have hcz28_0 : w27.cell? ⟨gb513, 0, none⟩ = some (.int .u8 0) := (yl_ BK513.out 0).trans rfl; have hcz28_1 : w27.cell? ⟨gb513, 1, none⟩ = some (.string (⟨#[]⟩ : ByteArray)) := (yl_ BK513.out 1).trans rfl; have hfz28_0 := yw_ BK513.out 0; have hfz28_1 := yw_ BK513.out 1) | ((with_reducible refine yQ_ (t := 78) (p := 12) rfl ?_); refine yG_ (t := 78) (p := 12) (v := ?vo_w29) (w1 := ((w27.setCell ⟨gb513, 0, none⟩ (.int .u8 ((rd_T78 t508 x25_1).f0))).setCell ⟨gb513, 1, none⟩ (.string ((rd_T78 t508 x25_1).f1)))) ?hg ?ho ?hn ?hr ?_; (case ho => rfl); (case hg => rfl); (case hn => rfl); (case hr => first | (go_simp; done) | (go_simp; rfl)); intro w29 hw; have n0_ : Aside0 (Kd.R k34 34 w29 w.heap.size (fun _ => True) u8 x8_1) := ⟨(by rw [hw]; exact (by (with_reducible repeat (first | apply Kd.yh_ | apply Kd.yi_ | apply Kd.R_drew)); exact Kd.R_mono (Kd.R_far (p := ⟨gb513, 1, none⟩) (Kd.R_far (p := ⟨gb513, 0, none⟩) (Kd.yHb_ HO_8.out BK513.out (by decide)) (fun _ hk => hk.2) (.int .u8 ((rd_T78 t508 x25_1).f0))) (fun _ hk => hk.2) (.string ((rd_T78 t508 x25_1).f1))) (fun _ hk => trivial)))⟩; have n1_ : Aside0 (Kd.R k78 78 w29 w.heap.size (fun k_ => k_ ≠ gb513) (.slice (some ad512) t508.length co6) t508) := ⟨(by rw [hw]; exact (by (with_reducible repeat (first | apply Kd.yh_ | apply Kd.yi_ | apply Kd.R_drew)); exact Kd.R_mono (Kd.R_far (p := ⟨gb513, 1, none⟩) (Kd.R_far (p := ⟨gb513, 0, none⟩) (Kd.R_mono HO_23.out (fun k_ hk => (⟨hk, hk.2⟩ : _ ∧ k_ ≠ gb513))) (fun _ hk => hk.2) (.int .u8 ((rd_T78 t508 x25_1).f0))) (fun _ hk => hk.2) (.string ((rd_T78 t508 x25_1).f1))) (fun _ hk => hk.1.2)))⟩; have n2_ : Aside0 (w29.heap[gb513]? = some (.cells #[.int .u8 ((rd_T78 t508 x25_1).f0), .string ((rd_T78 t508 x25_1).f1)] 78 (0, 0))) := ⟨(by rw [hw]; exact (by (with_reducible repeat (first | refine yA_ ?_ _ | refine yB_ ?_ | refine yz_ ?_ _)); refine ylb_ (cs := #[.int .u8 ((rd_T78 t508 x25_1).f0), .string (⟨#[]⟩ : ByteArray)]) ?_ 1 _ rfl; (with_reducible repeat (first | refine yA_ ?_ _ | refine yB_ ?_ | refine yz_ ?_ _)); refine ylb_ (cs := #[.int .u8 0, .string (⟨#[]⟩ : ByteArray)]) ?_ 0 _ rfl; (with_reducible repeat (first | refine yA_ ?_ _ | refine yB_ ?_ | refine yz_ ?_ _)); exact BK513.out))⟩; have n3_ : Aside0 (Below w.heap.size w w29) := ⟨(by rw [hw]; exact (by repeat (with_reducible first | exact HB.out | apply yc_ | apply ya_ | apply yb_ | refine yr_ ?_ GE513.out)))⟩; clear hw; clear HO_8; clear HO_23; clear BK513; clear HB; have HO_8 := n0_; have HO_23 := n1_; have BK513 := n2_; have HB := n3_; clear n0_ n1_ n2_ n3_; have hcz30_0 : w29.cell? ⟨gb513, 0, none⟩ = some (.int .u8 ((rd_T78 t508 x25_1).f0)) := (yl_ BK513.out 0).trans rfl; have hcz30_1 : w29.cell? ⟨gb513, 1, none⟩ = some (.string ((rd_T78 t508 x25_1).f1)) := (yl_ BK513.out 1).trans rfl; have hfz30_0 := yw_ BK513.out 0; have hfz30_1 := yw_ BK513.out 1; obtain ⟨Ao31, co31, eo31⟩ := Kd.yC_ HO_8.out; subst eo31; have p17 : 0 ≤ ((ji14) : Int) := of_decide_eq_true (by assumption); have q17 : ((ji14) : Int) < ((x8_1.length : Int) : Int) := of_decide_eq_true (by assumption); obtain ⟨go17, co17, eo17, gb17, gl17, cl17, HG17⟩ := Kd.R_form HO_8.out (by omega); (first | cases eo17 | (injection eo17 with ea_ en_ ec_; (first | subst ea_ | (injection ea_ with ea_; subst ea_)); subst ec_; clear en_)); have GB17 := Aside0.mk gb17; have GG17 := Aside0.mk HG17; clear gb17 gl17 HG17; obtain ⟨ce17, hcl17, hM17, hcc17, hfr17⟩ := Kd.R_elem HO_8.out z34 ((ji14) : Int) p17 q17; obtain rfl := yFb_ hM17; have hx17_0 : w29.cell? ⟨go17, ((ji14) : Int).toNat * 3, none⟩ = some (.int .i64 ((rd_T34 x8_1 (ji14)).f0)) := hcc17 0 _ rfl; have hx17_1 : w29.cell? ⟨go17, ((ji14) : Int).toNat * 3 + 1, none⟩ = some (.int .i64 ((rd_T34 x8_1 (ji14)).f1)) := hcc17 1 _ rfl; have hx17_2 : w29.cell? ⟨go17, ((ji14) : Int).toNat * 3 + 2, none⟩ = some (.string ((rd_T34 x8_1 (ji14)).f2)) := hcc17 2 _ rfl; have hf17_0 : w29.frozen? ⟨go17, ((ji14) : Int).toNat * 3, none⟩ = false := hfr17 0; have hf17_1 : w29.frozen? ⟨go17, ((ji14) : Int).toNat * 3 + 1, none⟩ = false := hfr17 1; have hf17_2 : w29.frozen? ⟨go17, ((ji14) : Int).toNat * 3 + 2, none⟩ = false := hfr17 2; clear hcl17 hcc17 hfr17 hM17; replace p17 := eq_true p17; replace q17 := eq_true q17))
             have n0_ := Aside0.mk (Kd.R_drew HO_8.out)
             have n1_ := Aside0.mk (Kd.R_drew HO_23.out)
             have n2_ := Aside0.mk (yB_ BK513.out)
             have n3_ := Aside0.mk (yb_ HB.out)
             clear HO_8
             clear HO_23
             clear BK513
             clear HB
             have HO_8 := n0_
             have HO_23 := n1_
             have BK513 := n2_
             have HB := n3_
             clear n0_ n1_ n2_ n3_
             obtain ⟨ce33, hcl33, hM33, hcc33, hfr33⟩ := Kd.R_elem HO_8.out z34 ((ji14) : Int) (of_decide_eq_true (by assumption)) (by have h_ : ((ji14) : Int) < ((x8_1.length : Int) : Int) := of_decide_eq_true (by assumption); first | exact h_ | (have e_ := (Kd.yo_ HO_8.out).1; omega) | simpa using h_)
             obtain rfl := yFb_ hM33
             have HP33 := (Kd.R_seg HO_8.out ((ji14) : Int) (of_decide_eq_true (by assumption)) (by have h_ : ((ji14) : Int) < ((x8_1.length : Int) : Int) := of_decide_eq_true (by assumption); first | exact h_ | (have e_ := (Kd.yo_ HO_8.out).1; omega) | simpa using h_) (seg := [.string (((rd_T34 x8_1 (ji14)).f2) ++ ((rd_T78 t508 x25_1).f1))]) (j := 2) hcl33 hcc33 (show 3 ≤ 3 from by decide) (x' := (⟨(rd_T34 x8_1 (ji14)).f0, (rd_T34 x8_1 (ji14)).f1, ((rd_T34 x8_1 (ji14)).f2) ++ ((rd_T78 t508 x25_1).f1)⟩ : S34)) (yJb_ _ _ _ (⟨(rd_T34 x8_1 (ji14)).f0, (rd_T34 x8_1 (ji14)).f1, ((rd_T34 x8_1 (ji14)).f2) ++ ((rd_T78 t508 x25_1).f1)⟩ : S34) ) (fun _ hk => hk)).1
             rw [← Ny515.out] at HP33
             have HQ33 := Aside0.mk HP33
             have hxq33 := hcc33 2 _ rfl
             have hfq33 : World.frozen? _ ⟨go17, ((ji14) : Int).toNat * 3 + 2, none⟩ = false := hfr33 2
             clear hcl33 hcc33 hfr33 hM33 HP33
             refine start_ (n := 10) (S := fun w' => w'.cell? ⟨gb513, 0, none⟩ = some (.int .u8 ((rd_T78 t508 x25_1).f0)) ∧ w'.cell? ⟨gb513, 1, none⟩ = some (.string ((rd_T78 t508 x25_1).f1)) ∧ w'.cell? ⟨go17, (ji14).toNat * 3 + 2, none⟩ = some (.string ((rd_T34 x8_1 (ji14)).f2))) (ds := [9]) (bA 10 0) (by kernel_rfl) rfl rfl ⟨(yl_ BK513.out 0).trans rfl, (yl_ BK513.out 1).trans rfl, hxq33⟩ (fun hHeld => ?_); refine y9_ yx_.tab19 yx_.bits19 (fun HT_ HW_ => ?_)
             have GG17 := (show Aside0 (w29.drew.heap[go17]? = some (.cells cl17 34)) from GG17)
             generalize w29.drew = w32 at HO_8 HO_23 BK513 HB HQ33 GG17 hxq33 hfq33 hHeld ⊢
             refine pu_ 0 62 (bA 10 1) HT_ ?_
             refine pu_ 1 63 (bA 10 3) HT_ ?_
             refine pu_ 2 64 (bA 10 7) HT_ ?_
             refine pu_ 4 66 (bA 10 23) HT_ ?_
             refine tk_ 3 65 (bA 10 31) rfl HT_ HW_ hHeld (by rintro w' ⟨s0, s1, s2⟩; go_simp; with_reducible rfl) ?_
             refine tk_ 5 67 (bA 10 63) rfl HT_ HW_ hHeld (by rintro w' ⟨s0, s1, s2⟩; go_simp; with_reducible rfl) ?_
             refine pu_ 6 68 (bA 10 127) HT_ ?_
             refine pu_ 7 69 (bA 10 255) HT_ ?_
             refine pu_ 8 70 (bA 10 511) HT_ ?_
             refine last_ (i := 9) (N := none) (bA 10 1023) rfl rfl (one_of HT_.out (by kernel_rfl)) (by decide) (fun K hK => ?_)
             refine skip_ (w1 := ?_) (by rfl) rfl ?_ ?_
             rotate_left
             ·go_simp
              rfl
             refine hK.out _ _ ?_
             clear hK K
             refine done_ (yqb_ HT_.out (by kernel_rfl)) ?_
             try go_wp2
             go_roundg k1
             case measure => have := HK1.out; omega
             case rel => exact ⟨(y515), (x9_1), (true), (wrap64 (x25_1 + 1)), (by first | rfl | (simp; done) | (simp [*]; done)), (by first | rfl | (simp; done) | (simp [*]; done)), (by first | rfl | (simp; done) | (simp [*]; done)), H', ⟨by have := HK1.out; omega⟩, ⟨by (with_reducible repeat (first | apply Kd.yh_ | apply Kd.yi_ | apply Kd.R_drew)); exact HQ33.out⟩, ⟨by (with_reducible repeat (first | apply Kd.yh_ | apply Kd.yi_ | apply Kd.R_drew)); exact Kd.R_mono (Kd.R_far (p := ⟨go17, ((ji14) : Int).toNat * 3 + 2, none⟩) (Kd.yHb_ HO_23.out GG17.out (by decide)) (fun _ hk => hk.2) (.string (((rd_T34 x8_1 (ji14)).f2) ++ ((rd_T78 t508 x25_1).f1)))) (fun _ hk => trivial)⟩, ⟨by repeat (with_reducible first | exact HB.out | apply yc_ | apply ya_ | apply yb_ | refine yr_ ?_ GB17.out | refine yr_ ?_ GE513.out)⟩⟩
            ·rw [if_neg c26] at H
             exact absurd H (by simp)
          ·rw [if_neg c16] at H
           exact absurd H (by simp)
         ·rw [if_neg c15] at H
          exact absurd H (by simp)
        ·replace c13 := Bool.eq_false_iff.mpr c13
         subst c13
         have H1 : (if x8_1.length < 4398046511104 then ((some (x8_1 ++ [(⟨x9_1, x9_1, (⟨#[]⟩ : ByteArray)⟩ : S34)] : List (S34))).bind fun y516 => (if 0 ≤ (wrap64 ((y516.length : Int) - 1)) then (if (wrap64 ((y516.length : Int) - 1)) < (y516.length : Int) then (if ((rd_T78 t508 x25_1).f0) = 45 then (yx_.l0 k1 (y516.set ((wrap64 ((y516.length : Int) - 1)) : Int).toNat (⟨(rd_T34 y516 (wrap64 ((y516.length : Int) - 1))).f0, wrap64 (x9_1 + (((rd_T78 t508 x25_1).f1).size : Int)), (rd_T34 y516 (wrap64 ((y516.length : Int) - 1))).f2⟩ : S34)) (wrap64 (x9_1 + (((rd_T78 t508 x25_1).f1).size : Int))) true t508 (t508.length : Int) (wrap64 (x25_1 + 1))) else (if ((rd_T34 y516 (wrap64 ((y516.length : Int) - 1))).f2).size + ((rd_T78 t508 x25_1).f1).size ≤ 9223372036854775807 then (yx_.l0 k1 (y516.set ((wrap64 ((y516.length : Int) - 1)) : Int).toNat (⟨(rd_T34 y516 (wrap64 ((y516.length : Int) - 1))).f0, (rd_T34 y516 (wrap64 ((y516.length : Int) - 1))).f1, ((rd_T34 y516 (wrap64 ((y516.length : Int) - 1))).f2) ++ ((rd_T78 t508 x25_1).f1)⟩ : S34)) x9_1 true t508 (t508.length : Int) (wrap64 (x25_1 + 1))) else (none))) else (none)) else (none))) else (none)) = some (r1, r2) := by rw [if_neg (show ¬ (false = true) by decide)] at H; exact H
         clear H
         have H := H1
         clear H1
         by_cases c34 : x8_1.length < 4398046511104
         ·rw [if_pos c34] at H
          have LMc34 := Aside0.mk c34
          clear c34
          obtain ⟨y516, hy516⟩ : ∃ y_ : List (S34), y_ = (x8_1 ++ [(⟨x9_1, x9_1, (⟨#[]⟩ : ByteArray)⟩ : S34)]) := ⟨_, rfl⟩
          replace H : (if 0 ≤ (wrap64 ((y516.length : Int) - 1)) then (if (wrap64 ((y516.length : Int) - 1)) < (y516.length : Int) then (if ((rd_T78 t508 x25_1).f0) = 45 then (yx_.l0 k1 (y516.set ((wrap64 ((y516.length : Int) - 1)) : Int).toNat (⟨(rd_T34 y516 (wrap64 ((y516.length : Int) - 1))).f0, wrap64 (x9_1 + (((rd_T78 t508 x25_1).f1).size : Int)), (rd_T34 y516 (wrap64 ((y516.length : Int) - 1))).f2⟩ : S34)) (wrap64 (x9_1 + (((rd_T78 t508 x25_1).f1).size : Int))) true t508 (t508.length : Int) (wrap64 (x25_1 + 1))) else (if ((rd_T34 y516 (wrap64 ((y516.length : Int) - 1))).f2).size + ((rd_T78 t508 x25_1).f1).size ≤ 9223372036854775807 then (yx_.l0 k1 (y516.set ((wrap64 ((y516.length : Int) - 1)) : Int).toNat (⟨(rd_T34 y516 (wrap64 ((y516.length : Int) - 1))).f0, (rd_T34 y516 (wrap64 ((y516.length : Int) - 1))).f1, ((rd_T34 y516 (wrap64 ((y516.length : Int) - 1))).f2) ++ ((rd_T78 t508 x25_1).f1)⟩ : S34)) x9_1 true t508 (t508.length : Int) (wrap64 (x25_1 + 1))) else (none))) else (none)) else (none)) = some (r1, r2) := by first | (rw [hy516]; with_reducible exact H) | (have H2_ := (Option.bind_some _ _).symm.trans H; rw [hy516]; with_reducible exact H2_) | (have H2_ := (Option.bind_some _ _).symm.trans H; with_reducible exact H2_) | with_reducible exact H | (rw [hy516]; exact H) | exact H
          have Ny516 := Aside0.mk hy516
          clear hy516
          obtain ⟨ji35, hji35⟩ : ∃ j_ : Int, (wrap64 ((y516.length : Int) - 1)) = j_ := ⟨_, rfl⟩
          replace H : (if 0 ≤ (ji35) then (if (ji35) < (y516.length : Int) then (if ((rd_T78 t508 x25_1).f0) = 45 then (yx_.l0 k1 (y516.set ((ji35) : Int).toNat (⟨(rd_T34 y516 (ji35)).f0, wrap64 (x9_1 + (((rd_T78 t508 x25_1).f1).size : Int)), (rd_T34 y516 (ji35)).f2⟩ : S34)) (wrap64 (x9_1 + (((rd_T78 t508 x25_1).f1).size : Int))) true t508 (t508.length : Int) (wrap64 (x25_1 + 1))) else (if ((rd_T34 y516 (ji35)).f2).size + ((rd_T78 t508 x25_1).f1).size ≤ 9223372036854775807 then (yx_.l0 k1 (y516.set ((ji35) : Int).toNat (⟨(rd_T34 y516 (ji35)).f0, (rd_T34 y516 (ji35)).f1, ((rd_T34 y516 (ji35)).f2) ++ ((rd_T78 t508 x25_1).f1)⟩ : S34)) x9_1 true t508 (t508.length : Int) (wrap64 (x25_1 + 1))) else (none))) else (none)) else (none)) = some (r1, r2) := by first | (rw [hji35] at H; exact H) | (simp only [hji35] at H ⊢; exact H)
          have hji35w : (IntKind.i64.wrap ((y516.length : Int) - 1)) = ji35 := (i64_w _).trans hji35
          by_cases c36 : 0 ≤ (ji35)
          ·rw [if_pos c36] at H
           have c36b0 : decide (0 ≤ (ji35)) = true := decide_eq_true c36
           clear c36
           by_cases c37 : (ji35) < (y516.length : Int)
           ·rw [if_pos c37] at H
            have c37b0 : decide ((ji35) < (y516.length : Int)) = true := decide_eq_true c37
            clear c37
            by_cases c39 : ((rd_T78 t508 x25_1).f0) = 45
            ·rw [if_pos c39] at H
             have c39b0 : (((rd_T78 t508 x25_1).f0) == 45) = true := beq_iff_eq.mpr c39
             have c39b1 : (((rd_T78 t508 x25_1).f0) != 45) = false := bne_eq_false_iff_eq.mpr c39
             clear c39
             obtain ⟨y519, hy519⟩ : ∃ y_ : List (S34), y_ = (y516.set ((ji35) : Int).toNat (⟨(rd_T34 y516 (ji35)).f0, wrap64 (x9_1 + (((rd_T78 t508 x25_1).f1).size : Int)), (rd_T34 y516 (ji35)).f2⟩ : S34)) := ⟨_, rfl⟩
             replace H : (yx_.l0 k1 y519 (wrap64 (x9_1 + (((rd_T78 t508 x25_1).f1).size : Int))) true t508 (t508.length : Int) (wrap64 (x25_1 + 1))) = some (r1, r2) := by first | (rw [hy519]; with_reducible exact H) | (have H2_ := (Option.bind_some _ _).symm.trans H; rw [hy519]; with_reducible exact H2_) | (have H2_ := (Option.bind_some _ _).symm.trans H; with_reducible exact H2_) | with_reducible exact H | (rw [hy519]; exact H) | exact H
             have Ny519 := Aside0.mk hy519
             clear hy519
             have H' := Aside0.mk H
             clear H
             have p512 : 0 ≤ (x25_1 : Int) := of_decide_eq_true (by assumption)
             have q512 : x25_1 < (t508.length : Int) := of_decide_eq_true (by assumption)
             obtain ⟨ad512, e512, hx512_0, hx512_1⟩ := at_T78 (Kd.yo_ HO_23.out).2.2 x25_1 p512 q512
             cases e512
             replace p512 := eq_true p512
             replace q512 := eq_true q512
             go_wp2_with (first | ((with_reducible refine yS_ (N := 12) rfl ?_); refine ykb_ ?hg (N := 12) ?hd (cs := #[.int .u8 0, .string (⟨#[]⟩ : ByteArray)]) (t := 78) ?hr ?_; (case hd => rfl); (case hg => rfl); (case hr => first | (go_simp; done) | (go_simp; rfl)); intro gb513 hg w40 hbox hb; have n0_ := Aside0.mk (Kd.yM_ (by (with_reducible repeat (first | apply Kd.yh_ | apply Kd.yi_ | apply Kd.R_drew)); exact HO_8.out) hb); have n1_ := Aside0.mk (Kd.yM_ (Kd.R_elderB (by (with_reducible repeat (first | apply Kd.yh_ | apply Kd.yi_ | apply Kd.R_drew)); exact HO_23.out) gb513 (Nat.le_of_eq hg.symm)) hb); have n2_ := Aside0.mk (ym_ (by repeat (with_reducible first | exact HB.out | apply yc_ | apply ya_ | apply yb_)) hb); have n3_ := Aside0.mk (hbox); have n4_ := Aside0.mk ((by rw [hg]; exact (yk_ (by repeat (with_reducible first | exact HB.out | apply yc_ | apply ya_ | apply yb_))) : w.heap.size ≤ gb513)); have n5_ := Aside0.mk ((by rw [hg]; exact (yk_ (by repeat (with_reducible first | exact HB.out | apply yc_ | apply ya_ | apply yb_))) : w.heap.size ≤ gb513)); clear HO_8; clear HO_23; clear HB; have HO_8 := n0_; have HO_23 := n1_; have HB := n2_; have BK513 := n3_; have GW513 := n4_; have GE513 := n5_; clear n0_ n1_ n2_ n3_ n4_ n5_; clear hb hbox hg; have hcz41_0 : w40.cell? ⟨gb513, 0, none⟩ = some (.int .u8 0) := (yl_ BK513.out 0).trans rfl; have hcz41_1 : w40.cell? ⟨gb513, 1, none⟩ = some (.string (⟨#[]⟩ : ByteArray)) := (yl_ BK513.out 1).trans rfl; have hfz41_0 := yw_ BK513.out 0; have hfz41_1 := yw_ BK513.out 1) | ((with_reducible refine yD_ (b := .append) (xs := #[.tmp 39, .tmp 43]) rfl ?_); at_builtin; refine Kd.y0_ k34 (w0 := w) w.heap.size rfl (.tmp 39) (.tmp 43) 22 34 (.agg #[(.int .i64 0), (.int .i64 0), (.string ⟨#[]⟩)]) 32 rfl Tryd.underlying22 info34 rfl (by decide) (by omega) u8 x8_1 (⟨x9_1, x9_1, (⟨#[]⟩ : ByteArray)⟩ : S34) [.int .i64 x9_1, .int .i64 x9_1, .string (⟨#[]⟩ : ByteArray)] (fun _ => True) (fun _ => False) rfl (by first | (go_simp; done) | (go_simp; rfl)) ?aP (fun _ hk => hk.elim) ?aF ?aO ?aB ?aS ?aL ?_; (case aP => exact yJb_ _ _ _ (⟨x9_1, x9_1, (⟨#[]⟩ : ByteArray)⟩ : S34)); (case aB => exact (by repeat (with_reducible first | exact HB.out | apply yc_ | apply ya_ | apply yb_ | refine yr_ ?_ GE513.out))); (case aF => exact (fun _ _ => trivial)); (case aO => exact (by (with_reducible repeat (first | apply Kd.yh_ | apply Kd.yi_ | apply Kd.R_drew)); exact Kd.R_mono (Kd.R_far (p := ⟨gb513, 1, none⟩) (Kd.R_far (p := ⟨gb513, 0, none⟩) (Kd.yHb_ HO_8.out BK513.out (by decide)) (fun _ hk => hk.2) (.int .u8 ((rd_T78 t508 x25_1).f0))) (fun _ hk => hk.2) (.string ((rd_T78 t508 x25_1).f1))) (fun _ hk => trivial))); (case aS => exact (yk_ (by repeat (with_reducible first | exact HB.out | apply yc_ | apply ya_ | apply yb_ | refine yr_ ?_ GE513.out)))); (case aL => have := LMc34.out; omega); intro v517 w42 ho hb hg hat; rw [← Ny516.out] at ho; have n0_ := Aside0.mk (Kd.yhb_ (by (with_reducible repeat (first | apply Kd.yh_ | apply Kd.yi_ | apply Kd.R_drew)); exact (Kd.R_mono (Kd.R_far (p := ⟨gb513, 1, none⟩) (Kd.R_far (p := ⟨gb513, 0, none⟩) (Kd.R_mono HO_23.out (fun k_ hk => (⟨hk, hk.2⟩ : _ ∧ k_ ≠ gb513))) (fun _ hk => hk.2) (.int .u8 ((rd_T78 t508 x25_1).f0))) (fun _ hk => hk.2) (.string ((rd_T78 t508 x25_1).f1))) (fun _ h_ => h_.1))) (Kd.yU_ (by (with_reducible repeat (first | apply Kd.yh_ | apply Kd.yi_ | apply Kd.R_drew)); exact (Kd.R_mono (Kd.R_far (p := ⟨gb513, 1, none⟩) (Kd.R_far (p := ⟨gb513, 0, none⟩) (Kd.yHb_ HO_8.out BK513.out (by decide)) (fun _ hk => hk.2) (.int .u8 ((rd_T78 t508 x25_1).f0))) (fun _ hk => hk.2) (.string ((rd_T78 t508 x25_1).f1))) (fun _ h_ => h_.1)))) (by decide) hg); have n1_ := Aside0.mk (y1b_ (g := gb513) (o := .cells #[.int .u8 ((rd_T78 t508 x25_1).f0), .string ((rd_T78 t508 x25_1).f1)] 78 (0, 0)) (by (with_reducible repeat (first | refine yA_ ?_ _ | refine yB_ ?_ | refine yz_ ?_ _)); refine ylb_ (cs := #[.int .u8 ((rd_T78 t508 x25_1).f0), .string (⟨#[]⟩ : ByteArray)]) ?_ 1 _ rfl; (with_reducible repeat (first | refine yA_ ?_ _ | refine yB_ ?_ | refine yz_ ?_ _)); refine ylb_ (cs := #[.int .u8 0, .string (⟨#[]⟩ : ByteArray)]) ?_ 0 _ rfl; (with_reducible repeat (first | refine yA_ ?_ _ | refine yB_ ?_ | refine yz_ ?_ _)); exact BK513.out) hg (Kd.R_ne HO_8.out BK513.out (by decide))); have n2_ := Aside0.mk (hb); have n3_ := Aside0.mk (ho); clear HO_23; clear BK513; clear HB; clear HO_8; have HO_23 := n0_; have BK513 := n1_; have HB := n2_; have HO518 := n3_; clear n0_ n1_ n2_ n3_; clear ho hb hg hat; obtain ⟨Ao43, co43, eo43⟩ := Kd.yC_ HO518.out; subst eo43; have p38 : 0 ≤ ((ji35) : Int) := of_decide_eq_true (by assumption); have q38 : ((ji35) : Int) < ((y516.length : Int) : Int) := of_decide_eq_true (by assumption); obtain ⟨go38, co38, eo38, gb38, gl38, cl38, HG38⟩ := Kd.R_form HO518.out (by omega); (first | cases eo38 | (injection eo38 with ea_ en_ ec_; (first | subst ea_ | (injection ea_ with ea_; subst ea_)); subst ec_; clear en_)); have GB38 := Aside0.mk gb38; have GG38 := Aside0.mk HG38; clear gb38 gl38 HG38; obtain ⟨ce38, hcl38, hM38, hcc38, hfr38⟩ := Kd.R_elem HO518.out z34 ((ji35) : Int) p38 q38; obtain rfl := yFb_ hM38; have hx38_0 : w42.cell? ⟨go38, ((ji35) : Int).toNat * 3, none⟩ = some (.int .i64 ((rd_T34 y516 (ji35)).f0)) := hcc38 0 _ rfl; have hx38_1 : w42.cell? ⟨go38, ((ji35) : Int).toNat * 3 + 1, none⟩ = some (.int .i64 ((rd_T34 y516 (ji35)).f1)) := hcc38 1 _ rfl; have hx38_2 : w42.cell? ⟨go38, ((ji35) : Int).toNat * 3 + 2, none⟩ = some (.string ((rd_T34 y516 (ji35)).f2)) := hcc38 2 _ rfl; have hf38_0 : w42.frozen? ⟨go38, ((ji35) : Int).toNat * 3, none⟩ = false := hfr38 0; have hf38_1 : w42.frozen? ⟨go38, ((ji35) : Int).toNat * 3 + 1, none⟩ = false := hfr38 1; have hf38_2 : w42.frozen? ⟨go38, ((ji35) : Int).toNat * 3 + 2, none⟩ = false := hfr38 2; clear hcl38 hcc38 hfr38 hM38; replace p38 := eq_true p38; replace q38 := eq_true q38; have hcz44_0 : w42.cell? ⟨gb513, 0, none⟩ = some (.int .u8 ((rd_T78 t508 x25_1).f0)) := (yl_ BK513.out 0).trans rfl; have hcz44_1 : w42.cell? ⟨gb513, 1, none⟩ = some (.string ((rd_T78 t508 x25_1).f1)) := (yl_ BK513.out 1).trans rfl; have hfz44_0 := yw_ BK513.out 0; have hfz44_1 := yw_ BK513.out 1; have HX45 := Aside0.mk (show Kd.R k34 34 w42 w.heap.size (fun _ => True) (.slice (some ⟨go38, 0, none⟩) y516.length co43) y516 from (by (with_reducible repeat (first | apply Kd.yh_ | apply Kd.yi_ | apply Kd.R_drew)); exact HO518.out)); obtain ⟨ce45, hcl45, hM45, hcc45, hfr45⟩ := Kd.R_elem HX45.out z34 ((ji35) : Int) (of_decide_eq_true (by assumption)) (by have h_ : ((ji35) : Int) < ((y516.length : Int) : Int) := of_decide_eq_true (by assumption); first | exact h_ | (have e_ := (Kd.yo_ HO518.out).1; omega) | simpa using h_); obtain rfl := yFb_ hM45; have HP45 := Kd.R_seg HX45.out ((ji35) : Int) (of_decide_eq_true (by assumption)) (by have h_ : ((ji35) : Int) < ((y516.length : Int) : Int) := of_decide_eq_true (by assumption); first | exact h_ | (have e_ := (Kd.yo_ HO518.out).1; omega) | simpa using h_) (seg := [.int .i64 (wrap64 (x9_1 + (((rd_T78 t508 x25_1).f1).size : Int)))]) (j := 1) hcl45 hcc45 (show 2 ≤ 3 from by decide) (x' := (⟨(rd_T34 y516 (ji35)).f0, wrap64 (x9_1 + (((rd_T78 t508 x25_1).f1).size : Int)), (rd_T34 y516 (ji35)).f2⟩ : S34)) (yJb_ _ _ _ (⟨(rd_T34 y516 (ji35)).f0, wrap64 (x9_1 + (((rd_T78 t508 x25_1).f1).size : Int)), (rd_T34 y516 (ji35)).f2⟩ : S34) ) (fun _ hk => hk); have hx45_1 := hcc45 1 _ rfl; (try simp only [show (k34).sz = 3 from rfl, Nat.mul_one, Nat.add_zero] at hx45_1); have hf45_1 := hfr45 1; (try simp only [show (k34).sz = 3 from rfl, Nat.mul_one, Nat.add_zero] at hf45_1); clear hcl45 hcc45 hfr45 hM45) | ((with_reducible refine yQ_ (t := 3) (p := 61) rfl ?_); refine yG_ (t := 3) (p := 61) (v := ?vo_w46) (w1 := (w42.setCell ⟨go38, ((ji35) : Int).toNat * 3 + 1, none⟩ (.int .i64 (wrap64 (x9_1 + (((rd_T78 t508 x25_1).f1).size : Int)))))) ?hg ?ho ?hn ?hr ?_; (case ho => rfl); (case hg => rfl); (case hn => rfl); (case hr => first | (go_simp; done) | (go_simp; rfl)); intro w46 hw; have hg : w42.grownBy w46 (some go38) := (by rw [hw]; exact HP45.2); have hp_ : Kd.R k34 34 w46 w.heap.size (fun _ => True) (.slice (some ⟨go38, 0, none⟩) y516.length co43) y519 := (by rw [hw, Ny519.out]; exact HP45.1); clear HP45; have n0_ := Aside0.mk (Kd.yhb_ (v := (.slice (some ⟨go38, 0, none⟩) y516.length co43)) (by (with_reducible repeat (first | apply Kd.yh_ | apply Kd.yi_ | apply Kd.R_drew)); exact HO_23.out) (Kd.yU_ HO518.out) (by decide) hg); have n1_ := Aside0.mk (y1b_ (g := gb513) (o := .cells #[.int .u8 ((rd_T78 t508 x25_1).f0), .string ((rd_T78 t508 x25_1).f1)] 78 (0, 0)) (by (with_reducible repeat (first | refine yA_ ?_ _ | refine yB_ ?_ | refine yz_ ?_ _)); exact BK513.out) hg (Kd.R_ne HO518.out BK513.out (by decide))); have n2_ := Aside0.mk (hp_); have n3_ := Aside0.mk ((by rw [hw]; exact yr_ (HB.out) GB38.out : Below w.heap.size w w46)); clear HO_23; clear BK513; clear HO518; clear HB; have HO_23 := n0_; have BK513 := n1_; have HO518 := n2_; have HB := n3_; clear n0_ n1_ n2_ n3_; clear hg hw hp_))
             go_roundg k1
             case measure => have := HK1.out; omega
             case rel => exact ⟨(y519), (wrap64 (x9_1 + (((rd_T78 t508 x25_1).f1).size : Int))), (true), (wrap64 (x25_1 + 1)), (by first | rfl | (simp; done) | (simp [*]; done)), (by first | rfl | (simp; done) | (simp [*]; done)), (by first | rfl | (simp; done) | (simp [*]; done)), H', ⟨by have := HK1.out; omega⟩, ⟨by (with_reducible repeat (first | apply Kd.yh_ | apply Kd.yi_ | apply Kd.R_drew)); exact HO518.out⟩, ⟨by (with_reducible repeat (first | apply Kd.yh_ | apply Kd.yi_ | apply Kd.R_drew)); exact Kd.R_mono HO_23.out (fun _ hk => trivial)⟩, ⟨by repeat (with_reducible first | exact HB.out | apply yc_ | apply ya_ | apply yb_ | refine yr_ ?_ GE513.out)⟩⟩
            ·rw [if_neg c39] at H
             have c39b0 : (((rd_T78 t508 x25_1).f0) == 45) = false := beq_eq_false_iff_ne.mpr c39
             have c39b1 : (((rd_T78 t508 x25_1).f0) != 45) = true := bne_iff_ne.mpr c39
             by_cases c47 : ((rd_T34 y516 (ji35)).f2).size + ((rd_T78 t508 x25_1).f1).size ≤ 9223372036854775807
             ·rw [if_pos c47] at H
              have c47b0 := eq_true c47
              have c47b1 : decide (((rd_T34 y516 (ji35)).f2).size + ((rd_T78 t508 x25_1).f1).size ≤ 9223372036854775807) = true := decide_eq_true c47
              try have c47b2 : (9223372036854775807 < ((rd_T34 y516 (ji35)).f2).size + ((rd_T78 t508 x25_1).f1).size) = False := eq_false (Nat.not_lt.2 c47)
              obtain ⟨y520, hy520⟩ : ∃ y_ : List (S34), y_ = (y516.set ((ji35) : Int).toNat (⟨(rd_T34 y516 (ji35)).f0, (rd_T34 y516 (ji35)).f1, ((rd_T34 y516 (ji35)).f2) ++ ((rd_T78 t508 x25_1).f1)⟩ : S34)) := ⟨_, rfl⟩
              replace H : (yx_.l0 k1 y520 x9_1 true t508 (t508.length : Int) (wrap64 (x25_1 + 1))) = some (r1, r2) := by first | (rw [hy520]; with_reducible exact H) | (have H2_ := (Option.bind_some _ _).symm.trans H; rw [hy520]; with_reducible exact H2_) | (have H2_ := (Option.bind_some _ _).symm.trans H; with_reducible exact H2_) | with_reducible exact H | (rw [hy520]; exact H) | exact H
              have Ny520 := Aside0.mk hy520
              clear hy520
              have H' := Aside0.mk H
              clear H
              have p512 : 0 ≤ (x25_1 : Int) := of_decide_eq_true (by assumption)
              have q512 : x25_1 < (t508.length : Int) := of_decide_eq_true (by assumption)
              obtain ⟨ad512, e512, hx512_0, hx512_1⟩ := at_T78 (Kd.yo_ HO_23.out).2.2 x25_1 p512 q512
              cases e512
              replace p512 := eq_true p512
              replace q512 := eq_true q512
              try go_wp2_with (first | ((with_reducible refine yS_ (N := 12) rfl ?_); refine ykb_ ?hg (N := 12) ?hd (cs := #[.int .u8 0, .string (⟨#[]⟩ : ByteArray)]) (t := 78) ?hr ?_; (case hd => rfl); (case hg => rfl); (case hr => first | (go_simp; done) | (go_simp; rfl)); intro gb513 hg w48 hbox hb; have n0_ := Aside0.mk (Kd.yM_ (by (with_reducible repeat (first | apply Kd.yh_ | apply Kd.yi_ | apply Kd.R_drew)); exact HO_8.out) hb); have n1_ := Aside0.mk (Kd.yM_ (Kd.R_elderB (by (with_reducible repeat (first | apply Kd.yh_ | apply Kd.yi_ | apply Kd.R_drew)); exact HO_23.out) gb513 (Nat.le_of_eq hg.symm)) hb); have n2_ := Aside0.mk (ym_ (by repeat (with_reducible first | exact HB.out | apply yc_ | apply ya_ | apply yb_)) hb); have n3_ := Aside0.mk (hbox); have n4_ := Aside0.mk ((by rw [hg]; exact (yk_ (by repeat (with_reducible first | exact HB.out | apply yc_ | apply ya_ | apply yb_))) : w.heap.size ≤ gb513)); have n5_ := Aside0.mk ((by rw [hg]; exact (yk_ (by repeat (with_reducible first | exact HB.out | apply yc_ | apply ya_ | apply yb_))) : w.heap.size ≤ gb513)); clear HO_8; clear HO_23; clear HB; have HO_8 := n0_; have HO_23 := n1_; have HB := n2_; have BK513 := n3_; have GW513 := n4_; have GE513 := n5_; clear n0_ n1_ n2_ n3_ n4_ n5_; clear hb hbox hg; have hcz49_0 : w48.cell? ⟨gb513, 0, none⟩ = some (.int .u8 0) := (yl_ BK513.out 0).trans rfl; have hcz49_1 : w48.cell? ⟨gb513, 1, none⟩ = some (.string (⟨#[]⟩ : ByteArray)) := (yl_ BK513.out 1).trans rfl; have hfz49_0 := yw_ BK513.out 0; have hfz49_1 := yw_ BK513.out 1) | ((with_reducible refine yD_ (b := .append) (xs := #[.tmp 39, .tmp 43]) rfl ?_); at_builtin; refine Kd.y0_ k34 (w0 := w) w.heap.size rfl (.tmp 39) (.tmp 43) 22 34 (.agg #[(.int .i64 0), (.int .i64 0), (.string ⟨#[]⟩)]) 32 rfl Tryd.underlying22 info34 rfl (by decide) (by omega) u8 x8_1 (⟨x9_1, x9_1, (⟨#[]⟩ : ByteArray)⟩ : S34) [.int .i64 x9_1, .int .i64 x9_1, .string (⟨#[]⟩ : ByteArray)] (fun _ => True) (fun _ => False) rfl (by first | (go_simp; done) | (go_simp; rfl)) ?aP (fun _ hk => hk.elim) ?aF ?aO ?aB ?aS ?aL ?_; (case aP => exact yJb_ _ _ _ (⟨x9_1, x9_1, (⟨#[]⟩ : ByteArray)⟩ : S34)); (case aB => exact (by repeat (with_reducible first | exact HB.out | apply yc_ | apply ya_ | apply yb_ | refine yr_ ?_ GE513.out))); (case aF => exact (fun _ _ => trivial)); (case aO => exact (by (with_reducible repeat (first | apply Kd.yh_ | apply Kd.yi_ | apply Kd.R_drew)); exact Kd.R_mono (Kd.R_far (p := ⟨gb513, 1, none⟩) (Kd.R_far (p := ⟨gb513, 0, none⟩) (Kd.yHb_ HO_8.out BK513.out (by decide)) (fun _ hk => hk.2) (.int .u8 ((rd_T78 t508 x25_1).f0))) (fun _ hk => hk.2) (.string ((rd_T78 t508 x25_1).f1))) (fun _ hk => trivial))); (case aS => exact (yk_ (by repeat (with_reducible first | exact HB.out | apply yc_ | apply ya_ | apply yb_ | refine yr_ ?_ GE513.out)))); (case aL => have := LMc34.out; omega); intro v517 w50 ho hb hg hat; rw [← Ny516.out] at ho; have n0_ := Aside0.mk (Kd.yhb_ (by (with_reducible repeat (first | apply Kd.yh_ | apply Kd.yi_ | apply Kd.R_drew)); exact (Kd.R_mono (Kd.R_far (p := ⟨gb513, 1, none⟩) (Kd.R_far (p := ⟨gb513, 0, none⟩) (Kd.R_mono HO_23.out (fun k_ hk => (⟨hk, hk.2⟩ : _ ∧ k_ ≠ gb513))) (fun _ hk => hk.2) (.int .u8 ((rd_T78 t508 x25_1).f0))) (fun _ hk => hk.2) (.string ((rd_T78 t508 x25_1).f1))) (fun _ h_ => h_.1))) (Kd.yU_ (by (with_reducible repeat (first | apply Kd.yh_ | apply Kd.yi_ | apply Kd.R_drew)); exact (Kd.R_mono (Kd.R_far (p := ⟨gb513, 1, none⟩) (Kd.R_far (p := ⟨gb513, 0, none⟩) (Kd.yHb_ HO_8.out BK513.out (by decide)) (fun _ hk => hk.2) (.int .u8 ((rd_T78 t508 x25_1).f0))) (fun _ hk => hk.2) (.string ((rd_T78 t508 x25_1).f1))) (fun _ h_ => h_.1)))) (by decide) hg); have n1_ := Aside0.mk (y1b_ (g := gb513) (o := .cells #[.int .u8 ((rd_T78 t508 x25_1).f0), .string ((rd_T78 t508 x25_1).f1)] 78 (0, 0)) (by (with_reducible repeat (first | refine yA_ ?_ _ | refine yB_ ?_ | refine yz_ ?_ _)); refine ylb_ (cs := #[.int .u8 ((rd_T78 t508 x25_1).f0), .string (⟨#[]⟩ : ByteArray)]) ?_ 1 _ rfl; (with_reducible repeat (first | refine yA_ ?_ _ | refine yB_ ?_ | refine yz_ ?_ _)); refine ylb_ (cs := #[.int .u8 0, .string (⟨#[]⟩ : ByteArray)]) ?_ 0 _ rfl; (with_reducible repeat (first | refine yA_ ?_ _ | refine yB_ ?_ | refine yz_ ?_ _)); exact BK513.out) hg (Kd.R_ne HO_8.out BK513.out (by decide))); have n2_ := Aside0.mk (hb); have n3_ := Aside0.mk (ho); clear HO_23; clear BK513; clear HB; clear HO_8; have HO_23 := n0_; have BK513 := n1_; have HB := n2_; have HO518 := n3_; clear n0_ n1_ n2_ n3_; clear ho hb hg hat; obtain ⟨Ao51, co51, eo51⟩ := Kd.yC_ HO518.out; subst eo51; have p38 : 0 ≤ ((ji35) : Int) := of_decide_eq_true (by assumption); have q38 : ((ji35) : Int) < ((y516.length : Int) : Int) := of_decide_eq_true (by assumption); obtain ⟨go38, co38, eo38, gb38, gl38, cl38, HG38⟩ := Kd.R_form HO518.out (by omega); (first | cases eo38 | (injection eo38 with ea_ en_ ec_; (first | subst ea_ | (injection ea_ with ea_; subst ea_)); subst ec_; clear en_)); have GB38 := Aside0.mk gb38; have GG38 := Aside0.mk HG38; clear gb38 gl38 HG38; obtain ⟨ce38, hcl38, hM38, hcc38, hfr38⟩ := Kd.R_elem HO518.out z34 ((ji35) : Int) p38 q38; obtain rfl := yFb_ hM38; have hx38_0 : w50.cell? ⟨go38, ((ji35) : Int).toNat * 3, none⟩ = some (.int .i64 ((rd_T34 y516 (ji35)).f0)) := hcc38 0 _ rfl; have hx38_1 : w50.cell? ⟨go38, ((ji35) : Int).toNat * 3 + 1, none⟩ = some (.int .i64 ((rd_T34 y516 (ji35)).f1)) := hcc38 1 _ rfl; have hx38_2 : w50.cell? ⟨go38, ((ji35) : Int).toNat * 3 + 2, none⟩ = some (.string ((rd_T34 y516 (ji35)).f2)) := hcc38 2 _ rfl; have hf38_0 : w50.frozen? ⟨go38, ((ji35) : Int).toNat * 3, none⟩ = false := hfr38 0; have hf38_1 : w50.frozen? ⟨go38, ((ji35) : Int).toNat * 3 + 1, none⟩ = false := hfr38 1; have hf38_2 : w50.frozen? ⟨go38, ((ji35) : Int).toNat * 3 + 2, none⟩ = false := hfr38 2; clear hcl38 hcc38 hfr38 hM38; replace p38 := eq_true p38; replace q38 := eq_true q38; have hcz52_0 : w50.cell? ⟨gb513, 0, none⟩ = some (.int .u8 ((rd_T78 t508 x25_1).f0)) := (yl_ BK513.out 0).trans rfl; have hcz52_1 : w50.cell? ⟨gb513, 1, none⟩ = some (.string ((rd_T78 t508 x25_1).f1)) := (yl_ BK513.out 1).trans rfl; have hfz52_0 := yw_ BK513.out 0; have hfz52_1 := yw_ BK513.out 1))
              have n0_ := Aside0.mk (Kd.R_drew HO_23.out)
              have n1_ := Aside0.mk (Kd.R_drew HO518.out)
              have n2_ := Aside0.mk (yB_ BK513.out)
              have n3_ := Aside0.mk (yb_ HB.out)
              clear HO_23
              clear HO518
              clear BK513
              clear HB
              have HO_23 := n0_
              have HO518 := n1_
              have BK513 := n2_
              have HB := n3_
              clear n0_ n1_ n2_ n3_
              obtain ⟨ce54, hcl54, hM54, hcc54, hfr54⟩ := Kd.R_elem HO518.out z34 ((ji35) : Int) (of_decide_eq_true (by assumption)) (by have h_ : ((ji35) : Int) < ((y516.length : Int) : Int) := of_decide_eq_true (by assumption); first | exact h_ | (have e_ := (Kd.yo_ HO518.out).1; omega) | simpa using h_)
              obtain rfl := yFb_ hM54
              have HP54 := (Kd.R_seg HO518.out ((ji35) : Int) (of_decide_eq_true (by assumption)) (by have h_ : ((ji35) : Int) < ((y516.length : Int) : Int) := of_decide_eq_true (by assumption); first | exact h_ | (have e_ := (Kd.yo_ HO518.out).1; omega) | simpa using h_) (seg := [.string (((rd_T34 y516 (ji35)).f2) ++ ((rd_T78 t508 x25_1).f1))]) (j := 2) hcl54 hcc54 (show 3 ≤ 3 from by decide) (x' := (⟨(rd_T34 y516 (ji35)).f0, (rd_T34 y516 (ji35)).f1, ((rd_T34 y516 (ji35)).f2) ++ ((rd_T78 t508 x25_1).f1)⟩ : S34)) (yJb_ _ _ _ (⟨(rd_T34 y516 (ji35)).f0, (rd_T34 y516 (ji35)).f1, ((rd_T34 y516 (ji35)).f2) ++ ((rd_T78 t508 x25_1).f1)⟩ : S34) ) (fun _ hk => hk)).1
              rw [← Ny520.out] at HP54
              have HQ54 := Aside0.mk HP54
              have hxq54 := hcc54 2 _ rfl
              have hfq54 : World.frozen? _ ⟨go38, ((ji35) : Int).toNat * 3 + 2, none⟩ = false := hfr54 2
              clear hcl54 hcc54 hfr54 hM54 HP54
              refine start_ (n := 10) (S := fun w' => w'.cell? ⟨gb513, 0, none⟩ = some (.int .u8 ((rd_T78 t508 x25_1).f0)) ∧ w'.cell? ⟨gb513, 1, none⟩ = some (.string ((rd_T78 t508 x25_1).f1)) ∧ w'.cell? ⟨go38, (ji35).toNat * 3 + 2, none⟩ = some (.string ((rd_T34 y516 (ji35)).f2))) (ds := [9]) (bA 10 0) (by kernel_rfl) rfl rfl ⟨(yl_ BK513.out 0).trans rfl, (yl_ BK513.out 1).trans rfl, hxq54⟩ (fun hHeld => ?_); refine y9_ yx_.tab19 yx_.bits19 (fun HT_ HW_ => ?_)
              have GG38 := (show Aside0 (w50.drew.heap[go38]? = some (.cells cl38 34)) from GG38)
              generalize w50.drew = w53 at HO_23 HO518 BK513 HB HQ54 GG38 hxq54 hfq54 hHeld ⊢
              refine pu_ 0 62 (bA 10 1) HT_ ?_
              refine pu_ 1 63 (bA 10 3) HT_ ?_
              refine pu_ 2 64 (bA 10 7) HT_ ?_
              refine pu_ 4 66 (bA 10 23) HT_ ?_
              refine tk_ 3 65 (bA 10 31) rfl HT_ HW_ hHeld (by rintro w' ⟨s0, s1, s2⟩; go_simp; with_reducible rfl) ?_
              refine tk_ 5 67 (bA 10 63) rfl HT_ HW_ hHeld (by rintro w' ⟨s0, s1, s2⟩; go_simp; with_reducible rfl) ?_
              refine pu_ 6 68 (bA 10 127) HT_ ?_
              refine pu_ 7 69 (bA 10 255) HT_ ?_
              refine pu_ 8 70 (bA 10 511) HT_ ?_
              refine last_ (i := 9) (N := none) (bA 10 1023) rfl rfl (one_of HT_.out (by kernel_rfl)) (by decide) (fun K hK => ?_)
              refine skip_ (w1 := ?_) (by rfl) rfl ?_ ?_
              rotate_left
              ·go_simp
               rfl
              refine hK.out _ _ ?_
              clear hK K
              refine done_ (yqb_ HT_.out (by kernel_rfl)) ?_
              try go_wp2
              go_roundg k1
              case measure => have := HK1.out; omega
              case rel => exact ⟨(y520), (x9_1), (true), (wrap64 (x25_1 + 1)), (by first | rfl | (simp; done) | (simp [*]; done)), (by first | rfl | (simp; done) | (simp [*]; done)), (by first | rfl | (simp; done) | (simp [*]; done)), H', ⟨by have := HK1.out; omega⟩, ⟨by (with_reducible repeat (first | apply Kd.yh_ | apply Kd.yi_ | apply Kd.R_drew)); exact HQ54.out⟩, ⟨by (with_reducible repeat (first | apply Kd.yh_ | apply Kd.yi_ | apply Kd.R_drew)); exact Kd.R_mono (Kd.R_far (p := ⟨go38, ((ji35) : Int).toNat * 3 + 2, none⟩) (Kd.yHb_ HO_23.out GG38.out (by decide)) (fun _ hk => hk.2) (.string (((rd_T34 y516 (ji35)).f2) ++ ((rd_T78 t508 x25_1).f1)))) (fun _ hk => trivial)⟩, ⟨by repeat (with_reducible first | exact HB.out | apply yc_ | apply ya_ | apply yb_ | refine yr_ ?_ GB38.out | refine yr_ ?_ GE513.out)⟩⟩
             ·rw [if_neg c47] at H
              exact absurd H (by simp)
           ·rw [if_neg c37] at H
            exact absurd H (by simp)
          ·rw [if_neg c36] at H
           exact absurd H (by simp)
         ·rw [if_neg c34] at H
          exact absurd H (by simp)
      ·rw [if_neg c9] at H
       exact absurd H (by simp)
     ·rw [if_neg c8] at H
      exact absurd H (by simp)
    ·rw [if_neg c7] at H
     have c7b0 : decide (x25_1 < (t508.length : Int)) = false := decide_eq_false c7
     clear c7
     simp only [Option.some.injEq, Prod.mk.injEq] at H
     obtain ⟨rfl, rfl⟩ := H
     go_wp2
     go_ret2
     exact ⟨_, by first | rfl | (simp [yu_, yv_] <;> rfl) | (simp [*, yu_, yv_] <;> rfl), by (with_reducible repeat (first | apply Kd.yh_ | apply Kd.yi_ | apply Kd.R_drew)); exact HO_8.out, by repeat (with_reducible first | exact HB.out | apply yc_ | apply ya_ | apply yb_)⟩
 ·rw [if_neg c4] at H
  have c4b0 : (t509 == 0) = false := beq_eq_false_iff_ne.mpr c4
  have c4b1 : (t509 != 0) = true := bne_iff_ne.mpr c4
  simp only [Option.some.injEq, Prod.mk.injEq] at H
  obtain ⟨rfl, rfl⟩ := H
  go_enter Tryd.func21, Tryd.ntmps21
  go_wp2_with (first | ((with_reducible refine ys_ (f := 43) rfl ?_); refine goesL_ (some 17) rfl rfl Tryd.func43 (by kernel_rfl) rfl #[.string a0, .string a1, .int .i64 0] rfl (by (try simp only [List.map_toArray, List.map_cons, List.map_nil]); first | done | rfl | (simp only [List.length_drop, List.length_take]; rfl)) ?_; (with_reducible refine (yF_.calls k a0 a1 0 t508 t509 _ A3.out).mono ?_); rintro e w55 ⟨v510, rfl, ho0, hb⟩; refine ⟨_, rfl, ?_⟩; have n0_ := Aside0.mk (Kd.yY_ ho0 (yk_ (by repeat (with_reducible first | exact HB.out | apply yc_ | apply ya_ | apply yb_)))); have n1_ := Aside0.mk (ym_ (by repeat (with_reducible first | exact HB.out | apply yc_ | apply ya_ | apply yb_)) hb); clear HB; have HO511 := n0_; have HB := n1_; clear n0_ n1_; (try clear hb); (try clear hb2); (try clear hk); (try clear hi); (try clear ho0)))
  go_ret2
  exact ⟨_, by first | rfl | (simp [yu_, yv_] <;> rfl) | (simp [*, yu_, yv_] <;> rfl), by first | exact Kd.R_nil _ _ _ _ _ | exact Kd.N_nil _ _ _ _ _ | exact Kd.V_nil _ _ _ _ _ | exact Kd.Q_nil _ _ _ _ _ | exact Kd.S_nil _ _ _ _ _, by repeat (with_reducible first | exact HB.out | apply yc_ | apply ya_ | apply yb_)⟩

end Go.Proofs.YthimblhfjfngiaaDoor.PText

-- mended25

namespace Go.Proofs.YthimblhfjfngiaaDoor.PText
open Go.RowKit Go.Lib Go.Proofs.YthimblhfjfngiaaDoorW.PrintWords Go.Proofs.YthimblhfjfngiaaDoorW.PrintLast Go.Proofs.YthimblhfjfngiaaDoorW.PrintMore
theorem stp_len {α : Type} [DecidableEq α] : ∀ (k : Nat) (l m : List α), l.length + m.length ≤ k → (Tx.stp l m).length ≤ l.length + m.length := by
  intro k
  induction k with
  | zero =>
    intro l m h
    have hl : l = [] := List.eq_nil_of_length_eq_zero (by omega)
    have hm : m = [] := List.eq_nil_of_length_eq_zero (by omega)
    subst hl hm
    rw [Tx.stp]; exact Nat.le_refl _
  | succ k ih =>
    intro l m h
    match l, m, h with
    | [], [], _ => rw [Tx.stp]; exact Nat.le_refl _
    | a :: l, [], h =>
      simp only [List.length_cons, List.length_nil] at h
      have := ih l [] (by simp; omega)
      rw [Tx.stp]
      simp only [List.length_cons, List.length_nil] at *
      omega
    | [], b :: m, h =>
      simp only [List.length_cons, List.length_nil] at h
      have := ih [] m (by simp; omega)
      rw [Tx.stp]
      simp only [List.length_cons, List.length_nil] at *
      omega
    | a :: l, b :: m, h =>
      simp only [List.length_cons] at h
      rw [Tx.stp]
      by_cases e : a = b
      · rw [if_pos e]
        have := ih l m (by omega)
        simp only [List.length_cons]; omega
      · rw [if_neg e]
        split
        · have := ih l (b :: m) (by simp only [List.length_cons]; omega)
          simp only [List.length_cons] at *; omega
        · have := ih (a :: l) m (by simp only [List.length_cons]; omega)
          simp only [List.length_cons] at *; omega
theorem stS_len (a b : List ByteArray) : (stS a b).length ≤ a.length + b.length := by
  unfold stS
  rw [List.length_map]
  have := stp_len _ (a.map bL) (b.map bL) (Nat.le_refl _)
  rw [List.length_map, List.length_map] at this
  exact this
/-- the steps from one text to another one, or the error -/
def sizedR (a b : ByteArray) (ctx : Int) : List S78 × Int :=
  if 200000 < a.size ∨ 200000 < b.size ∨ 2000 < (linesB a).length ∨ 2000 < (linesB b).length then ([], 2) else if ctx < 0 ∨ 20 < ctx then ([], 1) else (stS (linesB a) (linesB b), 0)
theorem sized_zero {a b : ByteArray} {ctx : Int} (h : (sizedR a b ctx).2 = 0) : sizedR a b ctx = (stS (linesB a) (linesB b), 0) ∧ 0 ≤ ctx ∧ ctx ≤ 20 ∧ (linesB a).length ≤ 2000 ∧ (linesB b).length ≤ 2000 ∧ a.size ≤ 200000 ∧ b.size ≤ 200000 := by
  unfold sizedR at h ⊢
  by_cases c1 : 200000 < a.size ∨ 200000 < b.size ∨ 2000 < (linesB a).length ∨ 2000 < (linesB b).length
  · rw [if_pos c1] at h; cases h
  · rw [if_neg c1] at h ⊢
    by_cases c2 : ctx < 0 ∨ 20 < ctx
    · rw [if_pos c2] at h; cases h
    · rw [if_neg c2]
      exact ⟨rfl, by omega, by omega, by omega, by omega, by omega, by omega⟩
theorem sized_nil {a b : ByteArray} {ctx : Int} (h : (sizedR a b ctx).2 ≠ 0) : (sizedR a b ctx).1 = [] ∧ ((sizedR a b ctx).2 = 1 ∨ (sizedR a b ctx).2 = 2) := by
  unfold sizedR at h ⊢
  by_cases c1 : 200000 < a.size ∨ 200000 < b.size ∨ 2000 < (linesB a).length ∨ 2000 < (linesB b).length
  · rw [if_pos c1]; exact ⟨rfl, .inr rfl⟩
  · rw [if_neg c1] at h ⊢
    by_cases c2 : ctx < 0 ∨ 20 < ctx
    · rw [if_pos c2]; exact ⟨rfl, .inl rfl⟩
    · rw [if_neg c2] at h; exact absurd rfl h
theorem sized_f (a b : ByteArray) (ctx : Int) (ha : a.size ≤ 1000000000) (hb : b.size ≤ 1000000000) (k : Nat) (hk : 5000000 ≤ k) : yF_.f k a b ctx = some (sizedR a b ctx) := by
  obtain ⟨k, rfl⟩ : ∃ q, k = q + 1 := ⟨k - 1, by omega⟩
  have ea : yfb_.f a = some (linesB a) := by unfold yfb_.f; rw [if_pos ha]
  have eb : yfb_.f b = some (linesB b) := by unfold yfb_.f; rw [if_pos hb]
  unfold yF_.f sizedR
  rw [ea, eb, Option.bind_some, Option.bind_some]
  have hT : yF_.j0 (k + 1) ctx (linesB a) (linesB b) true = some ([], 2) := by rw [yF_.j0, if_pos rfl]
  by_cases c1 : 200000 < a.size
  · rw [if_pos (show (a.size : Int) > 200000 by omega), if_pos (Or.inl c1), hT]
  rw [if_neg (show ¬ (a.size : Int) > 200000 by omega)]
  by_cases c2 : 200000 < b.size
  · rw [if_pos (show (b.size : Int) > 200000 by omega), if_pos (Or.inr (Or.inl c2)), hT]
  rw [if_neg (show ¬ (b.size : Int) > 200000 by omega)]
  by_cases c3 : 2000 < (linesB a).length
  · rw [if_pos (show ((linesB a).length : Int) > 2000 by omega), if_pos (Or.inr (Or.inr (Or.inl c3))), hT]
  rw [if_neg (show ¬ ((linesB a).length : Int) > 2000 by omega)]
  by_cases c4 : 2000 < (linesB b).length
  · rw [decide_eq_true (show ((linesB b).length : Int) > 2000 by omega), if_pos (Or.inr (Or.inr (Or.inr c4))), hT]
  rw [decide_eq_false (show ¬ ((linesB b).length : Int) > 2000 by omega), if_neg (by omega), yF_.j0, if_neg (by decide)]
  by_cases c5 : ctx < 0
  · rw [if_pos c5, if_pos (Or.inl c5)]
  rw [if_neg c5]
  by_cases c6 : 20 < ctx
  · rw [if_pos c6, if_pos (Or.inr c6)]
  have hm : (linesB a).length * ((linesB b).length + 2) ≤ 2000 * 2002 := Nat.mul_le_mul (by omega) (by omega)
  rw [if_neg c6, if_neg (by omega), steps_f _ _ (by omega) (by omega) k (by omega), Option.bind_some]
end Go.Proofs.YthimblhfjfngiaaDoor.PText

namespace Go.Proofs.YthimblhfjfngiaaDoor.PText
open Go.RowKit Go.Proofs.YthimblhfjfngiaaDoorW.PrintWords Go.Proofs.YthimblhfjfngiaaDoorW.PrintLast Go.Proofs.YthimblhfjfngiaaDoorW.PrintMore
set_option linter.unusedVariables false
set_option linter.unusedSimpArgs false
/-- a hunk, told by its place -/
def hunkP (l : List S78) (p : Nat × Nat) : List UInt8 := hunkL (cA (l.take p.1)) (cB (l.take p.1)) ((l.take p.2).drop p.1)
/-- the difference that steps make -/
def diffL (l : List S78) (ctx : Nat) : List UInt8 := ((hkL l ctx l.length 0).map (hunkP l)).flatten
/-- the difference of two texts -/
def diffT (a b : ByteArray) (ctx : Int) : List UInt8 := diffL (sizedR a b ctx).1 ctx.toNat
def y6_.f (a0 a1 : ByteArray) (a2 : Int) : Option (ByteArray × Int) :=
  if a0.size ≤ 1000000000 ∧ a1.size ≤ 1000000000 then (if (sizedR a0 a1 a2).2 = 0 then (if (diffT a0 a1 a2).length ≤ 140737488351232 then some (⟨(diffT a0 a1 a2).toArray⟩, 0) else none) else some (⟨#[]⟩, (sizedR a0 a1 a2).2)) else none
theorem stS_op (a b : List ByteArray) : ∀ x ∈ stS a b, 0 ≤ x.f0 ∧ x.f0 ≤ 255 := by
  intro x hx
  unfold stS at hx
  obtain ⟨y, _, rfl⟩ := List.mem_map.1 hx
  have := y.1.toNat_lt
  exact ⟨Int.natCast_nonneg _, by show ((y.1.toNat : Nat) : Int) ≤ 255; omega⟩
theorem C_hunk {w : World} {ad : Addr} {l : List S78} {p : Nat × Nat} (h : Kd.C k78 w (some ad) l.length l) (h1 : p.1 < p.2) (h2 : p.2 ≤ l.length) :
    ((l.take p.2).drop p.1).length = p.2 - p.1 ∧ Kd.C k78 w (some (ad.add (p.1 * 2))) (p.2 - p.1) ((l.take p.2).drop p.1) := by
  have hlen : ((l.take p.2).drop p.1).length = p.2 - p.1 := by rw [List.length_drop, List.length_take]; omega
  refine ⟨hlen, ?_⟩
  have := Kd.C_mid (c := l.length) h (Nat.le_of_lt h1) h2 (Nat.le_refl _)
  rw [hlen, if_neg (by omega)] at this
  exact this
/-- where a row of hunks lies -/
theorem row_block70 {w : World} {B : Nat} {A : Option Addr} {c : Nat} {l : List S70} (h : Kd.R k70 70 w B (fun _ => True) (.slice A l.length c) l) :
    ∃ (g : Nat) (cs : Array Value), (l ≠ [] → A = some ⟨g, 0, none⟩) ∧ (l = [] ∨ (B ≤ g ∧ w.heap[g]? = some (.cells cs 70 (0, 0)))) := by
  by_cases hl : l = []
  · exact ⟨0, #[], fun q => absurd hl q, .inl hl⟩
  · obtain ⟨g, cap, hv, hb, _, cs, hc⟩ := Kd.R_form h (List.length_pos_iff.2 hl)
    cases hv
    exact ⟨g, cs, fun _ => rfl, .inr ⟨hb, hc⟩⟩
set_option maxHeartbeats 8000000 in
set_option maxRecDepth 100000 in
theorem y6_.calls (a0 : ByteArray) (a1 : ByteArray) (a2 : Int) (r1 : ByteArray) (r2 : Int) (w : World) (hG : Glob w) (h : y6_.f a0 a1 a2 = some (r1, r2)) :
    Calls Tryd.prog 19 #[.string a0, .string a1, .int .i64 a2] w fun e w' => e = .returned (.tuple #[.string r1, .int .i64 r2]) ∧ Below w.heap.size w w' := by
  unfold y6_.f at h
  by_cases hs : a0.size ≤ 1000000000 ∧ a1.size ≤ 1000000000
  · rw [if_pos hs] at h
    have HZ := Aside0.mk (yF_.calls 5000000 a0 a1 a2 (sizedR a0 a1 a2).1 (sizedR a0 a1 a2).2 w (sized_f a0 a1 a2 hs.1 hs.2 _ (Nat.le_refl _)))
    by_cases he : (sizedR a0 a1 a2).2 = 0
    · rw [if_pos he] at h
      obtain ⟨e1, c0, c1, n1, n2, -, -⟩ := sized_zero he
      have hln := stS_len (linesB a0) (linesB a1)
      have HOP := Aside0.mk (stS_op (linesB a0) (linesB a1))
      unfold diffT at h
      rw [e1] at h HZ
      obtain ⟨n, rfl⟩ : ∃ n : Nat, a2 = (n : Int) := ⟨a2.toNat, by omega⟩
      have hn : n ≤ 20 := by omega
      have hN : (stS (linesB a0) (linesB a1)).length ≤ 4000 := by omega
      rw [Int.toNat_natCast] at h
      clear e1 he c0 c1 n1 n2 hln
      generalize stS (linesB a0) (linesB a1) = l at *
      have hT : (diffL l n).length ≤ 140737488351232 ∧ r1 = ⟨(diffL l n).toArray⟩ ∧ r2 = 0 := by
        have h2 : (if (diffL l n).length ≤ 140737488351232 then some ((⟨(diffL l n).toArray⟩ : ByteArray), (0 : Int)) else none) = some (r1, r2) := h
        by_cases q : (diffL l n).length ≤ 140737488351232
        · rw [if_pos q] at h2
          have h3 := Option.some.inj h2
          exact ⟨q, (congrArg Prod.fst h3).symm, (congrArg Prod.snd h3).symm⟩
        · rw [if_neg q] at h2; cases h2
      obtain ⟨hTl, rfl, rfl⟩ := hT
      have HT := Aside0.mk (show ((hkL l n l.length 0).map (hunkP l)).flatten = diffL l n from rfl)
      have HTL := Aside0.mk hTl
      have HN := Aside0.mk hN
      have HX := Aside0.mk hn
      have HIN := Aside0.mk (hkL_in l n l.length 0)
      have HKL := Aside0.mk (hkL_len l n l.length 0)
      have HGl := Aside0.mk hG
      clear h hTl hN hn hG
      have H44 := Aside0.mk (fun (A : Option Addr) (c : Nat) (w' : World) (h1 : Kd.C k78 w' A l.length l) (h2 : l.length ≤ c) => hunks_row A c l n w' h1 h2 (by have := HN.out; omega) HX.out)
      generalize diffL l n = T at *
      generalize hkL l n l.length 0 = ps at *
      replace HZ : Aside0 (Calls Tryd.prog 43 #[.string a0, .string a1, .int .i64 (n : Int)] w fun e w' => ∃ v0_ : Value, e = .returned (.tuple #[v0_, .int .i64 0]) ∧ Kd.R k78 78 w' w.heap.size (fun _ => True) v0_ l ∧ Below w.heap.size w w') := HZ
      go_enter Tryd.func19, Tryd.ntmps19
      go_wp2_with (first
        | (go_at_call 43; refine HZ.out.mono ?_; rintro e w1 ⟨v0, rfl, ho, hb⟩; obtain ⟨A1, c1, rfl⟩ := Kd.yC_ ho; have HC := Aside0.mk (Kd.yo_ ho).2.2; have HL := Aside0.mk (Kd.yo_ ho).2.1; have HB := Aside0.mk hb; clear hb ho HZ)
        | (go_at_call 44; refine (H44.out _ _ _ (Kd.yK_ HC.out _) HL.out).mono ?_; rintro e w3 ⟨v3, rfl, ho, hb⟩; obtain ⟨A3, c3, rfl⟩ := Kd.yC_ ho; have HO := Aside0.mk ho; have HB3 := Aside0.mk hb; clear hb ho H44))
      have HR := Aside0.mk (Kd.yo_ HO.out)
      have hrb := HO.out
      have hlen : (ps.map (hunkS (A1.getD ⟨0, 0, none⟩) l)).length = ps.length := List.length_map _
      obtain ⟨g, cs, hA, hg⟩ := row_block70 hrb
      have hC70 := Aside0.mk HR.out.2.2
      have HBU := Aside0.mk (builder_kept (Lib.IsBuilderF.of (Lib.fresh_isBuilder 50 5 w1)) HB3.out)
      have HS3 : Aside0 (w1.heap.size < w3.heap.size) := ⟨by have := HB3.out.size; simp at this; omega⟩
      have HW1 : Aside0 (Below w1.heap.size w1 w3) := ⟨((Below.refl _ w1).alloc (Nat.le_refl _) _).trans (HB3.out.mono (by simp))⟩
      have HSW := Aside0.mk HB.out.size
      have HBW : Aside0 (Below w.heap.size w w3) := ⟨HB.out.trans (HW1.out.mono HSW.out)⟩
      have HGr : Aside0 (ps.map (hunkS (A1.getD ⟨0, 0, none⟩) l) = [] ∨ (w1.heap.size < g ∧ w3.heap[g]? = some (.cells cs 70 (0, 0)))) := ⟨hg.imp id (fun q => ⟨by have := q.1; simp at this; omega, q.2⟩)⟩
      have HA := Aside0.mk hA
      clear HB HB3 hrb hg hA HO HR
      go_loopg [27] (ps.length + 1) (fun kq v27 w' => ∃ (i : Nat) (D : List UInt8), v27 = .int .i64 (i : Int) ∧ Aside0 (ps.length - i < kq ∧ i ≤ ps.length) ∧ Aside0 (D ++ ((ps.drop i).map (hunkP l)).flatten = T) ∧ Aside0 (Lib.IsBuilderF 50 5 w1.heap.size w1.heap.size (Lib.byteCells D) w') ∧ Aside0 (Below w.heap.size w w') ∧ Aside0 (Below w1.heap.size w1 w') ∧ Aside0 (w1.heap.size < w'.heap.size) ∧ Aside0 (ps.map (hunkS (A1.getD ⟨0, 0, none⟩) l) = [] ∨ (w1.heap.size < g ∧ w'.heap[g]? = some (.cells cs 70 (0, 0)))))
      case atStart => exact ⟨0, [], rfl, ⟨by omega, by omega⟩, ⟨by rw [List.drop_zero]; exact HT.out⟩, HBU, HBW, HW1, HS3, HGr⟩
      case round =>
        obtain ⟨i, D, rfl, HI, HD, HBi, HBe, HBb, HS, HGe⟩ := hrel
        obtain ⟨k1, rfl⟩ : ∃ k1, gk = k1 + 1 := ⟨gk - 1, by have := HI.out.1; omega⟩
        by_cases hlt : i < ps.length
        · have hb : decide ((i : Int) < ((ps.map (hunkS (A1.getD ⟨0, 0, none⟩) l)).length : Int)) = true := by rw [hlen]; simp; omega
          have hb2 : decide ((0 : Int) ≤ (i : Int)) = true := by simp
          have p0 : (0 : Int) ≤ (i : Int) := by omega
          have q0 : (i : Int) < ((ps.map (hunkS (A1.getD ⟨0, 0, none⟩) l)).length : Int) := by rw [hlen]; omega
          have hne : ps.map (hunkS (A1.getD ⟨0, 0, none⟩) l) ≠ [] := fun e => by rw [e] at hlen; simp at hlen; omega
          obtain ⟨ad, e0, hx0, hx1, hx2⟩ := at_T70 hC70.out (i : Int) p0 q0
          have hblk : ad.block = g := by
            have := HA.out hne
            rw [e0] at this; cases this; rfl
          have hgw : wr.heap[g]? = w3.heap[g]? := by
            rcases HGr.out with q | q
            · exact absurd q hne
            · rcases HGe.out with q2 | q2
              · exact absurd q2 hne
              · rw [q.2, q2.2]
          cases e0
          replace hx0 := (yOb_ (w' := wr) (p := ad.add ((i : Int).toNat * 3)) (by simp only [add_block]; rw [hblk, hgw])).trans hx0
          replace hx1 := (yOb_ (w' := wr) (p := ⟨(ad.add ((i : Int).toNat * 3)).block, (ad.add ((i : Int).toNat * 3)).off + 1, none⟩) (by simp only [add_block]; rw [hblk, hgw])).trans hx1
          replace hx2 := (yOb_ (w' := wr) (p := ⟨(ad.add ((i : Int).toNat * 3)).block, (ad.add ((i : Int).toNat * 3)).off + 2, none⟩) (by simp only [add_block]; rw [hblk, hgw])).trans hx2
          rw [Int.toNat_natCast] at hx0 hx1 hx2
          rw [rd70_at _ i (by rw [hlen]; exact hlt), List.getElem_map] at hx0 hx1 hx2
          have hin := HIN.out ps[i] (List.getElem_mem hlt)
          have hd : ps.drop i = ps[i] :: ps.drop (i + 1) := List.drop_eq_getElem_cons hlt
          have HE : Aside0 (D ++ hunkP l ps[i] ++ ((ps.drop (i + 1)).map (hunkP l)).flatten = T) := ⟨by
            have := HD.out
            rw [hd, List.map_cons, List.flatten_cons, ← List.append_assoc] at this
            exact this⟩
          clear hd HD hgw hblk
          generalize ps[i] = p at *
          have hl0 : l.length ≠ 0 := by omega
          obtain ⟨ad1, hA1⟩ : ∃ ad1, A1 = some ad1 := by
            obtain ⟨_, _, h3⟩ := HC.out
            obtain ⟨ad1, h4, _⟩ := h3 (by omega)
            exact ⟨ad1, h4⟩
          subst hA1
          have H2 := Aside0.mk (fun (w' : World) (h1 : Below w1.heap.size w1 w') => C_hunk (Kd.yCb_ HC.out h1) hin.1 hin.2)
          have hlp := (C_hunk HC.out hin.1 hin.2).1
          have HTX : Aside0 (D ++ hunkP l p ++ ((ps.drop (i + 1)).map (hunkP l)).flatten = T) := HE
          have hsl := congrArg List.length HE.out
          rw [List.length_append] at hsl
          have HDL : Aside0 ((D ++ hunkP l p).length ≤ 140737488351232) := ⟨by have := HTL.out; omega⟩
          have HCA := Aside0.mk (cA_take l p.1)
          have HCB := Aside0.mk (cB_take l p.1)
          have HLP := Aside0.mk hlp
          have HP2 := Aside0.mk hin
          clear hsl hlp HE hin
          have hx0' : wr.cell? (ad.add (i * 3)) = some (.int .i64 (cA (l.take p.1) : Int)) := hx0
          have hx1' : wr.cell? ⟨(ad.add (i * 3)).block, (ad.add (i * 3)).off + 1, none⟩ = some (.int .i64 (cB (l.take p.1) : Int)) := hx1
          have hx2' : wr.cell? ⟨(ad.add (i * 3)).block, (ad.add (i * 3)).off + 2, none⟩ = some (.slice (some (ad1.add (p.1 * 2))) (p.2 - p.1) (p.2 - p.1)) := hx2
          clear hx0 hx1 hx2
          have H45 := Aside0.mk (fun (w' : World) (h1 : Below w.heap.size w w') (h2 : Below w1.heap.size w1 w') (h3 : w1.heap.size < w'.heap.size) (h4 : Lib.IsBuilderF 50 5 w1.heap.size w1.heap.size (Lib.byteCells D) w') =>
            htext_row (cA (l.take p.1)) (cB (l.take p.1)) (some (ad1.add (p.1 * 2))) (p.2 - p.1) w1.heap.size D (D ++ hunkP l p) ((l.take p.2).drop p.1) w' (fun w'' hw => by rw [HLP.out]; exact (H2.out w'' (h2.trans hw)).2) (by rw [HLP.out]; exact Nat.le_refl _) (by rw [HLP.out]; have := HN.out; have := HP2.out.2; omega) (by have := HCA.out; have := HN.out; omega) (by have := HCB.out; have := HN.out; omega) (HGl.out.below h1)
              (fun x hx => HOP.out x (List.mem_of_mem_take (List.mem_of_mem_drop hx))) rfl HDL.out h3 h4)
          rw [HLP.out] at H45
          go_wp2_with (go_at_call 45; refine (H45.out _ ?zb ?zc ?zd ?ze).mono ?_; (case zb => exact HBe.out.alloc HBe.out.size _); (case zc => exact HBb.out.alloc (Nat.le_of_lt HS.out) _); (case zd => (have := HS.out; simp; omega)); (case ze => exact HBi.out.alloc _); rintro e w5 ⟨⟨v, rfl⟩, hf, hb, hok⟩; have HF := Aside0.mk hf; have HB5 : Aside0 (Below w.heap.size w w5) := ⟨(HBe.out.alloc HBe.out.size _).trans (hb.mono HSW.out)⟩; have HB6 : Aside0 (Below w1.heap.size w1 w5) := ⟨(HBb.out.alloc (Nat.le_of_lt HS.out) _).trans hb⟩; have HS5 : Aside0 (w1.heap.size < w5.heap.size) := ⟨by have := hb.size; have := HS.out; simp at *; omega⟩; have HG5 : Aside0 (ps.map (hunkS ((some ad1).getD ⟨0, 0, none⟩) l) = [] ∨ (w1.heap.size < g ∧ w5.heap[g]? = some (.cells cs 70 (0, 0)))) := ⟨HGe.out.imp id (fun q => ⟨q.1, hok g _ (heap_old q.2 _) (by intro e; have := Option.some.inj e; have := q.1; omega) (by intro c fz e; cases e)⟩)⟩; clear hf hb hok)
          go_roundg k1
          case measure => have := HI.out.1; omega
          case rel => exact ⟨i + 1, _, congrArg (Value.int .i64) (nx i (by have := HKL.out; have := HN.out; omega)), ⟨by have := HI.out.1; omega, by omega⟩, HTX, HF, HB5, HB6, HS5, HG5⟩
        · have hb : decide ((i : Int) < ((ps.map (hunkS (A1.getD ⟨0, 0, none⟩) l)).length : Int)) = false := by rw [hlen]; simp; omega
          have hd : D = T := by
            have := HD.out
            rw [List.drop_of_length_le (by omega)] at this
            simpa using this
          subst hd
          go_wp2_with (go_at_call 35; refine (Tryd.Builder_String_any_k w1.heap.size w1.heap.size D _ HBi.out (Nat.le_of_lt HS.out)).mono ?_; rintro e w5 ⟨rfl, -, hbel, -⟩; have HB6 := Aside0.mk (HBe.out.trans (hbel.mono HSW.out)); clear hbel)
          go_ret2
          exact ⟨rfl, HB6.out⟩
    · rw [if_neg he] at h
      obtain ⟨e1, e2⟩ := sized_nil he
      have h' := Option.some.inj h
      have hr : r1 = ⟨#[]⟩ ∧ r2 = (sizedR a0 a1 a2).2 := ⟨(congrArg Prod.fst h').symm, (congrArg Prod.snd h').symm⟩
      clear h h'
      obtain ⟨rfl, rfl⟩ := hr
      have b1 : ((sizedR a0 a1 a2).2 != 0) = true := by simpa using he
      have b2 : ((sizedR a0 a1 a2).2 == 0) = false := by simpa using he
      rw [e1] at HZ
      generalize (sizedR a0 a1 a2).2 = fe at *
      clear he e1 e2 hG
      go_enter Tryd.func19, Tryd.ntmps19
      go_wp2_with (go_at_call 43; refine HZ.out.mono ?_; rintro e w2 ⟨v2, rfl, -, hb⟩; have HB := Aside0.mk hb; clear hb HZ)
      go_ret2
      exact ⟨rfl, HB.out⟩
  · rw [if_neg hs] at h; cases h
end Go.Proofs.YthimblhfjfngiaaDoor.PText

namespace Go.Proofs.YthimblhfjfngiaaDoor.PText
open Go.RowKit Go.Proofs.YthimblhfjfngiaaDoorW.PrintWords Go.Proofs.YthimblhfjfngiaaDoorW.PrintLast Go.Proofs.YthimblhfjfngiaaDoorW.PrintMore
attribute [local go_sem] y1_ y2_ ycb_ ydb_ yV_ yW_ y3_ y4_   -- for this text's walks alone
set_option linter.unusedVariables false
set_option linter.unusedSimpArgs false

def yP_.f  : Option (Bool) := (yob_.f (⟨#[97, 98, 99]⟩ : ByteArray) (([(⟨1, 2, (⟨#[120]⟩ : ByteArray)⟩ : S34)] : List (S34)))).bind fun bt305 => ((y6_.f (⟨#[97, 10, 98, 10]⟩ : ByteArray) (⟨#[97, 10, 99, 10]⟩ : ByteArray) 1).bind fun bt307 => (if bt305.2 = 0 then (if bt305.1.toList = ([97, 120, 99] : List UInt8) then (if bt307.2 = 0 then (some (bt307.1.toList == ([64, 64, 32, 49, 44, 50, 32, 49, 44, 50, 32, 64, 64, 10, 32, 97, 10, 45, 98, 10, 43, 99, 10] : List UInt8))) else (some false)) else (some false)) else (some false)))
set_option maxHeartbeats 8000000 in
set_option maxRecDepth 100000 in
theorem yP_.calls  (r : Bool) (w : World) (hGl : Glob w) (h : yP_.f  = some r) :
  Calls Tryd.prog 17 #[] w fun e w' => e = .returned (.bool r) ∧ Below w.heap.size w w' := by
 have hu34 := Tryd.underlying34
 have HB := Aside0.mk (Below.refl w.heap.size w)
 have HGl := Aside0.mk hGl
 clear hGl
 have H : ((yob_.f (⟨#[97, 98, 99]⟩ : ByteArray) (([(⟨1, 2, (⟨#[120]⟩ : ByteArray)⟩ : S34)] : List (S34)))).bind fun bt305 => ((y6_.f (⟨#[97, 10, 98, 10]⟩ : ByteArray) (⟨#[97, 10, 99, 10]⟩ : ByteArray) 1).bind fun bt307 => (if bt305.2 = 0 then (if bt305.1.toList = ([97, 120, 99] : List UInt8) then (if bt307.2 = 0 then (some (bt307.1.toList == ([64, 64, 32, 49, 44, 50, 32, 49, 44, 50, 32, 64, 64, 10, 32, 97, 10, 45, 98, 10, 43, 99, 10] : List UInt8))) else (some false)) else (some false)) else (some false)))) = some r := h
 clear h
 obtain ⟨y302, hy302⟩ : ∃ y_ : List (S34), y_ = (([(⟨1, 2, (⟨#[120]⟩ : ByteArray)⟩ : S34)] : List (S34))) := ⟨_, rfl⟩
 replace H : ((yob_.f (⟨#[97, 98, 99]⟩ : ByteArray) y302).bind fun bt305 => ((y6_.f (⟨#[97, 10, 98, 10]⟩ : ByteArray) (⟨#[97, 10, 99, 10]⟩ : ByteArray) 1).bind fun bt307 => (if bt305.2 = 0 then (if bt305.1.toList = ([97, 120, 99] : List UInt8) then (if bt307.2 = 0 then (some (bt307.1.toList == ([64, 64, 32, 49, 44, 50, 32, 49, 44, 50, 32, 64, 64, 10, 32, 97, 10, 45, 98, 10, 43, 99, 10] : List UInt8))) else (some false)) else (some false)) else (some false)))) = some r := by first | (rw [hy302]; with_reducible exact H) | (have H2_ := (Option.bind_some _ _).symm.trans H; rw [hy302]; with_reducible exact H2_) | (have H2_ := (Option.bind_some _ _).symm.trans H; with_reducible exact H2_) | with_reducible exact H | (rw [hy302]; exact H) | exact H
 have Ny302 := Aside0.mk hy302
 clear hy302
 replace H := Option.bind_eq_some_iff.mp H
 obtain ⟨⟨t305, t306⟩, A10, H⟩ := H
 replace H : ((y6_.f (⟨#[97, 10, 98, 10]⟩ : ByteArray) (⟨#[97, 10, 99, 10]⟩ : ByteArray) 1).bind fun bt307 => (if t306 = 0 then (if t305.toList = ([97, 120, 99] : List UInt8) then (if bt307.2 = 0 then (some (bt307.1.toList == ([64, 64, 32, 49, 44, 50, 32, 49, 44, 50, 32, 64, 64, 10, 32, 97, 10, 45, 98, 10, 43, 99, 10] : List UInt8))) else (some false)) else (some false)) else (some false))) = some r := H
 have A1 := Aside0.mk A10
 clear A10
 replace H := Option.bind_eq_some_iff.mp H
 obtain ⟨⟨t307, t308⟩, A20, H⟩ := H
 replace H : (if t306 = 0 then (if t305.toList = ([97, 120, 99] : List UInt8) then (if t308 = 0 then (some (t307.toList == ([64, 64, 32, 49, 44, 50, 32, 49, 44, 50, 32, 64, 64, 10, 32, 97, 10, 45, 98, 10, 43, 99, 10] : List UInt8))) else (some false)) else (some false)) else (some false)) = some r := H
 have A2 := Aside0.mk A20
 clear A20
 by_cases c3 : t306 = 0
 ·rw [if_pos c3] at H
  have c3b0 : (t306 == 0) = true := beq_iff_eq.mpr c3
  have c3b1 : (t306 != 0) = false := bne_eq_false_iff_eq.mpr c3
  clear c3
  by_cases c4 : t305.toList = ([97, 120, 99] : List UInt8)
  ·rw [if_pos c4] at H
   have c4b0 : (t305.toList == ([97, 120, 99] : List UInt8)) = true := beq_iff_eq.mpr c4
   have c4b1 : (t305.toList != ([97, 120, 99] : List UInt8)) = false := bne_eq_false_iff_eq.mpr c4
   clear c4
   by_cases c5 : t308 = 0
   ·rw [if_pos c5] at H
    have c5b0 : (t308 == 0) = true := beq_iff_eq.mpr c5
    have c5b1 : (t308 != 0) = false := bne_eq_false_iff_eq.mpr c5
    clear c5
    obtain rfl := Option.some.inj H
    go_enter Tryd.func17, Tryd.ntmps17
    go_wp2_with (first | ((with_reducible refine yS_ (N := 7) rfl ?_); refine Kd.R_lit k34 _ 34 ?hg (N := 7) ?hd (xs := ([(⟨1, 2, (⟨#[120]⟩ : ByteArray)⟩ : S34)] : List (S34))) (inner := [.int .i64 1, .int .i64 2, .string (⟨#[120]⟩ : ByteArray)]) (ok := fun _ => True) (okp := fun _ => True) ?hr ?hp (fun _ hk => hk) trivial (Below.refl _ _) (Nat.le_refl _) (by simp) ?_; (case hd => rfl); (case hg => rfl); (case hr => first | (go_simp; done) | (go_simp; rfl)); (case hp => exact (Reps.c3 (show Kd.M k34 _ _ _ (⟨1, 2, (⟨#[120]⟩ : ByteArray)⟩ : S34) [.int .i64 1, .int .i64 2, .string (⟨#[120]⟩ : ByteArray)] from (yJb_ _ _ _ (⟨1, 2, (⟨#[120]⟩ : ByteArray)⟩ : S34) )) (Reps.none _ _))); intro v303 w6 ho7 hb hg_ hnew_; clear hg_ hnew_; (first | rw [← Ny302.out] at ho7 | (simp only [Int.reduceToNat] at ho7; rw [← Ny302.out] at ho7)); have n0_ := Aside0.mk (Kd.yY_ ho7 (yk_ (by repeat (with_reducible first | exact HB.out | apply yc_ | apply ya_ | apply yb_)))); have n1_ := Aside0.mk (ym_ (by repeat (with_reducible first | exact HB.out | apply yc_ | apply ya_ | apply yb_)) hb); clear HB; have HO304 := n0_; have HB := n1_; clear n0_ n1_; clear hb ho7; obtain ⟨Ao8, co8, eo8⟩ := Kd.yC_ HO304.out; subst eo8) | ((with_reducible refine ys_ (f := 10) rfl ?_); refine goesL_ (some 8) rfl rfl Tryd.func10 (by kernel_rfl) rfl #[.string (⟨#[97, 98, 99]⟩ : ByteArray), .slice Ao8 y302.length co8] rfl (by (try simp only [List.map_toArray, List.map_cons, List.map_nil]); first | done | rfl | (simp only [List.length_drop, List.length_take]; rfl)) ?_; (with_reducible refine (yob_.calls (⟨#[97, 98, 99]⟩ : ByteArray) _ _ y302 t305 t306 _ ?side1 ?side2 A1.out).mono ?_); (case side1 => repeat (first | exact (Kd.yo_ HO304.out).2.2 | (with_reducible refine Kd.yK_ ?_ _) | (with_reducible refine Kd.yR_ ?_ _) | (with_reducible refine Kd.C_drew ?_))); (case side2 => exact (Kd.yo_ HO304.out).2.1); rintro e w9 ⟨rfl, hb⟩; refine ⟨_, rfl, ?_⟩; have n0_ := Aside0.mk (Kd.yM_ (by (with_reducible repeat (first | apply Kd.yh_ | apply Kd.yi_ | apply Kd.R_drew)); exact HO304.out) hb); have n1_ := Aside0.mk (ym_ (by repeat (with_reducible first | exact HB.out | apply yc_ | apply ya_ | apply yb_)) hb); clear HO304; clear HB; have HO304 := n0_; have HB := n1_; clear n0_ n1_; (try clear hb); (try clear hb2); (try clear hk); (try clear hi)) | ((with_reducible refine ys_ (f := 19) rfl ?_); refine goesL_ (some 12) rfl rfl Tryd.func19 (by kernel_rfl) rfl #[.string (⟨#[97, 10, 98, 10]⟩ : ByteArray), .string (⟨#[97, 10, 99, 10]⟩ : ByteArray), .int .i64 1] rfl (by (try simp only [List.map_toArray, List.map_cons, List.map_nil]); first | done | rfl | (simp only [List.length_drop, List.length_take]; rfl)) ?_; (with_reducible refine (y6_.calls (⟨#[97, 10, 98, 10]⟩ : ByteArray) (⟨#[97, 10, 99, 10]⟩ : ByteArray) 1 t307 t308 _ ?side1 A2.out).mono ?_); (case side1 => exact Glob.below HGl.out (by repeat (with_reducible first | exact HB.out | apply yc_ | apply ya_ | apply yb_))); rintro e w10 ⟨rfl, hb⟩; refine ⟨_, rfl, ?_⟩; have n0_ := Aside0.mk (Kd.yM_ (by (with_reducible repeat (first | apply Kd.yh_ | apply Kd.yi_ | apply Kd.R_drew)); exact HO304.out) hb); have n1_ := Aside0.mk (ym_ (by repeat (with_reducible first | exact HB.out | apply yc_ | apply ya_ | apply yb_)) hb); clear HO304; clear HB; have HO304 := n0_; have HB := n1_; clear n0_ n1_; (try clear hb); (try clear hb2); (try clear hk); (try clear hi)))
    go_ret
    exact ⟨by first | rfl | (simp [yu_, yv_] <;> rfl) | (simp [*, yu_, yv_] <;> rfl), by repeat (with_reducible first | exact HB.out | apply yc_ | apply ya_ | apply yb_)⟩
   ·rw [if_neg c5] at H
    have c5b0 : (t308 == 0) = false := beq_eq_false_iff_ne.mpr c5
    have c5b1 : (t308 != 0) = true := bne_iff_ne.mpr c5
    obtain rfl := Option.some.inj H
    go_enter Tryd.func17, Tryd.ntmps17
    go_wp2_with (first | ((with_reducible refine yS_ (N := 7) rfl ?_); refine Kd.R_lit k34 _ 34 ?hg (N := 7) ?hd (xs := ([(⟨1, 2, (⟨#[120]⟩ : ByteArray)⟩ : S34)] : List (S34))) (inner := [.int .i64 1, .int .i64 2, .string (⟨#[120]⟩ : ByteArray)]) (ok := fun _ => True) (okp := fun _ => True) ?hr ?hp (fun _ hk => hk) trivial (Below.refl _ _) (Nat.le_refl _) (by simp) ?_; (case hd => rfl); (case hg => rfl); (case hr => first | (go_simp; done) | (go_simp; rfl)); (case hp => exact (Reps.c3 (show Kd.M k34 _ _ _ (⟨1, 2, (⟨#[120]⟩ : ByteArray)⟩ : S34) [.int .i64 1, .int .i64 2, .string (⟨#[120]⟩ : ByteArray)] from (yJb_ _ _ _ (⟨1, 2, (⟨#[120]⟩ : ByteArray)⟩ : S34) )) (Reps.none _ _))); intro v303 w11 ho12 hb hg_ hnew_; clear hg_ hnew_; (first | rw [← Ny302.out] at ho12 | (simp only [Int.reduceToNat] at ho12; rw [← Ny302.out] at ho12)); have n0_ := Aside0.mk (Kd.yY_ ho12 (yk_ (by repeat (with_reducible first | exact HB.out | apply yc_ | apply ya_ | apply yb_)))); have n1_ := Aside0.mk (ym_ (by repeat (with_reducible first | exact HB.out | apply yc_ | apply ya_ | apply yb_)) hb); clear HB; have HO304 := n0_; have HB := n1_; clear n0_ n1_; clear hb ho12; obtain ⟨Ao13, co13, eo13⟩ := Kd.yC_ HO304.out; subst eo13) | ((with_reducible refine ys_ (f := 10) rfl ?_); refine goesL_ (some 8) rfl rfl Tryd.func10 (by kernel_rfl) rfl #[.string (⟨#[97, 98, 99]⟩ : ByteArray), .slice Ao13 y302.length co13] rfl (by (try simp only [List.map_toArray, List.map_cons, List.map_nil]); first | done | rfl | (simp only [List.length_drop, List.length_take]; rfl)) ?_; (with_reducible refine (yob_.calls (⟨#[97, 98, 99]⟩ : ByteArray) _ _ y302 t305 t306 _ ?side1 ?side2 A1.out).mono ?_); (case side1 => repeat (first | exact (Kd.yo_ HO304.out).2.2 | (with_reducible refine Kd.yK_ ?_ _) | (with_reducible refine Kd.yR_ ?_ _) | (with_reducible refine Kd.C_drew ?_))); (case side2 => exact (Kd.yo_ HO304.out).2.1); rintro e w14 ⟨rfl, hb⟩; refine ⟨_, rfl, ?_⟩; have n0_ := Aside0.mk (Kd.yM_ (by (with_reducible repeat (first | apply Kd.yh_ | apply Kd.yi_ | apply Kd.R_drew)); exact HO304.out) hb); have n1_ := Aside0.mk (ym_ (by repeat (with_reducible first | exact HB.out | apply yc_ | apply ya_ | apply yb_)) hb); clear HO304; clear HB; have HO304 := n0_; have HB := n1_; clear n0_ n1_; (try clear hb); (try clear hb2); (try clear hk); (try clear hi)) | ((with_reducible refine ys_ (f := 19) rfl ?_); refine goesL_ (some 12) rfl rfl Tryd.func19 (by kernel_rfl) rfl #[.string (⟨#[97, 10, 98, 10]⟩ : ByteArray), .string (⟨#[97, 10, 99, 10]⟩ : ByteArray), .int .i64 1] rfl (by (try simp only [List.map_toArray, List.map_cons, List.map_nil]); first | done | rfl | (simp only [List.length_drop, List.length_take]; rfl)) ?_; (with_reducible refine (y6_.calls (⟨#[97, 10, 98, 10]⟩ : ByteArray) (⟨#[97, 10, 99, 10]⟩ : ByteArray) 1 t307 t308 _ ?side1 A2.out).mono ?_); (case side1 => exact Glob.below HGl.out (by repeat (with_reducible first | exact HB.out | apply yc_ | apply ya_ | apply yb_))); rintro e w15 ⟨rfl, hb⟩; refine ⟨_, rfl, ?_⟩; have n0_ := Aside0.mk (Kd.yM_ (by (with_reducible repeat (first | apply Kd.yh_ | apply Kd.yi_ | apply Kd.R_drew)); exact HO304.out) hb); have n1_ := Aside0.mk (ym_ (by repeat (with_reducible first | exact HB.out | apply yc_ | apply ya_ | apply yb_)) hb); clear HO304; clear HB; have HO304 := n0_; have HB := n1_; clear n0_ n1_; (try clear hb); (try clear hb2); (try clear hk); (try clear hi)))
    go_ret
    exact ⟨by first | rfl | (simp [yu_, yv_] <;> rfl) | (simp [*, yu_, yv_] <;> rfl), by repeat (with_reducible first | exact HB.out | apply yc_ | apply ya_ | apply yb_)⟩
  ·rw [if_neg c4] at H
   have c4b0 : (t305.toList == ([97, 120, 99] : List UInt8)) = false := beq_eq_false_iff_ne.mpr c4
   have c4b1 : (t305.toList != ([97, 120, 99] : List UInt8)) = true := bne_iff_ne.mpr c4
   obtain rfl := Option.some.inj H
   go_enter Tryd.func17, Tryd.ntmps17
   go_wp2_with (first | ((with_reducible refine yS_ (N := 7) rfl ?_); refine Kd.R_lit k34 _ 34 ?hg (N := 7) ?hd (xs := ([(⟨1, 2, (⟨#[120]⟩ : ByteArray)⟩ : S34)] : List (S34))) (inner := [.int .i64 1, .int .i64 2, .string (⟨#[120]⟩ : ByteArray)]) (ok := fun _ => True) (okp := fun _ => True) ?hr ?hp (fun _ hk => hk) trivial (Below.refl _ _) (Nat.le_refl _) (by simp) ?_; (case hd => rfl); (case hg => rfl); (case hr => first | (go_simp; done) | (go_simp; rfl)); (case hp => exact (Reps.c3 (show Kd.M k34 _ _ _ (⟨1, 2, (⟨#[120]⟩ : ByteArray)⟩ : S34) [.int .i64 1, .int .i64 2, .string (⟨#[120]⟩ : ByteArray)] from (yJb_ _ _ _ (⟨1, 2, (⟨#[120]⟩ : ByteArray)⟩ : S34) )) (Reps.none _ _))); intro v303 w16 ho17 hb hg_ hnew_; clear hg_ hnew_; (first | rw [← Ny302.out] at ho17 | (simp only [Int.reduceToNat] at ho17; rw [← Ny302.out] at ho17)); have n0_ := Aside0.mk (Kd.yY_ ho17 (yk_ (by repeat (with_reducible first | exact HB.out | apply yc_ | apply ya_ | apply yb_)))); have n1_ := Aside0.mk (ym_ (by repeat (with_reducible first | exact HB.out | apply yc_ | apply ya_ | apply yb_)) hb); clear HB; have HO304 := n0_; have HB := n1_; clear n0_ n1_; clear hb ho17; obtain ⟨Ao18, co18, eo18⟩ := Kd.yC_ HO304.out; subst eo18) | ((with_reducible refine ys_ (f := 10) rfl ?_); refine goesL_ (some 8) rfl rfl Tryd.func10 (by kernel_rfl) rfl #[.string (⟨#[97, 98, 99]⟩ : ByteArray), .slice Ao18 y302.length co18] rfl (by (try simp only [List.map_toArray, List.map_cons, List.map_nil]); first | done | rfl | (simp only [List.length_drop, List.length_take]; rfl)) ?_; (with_reducible refine (yob_.calls (⟨#[97, 98, 99]⟩ : ByteArray) _ _ y302 t305 t306 _ ?side1 ?side2 A1.out).mono ?_); (case side1 => repeat (first | exact (Kd.yo_ HO304.out).2.2 | (with_reducible refine Kd.yK_ ?_ _) | (with_reducible refine Kd.yR_ ?_ _) | (with_reducible refine Kd.C_drew ?_))); (case side2 => exact (Kd.yo_ HO304.out).2.1); rintro e w19 ⟨rfl, hb⟩; refine ⟨_, rfl, ?_⟩; have n0_ := Aside0.mk (Kd.yM_ (by (with_reducible repeat (first | apply Kd.yh_ | apply Kd.yi_ | apply Kd.R_drew)); exact HO304.out) hb); have n1_ := Aside0.mk (ym_ (by repeat (with_reducible first | exact HB.out | apply yc_ | apply ya_ | apply yb_)) hb); clear HO304; clear HB; have HO304 := n0_; have HB := n1_; clear n0_ n1_; (try clear hb); (try clear hb2); (try clear hk); (try clear hi)) | ((with_reducible refine ys_ (f := 19) rfl ?_); refine goesL_ (some 12) rfl rfl Tryd.func19 (by kernel_rfl) rfl #[.string (⟨#[97, 10, 98, 10]⟩ : ByteArray), .string (⟨#[97, 10, 99, 10]⟩ : ByteArray), .int .i64 1] rfl (by (try simp only [List.map_toArray, List.map_cons, List.map_nil]); first | done | rfl | (simp only [List.length_drop, List.length_take]; rfl)) ?_; (with_reducible refine (y6_.calls (⟨#[97, 10, 98, 10]⟩ : ByteArray) (⟨#[97, 10, 99, 10]⟩ : ByteArray) 1 t307 t308 _ ?side1 A2.out).mono ?_); (case side1 => exact Glob.below HGl.out (by repeat (with_reducible first | exact HB.out | apply yc_ | apply ya_ | apply yb_))); rintro e w20 ⟨rfl, hb⟩; refine ⟨_, rfl, ?_⟩; have n0_ := Aside0.mk (Kd.yM_ (by (with_reducible repeat (first | apply Kd.yh_ | apply Kd.yi_ | apply Kd.R_drew)); exact HO304.out) hb); have n1_ := Aside0.mk (ym_ (by repeat (with_reducible first | exact HB.out | apply yc_ | apply ya_ | apply yb_)) hb); clear HO304; clear HB; have HO304 := n0_; have HB := n1_; clear n0_ n1_; (try clear hb); (try clear hb2); (try clear hk); (try clear hi)))
   go_ret
   exact ⟨by first | rfl | (simp [yu_, yv_] <;> rfl) | (simp [*, yu_, yv_] <;> rfl), by repeat (with_reducible first | exact HB.out | apply yc_ | apply ya_ | apply yb_)⟩
 ·rw [if_neg c3] at H
  have c3b0 : (t306 == 0) = false := beq_eq_false_iff_ne.mpr c3
  have c3b1 : (t306 != 0) = true := bne_iff_ne.mpr c3
  obtain rfl := Option.some.inj H
  go_enter Tryd.func17, Tryd.ntmps17
  go_wp2_with (first | ((with_reducible refine yS_ (N := 7) rfl ?_); refine Kd.R_lit k34 _ 34 ?hg (N := 7) ?hd (xs := ([(⟨1, 2, (⟨#[120]⟩ : ByteArray)⟩ : S34)] : List (S34))) (inner := [.int .i64 1, .int .i64 2, .string (⟨#[120]⟩ : ByteArray)]) (ok := fun _ => True) (okp := fun _ => True) ?hr ?hp (fun _ hk => hk) trivial (Below.refl _ _) (Nat.le_refl _) (by simp) ?_; (case hd => rfl); (case hg => rfl); (case hr => first | (go_simp; done) | (go_simp; rfl)); (case hp => exact (Reps.c3 (show Kd.M k34 _ _ _ (⟨1, 2, (⟨#[120]⟩ : ByteArray)⟩ : S34) [.int .i64 1, .int .i64 2, .string (⟨#[120]⟩ : ByteArray)] from (yJb_ _ _ _ (⟨1, 2, (⟨#[120]⟩ : ByteArray)⟩ : S34) )) (Reps.none _ _))); intro v303 w21 ho22 hb hg_ hnew_; clear hg_ hnew_; (first | rw [← Ny302.out] at ho22 | (simp only [Int.reduceToNat] at ho22; rw [← Ny302.out] at ho22)); have n0_ := Aside0.mk (Kd.yY_ ho22 (yk_ (by repeat (with_reducible first | exact HB.out | apply yc_ | apply ya_ | apply yb_)))); have n1_ := Aside0.mk (ym_ (by repeat (with_reducible first | exact HB.out | apply yc_ | apply ya_ | apply yb_)) hb); clear HB; have HO304 := n0_; have HB := n1_; clear n0_ n1_; clear hb ho22; obtain ⟨Ao23, co23, eo23⟩ := Kd.yC_ HO304.out; subst eo23) | ((with_reducible refine ys_ (f := 10) rfl ?_); refine goesL_ (some 8) rfl rfl Tryd.func10 (by kernel_rfl) rfl #[.string (⟨#[97, 98, 99]⟩ : ByteArray), .slice Ao23 y302.length co23] rfl (by (try simp only [List.map_toArray, List.map_cons, List.map_nil]); first | done | rfl | (simp only [List.length_drop, List.length_take]; rfl)) ?_; (with_reducible refine (yob_.calls (⟨#[97, 98, 99]⟩ : ByteArray) _ _ y302 t305 t306 _ ?side1 ?side2 A1.out).mono ?_); (case side1 => repeat (first | exact (Kd.yo_ HO304.out).2.2 | (with_reducible refine Kd.yK_ ?_ _) | (with_reducible refine Kd.yR_ ?_ _) | (with_reducible refine Kd.C_drew ?_))); (case side2 => exact (Kd.yo_ HO304.out).2.1); rintro e w24 ⟨rfl, hb⟩; refine ⟨_, rfl, ?_⟩; have n0_ := Aside0.mk (Kd.yM_ (by (with_reducible repeat (first | apply Kd.yh_ | apply Kd.yi_ | apply Kd.R_drew)); exact HO304.out) hb); have n1_ := Aside0.mk (ym_ (by repeat (with_reducible first | exact HB.out | apply yc_ | apply ya_ | apply yb_)) hb); clear HO304; clear HB; have HO304 := n0_; have HB := n1_; clear n0_ n1_; (try clear hb); (try clear hb2); (try clear hk); (try clear hi)) | ((with_reducible refine ys_ (f := 19) rfl ?_); refine goesL_ (some 12) rfl rfl Tryd.func19 (by kernel_rfl) rfl #[.string (⟨#[97, 10, 98, 10]⟩ : ByteArray), .string (⟨#[97, 10, 99, 10]⟩ : ByteArray), .int .i64 1] rfl (by (try simp only [List.map_toArray, List.map_cons, List.map_nil]); first | done | rfl | (simp only [List.length_drop, List.length_take]; rfl)) ?_; (with_reducible refine (y6_.calls (⟨#[97, 10, 98, 10]⟩ : ByteArray) (⟨#[97, 10, 99, 10]⟩ : ByteArray) 1 t307 t308 _ ?side1 A2.out).mono ?_); (case side1 => exact Glob.below HGl.out (by repeat (with_reducible first | exact HB.out | apply yc_ | apply ya_ | apply yb_))); rintro e w25 ⟨rfl, hb⟩; refine ⟨_, rfl, ?_⟩; have n0_ := Aside0.mk (Kd.yM_ (by (with_reducible repeat (first | apply Kd.yh_ | apply Kd.yi_ | apply Kd.R_drew)); exact HO304.out) hb); have n1_ := Aside0.mk (ym_ (by repeat (with_reducible first | exact HB.out | apply yc_ | apply ya_ | apply yb_)) hb); clear HO304; clear HB; have HO304 := n0_; have HB := n1_; clear n0_ n1_; (try clear hb); (try clear hb2); (try clear hk); (try clear hi)))
  go_ret
  exact ⟨by first | rfl | (simp [yu_, yv_] <;> rfl) | (simp [*, yu_, yv_] <;> rfl), by repeat (with_reducible first | exact HB.out | apply yc_ | apply ya_ | apply yb_)⟩

end Go.Proofs.YthimblhfjfngiaaDoor.PText

namespace Go.Proofs.YthimblhfjfngiaaDoor.PText
open Go.RowKit Go.Proofs.YthimblhfjfngiaaDoorW.PrintWords Go.Proofs.YthimblhfjfngiaaDoorW.PrintLast Go.Proofs.YthimblhfjfngiaaDoorW.PrintMore
attribute [local go_sem] y1_ y2_ ycb_ ydb_ yV_ yW_ y3_ y4_   -- for this text's walks alone
set_option linter.unusedVariables false
set_option linter.unusedSimpArgs false

def yq_.j0 : Nat → ByteArray → ByteArray → Bool → Option (Bool)
 | 0, _, _, _ => none
 | k + 1, x0, x1, x38 => if x38 = true then (some false) else ((yx_.f k x0 x1).bind fun bt548 => ((yf_.f k x0 x1).bind fun bt552 => (if bt548.2 = bt552.2 then ((yT_.f k bt548.1 bt552.1).bind fun t556 => (if t556 = true then ((yP_.f).bind fun t557 => (some t557)) else (some false))) else (some false))))
def yq_.f (k : Nat) (a0 : ByteArray) (a1 : ByteArray) (a2 : Int) : Option (Bool) := (yy_.f k (([a0, a1] : List ByteArray))).bind fun t543 => (if t543 = true then (some true) else ((y6_.f a0 a1 a2).bind fun bt544 => ((ye_.f k a0 a1 a2).bind fun bt546 => (if bt544.1.toList = bt546.1.toList then (yq_.j0 k a0 a1 (bt544.2 != bt546.2)) else (yq_.j0 k a0 a1 true)))))
set_option maxHeartbeats 8000000 in
set_option maxRecDepth 100000 in
theorem yq_.calls (k : Nat) (a0 : ByteArray) (a1 : ByteArray) (a2 : Int) (r : Bool) (w : World) (hGl : Glob w) (h : yq_.f k a0 a1 a2 = some r) :
  Calls Tryd.prog 5 #[.string a0, .string a1, .int .i64 a2] w fun e w' => e = .returned (.bool r) ∧ Below w.heap.size w w' := by
 have HB := Aside0.mk (Below.refl w.heap.size w)
 have HGl := Aside0.mk hGl
 clear hGl
 have H : ((yy_.f k (([a0, a1] : List ByteArray))).bind fun t543 => (if t543 = true then (some true) else ((y6_.f a0 a1 a2).bind fun bt544 => ((ye_.f k a0 a1 a2).bind fun bt546 => (if bt544.1.toList = bt546.1.toList then (yq_.j0 k a0 a1 (bt544.2 != bt546.2)) else (yq_.j0 k a0 a1 true)))))) = some r := h
 clear h
 obtain ⟨y540, hy540⟩ : ∃ y_ : List ByteArray, y_ = (([a0, a1] : List ByteArray)) := ⟨_, rfl⟩
 replace H : ((yy_.f k y540).bind fun t543 => (if t543 = true then (some true) else ((y6_.f a0 a1 a2).bind fun bt544 => ((ye_.f k a0 a1 a2).bind fun bt546 => (if bt544.1.toList = bt546.1.toList then (yq_.j0 k a0 a1 (bt544.2 != bt546.2)) else (yq_.j0 k a0 a1 true)))))) = some r := by first | (rw [hy540]; with_reducible exact H) | (have H2_ := (Option.bind_some _ _).symm.trans H; rw [hy540]; with_reducible exact H2_) | (have H2_ := (Option.bind_some _ _).symm.trans H; with_reducible exact H2_) | with_reducible exact H | (rw [hy540]; exact H) | exact H
 have Ny540 := Aside0.mk hy540
 clear hy540
 replace H := Option.bind_eq_some_iff.mp H
 obtain ⟨t543, A40, H⟩ := H
 replace H : (if t543 = true then (some true) else ((y6_.f a0 a1 a2).bind fun bt544 => ((ye_.f k a0 a1 a2).bind fun bt546 => (if bt544.1.toList = bt546.1.toList then (yq_.j0 k a0 a1 (bt544.2 != bt546.2)) else (yq_.j0 k a0 a1 true))))) = some r := H
 have A4 := Aside0.mk A40
 clear A40
 by_cases c5 : t543 = true
 ·subst c5
  have H1 : (some true) = some r := by rw [if_pos rfl] at H; exact H
  clear H
  have H := H1
  clear H1
  obtain rfl := Option.some.inj H
  go_enter Tryd.func5, Tryd.ntmps5
  go_wp2_with (first | ((with_reducible refine yS_ (N := 15) rfl ?_); refine Kd.R_lit Kd.string _ 9 ?hg (N := 15) ?hd (xs := ([a0, a1] : List ByteArray)) (inner := [.string a0, .string a1]) (ok := fun _ => True) (okp := fun _ => True) ?hr ?hp (fun _ hk => hk) trivial (Below.refl _ _) (Nat.le_refl _) (by simp) ?_; (case hd => rfl); (case hg => rfl); (case hr => first | (go_simp; done) | (go_simp; rfl)); (case hp => exact (Reps.one (show Kd.M Kd.string _ _ _ a0 [.string a0] from rfl) (Reps.one (show Kd.M Kd.string _ _ _ a1 [.string a1] from rfl) (Reps.none _ _)))); intro v541 w6 ho7 hb hg_ hnew_; clear hg_ hnew_; (first | rw [← Ny540.out] at ho7 | (simp only [Int.reduceToNat] at ho7; rw [← Ny540.out] at ho7)); have n0_ := Aside0.mk (Kd.yY_ ho7 (yk_ (by repeat (with_reducible first | exact HB.out | apply yc_ | apply ya_ | apply yb_)))); have n1_ := Aside0.mk (ym_ (by repeat (with_reducible first | exact HB.out | apply yc_ | apply ya_ | apply yb_)) hb); clear HB; have HO542 := n0_; have HB := n1_; clear n0_ n1_; clear hb ho7; obtain ⟨Ao8, co8, eo8⟩ := Kd.yC_ HO542.out; subst eo8) | ((with_reducible refine ys_ (f := 18) rfl ?_); refine goesL_ (some 16) rfl rfl Tryd.func18 (by kernel_rfl) rfl #[.slice Ao8 y540.length co8] rfl (by (try simp only [List.map_toArray, List.map_cons, List.map_nil]); first | done | rfl | (simp only [List.length_drop, List.length_take]; rfl)) ?_; (with_reducible refine (yy_.calls k _ _ y540 true _ ?side1 ?side2 A4.out).mono ?_); (case side1 => repeat (first | exact (Kd.yo_ HO542.out).2.2 | (with_reducible refine Kd.yK_ ?_ _) | (with_reducible refine Kd.yR_ ?_ _) | (with_reducible refine Kd.C_drew ?_))); (case side2 => exact (Kd.yo_ HO542.out).2.1); rintro e w' ⟨rfl, ⟨nd, rfl⟩⟩; refine ⟨_, rfl, ?_⟩))
  go_ret
  exact ⟨by first | rfl | (simp [yu_, yv_] <;> rfl) | (simp [*, yu_, yv_] <;> rfl), by repeat (with_reducible first | exact HB.out | apply yc_ | apply ya_ | apply yb_)⟩
 ·replace c5 := Bool.eq_false_iff.mpr c5
  subst c5
  have H1 : ((y6_.f a0 a1 a2).bind fun bt544 => ((ye_.f k a0 a1 a2).bind fun bt546 => (if bt544.1.toList = bt546.1.toList then (yq_.j0 k a0 a1 (bt544.2 != bt546.2)) else (yq_.j0 k a0 a1 true)))) = some r := by rw [if_neg (show ¬ (false = true) by decide)] at H; exact H
  clear H
  have H := H1
  clear H1
  replace H := Option.bind_eq_some_iff.mp H
  obtain ⟨⟨t544, t545⟩, A90, H⟩ := H
  replace H : ((ye_.f k a0 a1 a2).bind fun bt546 => (if t544.toList = bt546.1.toList then (yq_.j0 k a0 a1 (t545 != bt546.2)) else (yq_.j0 k a0 a1 true))) = some r := H
  have A9 := Aside0.mk A90
  clear A90
  replace H := Option.bind_eq_some_iff.mp H
  obtain ⟨⟨t546, t547⟩, A100, H⟩ := H
  replace H : (if t544.toList = t546.toList then (yq_.j0 k a0 a1 (t545 != t547)) else (yq_.j0 k a0 a1 true)) = some r := H
  have A10 := Aside0.mk A100
  clear A100
  have HC11 := Aside0.mk H
  clear H
  go_enter Tryd.func5, Tryd.ntmps5
  go_upto_region 5 with (first | ((with_reducible refine yS_ (N := 15) rfl ?_); refine Kd.R_lit Kd.string _ 9 ?hg (N := 15) ?hd (xs := ([a0, a1] : List ByteArray)) (inner := [.string a0, .string a1]) (ok := fun _ => True) (okp := fun _ => True) ?hr ?hp (fun _ hk => hk) trivial (Below.refl _ _) (Nat.le_refl _) (by simp) ?_; (case hd => rfl); (case hg => rfl); (case hr => first | (go_simp; done) | (go_simp; rfl)); (case hp => exact (Reps.one (show Kd.M Kd.string _ _ _ a0 [.string a0] from rfl) (Reps.one (show Kd.M Kd.string _ _ _ a1 [.string a1] from rfl) (Reps.none _ _)))); intro v541 w12 ho13 hb hg_ hnew_; clear hg_ hnew_; (first | rw [← Ny540.out] at ho13 | (simp only [Int.reduceToNat] at ho13; rw [← Ny540.out] at ho13)); have n0_ := Aside0.mk (Kd.yY_ ho13 (yk_ (by repeat (with_reducible first | exact HB.out | apply yc_ | apply ya_ | apply yb_)))); have n1_ := Aside0.mk (ym_ (by repeat (with_reducible first | exact HB.out | apply yc_ | apply ya_ | apply yb_)) hb); clear HB; have HO542 := n0_; have HB := n1_; clear n0_ n1_; clear hb ho13; obtain ⟨Ao14, co14, eo14⟩ := Kd.yC_ HO542.out; subst eo14) | ((with_reducible refine ys_ (f := 18) rfl ?_); refine goesL_ (some 16) rfl rfl Tryd.func18 (by kernel_rfl) rfl #[.slice Ao14 y540.length co14] rfl (by (try simp only [List.map_toArray, List.map_cons, List.map_nil]); first | done | rfl | (simp only [List.length_drop, List.length_take]; rfl)) ?_; (with_reducible refine (yy_.calls k _ _ y540 false _ ?side1 ?side2 A4.out).mono ?_); (case side1 => repeat (first | exact (Kd.yo_ HO542.out).2.2 | (with_reducible refine Kd.yK_ ?_ _) | (with_reducible refine Kd.yR_ ?_ _) | (with_reducible refine Kd.C_drew ?_))); (case side2 => exact (Kd.yo_ HO542.out).2.1); rintro e w' ⟨rfl, ⟨nd, rfl⟩⟩; refine ⟨_, rfl, ?_⟩) | ((with_reducible refine ys_ (f := 19) rfl ?_); refine goesL_ (some 21) rfl rfl Tryd.func19 (by kernel_rfl) rfl #[.string a0, .string a1, .int .i64 a2] rfl (by (try simp only [List.map_toArray, List.map_cons, List.map_nil]); first | done | rfl | (simp only [List.length_drop, List.length_take]; rfl)) ?_; (with_reducible refine (y6_.calls a0 a1 a2 t544 t545 _ ?side1 A9.out).mono ?_); (case side1 => exact Glob.below HGl.out (by repeat (with_reducible first | exact HB.out | apply yc_ | apply ya_ | apply yb_))); rintro e w15 ⟨rfl, hb⟩; refine ⟨_, rfl, ?_⟩; have n0_ := Aside0.mk (Kd.yM_ (by (with_reducible repeat (first | apply Kd.yh_ | apply Kd.yi_ | apply Kd.R_drew)); exact HO542.out) hb); have n1_ := Aside0.mk (ym_ (by repeat (with_reducible first | exact HB.out | apply yc_ | apply ya_ | apply yb_)) hb); clear HO542; clear HB; have HO542 := n0_; have HB := n1_; clear n0_ n1_; (try clear hb); (try clear hb2); (try clear hk); (try clear hi)) | ((with_reducible refine ys_ (f := 20) rfl ?_); refine goesL_ (some 28) rfl rfl Tryd.func20 (by kernel_rfl) rfl #[.string a0, .string a1, .int .i64 a2] rfl (by (try simp only [List.map_toArray, List.map_cons, List.map_nil]); first | done | rfl | (simp only [List.length_drop, List.length_take]; rfl)) ?_; (with_reducible refine (ye_.calls k a0 a1 a2 t546 t547 _ A10.out).mono ?_); rintro e w16 ⟨rfl, hb⟩; refine ⟨_, rfl, ?_⟩; have n0_ := Aside0.mk (Kd.yM_ (by (with_reducible repeat (first | apply Kd.yh_ | apply Kd.yi_ | apply Kd.R_drew)); exact HO542.out) hb); have n1_ := Aside0.mk (ym_ (by repeat (with_reducible first | exact HB.out | apply yc_ | apply ya_ | apply yb_)) hb); clear HO542; clear HB; have HO542 := n0_; have HB := n1_; clear n0_ n1_; (try clear hb); (try clear hb2); (try clear hk); (try clear hi)))
  (try simp only [Act.put, q1_, q2_, q3_])
  go_cut [38] (fun v38 wc => ∃ (kq : Nat) (x38_10 : Bool), v38 = .bool x38_10 ∧ Aside0 (yq_.j0 kq a0 a1 x38_10 = some r) ∧ Aside0 (kq ≤ k) ∧ Aside0 (Below w.heap.size w wc))
  case first =>
   have H := HC11.out
   clear HC11
   by_cases c17 : t544.toList = t546.toList
   ·rw [if_pos c17] at H
    have c17b0 : (t544.toList == t546.toList) = true := beq_iff_eq.mpr c17
    have c17b1 : (t544.toList != t546.toList) = false := bne_eq_false_iff_eq.mpr c17
    clear c17
    (first | rw [c17b0] | (simp only [i64_w, i32_w]; rw [c17b0]) | skip)
    have H' := Aside0.mk H
    clear H
    go_wp2
    go_meet
    case rel => exact ⟨_, ((t545 != t547)), (by first | rfl | (simp; done) | (simp [*]; done)), H', ⟨by first | omega | exact Nat.le_refl _⟩, ⟨by repeat (with_reducible first | exact HB.out | apply yc_ | apply ya_ | apply yb_)⟩⟩
   ·rw [if_neg c17] at H
    have c17b0 : (t544.toList == t546.toList) = false := beq_eq_false_iff_ne.mpr c17
    have c17b1 : (t544.toList != t546.toList) = true := bne_iff_ne.mpr c17
    (first | rw [c17b0] | (simp only [i64_w, i32_w]; rw [c17b0]) | skip)
    have H' := Aside0.mk H
    clear H
    go_wp2
    go_meet
    case rel => exact ⟨_, (true), (by first | rfl | (simp; done) | (simp [*]; done)), H', ⟨by first | omega | exact Nat.le_refl _⟩, ⟨by repeat (with_reducible first | exact HB.out | apply yc_ | apply ya_ | apply yb_)⟩⟩
  case rest =>
   clear HC11
   try clear c1
   try clear c2
   try clear p2
   try clear c5
   try clear c17
   try clear c17b0
   try clear c17b1
   obtain ⟨kq, x38_10, rfl, HA, HJ10, HB⟩ := hcut
   cases kq with
   | zero => exact absurd HA.out (by simp [yq_.j0])
   | succ kj10 =>
    have H := HA.out
    clear HA
    simp only [yq_.j0] at H
    by_cases c18 : x38_10 = true
    ·subst c18
     have H1 : (some false) = some r := by rw [if_pos rfl] at H; exact H
     clear H
     have H := H1
     clear H1
     obtain rfl := Option.some.inj H
     go_wp2
     go_ret
     exact ⟨by first | rfl | (simp [yu_, yv_] <;> rfl) | (simp [*, yu_, yv_] <;> rfl), by repeat (with_reducible first | exact HB.out | apply yc_ | apply ya_ | apply yb_)⟩
    ·replace c18 := Bool.eq_false_iff.mpr c18
     subst c18
     have H1 : ((yx_.f kj10 a0 a1).bind fun bt548 => ((yf_.f kj10 a0 a1).bind fun bt552 => (if bt548.2 = bt552.2 then ((yT_.f kj10 bt548.1 bt552.1).bind fun t556 => (if t556 = true then ((yP_.f).bind fun t557 => (some t557)) else (some false))) else (some false)))) = some r := by rw [if_neg (show ¬ (false = true) by decide)] at H; exact H
     clear H
     have H := H1
     clear H1
     replace H := Option.bind_eq_some_iff.mp H
     obtain ⟨⟨t548, t549⟩, A190, H⟩ := H
     replace H : ((yf_.f kj10 a0 a1).bind fun bt552 => (if t549 = bt552.2 then ((yT_.f kj10 t548 bt552.1).bind fun t556 => (if t556 = true then ((yP_.f).bind fun t557 => (some t557)) else (some false))) else (some false))) = some r := H
     have A19 := Aside0.mk A190
     clear A190
     replace H := Option.bind_eq_some_iff.mp H
     obtain ⟨⟨t552, t553⟩, A200, H⟩ := H
     replace H : (if t549 = t553 then ((yT_.f kj10 t548 t552).bind fun t556 => (if t556 = true then ((yP_.f).bind fun t557 => (some t557)) else (some false))) else (some false)) = some r := H
     have A20 := Aside0.mk A200
     clear A200
     by_cases c21 : t549 = t553
     ·rw [if_pos c21] at H
      have c21b0 : (t549 == t553) = true := beq_iff_eq.mpr c21
      have c21b1 : (t549 != t553) = false := bne_eq_false_iff_eq.mpr c21
      clear c21
      replace H := Option.bind_eq_some_iff.mp H
      obtain ⟨t556, A220, H⟩ := H
      replace H : (if t556 = true then ((yP_.f).bind fun t557 => (some t557)) else (some false)) = some r := H
      have A22 := Aside0.mk A220
      clear A220
      by_cases c23 : t556 = true
      ·subst c23
       have H1 : ((yP_.f).bind fun t557 => (some t557)) = some r := by rw [if_pos rfl] at H; exact H
       clear H
       have H := H1
       clear H1
       replace H := Option.bind_eq_some_iff.mp H
       obtain ⟨t557, A240, H⟩ := H
       replace H : (some t557) = some r := H
       have A24 := Aside0.mk A240
       clear A240
       obtain rfl := Option.some.inj H
       go_wp2_with (first | ((with_reducible refine ys_ (f := 21) rfl ?_); refine goesL_ (some 42) rfl rfl Tryd.func21 (by kernel_rfl) rfl #[.string a0, .string a1] rfl (by (try simp only [List.map_toArray, List.map_cons, List.map_nil]); first | done | rfl | (simp only [List.length_drop, List.length_take]; rfl)) ?_; (with_reducible refine (yx_.calls kj10 a0 a1 t548 t549 _ A19.out).mono ?_); rintro e w25 ⟨v550, rfl, ho0, hb⟩; refine ⟨_, rfl, ?_⟩; have n0_ := Aside0.mk (Kd.yY_ ho0 (yk_ (by repeat (with_reducible first | exact HB.out | apply yc_ | apply ya_ | apply yb_)))); have n1_ := Aside0.mk (ym_ (by repeat (with_reducible first | exact HB.out | apply yc_ | apply ya_ | apply yb_)) hb); clear HB; have HO551 := n0_; have HB := n1_; clear n0_ n1_; (try clear hb); (try clear hb2); (try clear hk); (try clear hi); (try clear ho0)) | ((with_reducible refine ys_ (f := 22) rfl ?_); refine goesL_ (some 48) rfl rfl Tryd.func22 (by kernel_rfl) rfl #[.string a0, .string a1] rfl (by (try simp only [List.map_toArray, List.map_cons, List.map_nil]); first | done | rfl | (simp only [List.length_drop, List.length_take]; rfl)) ?_; (with_reducible refine (yf_.calls kj10 a0 a1 t552 t553 _ A20.out).mono ?_); rintro e w26 ⟨v554, rfl, ho0, hb⟩; refine ⟨_, rfl, ?_⟩; have n0_ := Aside0.mk (Kd.yXb_ (by (with_reducible repeat (first | apply Kd.yh_ | apply Kd.yi_ | apply Kd.R_drew)); exact HO551.out) (Kd.R_base ho0) hb); have n1_ := Aside0.mk (Kd.yY_ (Kd.R_new' ho0 (Kd.R_lt (by (with_reducible repeat (first | apply Kd.yh_ | apply Kd.yi_ | apply Kd.R_drew)); exact HO551.out))) (yk_ (by repeat (with_reducible first | exact HB.out | apply yc_ | apply ya_ | apply yb_)))); have n2_ := Aside0.mk (ym_ (by repeat (with_reducible first | exact HB.out | apply yc_ | apply ya_ | apply yb_)) hb); clear HO551; clear HB; have HO551 := n0_; have HO555 := n1_; have HB := n2_; clear n0_ n1_ n2_; (try clear hb); (try clear hb2); (try clear hk); (try clear hi); (try clear ho0); obtain ⟨Ao27, co27, eo27⟩ := Kd.yC_ HO551.out; subst eo27; obtain ⟨Ao28, co28, eo28⟩ := Kd.yC_ HO555.out; subst eo28) | (go_at_call 16; (with_reducible refine (yT_.calls kj10 _ _ t548 _ _ t552 true _ ?side1 ?side2 ?side3 ?side4 A22.out).mono ?_); (case side1 => repeat (first | exact (Kd.yo_ HO551.out).2.2 | (with_reducible refine Kd.yK_ ?_ _) | (with_reducible refine Kd.yR_ ?_ _) | (with_reducible refine Kd.C_drew ?_))); (case side2 => exact (Kd.yo_ HO551.out).2.1); (case side3 => repeat (first | exact (Kd.yo_ HO555.out).2.2 | (with_reducible refine Kd.yK_ ?_ _) | (with_reducible refine Kd.yR_ ?_ _) | (with_reducible refine Kd.C_drew ?_))); (case side4 => exact (Kd.yo_ HO555.out).2.1); rintro e w' ⟨rfl, ⟨nd, rfl⟩⟩) | (go_at_call 17; (with_reducible refine (yP_.calls  t557 _ ?side1 A24.out).mono ?_); (case side1 => exact Glob.below HGl.out (by repeat (with_reducible first | exact HB.out | apply yc_ | apply ya_ | apply yb_))); rintro e w29 ⟨rfl, hb⟩; have n0_ := Aside0.mk (Kd.yM_ (by (with_reducible repeat (first | apply Kd.yh_ | apply Kd.yi_ | apply Kd.R_drew)); exact HO551.out) hb); have n1_ := Aside0.mk (Kd.yM_ (by (with_reducible repeat (first | apply Kd.yh_ | apply Kd.yi_ | apply Kd.R_drew)); exact HO555.out) hb); have n2_ := Aside0.mk (ym_ (by repeat (with_reducible first | exact HB.out | apply yc_ | apply ya_ | apply yb_)) hb); clear HO551; clear HO555; clear HB; have HO551 := n0_; have HO555 := n1_; have HB := n2_; clear n0_ n1_ n2_; (try clear hb); (try clear hb2); (try clear hk); (try clear hi)))
       go_ret
       exact ⟨by first | rfl | (simp [yu_, yv_] <;> rfl) | (simp [*, yu_, yv_] <;> rfl), by repeat (with_reducible first | exact HB.out | apply yc_ | apply ya_ | apply yb_)⟩
      ·replace c23 := Bool.eq_false_iff.mpr c23
       subst c23
       have H1 : (some false) = some r := by rw [if_neg (show ¬ (false = true) by decide)] at H; exact H
       clear H
       have H := H1
       clear H1
       obtain rfl := Option.some.inj H
       go_wp2_with (first | ((with_reducible refine ys_ (f := 21) rfl ?_); refine goesL_ (some 42) rfl rfl Tryd.func21 (by kernel_rfl) rfl #[.string a0, .string a1] rfl (by (try simp only [List.map_toArray, List.map_cons, List.map_nil]); first | done | rfl | (simp only [List.length_drop, List.length_take]; rfl)) ?_; (with_reducible refine (yx_.calls kj10 a0 a1 t548 t549 _ A19.out).mono ?_); rintro e w30 ⟨v550, rfl, ho0, hb⟩; refine ⟨_, rfl, ?_⟩; have n0_ := Aside0.mk (Kd.yY_ ho0 (yk_ (by repeat (with_reducible first | exact HB.out | apply yc_ | apply ya_ | apply yb_)))); have n1_ := Aside0.mk (ym_ (by repeat (with_reducible first | exact HB.out | apply yc_ | apply ya_ | apply yb_)) hb); clear HB; have HO551 := n0_; have HB := n1_; clear n0_ n1_; (try clear hb); (try clear hb2); (try clear hk); (try clear hi); (try clear ho0)) | ((with_reducible refine ys_ (f := 22) rfl ?_); refine goesL_ (some 48) rfl rfl Tryd.func22 (by kernel_rfl) rfl #[.string a0, .string a1] rfl (by (try simp only [List.map_toArray, List.map_cons, List.map_nil]); first | done | rfl | (simp only [List.length_drop, List.length_take]; rfl)) ?_; (with_reducible refine (yf_.calls kj10 a0 a1 t552 t553 _ A20.out).mono ?_); rintro e w31 ⟨v554, rfl, ho0, hb⟩; refine ⟨_, rfl, ?_⟩; have n0_ := Aside0.mk (Kd.yXb_ (by (with_reducible repeat (first | apply Kd.yh_ | apply Kd.yi_ | apply Kd.R_drew)); exact HO551.out) (Kd.R_base ho0) hb); have n1_ := Aside0.mk (Kd.yY_ (Kd.R_new' ho0 (Kd.R_lt (by (with_reducible repeat (first | apply Kd.yh_ | apply Kd.yi_ | apply Kd.R_drew)); exact HO551.out))) (yk_ (by repeat (with_reducible first | exact HB.out | apply yc_ | apply ya_ | apply yb_)))); have n2_ := Aside0.mk (ym_ (by repeat (with_reducible first | exact HB.out | apply yc_ | apply ya_ | apply yb_)) hb); clear HO551; clear HB; have HO551 := n0_; have HO555 := n1_; have HB := n2_; clear n0_ n1_ n2_; (try clear hb); (try clear hb2); (try clear hk); (try clear hi); (try clear ho0); obtain ⟨Ao32, co32, eo32⟩ := Kd.yC_ HO551.out; subst eo32; obtain ⟨Ao33, co33, eo33⟩ := Kd.yC_ HO555.out; subst eo33) | (go_at_call 16; (with_reducible refine (yT_.calls kj10 _ _ t548 _ _ t552 false _ ?side1 ?side2 ?side3 ?side4 A22.out).mono ?_); (case side1 => repeat (first | exact (Kd.yo_ HO551.out).2.2 | (with_reducible refine Kd.yK_ ?_ _) | (with_reducible refine Kd.yR_ ?_ _) | (with_reducible refine Kd.C_drew ?_))); (case side2 => exact (Kd.yo_ HO551.out).2.1); (case side3 => repeat (first | exact (Kd.yo_ HO555.out).2.2 | (with_reducible refine Kd.yK_ ?_ _) | (with_reducible refine Kd.yR_ ?_ _) | (with_reducible refine Kd.C_drew ?_))); (case side4 => exact (Kd.yo_ HO555.out).2.1); rintro e w' ⟨rfl, ⟨nd, rfl⟩⟩))
       go_ret
       exact ⟨by first | rfl | (simp [yu_, yv_] <;> rfl) | (simp [*, yu_, yv_] <;> rfl), by repeat (with_reducible first | exact HB.out | apply yc_ | apply ya_ | apply yb_)⟩
     ·rw [if_neg c21] at H
      have c21b0 : (t549 == t553) = false := beq_eq_false_iff_ne.mpr c21
      have c21b1 : (t549 != t553) = true := bne_iff_ne.mpr c21
      obtain rfl := Option.some.inj H
      go_wp2_with (first | ((with_reducible refine ys_ (f := 21) rfl ?_); refine goesL_ (some 42) rfl rfl Tryd.func21 (by kernel_rfl) rfl #[.string a0, .string a1] rfl (by (try simp only [List.map_toArray, List.map_cons, List.map_nil]); first | done | rfl | (simp only [List.length_drop, List.length_take]; rfl)) ?_; (with_reducible refine (yx_.calls kj10 a0 a1 t548 t549 _ A19.out).mono ?_); rintro e w34 ⟨v550, rfl, ho0, hb⟩; refine ⟨_, rfl, ?_⟩; have n0_ := Aside0.mk (Kd.yY_ ho0 (yk_ (by repeat (with_reducible first | exact HB.out | apply yc_ | apply ya_ | apply yb_)))); have n1_ := Aside0.mk (ym_ (by repeat (with_reducible first | exact HB.out | apply yc_ | apply ya_ | apply yb_)) hb); clear HB; have HO551 := n0_; have HB := n1_; clear n0_ n1_; (try clear hb); (try clear hb2); (try clear hk); (try clear hi); (try clear ho0)) | ((with_reducible refine ys_ (f := 22) rfl ?_); refine goesL_ (some 48) rfl rfl Tryd.func22 (by kernel_rfl) rfl #[.string a0, .string a1] rfl (by (try simp only [List.map_toArray, List.map_cons, List.map_nil]); first | done | rfl | (simp only [List.length_drop, List.length_take]; rfl)) ?_; (with_reducible refine (yf_.calls kj10 a0 a1 t552 t553 _ A20.out).mono ?_); rintro e w35 ⟨v554, rfl, ho0, hb⟩; refine ⟨_, rfl, ?_⟩; have n0_ := Aside0.mk (Kd.yXb_ (by (with_reducible repeat (first | apply Kd.yh_ | apply Kd.yi_ | apply Kd.R_drew)); exact HO551.out) (Kd.R_base ho0) hb); have n1_ := Aside0.mk (Kd.yY_ (Kd.R_new' ho0 (Kd.R_lt (by (with_reducible repeat (first | apply Kd.yh_ | apply Kd.yi_ | apply Kd.R_drew)); exact HO551.out))) (yk_ (by repeat (with_reducible first | exact HB.out | apply yc_ | apply ya_ | apply yb_)))); have n2_ := Aside0.mk (ym_ (by repeat (with_reducible first | exact HB.out | apply yc_ | apply ya_ | apply yb_)) hb); clear HO551; clear HB; have HO551 := n0_; have HO555 := n1_; have HB := n2_; clear n0_ n1_ n2_; (try clear hb); (try clear hb2); (try clear hk); (try clear hi); (try clear ho0)))
      go_ret
      exact ⟨by first | rfl | (simp [yu_, yv_] <;> rfl) | (simp [*, yu_, yv_] <;> rfl), by repeat (with_reducible first | exact HB.out | apply yc_ | apply ya_ | apply yb_)⟩

end Go.Proofs.YthimblhfjfngiaaDoor.PText

namespace Go.Proofs.YthimblhfjfngiaaDoor.PText
open Go.RowKit Go.Lib Go.Proofs.YthimblhfjfngiaaDoorW.PrintWords Go.Proofs.YthimblhfjfngiaaDoorW.PrintLast Go.Proofs.YthimblhfjfngiaaDoorW.PrintMore
def ofE (e : Tx.Ed) : S34 := ⟨e.f, e.t, ⟨e.x.toArray⟩⟩
theorem rdSt (st : List (UInt8 × List UInt8)) (i : Nat) (h : i < st.length) : rd_T78 (st.map toSt) (i : Int) = toSt st[i] := by
  rw [rd78_at _ i (by rw [List.length_map]; exact h), List.getElem_map]
theorem rdSr (st : List (UInt8 × List UInt8)) (i : Nat) (h : i < st.length) : rd_T75 (st.map toSr) (i : Int) = toSr st[i] := by
  unfold rd_T75
  rw [Int.toNat_natCast, List.getD_eq_getElem?_getD, List.getElem?_eq_getElem (by rw [List.length_map]; exact h)]
  show (st.map toSr)[i]'(by rw [List.length_map]; exact h) = _
  rw [List.getElem_map]
theorem u8_is (x : UInt8) (n : Nat) (hn : n < 256) : ((x.toNat : Nat) : Int) = (n : Int) ↔ x = UInt8.ofNat n := by
  constructor
  · intro h
    apply UInt8.toNat_inj.1
    rw [UInt8.toNat_ofNat', Nat.mod_eq_of_lt (by omega)]
    omega
  · intro h
    rw [h, UInt8.toNat_ofNat', Nat.mod_eq_of_lt (by omega)]
theorem u8_32 (x : UInt8) : ((x.toNat : Nat) : Int) = 32 ↔ x = 32 := u8_is x 32 (by omega)
theorem u8_45 (x : UInt8) : ((x.toNat : Nat) : Int) = 45 ↔ x = 45 := u8_is x 45 (by omega)
theorem u8_43 (x : UInt8) : ((x.toNat : Nat) : Int) = 43 ↔ x = 43 := u8_is x 43 (by omega)
theorem toSt0 (x : UInt8 × List UInt8) : (toSt x).f0 = ((x.1.toNat : Nat) : Int) := rfl
theorem toSr0 (x : UInt8 × List UInt8) : (toSr x).f0 = ((x.1.toNat : Nat) : Int) := rfl
theorem y0b_ (l : List UInt8) : (⟨l.toArray⟩ : ByteArray).size = l.length := by show l.toArray.size = _; simp
theorem toSt1 (x : UInt8 × List UInt8) : ((toSt x).f1).size = x.2.length := y0b_ _
theorem toSr1 (x : UInt8 × List UInt8) : ((toSr x).f1).size = x.2.length := y0b_ _
theorem mk_append (a b : List UInt8) : (⟨a.toArray⟩ : ByteArray) ++ ⟨b.toArray⟩ = ⟨(a ++ b).toArray⟩ := by
  apply bL_ext; rw [yUb_]; rfl
/-- a list that ends with an element -/
theorem last34 (D : List S34) (e : S34) (h : D.length ≤ 1000000) : wrap64 (((D ++ [e]).length : Int) - 1) = (D.length : Int) := by
  rw [List.length_append, List.length_singleton, w64 (by omega) (by omega)]; omega
theorem get34 (D : List S34) (e : S34) : rd_T34 (D ++ [e]) (D.length : Int) = e := by
  unfold rd_T34
  rw [Int.toNat_natCast, List.getD_eq_getElem?_getD, List.getElem?_append_right (Nat.le_refl _), Nat.sub_self]; rfl
theorem set34 (D : List S34) (e v : S34) : (D ++ [e]).set (D.length : Int).toNat v = D ++ [v] := by
  rw [Int.toNat_natCast, List.set_append_right _ _ (Nat.le_refl _), Nat.sub_self]; rfl
/-- an edit that is open takes a step -/
theorem tEdit_step (k : Nat) (D : List S34) (e : Tx.Ed) (at_ : Int) (st : List (UInt8 × List UInt8)) (i : Nat) (o : UInt8) (x : List UInt8) (hD : D.length ≤ 1000000) (hb : e.x.length + x.length ≤ 1000000000000) (W : Int) (hW : wrap64 (at_ + (x.length : Int)) = W) :
    (if 0 ≤ wrap64 (((D ++ [ofE e]).length : Int) - 1) then if wrap64 (((D ++ [ofE e]).length : Int) - 1) < ((D ++ [ofE e]).length : Int) then
      if ((o.toNat : Nat) : Int) = 45 then yx_.l0 k ((D ++ [ofE e]).set (wrap64 (((D ++ [ofE e]).length : Int) - 1)).toNat ⟨(rd_T34 (D ++ [ofE e]) (wrap64 (((D ++ [ofE e]).length : Int) - 1))).f0, wrap64 (at_ + (x.length : Int)), (rd_T34 (D ++ [ofE e]) (wrap64 (((D ++ [ofE e]).length : Int) - 1))).f2⟩) (wrap64 (at_ + (x.length : Int))) true (st.map toSt) (st.length : Int) (wrap64 ((i : Int) + 1))
      else if (rd_T34 (D ++ [ofE e]) (wrap64 (((D ++ [ofE e]).length : Int) - 1))).f2.size + x.length ≤ 9223372036854775807 then yx_.l0 k ((D ++ [ofE e]).set (wrap64 (((D ++ [ofE e]).length : Int) - 1)).toNat ⟨(rd_T34 (D ++ [ofE e]) (wrap64 (((D ++ [ofE e]).length : Int) - 1))).f0, (rd_T34 (D ++ [ofE e]) (wrap64 (((D ++ [ofE e]).length : Int) - 1))).f1, (rd_T34 (D ++ [ofE e]) (wrap64 (((D ++ [ofE e]).length : Int) - 1))).f2 ++ ⟨x.toArray⟩⟩) at_ true (st.map toSt) (st.length : Int) (wrap64 ((i : Int) + 1)) else none
    else none else none) = if o = 45 then yx_.l0 k (D ++ [ofE ⟨e.f, W, e.x⟩]) W true (st.map toSt) (st.length : Int) (wrap64 ((i : Int) + 1)) else yx_.l0 k (D ++ [ofE ⟨e.f, e.t, e.x ++ x⟩]) at_ true (st.map toSt) (st.length : Int) (wrap64 ((i : Int) + 1)) := by
  have hs : (ofE e).f2.size = e.x.length := y0b_ _
  rw [last34 D _ hD, get34, set34, set34, hW, if_pos (by omega), if_pos (by rw [List.length_append, List.length_singleton]; omega)]
  by_cases c : o = 45
  · rw [if_pos ((u8_45 o).2 c), if_pos c]; rfl
  · rw [if_neg (fun q => c ((u8_45 o).1 q)), if_neg c, if_pos (by rw [hs]; omega)]
    have e3 : (ofE e).f2 ++ ⟨x.toArray⟩ = ⟨(e.x ++ x).toArray⟩ := mk_append _ _
    rw [e3]; rfl
theorem tEdits_l0 (st : List (UInt8 × List UInt8)) (hst : st.length ≤ 100000) (hx : ∀ x ∈ st, x.2.length ≤ 1000000) : ∀ (n i k : Nat) (D : List S34) (c : Option Tx.Ed) (at_ : Int), st.length - i = n → i ≤ st.length → n + 1 ≤ k → D.length + c.toList.length ≤ i → 0 ≤ at_ → at_ ≤ (i : Int) * 1000000 → (∀ e ∈ c.toList, e.x.length ≤ i * 1000000) →
    yx_.l0 k (D ++ c.toList.map ofE) at_ c.isSome (st.map toSt) (st.length : Int) (i : Int) = some (D ++ (Tx.eg at_ c (st.drop i)).map ofE, 0) := by
  intro n
  induction n with
  | zero =>
    intro i k D c at_ hn hi hk hD h0 h1 h2
    obtain ⟨k, rfl⟩ : ∃ q, k = q + 1 := ⟨k - 1, by omega⟩
    rw [yx_.l0, if_neg (by omega), List.drop_of_length_le (by omega)]
    rfl
  | succ n ih =>
    intro i k D c at_ hn hi hk hD h0 h1 h2
    obtain ⟨k, rfl⟩ : ∃ q, k = q + 1 := ⟨k - 1, by omega⟩
    have hlt : i < st.length := by omega
    have hd : st.drop i = st[i] :: st.drop (i + 1) := List.drop_eq_getElem_cons hlt
    have hxs := hx st[i] (List.getElem_mem hlt)
    rw [hd, yx_.l0, if_pos (by omega), if_pos (by omega), if_pos (by rw [List.length_map]; omega), rdSt st i hlt, toSt0, toSt1]
    rw [show (toSt st[i]).f1 = ⟨st[i].2.toArray⟩ from rfl]
    generalize st[i] = y at *
    obtain ⟨o, x⟩ := y
    dsimp only
    have W : Aside0 (wrap64 (at_ + (x.length : Int)) = at_ + (x.length : Int)) := ⟨w64 (by omega) (by have : x.length ≤ 1000000 := hxs; omega)⟩
    have hxl : x.length ≤ 1000000 := hxs
    have N : Aside0 (wrap64 ((i : Int) + 1) = ((i + 1 : Nat) : Int)) := ⟨nx i (by omega)⟩
    by_cases c1 : o = 32
    · subst c1
      rw [if_pos (show (((32 : UInt8).toNat : Nat) : Int) = 32 from rfl), Tx.eg_keep]
      rw [W.out, N.out]
      have := ih (i + 1) k (D ++ c.toList.map ofE) none (at_ + (x.length : Int)) (by omega) (by omega) (by omega) (by rw [List.length_append, List.length_map]; simp; omega) (by omega) (by omega) (fun e h => by cases h)
      simp only [Option.toList_none, List.map_nil, List.append_nil, Option.isSome_none] at this
      rw [this, List.map_append, ← List.append_assoc]
    · rw [if_neg (fun q => c1 ((u8_32 o).1 q))]
      -- the edit that is open, or a new one
      have main : ∀ (e : Tx.Ed) (D' : List S34), D'.length + 1 ≤ i + 1 → e.x.length ≤ i * 1000000 →
          (if o = 45 then yx_.l0 k (D' ++ [ofE ⟨e.f, at_ + (x.length : Int), e.x⟩]) (at_ + (x.length : Int)) true (st.map toSt) (st.length : Int) (wrap64 ((i : Int) + 1)) else yx_.l0 k (D' ++ [ofE ⟨e.f, e.t, e.x ++ x⟩]) at_ true (st.map toSt) (st.length : Int) (wrap64 ((i : Int) + 1))) =
          some (D' ++ (if o = 45 then Tx.eg (at_ + (x.length : Int)) (some ⟨e.f, at_ + (x.length : Int), e.x⟩) (st.drop (i + 1)) else Tx.eg at_ (some ⟨e.f, e.t, e.x ++ x⟩) (st.drop (i + 1))).map ofE, 0) := by
        intro e D' hD' he
        rw [N.out]
        by_cases c2 : o = 45
        · rw [if_pos c2, if_pos c2]
          exact ih (i + 1) k D' (some ⟨e.f, at_ + (x.length : Int), e.x⟩) (at_ + (x.length : Int)) (by omega) (by omega) (by omega) (by simp; omega) (by omega) (by omega) (fun e' h => by have h3 := List.mem_singleton.1 h; subst h3; exact Nat.le_trans he (Nat.mul_le_mul_right _ (by omega)))
        · rw [if_neg c2, if_neg c2]
          exact ih (i + 1) k D' (some ⟨e.f, e.t, e.x ++ x⟩) at_ (by omega) (by omega) (by omega) (by simp; omega) (by omega) (by omega) (fun e' h => by have h3 := List.mem_singleton.1 h; subst h3; have h4 : (e.x ++ x).length = e.x.length + x.length := List.length_append; exact Nat.le_trans (Nat.le_of_eq h4) (by rw [Nat.add_mul]; omega))
      have hE : ∀ e : Tx.Ed, Tx.eg at_ c ((o, x) :: st.drop (i + 1)) = (if o = 45 then Tx.eg (at_ + (x.length : Int)) (some ⟨(c.getD ⟨at_, at_, []⟩).f, at_ + (x.length : Int), (c.getD ⟨at_, at_, []⟩).x⟩) (st.drop (i + 1)) else Tx.eg at_ (some ⟨(c.getD ⟨at_, at_, []⟩).f, (c.getD ⟨at_, at_, []⟩).t, (c.getD ⟨at_, at_, []⟩).x ++ x⟩) (st.drop (i + 1))) := fun _ => by
        by_cases c2 : o = 45
        · subst c2; rw [if_pos rfl, Tx.eg_gone]
        · rw [if_neg c2, Tx.eg_come at_ c o x _ c1 c2]
      rw [hE ⟨0, 0, []⟩]
      cases c with
      | some e =>
        have he : e.x.length ≤ i * 1000000 := h2 e (by simp)
        have hD' : D.length + 1 ≤ i := hD
        rw [if_pos (show (Option.isSome (some e)) = true from rfl)]
        exact (tEdit_step k D e at_ st i o x (by omega) (by omega) _ W.out).trans (main e D (by omega) he)
      | none =>
        have hD' : D.length ≤ i := by simpa using hD
        rw [if_neg (show ¬ (Option.isSome (none : Option Tx.Ed)) = true by decide), if_pos (by simp; omega), Option.bind_some]
        have e0 : D ++ (none : Option Tx.Ed).toList.map ofE ++ [(⟨at_, at_, (⟨#[]⟩ : ByteArray)⟩ : S34)] = D ++ [ofE ⟨at_, at_, []⟩] := by simp [ofE]
        rw [e0]
        exact (tEdit_step k D ⟨at_, at_, []⟩ at_ st i o x (by omega) (by simp; omega) _ W.out).trans (main ⟨at_, at_, []⟩ D (by omega) (by simp))
end Go.Proofs.YthimblhfjfngiaaDoor.PText

namespace Go.Proofs.YthimblhfjfngiaaDoor.PText
open Go.RowKit Go.Lib Go.Proofs.YthimblhfjfngiaaDoorW.PrintWords Go.Proofs.YthimblhfjfngiaaDoorW.PrintLast Go.Proofs.YthimblhfjfngiaaDoorW.PrintMore
theorem rEdits_l (st : List (UInt8 × List UInt8)) (hst : st.length ≤ 100000) (hx : ∀ x ∈ st, x.2.length ≤ 1000000) : ∀ (n i : Nat), st.length - i = n → i ≤ st.length →
    (∀ (k : Nat) (D : List S34) (at_ : Int), 4 * n + 5 ≤ k → D.length ≤ i → 0 ≤ at_ → at_ ≤ (i : Int) * 1000000 → yf_.l0 k (st.map toSr) D at_ (i : Int) = some (D ++ (Tx.eg at_ none (st.drop i)).map ofE, 0)) ∧
    (∀ (k : Nat) (D : List S34) (f t : Int) (x : List UInt8), 4 * n + 4 ≤ k → D.length ≤ i → 0 ≤ t → t ≤ (i : Int) * 1000000 → x.length ≤ i * 1000000 → yf_.l1 k (st.map toSr) D (i : Int) f t ⟨x.toArray⟩ = some (D ++ (Tx.eg t (some ⟨f, t, x⟩) (st.drop i)).map ofE, 0)) := by
  intro n
  have hlen : (st.map toSr).length = st.length := List.length_map _
  induction n with
  | zero =>
    intro i hn hi
    have hd : st.drop i = [] := List.drop_of_length_le (by omega)
    have l0 : ∀ (k : Nat) (D : List S34) (at_ : Int), 1 ≤ k → yf_.l0 k (st.map toSr) D at_ (i : Int) = some (D, 0) := fun k D at_ hk => by
      obtain ⟨k, rfl⟩ : ∃ q, k = q + 1 := ⟨k - 1, by omega⟩
      rw [yf_.l0, if_neg (by omega)]
    rw [hd]
    refine ⟨fun k D at_ hk _ _ _ => ?_, fun k D f t x hk hD _ _ _ => ?_⟩
    · rw [l0 k D at_ (by omega)]
      show _ = some (D ++ [].map ofE, 0)
      rw [List.map_nil, List.append_nil]
    · obtain ⟨k, rfl⟩ : ∃ q, k = q + 2 := ⟨k - 2, by omega⟩
      rw [yf_.l1, if_neg (by omega), yf_.j3, if_neg (by decide), if_pos (by omega), l0 k _ t (by omega)]
      rfl
  | succ n ih =>
    intro i hn hi
    have hlt : i < st.length := by omega
    have hd : st.drop i = st[i] :: st.drop (i + 1) := List.drop_eq_getElem_cons hlt
    have hxs := hx st[i] (List.getElem_mem hlt)
    obtain ⟨ih0, ih1⟩ := ih (i + 1) (by omega) (by omega)
    have hr := rdSr st i hlt
    rw [hd]
    generalize st[i] = y at *
    obtain ⟨o, x⟩ := y
    have hf0 : (rd_T75 (st.map toSr) (i : Int)).f0 = ((o.toNat : Nat) : Int) := by rw [hr]; rfl
    have hf1 : (rd_T75 (st.map toSr) (i : Int)).f1 = ⟨x.toArray⟩ := by rw [hr]; rfl
    have hfs : (⟨x.toArray⟩ : ByteArray).size = x.length := y0b_ _
    have hxl : x.length ≤ 1000000 := hxs
    have N : Aside0 (wrap64 ((i : Int) + 1) = ((i + 1 : Nat) : Int)) := ⟨nx i (by omega)⟩
    have keep0 : o = 32 → ∀ (k : Nat) (D : List S34) (at_ : Int), 4 * n + 6 ≤ k → D.length ≤ i + 1 → 0 ≤ at_ → at_ ≤ (i : Int) * 1000000 → yf_.l0 k (st.map toSr) D at_ (i : Int) = some (D ++ (Tx.eg at_ none ((o, x) :: st.drop (i + 1))).map ofE, 0) := by
      rintro rfl k D at_ hk hD h0 h1
      obtain ⟨k, rfl⟩ : ∃ q, k = q + 1 := ⟨k - 1, by omega⟩
      rw [yf_.l0, if_pos (by omega), if_pos (by omega), hf0, if_pos (show (((32 : UInt8).toNat : Nat) : Int) = 32 from rfl), hf1, hfs, w64 (x := at_ + (x.length : Int)) (by omega) (by omega), N.out, ih0 k D (at_ + (x.length : Int)) (by omega) hD (by omega) (by omega), Tx.eg_keep]
      rfl
    have l1 : ∀ (k : Nat) (D : List S34) (f t : Int) (X : List UInt8), 4 * (n + 1) + 4 ≤ k → D.length ≤ i → 0 ≤ t → t ≤ (i : Int) * 1000000 → X.length ≤ i * 1000000 → yf_.l1 k (st.map toSr) D (i : Int) f t ⟨X.toArray⟩ = some (D ++ (Tx.eg t (some ⟨f, t, X⟩) ((o, x) :: st.drop (i + 1))).map ofE, 0) := by
      intro k D f t X hk hD h0 h1 h2
      obtain ⟨k, rfl⟩ : ∃ q, k = q + 2 := ⟨k - 2, by omega⟩
      rw [yf_.l1, if_pos (by omega), if_pos (by omega), hf0]
      by_cases c1 : o = 32
      · have e : (((o.toNat : Nat) : Int) != 32) = false := by simp [c1]
        rw [e, yf_.j3, if_neg (by decide), if_pos (by omega), keep0 c1 k _ t (by omega) (by rw [List.length_append, List.length_singleton]; omega) h0 h1]
        subst c1
        rw [Tx.eg_keep, Tx.eg_keep, List.append_assoc]
        rfl
      · have e : (((o.toNat : Nat) : Int) != 32) = true := by rw [bne_iff_ne]; exact fun q => c1 ((u8_32 o).1 q)
        rw [e, yf_.j3, if_pos rfl, if_pos (by omega), if_pos (by omega), hf0, hf1, hfs, N.out]
        by_cases c2 : o = 45
        · rw [if_pos ((u8_45 o).2 c2), w64 (x := t + (x.length : Int)) (by omega) (by omega), ih1 k D f (t + (x.length : Int)) X (by omega) (by omega) (by omega) (by omega) (Nat.le_trans h2 (Nat.mul_le_mul_right _ (by omega)))]
          subst c2
          rw [Tx.eg_gone]; rfl
        · have hs : (⟨X.toArray⟩ : ByteArray).size = X.length := y0b_ _
          rw [if_neg (fun q => c2 ((u8_45 o).1 q)), hs, if_pos (by omega), mk_append, ih1 k D f t (X ++ x) (by omega) (by omega) (by omega) (by omega) (by have h4 : (X ++ x).length = X.length + x.length := List.length_append; exact Nat.le_trans (Nat.le_of_eq h4) (by rw [Nat.add_mul]; omega)), Tx.eg_come t _ o x _ c1 c2]
          rfl
    refine ⟨fun k D at_ hk hD h0 h1 => ?_, l1⟩
    by_cases c1 : o = 32
    · exact keep0 c1 k D at_ (by omega) (by omega) h0 h1
    · obtain ⟨k, rfl⟩ : ∃ q, k = q + 1 := ⟨k - 1, by omega⟩
      have e := l1 k D at_ at_ [] (by omega) hD h0 h1 (Nat.zero_le _)
      rw [yf_.l0, if_pos (by omega), if_pos (by omega), hf0, if_neg (fun q => c1 ((u8_32 o).1 q))]
      refine e.trans ?_
      by_cases c2 : o = 45
      · subst c2; rw [Tx.eg_gone, Tx.eg_gone]; rfl
      · rw [Tx.eg_come at_ _ o x _ c1 c2, Tx.eg_come at_ _ o x _ c1 c2]; rfl
theorem yGb_ (s : ByteArray) : (linesB s).map bL = Tx.lines (bL s) := by
  unfold linesB
  rw [List.map_map]
  exact (List.map_congr_left (fun x _ => bL_mk x)).trans (List.map_id _)
theorem flat_mem {α : Type} : ∀ {l : List (List α)} {x : List α}, x ∈ l → x.length ≤ l.flatten.length
  | y :: l, x, h => by
    rw [List.flatten_cons, List.length_append]
    rcases List.mem_cons.1 h with h | h
    · subst h; omega
    · have := flat_mem h; omega
/-- the steps of two texts -/
def stT (a b : ByteArray) : List (UInt8 × List UInt8) := Tx.stp (Tx.lines (bL a)) (Tx.lines (bL b))
theorem stT_S (a b : ByteArray) : stS (linesB a) (linesB b) = (stT a b).map toSt := by unfold stS stT; rw [yGb_, yGb_]
theorem stT_R (a b : ByteArray) : stR (linesB a) (linesB b) = (stT a b).map toSr := by unfold stR stT; rw [yGb_, yGb_]
theorem stT_len (a b : ByteArray) : (stT a b).length ≤ (linesB a).length + (linesB b).length := by
  have := stp_len _ (Tx.lines (bL a)) (Tx.lines (bL b)) (Nat.le_refl _)
  rw [← yGb_, ← yGb_, List.length_map, List.length_map, yGb_, yGb_] at this
  exact this
theorem stT_ok (a b : ByteArray) : ∀ x ∈ stT a b, (x.1 = 32 ∨ x.1 = 45 ∨ x.1 = 43) ∧ x.2 ≠ [] ∧ x.2.length ≤ max a.size b.size := by
  intro x hx
  obtain ⟨h1, h2⟩ := Tx.stp_op _ _ _ (Nat.le_refl _) x hx
  have ha := bL_size a
  have hb := bL_size b
  rcases h2 with h2 | h2
  · have := flat_mem h2
    rw [Tx.yMb_] at this
    exact ⟨h1, Tx.lines_ne _ x.2 h2, by omega⟩
  · have := flat_mem h2
    rw [Tx.yMb_] at this
    exact ⟨h1, Tx.lines_ne _ x.2 h2, by omega⟩
/-- the edits from one text to another one -/
def editsS (a b : ByteArray) : List S34 := (Tx.eg 0 none (stT a b)).map ofE
def editsR (a b : ByteArray) : List S34 × Int := if (sizedR a b 0).2 = 0 then (editsS a b, 0) else ([], (sizedR a b 0).2)
theorem edits_f (a b : ByteArray) (ha : a.size ≤ 1000000000) (hb : b.size ≤ 1000000000) (k : Nat) (hk : 5000000 ≤ k) : yx_.f k a b = some (editsR a b) := by
  unfold yx_.f editsR
  rw [sized_f a b 0 ha hb k hk, Option.bind_some]
  by_cases h : (sizedR a b 0).2 = 0
  · rw [if_pos h, if_pos h]
    obtain ⟨e1, -, -, n1, n2, z1, z2⟩ := sized_zero h
    have hl := stT_len a b
    rw [e1]
    show yx_.l0 k [] 0 false (stS (linesB a) (linesB b)) ((stS (linesB a) (linesB b)).length : Int) 0 = _
    rw [stT_S, List.length_map]
    have := tEdits_l0 (stT a b) (by omega) (fun x hx => by have := (stT_ok a b x hx).2.2; omega) (stT a b).length 0 k [] none 0 (by omega) (by omega) (by omega) (by simp) (by omega) (by omega) (fun e h => by cases h)
    rw [List.drop_zero] at this
    exact this
  · rw [if_neg h, if_neg h]
end Go.Proofs.YthimblhfjfngiaaDoor.PText

namespace Go.Proofs.YthimblhfjfngiaaDoor.PText
open Go.RowKit Go.Lib Go.Proofs.YthimblhfjfngiaaDoorW.PrintWords Go.Proofs.YthimblhfjfngiaaDoorW.PrintLast Go.Proofs.YthimblhfjfngiaaDoorW.PrintMore
theorem bt_ten (s : ByteArray) (i : Nat) : bt s (i : Int) = 10 ↔ s.data.toList[i]? = some 10 := by
  have hs := ypb_ s
  unfold bt
  rw [Int.toNat_natCast]
  by_cases h : i < s.size
  · rw [dif_pos h]
    have h2 : i < s.data.toList.length := by omega
    rw [List.getElem?_eq_getElem h2]
    have e : s.data.toList[i] = s[i]'h := rfl
    rw [e]
    constructor
    · intro q
      have : (s[i]'h).toNat = 10 := by omega
      rw [Option.some.injEq]
      exact UInt8.toNat_inj.1 this
    · intro q
      rw [Option.some.inj q]
      rfl
  · rw [dif_neg h, List.getElem?_eq_none (by omega)]
    constructor
    · intro q; cases q
    · intro q; cases q
theorem rlines_l0 (s : ByteArray) (hs : s.size ≤ 100000) : ∀ (m i k : Nat) (out : List ByteArray) (p : Nat), s.size - i = m → p ≤ i → i ≤ s.size → m + 1 ≤ k → out.length ≤ p →
    yt_.l0 k s out (p : Int) (i : Int) = some (out ++ (Tx.lgo (Tx.sl s.data.toList p i) (s.data.toList.drop i)).map fun l => ⟨l.toArray⟩) := by
  have hsl := ypb_ s
  intro m
  induction m with
  | zero =>
    intro i k out p hm hp hi hk ho
    obtain ⟨k, rfl⟩ : ∃ q, k = q + 1 := ⟨k - 1, by omega⟩
    have hd : s.data.toList.drop i = [] := List.drop_of_length_le (by omega)
    have hslen := Tx.sl_len (s := s.data.toList) (a := (p : Int)) (b := (i : Int)) (by omega) (by omega) (by omega)
    have e0 : Tx.lgo (Tx.sl s.data.toList p i) [] = if Tx.sl s.data.toList p i = [] then [] else [Tx.sl s.data.toList p i] := rfl
    rw [yt_.l0, if_neg (by omega), hd, e0]
    by_cases c : p < s.size
    · rw [if_pos (by omega), if_pos (by omega), if_pos (by omega), if_pos (by omega), if_neg (by intro q; rw [q] at hslen; simp at hslen; omega)]
      have e : s.extract (p : Int).toNat s.size = ⟨(Tx.sl s.data.toList p i).toArray⟩ := by
        apply ba_ext
        obtain rfl : i = s.size := by omega
        have := ext_sl s (p : Int) (s.size : Int)
        rw [Int.toNat_natCast s.size] at this
        rw [this]
      rw [e]
      rfl
    · rw [if_neg (by omega), if_pos (by apply List.eq_nil_of_length_eq_zero; omega)]
      simp
  | succ m ih =>
    intro i k out p hm hp hi hk ho
    obtain ⟨k, rfl⟩ : ∃ q, k = q + 1 := ⟨k - 1, by omega⟩
    have hlt : i < s.data.toList.length := by omega
    have hd : s.data.toList.drop i = s.data.toList[i] :: s.data.toList.drop (i + 1) := List.drop_eq_getElem_cons hlt
    have hsn : Tx.sl s.data.toList p ((i + 1 : Nat) : Int) = Tx.sl s.data.toList p i ++ [s.data.toList[i]] := by
      have h1 := Tx.sl_sl (s := s.data.toList) (a := (p : Int)) (b := (i : Int)) (c := ((i + 1 : Nat) : Int)) (by omega) (by omega)
      rw [← h1]
      congr 1
      unfold Tx.sl
      rw [Int.toNat_natCast, Int.toNat_natCast, hd, show i + 1 - i = 1 by omega]
      rfl
    have e0 : ∀ cur, Tx.lgo cur (s.data.toList[i] :: s.data.toList.drop (i + 1)) = if s.data.toList[i] = 10 then (cur ++ [s.data.toList[i]]) :: Tx.lgo [] (s.data.toList.drop (i + 1)) else Tx.lgo (cur ++ [s.data.toList[i]]) (s.data.toList.drop (i + 1)) := fun _ => rfl
    have hb := bt_ten s i
    rw [List.getElem?_eq_getElem hlt, Option.some.injEq] at hb
    rw [yt_.l0, if_pos (by omega), if_pos (by omega), nx i (by omega), hd, e0]
    by_cases q : s.data.toList[i] = 10
    · rw [if_pos (hb.2 q), if_pos (by omega), if_pos (by omega), if_pos (by omega), if_pos (by omega), if_pos q, ih (i + 1) k _ (i + 1) (by omega) (by omega) (by omega) (by omega) (by rw [List.length_append, List.length_singleton]; omega), Tx.sl_same, ← hsn]
      have e : s.extract (p : Int).toNat ((i + 1 : Nat) : Int).toNat = ⟨(Tx.sl s.data.toList p ((i + 1 : Nat) : Int)).toArray⟩ := ba_ext (by rw [ext_sl])
      rw [e, List.append_assoc out, List.singleton_append]
      rfl
    · rw [if_neg (fun c => q (hb.1 c)), if_neg q, ih (i + 1) k out p (by omega) (by omega) (by omega) (by omega) ho, ← hsn]
theorem rlines_f (s : ByteArray) (hs : s.size ≤ 100000) (k : Nat) (hk : s.size + 1 ≤ k) : yt_.f k s = some (linesB s) := by
  have h := rlines_l0 s hs s.size 0 k [] 0 (by omega) (by omega) (by omega) hk (Nat.le_refl _)
  rw [show ((0 : Nat) : Int) = 0 from rfl, Tx.sl_same, List.drop_zero, List.nil_append] at h
  exact h
end Go.Proofs.YthimblhfjfngiaaDoor.PText

namespace Go.Proofs.YthimblhfjfngiaaDoor.PText
open Go.RowKit Go.Lib Go.Proofs.YthimblhfjfngiaaDoorW.PrintWords Go.Proofs.YthimblhfjfngiaaDoorW.PrintLast Go.Proofs.YthimblhfjfngiaaDoorW.PrintMore
def awA : ByteArray := ⟨#[97, 10, 98, 10]⟩
def awB : ByteArray := ⟨#[97, 10, 99, 10]⟩
def awR : ByteArray := ⟨#[64, 64, 32, 49, 44, 50, 32, 49, 44, 50, 32, 64, 64, 10, 32, 97, 10, 45, 98, 10, 43, 99, 10]⟩
def L3 : List S78 := [⟨32, ⟨#[97, 10]⟩⟩, ⟨45, ⟨#[98, 10]⟩⟩, ⟨43, ⟨#[99, 10]⟩⟩]
theorem aw_steps : stS (linesB awA) (linesB awB) = L3 := by
  have h1 : yj_.f 41 (linesB awA) (linesB awB) = some L3 := by kernel_rfl
  have la : (linesB awA).length = 2 := by kernel_rfl
  have lb : (linesB awB).length = 2 := by kernel_rfl
  have h2 := steps_f (linesB awA) (linesB awB) (by omega) (by omega) 41 (by rw [la, lb]; decide)
  exact Option.some.inj (h2.symm.trans h1)
theorem itS_one {n : Nat} (h : n < 10) : itS n = ⟨#[UInt8.ofNat (48 + n)]⟩ := by
  unfold itS
  rw [show Lib.itoa (n : Int) = Lib.decDigits n by unfold Lib.itoa; rw [if_neg (by omega)]; simp, Lib.decDigits_one h]
theorem aw_diff : y6_.f awA awB 1 = some (awR, 0) := by
  have la : (linesB awA).length = 2 := by kernel_rfl
  have lb : (linesB awB).length = 2 := by kernel_rfl
  have sa : awA.size = 4 := rfl
  have sb : awB.size = 4 := rfl
  have hz : sizedR awA awB 1 = (L3, 0) := by
    unfold sizedR
    rw [if_neg (by omega), if_neg (by omega), aw_steps]
  have hk : hkL L3 1 L3.length 0 = [(0, 3)] := by kernel_rfl
  have hd : diffT awA awB 1 = awR.data.toList := by
    unfold diffT diffL
    rw [hz]
    show ((hkL L3 1 L3.length 0).map (hunkP L3)).flatten = _
    rw [hk]
    show (hunkL (cA (L3.take 0)) (cB (L3.take 0)) ((L3.take 3).drop 0)) ++ [] = _
    rw [List.append_nil]
    unfold hunkL headT
    rw [show cA ((L3.take 3).drop 0) = 2 from rfl, show cB ((L3.take 3).drop 0) = 2 from rfl, show firstN (cA (L3.take 0)) 2 = 1 from rfl, show firstN (cB (L3.take 0)) 2 = 1 from rfl, itS_one (n := 1) (by omega), itS_one (n := 2) (by omega)]
    kernel_rfl
  unfold y6_.f
  rw [if_pos (by omega), hz, if_pos rfl, hd, if_pos (by decide)]
theorem awake_f : yP_.f = some true := by
  unfold yP_.f
  have e := aw_diff
  unfold awA awB at e
  have h1 : yob_.f (⟨#[97, 98, 99]⟩ : ByteArray) (([(⟨1, 2, (⟨#[120]⟩ : ByteArray)⟩ : S34)] : List (S34))) = some (⟨#[97, 120, 99]⟩, 0) := by kernel_rfl
  rw [h1, Option.bind_some, e, Option.bind_some]
  rw [if_pos rfl, if_pos (by kernel_rfl), if_pos rfl]
  exact congrArg some (by kernel_rfl)
end Go.Proofs.YthimblhfjfngiaaDoor.PText

