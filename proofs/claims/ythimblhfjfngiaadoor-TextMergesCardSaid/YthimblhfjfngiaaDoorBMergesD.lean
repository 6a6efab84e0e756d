/- TextMerges holds: for every text and any two lists of edits the statement answers true, where the three listed package variables hold what the program's text lays. Part 4 of 5. -/
import Derived.Test.YthimblhfjfngiaaDoorBMergesC
import Derived.Maps.OwnOps
import Derived.Maps.Views
import Derived.DeepKeys4
import Derived.Maps.Own
namespace Go.Proofs.YthimblhfjfngiaaDoor.PText
open Go.RowKit Go.Maps Go.WideShapes Go.Proofs.YthimblhfjfngiaaDoorW.PrintWords Go.Proofs.YthimblhfjfngiaaDoorW.PrintLast Go.Proofs.YthimblhfjfngiaaDoorW.PrintMore
theorem laidOutK : laidOutB Tryd.prog = true := by kernel_rfl
theorem K34 : Keyed Tryd.prog 34 := Keyed.of_law (deep_law_laid laidOutK (m := 4) (by decide) (of_decide_eq_true (by kernel_rfl)) (by kernel_rfl) (by kernel_rfl))
/-- an edit whose numbers and text a key may hold -/
def okE (x : S34) : Prop := 0 ≤ x.f0 ∧ x.f0 ≤ 1000000 ∧ 0 ≤ x.f1 ∧ x.f1 ≤ 1000000 ∧ x.f2.size ≤ 1000000000000
def kvE (x : S34) : Value := .agg #[.int .i64 x.f0, .int .i64 x.f1, .string x.f2]
noncomputable def klE (x : S34) : Lit := (keyOf Tryd.prog 34 (kvE x)).getD (.bool false)
theorem kc3 : Tryd.prog.cellsOf 3 = 1 := by kernel_rfl
theorem kc9 : Tryd.prog.cellsOf 9 = 1 := by kernel_rfl
theorem kc34 : Tryd.prog.cellsOf 34 = 3 := by kernel_rfl
theorem keyT34 : Tryd.prog.keyType 34 = true := by kernel_rfl
theorem key_some (x : S34) (h : okE x) : ∃ l, keyOf Tryd.prog 34 (kvE x) = some l := by
  obtain ⟨h1, h2, h3, h4, h5⟩ := h
  obtain ⟨m, hm⟩ : ∃ m, Tryd.prog.types.size = m + 1 := ⟨Tryd.prog.types.size - 1, by have : 0 < Tryd.prog.types.size := of_decide_eq_true (by kernel_rfl); omega⟩
  have w0 : (Lit.int .i64 x.f0).wf = true := by
    simp only [Lit.wf, Bool.and_eq_true, decide_eq_true_eq]
    have e1 : IntKind.i64.min = -9223372036854775808 := by decide
    have e2 : IntKind.i64.max = 9223372036854775807 := by decide
    omega
  have w1 : (Lit.int .i64 x.f1).wf = true := by
    simp only [Lit.wf, Bool.and_eq_true, decide_eq_true_eq]
    have e1 : IntKind.i64.min = -9223372036854775808 := by decide
    have e2 : IntKind.i64.max = 9223372036854775807 := by decide
    omega
  have w2 : x.f2.size ≤ maxLen := by unfold maxLen; omega
  have f34 : (kvE x).formed Tryd.prog 34 = true := by simp [kvE, Value.formed, Tryd.underlying34, kc34]
  have kl : Tryd.prog.keyLits (Tryd.prog.types.size + 1) 34 (kvE x).cells.toList = some [.int .i64 x.f0, .int .i64 x.f1, .string x.f2.data.toList] := by
    rw [hm]
    unfold Program.keyLits
    simp only [Tryd.underlying34, kvE, Value.cells, kc34]
    rw [if_pos (by simp)]
    unfold Program.keyLits
    simp [Tryd.underlying3, Tryd.underlying9, kc3, kc9, w0, w1, w2]
  unfold keyOf
  simp only [Tryd.underlying34]
  rw [if_pos (by rw [keyT34, f34]; rfl), kl]
  exact ⟨_, rfl⟩
theorem key_ok (x : S34) (h : okE x) : keyOf Tryd.prog 34 (kvE x) = some (klE x) := by
  obtain ⟨l, hl⟩ := key_some x h
  unfold klE
  rw [hl]
  rfl
theorem key_inj {x y : S34} (hx : okE x) (hy : okE y) (h : klE x = klE y) : x = y := by
  have h1 := key_ok x hx
  have h2 := key_ok y hy
  rw [← h] at h2
  have := K34.inj h1 h2
  unfold kvE at this
  cases x; cases y
  simp only [Value.agg.injEq] at this
  simp_all
end Go.Proofs.YthimblhfjfngiaaDoor.PText

namespace Go.Proofs.YthimblhfjfngiaaDoor.PText
open Go.RowKit Go.Maps Go.WideShapes Go.Proofs.YthimblhfjfngiaaDoorW.PrintWords Go.Proofs.YthimblhfjfngiaaDoorW.PrintLast Go.Proofs.YthimblhfjfngiaaDoorW.PrintMore
set_option linter.unusedVariables false
set_option linter.unusedSimpArgs false
theorem wpList_lookup_bool {H : Type} {P : Program} (w : World) {ops : Array Oper} {rest : List Oper} {o : Oper} {a : Act} {Q : Exit → Act → World → Prop}
    (hg : o.guard = none) (m x : Operand) (t : TypeId) (hop : o.op = Op.lookup t m x false)
    (k e : TypeId) (K : Keyed P k) (ht : P.underlying t = some (.map k e)) (he : P.underlying e = some .bool) (hz : (zeroValue e).run P w = .ok (.bool false) w) (b n : Nat) (D : DataW H)
    (hm : a.eval m = .map (some b)) (hown : w.ownsMap P k (plainElem P e) b n D) (key : Value) (kl : Lit) (hx : a.eval x = key) (hkey : keyOf P k key = some kl)
    (c : Bool) (hat : D.atKey kl (.lit (.bool false)) = .lit (.bool c)) (hK : wpList P ops Q rest (a.put o.dst (.bool c)) w) :
    wpList P ops Q (o :: rest) a w := by
  refine wpList_plain hg fun K' hK' => ?_
  obtain ⟨v, ps, hrun, hv⟩ := hown.lookup K ht hz (plainElem_bool he false) hkey
  have hv2 : v = .bool c := by
    rw [hat] at hv
    unfold plainElem at hv
    cases v <;> simp [he] at hv
    exact congrArg Value.bool hv.1
  subst hv2
  unfold Oper.wp
  simp [execOp, hop, hm, hx, hrun, Result.andThen]
  exact hK' _ _ hK
/-- what the map holds behind some edits -/
noncomputable def mapOf (l : List S34) : DataW Unit := l.foldl (fun m x => m.put (klE x) (.lit (.bool true))) (.map [])
theorem mapOf_snoc (l : List S34) (x : S34) : mapOf (l ++ [x]) = (mapOf l).put (klE x) (.lit (.bool true)) := by unfold mapOf; rw [List.foldl_append]; rfl
set_option maxRecDepth 100000 in
theorem key_lit (x : S34) (h : okE x) : WideAt.IsKeyLit (klE x) := K34.key (v := kvE x) (key_ok x h)
theorem isMap_fold : ∀ (l : List S34) (m : DataW Unit), IsMap m → IsMap (l.foldl (fun m x => m.put (klE x) (.lit (.bool true))) m)
  | [], _, h => h
  | x :: l, m, h => isMap_fold l _ (h.put _ _)
set_option maxRecDepth 100000 in
theorem at_fold (x : S34) (hx : okE x) : ∀ (l : List S34) (m : DataW Unit), IsMap m → (∀ y ∈ l, okE y) →
    (l.foldl (fun m x => m.put (klE x) (.lit (.bool true))) m).atKey (klE x) (.lit (.bool false)) = if x ∈ l then .lit (.bool true) else m.atKey (klE x) (.lit (.bool false))
  | [], _, _, _ => by simp only [List.foldl_nil, List.not_mem_nil, if_false]
  | y :: l, m, h, hl => by
    have ih := at_fold x hx l (m.put (klE y) (.lit (.bool true))) (h.put _ _) (fun z hz => hl z (List.mem_cons_of_mem _ hz))
    rw [List.foldl_cons, ih]
    by_cases e : x = y
    · subst e
      rw [atKey_put_same h (key_lit x hx), if_pos (show x ∈ x :: l from List.mem_cons_self)]
      split <;> rfl
    · rw [atKey_put_other (fun q => e (key_inj hx (hl y List.mem_cons_self) q))]
      by_cases q : x ∈ l
      · rw [if_pos q, if_pos (List.mem_cons_of_mem _ q)]
      · rw [if_neg q, if_neg (fun c => (List.mem_cons.1 c).elim e q)]
theorem at_mapOf (l : List S34) (hl : ∀ y ∈ l, okE y) (x : S34) (hx : okE x) : (mapOf l).atKey (klE x) (.lit (.bool false)) = .lit (.bool (decide (x ∈ l))) := by
  unfold mapOf
  rw [at_fold x hx l _ isMap_empty hl]
  by_cases q : x ∈ l
  · rw [if_pos q, decide_eq_true q]
  · rw [if_neg q, decide_eq_false q]; rfl
/-- the second list's edits over the first's -/
def ovS (l1 : List S34) : Int → List S34 → List S34
  | _, [] => []
  | sh, x :: l => if x ∈ l1 then ovS l1 (sh + ((x.f2.size : Int) - (x.f1 - x.f0))) l else ⟨x.f0 + sh, x.f1 + sh, x.f2⟩ :: ovS l1 sh l
theorem ovS_sum (l1 : List S34) : ∀ (l : List S34) (sh : Int), sumS (ovS l1 sh l) ≤ sumS l
  | [], _ => Nat.le_refl _
  | x :: l, sh => by
    have e : ovS l1 sh (x :: l) = if x ∈ l1 then ovS l1 (sh + ((x.f2.size : Int) - (x.f1 - x.f0))) l else ⟨x.f0 + sh, x.f1 + sh, x.f2⟩ :: ovS l1 sh l := rfl
    rw [e, sumS_cons]
    by_cases h : x ∈ l1
    · rw [if_pos h]
      have := ovS_sum l1 l (sh + ((x.f2.size : Int) - (x.f1 - x.f0)))
      omega
    · rw [if_neg h, sumS_cons]
      have := ovS_sum l1 l sh
      show x.f2.size + _ ≤ _
      omega
/-- what text.Over answers -/
def overR (n : Nat) (l1 l2 : List S34) : List S34 × Int := if (mergeR n l1 l2).2 ≠ 0 then ([], (mergeR n l1 l2).2) else (jnS (ovS l1 0 (mergeR n l1 l2).1), 0)
def text_Over.f (a0 : ByteArray) (l1 l2 : List S34) : Option (List S34 × Int) := if l1.length + l2.length ≤ 20000 ∧ sumS l1 + sumS l2 ≤ 100000000000 then some (overR a0.size l1 l2) else none
theorem merge_zero {n : Nat} {l1 l2 : List S34} (h : (mergeR n l1 l2).2 = 0) : fineE n l1 = 0 ∧ fineE n l2 = 0 ∧ fineE n (l1 ++ l2) = 0 ∧ (mergeR n l1 l2).1 = Tx.ord eltS (l1 ++ l2) := by
  unfold mergeR at h ⊢
  by_cases h1 : fineE n l1 = 0
  · rw [if_neg (show ¬ (fineE n l1 ≠ 0) from fun q => q h1)] at h ⊢
    by_cases h2 : fineE n l2 = 0
    · rw [if_neg (show ¬ (fineE n l2 ≠ 0) from fun q => q h2)] at h ⊢
      by_cases h3 : fineE n (l1 ++ l2) = 0
      · rw [if_neg (show ¬ (fineE n (l1 ++ l2) ≠ 0) from fun q => q h3)]
        exact ⟨h1, h2, h3, rfl⟩
      · rw [if_pos (show fineE n (l1 ++ l2) ≠ 0 from h3)] at h; exact absurd h h3
    · rw [if_pos (show fineE n l2 ≠ 0 from h2)] at h; exact absurd h h2
  · rw [if_pos (show fineE n l1 ≠ 0 from h1)] at h; exact absurd h h1
theorem size_sum {l : List S34} {x : S34} (h : x ∈ l) : x.f2.size ≤ sumS l := by
  induction l with
  | nil => cases h
  | cons y l ih =>
    rw [sumS_cons]
    rcases List.mem_cons.1 h with h | h
    · subst h; omega
    · have := ih h; omega
theorem fine_ok {n : Nat} {l : List S34} (h : fineE n l = 0) (hz : sumS l ≤ 1000000000000) : n ≤ 200000 ∧ l.length ≤ 10000 ∧ ∀ x ∈ l, okE x := by
  obtain ⟨h1, h2, h3⟩ := fine_chain n l h
  refine ⟨h2, h1, fun x hx => ?_⟩
  have ho := Tx.ch_okay (Int.le_refl 0) h3 (toE x) (List.mem_map.2 ⟨x, (Tx.mem_ord eltS_lin).2 hx, rfl⟩)
  have g1 : 0 ≤ x.f0 := ho.1
  have g2 : x.f0 ≤ x.f1 := ho.2.1
  have g3 : x.f1 ≤ (n : Int) := ho.2.2
  have := size_sum hx
  exact ⟨g1, by omega, by omega, by omega, by omega⟩
set_option maxHeartbeats 8000000 in
set_option maxRecDepth 100000 in
theorem text_Over.calls (a0 : ByteArray) (A1 : Option Addr) (c1 : Nat) (l1 : List S34) (A2 : Option Addr) (c2 : Nat) (l2 : List S34) (r1 : List S34) (r2 : Int) (w : World) (hr1 : Kd.C k34 w A1 l1.length l1) (hc1 : l1.length ≤ c1) (hr2 : Kd.C k34 w A2 l2.length l2) (hc2 : l2.length ≤ c2) (h : text_Over.f a0 l1 l2 = some (r1, r2)) :
    Calls Tryd.prog 25 #[.string a0, .slice A1 l1.length c1, .slice A2 l2.length c2] w fun e w' => ∃ v0_ : Value, e = .returned (.tuple #[v0_, .int .i64 r2]) ∧ Kd.R k34 34 w' w.heap.size (fun _ => True) v0_ r1 ∧ Below w.heap.size w w' := by
  unfold text_Over.f at h
  by_cases hh : l1.length + l2.length ≤ 20000 ∧ sumS l1 + sumS l2 ≤ 100000000000
  · rw [if_pos hh] at h
    obtain ⟨hlen, hsum⟩ := hh
    have h' := Option.some.inj h
    clear h
    have H23 := Aside0.mk (text_Merge.calls a0 A1 c1 l1 A2 c2 l2 (mergeR a0.size l1 l2).1 (mergeR a0.size l1 l2).2 w hr1 hc1 hr2 hc2 (by unfold text_Merge.f; rw [if_pos hlen]))
    by_cases hz : (mergeR a0.size l1 l2).2 = 0
    · obtain ⟨f1, f2, f3, f4⟩ := merge_zero hz
      unfold overR at h'
      rw [if_neg (show ¬ ((mergeR a0.size l1 l2).2 ≠ 0) from fun q => q hz), f4] at h'
      rw [hz, f4] at H23
      have e1 : r1 = jnS (ovS l1 0 (Tx.ord eltS (l1 ++ l2))) := (congrArg Prod.fst h').symm
      have e2 : r2 = 0 := (congrArg Prod.snd h').symm
      clear h'
      subst e2
      have OK1 := Aside0.mk (fine_ok f1 (by omega)).2.2
      obtain ⟨g1, g2, g3⟩ := fine_ok f3 (by rw [sumS_app]; omega)
      have OKA : Aside0 (∀ x ∈ Tx.ord eltS (l1 ++ l2), okE x) := ⟨fun x hx => g3 x ((Tx.mem_ord eltS_lin).1 hx)⟩
      have CH := Aside0.mk (fine_chain a0.size (l1 ++ l2) f3).2.2
      have HLA := Aside0.mk (Nat.le_trans (Tx.ord_len (lt := eltS) (l1 ++ l2)) g2)
      have HSA : Aside0 (sumS (Tx.ord eltS (l1 ++ l2)) ≤ 100000000000) := ⟨Nat.le_trans (sumS_ord _) (by rw [sumS_app]; exact hsum)⟩
      have HN := Aside0.mk g1
      have HR := Aside0.mk e1
      have HC1 := Aside0.mk hr1
      have HL1 := Aside0.mk hc1
      have HLL : Aside0 (l1.length ≤ 20000) := ⟨by omega⟩
      clear e1 f1 f2 f3 f4 g1 g2 g3 hz hr1 hr2 hc1 hc2 hlen hsum
      generalize Tx.ord eltS (l1 ++ l2) = la at *
      go_enter Tryd.func25, Tryd.ntmps25
      have hmm := @run_makeMap Tryd.prog
      go_wp2_with (go_at_call 23; refine H23.out.mono ?_; rintro e w2 ⟨v, rfl, ho, hb⟩; obtain ⟨A3, c3, rfl⟩ := Kd.R_slice ho; have HO := Aside0.mk ho; have HB := Aside0.mk hb; clear ho hb H23)
      have own0 : (w2.alloc (.map #[] 0)).ownsMap Tryd.prog 34 (plainElem (H := Unit) Tryd.prog 4) w2.heap.size 0 (.map []) := World.ownsMap_made w2 Tryd.prog 34 _
      have OW0 := Aside0.mk own0
      have BW0 : Aside0 (Below w2.heap.size w2 (w2.alloc (.map #[] 0))) := ⟨(Below.refl _ w2).alloc (Nat.le_refl _) _⟩
      have HSW := Aside0.mk HB.out.size
      clear own0
      go_loopg [30] (l1.length + 1) (fun kq v30 wq => ∃ i : Nat, v30 = .int .i64 (i : Int) ∧ Aside0 (l1.length - i < kq ∧ i ≤ l1.length) ∧ Aside0 (wq.ownsMap Tryd.prog 34 (plainElem Tryd.prog 4) w2.heap.size i (mapOf (l1.take i))) ∧ Aside0 (Below w2.heap.size w2 wq))
      case atStart => exact ⟨0, rfl, ⟨by omega, by omega⟩, OW0, BW0⟩
      case round =>
        obtain ⟨i, rfl, HI, HM, HBe⟩ := hrel
        obtain ⟨k1, rfl⟩ : ∃ k1, gk = k1 + 1 := ⟨gk - 1, by have := HI.out.1; omega⟩
        by_cases hlt : i < l1.length
        · have hb : decide ((i : Int) < (l1.length : Int)) = true := by simp; omega
          have hb2 : decide ((0 : Int) ≤ (i : Int)) = true := by simp
          have p0 : (0 : Int) ≤ (i : Int) := by omega
          have q0 : (i : Int) < (l1.length : Int) := by omega
          obtain ⟨ad, e0, hx0, hx1, hx2⟩ := at_T34 (Kd.C_below HC1.out (HB.out.trans (HBe.out.mono HSW.out))) (i : Int) p0 q0
          cases e0
          rw [Int.toNat_natCast] at hx0 hx1 hx2
          rw [rd34_at l1 i hlt] at hx0 hx1 hx2
          have OKX := Aside0.mk (key_ok l1[i] (OK1.out l1[i] (List.getElem_mem hlt)))
          have HT : Aside0 (mapOf (l1.take (i + 1)) = (mapOf (l1.take i)).put (klE l1[i]) (.lit (.bool true))) := ⟨by rw [List.take_succ_eq_append_getElem hlt, mapOf_snoc]⟩
          generalize l1[i] = x at *
          have OKY : Aside0 (keyOf Tryd.prog 34 (.agg #[.int .i64 x.f0, .int .i64 x.f1, .string x.f2]) = some (klE x)) := OKX
          clear OKX
          go_wp2_with (at_mapUpdate; refine wpList_mapUpdate_own _ rfl _ _ _ 83 rfl 34 4 K34 Tryd.underlying83 _ w2.heap.size i _ rfl (HM.out.alloc _) (by have := HLL.out; unfold maxLen; omega) _ _ _ rfl rfl OKY.out _ [] (plainElem_bool Tryd.underlying4 true) ?_; intro w5 hown5 hgrow5; have HM5 : Aside0 (w5.ownsMap Tryd.prog 34 (plainElem Tryd.prog 4) w2.heap.size (i + 1) (mapOf (l1.take (i + 1)))) := ⟨by rw [HT.out]; exact hown5⟩; have HB5 : Aside0 (Below w2.heap.size w2 w5) := ⟨(HBe.out.alloc HBe.out.size _).grown hgrow5 (by have := HBe.out.size; simp; omega) (fun k e => by cases e; exact Nat.le_refl _)⟩; clear hown5 hgrow5)
          go_roundg k1
          case measure => have := HI.out.1; omega
          case rel => exact ⟨i + 1, congrArg (Value.int .i64) (nx i (by have := HLL.out; omega)), ⟨by have := HI.out.1; omega, by omega⟩, HM5, HB5⟩
        · have hb : decide ((i : Int) < (l1.length : Int)) = false := by simp; omega
          have hi : i = l1.length := by have := HI.out.2; omega
          subst hi
          have HM2 : Aside0 (wr.ownsMap Tryd.prog 34 (plainElem Tryd.prog 4) w2.heap.size l1.length (mapOf l1)) := ⟨by have := HM.out; rw [List.take_of_length_le (by omega)] at this; exact this⟩
          have HSM : Aside0 (w2.heap.size < wr.heap.size) := ⟨HM2.out.lt⟩
          clear HM
          go_wp2_with fail
          go_loopg [13, 14, 39] (la.length + 1) (fun kq v13 v14 v39 wq => ∃ (j : Nat) (p sh : Int) (outs : List S34), v14 = .int .i64 sh ∧ v39 = .int .i64 (j : Int) ∧ Aside0 (la.length - j < kq ∧ j ≤ la.length ∧ outs.length ≤ j ∧ 0 ≤ p ∧ -p ≤ sh) ∧ Aside0 (Tx.Ch (a0.size : Int) p ((la.drop j).map toE)) ∧ Aside0 (sh + (sumS (la.drop j) : Int) ≤ 100000000000) ∧ Aside0 (outs ++ ovS l1 sh (la.drop j) = ovS l1 0 la) ∧ Aside0 (Kd.R k34 34 wq (w2.heap.size + 1) (fun _ => True) v13 outs) ∧ Aside0 (wq.ownsMap Tryd.prog 34 (plainElem Tryd.prog 4) w2.heap.size l1.length (mapOf l1)) ∧ Aside0 (Below w2.heap.size w2 wq))
          case atStart => exact ⟨0, 0, 0, [], rfl, rfl, ⟨by omega, by omega, by simp, by omega, by omega⟩, CH, ⟨by have := HSA.out; rw [List.drop_zero]; omega⟩, ⟨rfl⟩, ⟨Kd.R_nil _ _ _ _ _⟩, HM2, HBe⟩
          case round =>
            obtain ⟨j, p, sh, outs, rfl, rfl, HJ, HCH, HSU, HEQ, HOU, HM, HBj⟩ := hrel
            obtain ⟨k2, rfl⟩ : ∃ k2, gk = k2 + 1 := ⟨gk - 1, by have := HJ.out.1; omega⟩
            by_cases hlt2 : j < la.length
            · have hb : decide ((j : Int) < (la.length : Int)) = true := by simp; omega
              have hb2 : decide ((0 : Int) ≤ (j : Int)) = true := by simp
              have p0 : (0 : Int) ≤ (j : Int) := by omega
              have q0 : (j : Int) < (la.length : Int) := by omega
              obtain ⟨ad, e0, hx0, hx1, hx2⟩ := at_T34 (Kd.C_below (Kd.R_reads' HO.out).2.2 HBj.out) (j : Int) p0 q0
              cases e0
              rw [Int.toNat_natCast] at hx0 hx1 hx2
              rw [rd34_at la j hlt2] at hx0 hx1 hx2
              have hok := OKA.out la[j] (List.getElem_mem hlt2)
              have OKX := Aside0.mk (key_ok la[j] hok)
              have HAT := Aside0.mk (at_mapOf l1 OK1.out la[j] hok)
              have HD := Aside0.mk (show la.drop j = la[j] :: la.drop (j + 1) from List.drop_eq_getElem_cons hlt2)
              generalize la[j] = x at *
              have OKY : Aside0 (keyOf Tryd.prog 34 (.agg #[.int .i64 x.f0, .int .i64 x.f1, .string x.f2]) = some (klE x)) := OKX
              have hc := HCH.out
              rw [HD.out] at hc
              obtain ⟨hc1, hc2, hc3⟩ := hc
              replace hc1 : p ≤ x.f0 := hc1
              replace hc2 : x.f0 ≤ x.f1 := hc2
              have hc4 : x.f1 ≤ (a0.size : Int) := Tx.ch_le hc3
              have HC3 : Aside0 (Tx.Ch (a0.size : Int) x.f1 ((la.drop (j + 1)).map toE)) := ⟨hc3⟩
              have hsu := HSU.out
              rw [HD.out, sumS_cons] at hsu
              have hn := HN.out
              obtain ⟨-, -, hj3, hj4, hj5⟩ := HJ.out
              have w1 : IntKind.i64.wrap (x.f0 + sh) = x.f0 + sh := (i64_w _).trans (w64 (by omega) (by omega))
              have w2' : IntKind.i64.wrap (x.f1 + sh) = x.f1 + sh := (i64_w _).trans (w64 (by omega) (by omega))
              have w3 : IntKind.i64.wrap (x.f1 - x.f0) = x.f1 - x.f0 := (i64_w _).trans (w64 (by omega) (by omega))
              have w4 : IntKind.i64.wrap ((x.f2.size : Int) - (x.f1 - x.f0)) = (x.f2.size : Int) - (x.f1 - x.f0) := (i64_w _).trans (w64 (by omega) (by omega))
              have w5 : IntKind.i64.wrap (sh + ((x.f2.size : Int) - (x.f1 - x.f0))) = sh + ((x.f2.size : Int) - (x.f1 - x.f0)) := (i64_w _).trans (w64 (by omega) (by omega))
              have v1 : wrap64 (x.f0 + sh) = x.f0 + sh := w64 (by omega) (by omega)
              have v2 : wrap64 (x.f1 + sh) = x.f1 + sh := w64 (by omega) (by omega)
              have v3 : wrap64 (x.f1 - x.f0) = x.f1 - x.f0 := w64 (by omega) (by omega)
              have v4 : wrap64 ((x.f2.size : Int) - (x.f1 - x.f0)) = (x.f2.size : Int) - (x.f1 - x.f0) := w64 (by omega) (by omega)
              have v5 : wrap64 (sh + ((x.f2.size : Int) - (x.f1 - x.f0))) = sh + ((x.f2.size : Int) - (x.f1 - x.f0)) := w64 (by omega) (by omega)
              have HF : Aside0 (0 ≤ x.f1 ∧ -x.f1 ≤ sh ∧ -x.f1 ≤ sh + ((x.f2.size : Int) - (x.f1 - x.f0))) := ⟨by omega⟩
              have HSX := Aside0.mk hsu
              have heq := HEQ.out
              rw [HD.out] at heq
              clear hc3 hsu hj3 hj4 hj5 OKX hok
              by_cases hmem : x ∈ l1
              · have HA2 : Aside0 ((mapOf l1).atKey (klE x) (.lit (.bool false)) = .lit (.bool true)) := ⟨by rw [HAT.out, decide_eq_true hmem]⟩
                have HQ : Aside0 (outs ++ ovS l1 (sh + ((x.f2.size : Int) - (x.f1 - x.f0))) (la.drop (j + 1)) = ovS l1 0 la) := ⟨by
                  have e : ovS l1 sh (x :: la.drop (j + 1)) = if x ∈ l1 then ovS l1 (sh + ((x.f2.size : Int) - (x.f1 - x.f0))) (la.drop (j + 1)) else ⟨x.f0 + sh, x.f1 + sh, x.f2⟩ :: ovS l1 sh (la.drop (j + 1)) := rfl
                  rw [e, if_pos hmem] at heq
                  exact heq⟩
                clear heq HAT
                go_wp2_with (at_lookup; refine wpList_lookup_bool _ rfl _ _ 83 rfl 34 4 K34 Tryd.underlying83 Tryd.underlying4 (Tryd.zeroValue4 _) w2.heap.size l1.length (mapOf l1) rfl (HM.out.alloc _) _ (klE x) rfl OKY.out true HA2.out ?_)
                go_roundg k2
                case measure => have := HJ.out.1; omega
                case rel => exact ⟨j + 1, x.f1, sh + ((x.f2.size : Int) - (x.f1 - x.f0)), outs, rfl, congrArg (Value.int .i64) (nx j (by have := HLA.out; omega)), ⟨by have := HJ.out.1; omega, by omega, by have := HJ.out.2.2.1; omega, HF.out.1, HF.out.2.2⟩, HC3, ⟨by have := HSX.out; omega⟩, HQ, ⟨Kd.R_alloc HOU.out _⟩, ⟨HM.out.alloc _⟩, ⟨HBj.out.alloc HBj.out.size _⟩⟩
              · have HA2 : Aside0 ((mapOf l1).atKey (klE x) (.lit (.bool false)) = .lit (.bool false)) := ⟨by rw [HAT.out, decide_eq_false hmem]⟩
                have HQ : Aside0 ((outs ++ [(⟨x.f0 + sh, x.f1 + sh, x.f2⟩ : S34)]) ++ ovS l1 sh (la.drop (j + 1)) = ovS l1 0 la) := ⟨by
                  have e : ovS l1 sh (x :: la.drop (j + 1)) = if x ∈ l1 then ovS l1 (sh + ((x.f2.size : Int) - (x.f1 - x.f0))) (la.drop (j + 1)) else ⟨x.f0 + sh, x.f1 + sh, x.f2⟩ :: ovS l1 sh (la.drop (j + 1)) := rfl
                  rw [e, if_neg hmem] at heq
                  rw [List.append_assoc, List.singleton_append]
                  exact heq⟩
                clear heq HAT
                have hsz2 : w2.heap.size + 1 ≤ wr.heap.size := HM.out.lt
                obtain ⟨innr, hrow⟩ := Kd.R_own HOU.out
                have HNE : Aside0 (∀ k, Value.ownBlock u13 = some k → w2.heap.size + 1 ≤ k) := ⟨fun k hk => (hrow.lt k hk).1⟩
                clear hrow
                go_wp2_with (first
                  | (at_lookup; refine wpList_lookup_bool _ rfl _ _ 83 rfl 34 4 K34 Tryd.underlying83 Tryd.underlying4 (Tryd.zeroValue4 _) w2.heap.size l1.length (mapOf l1) rfl (HM.out.alloc _) _ (klE x) rfl OKY.out false HA2.out ?_)
                  | (at_builtin; refine Kd.R_append k34 (w2.heap.size + 1) rfl (.tmp 57) (.tmp 69) 22 34 (.agg #[(.int .i64 0), (.int .i64 0), (.string ⟨#[]⟩)]) 32 rfl Tryd.underlying22 info34 rfl (by decide) (by omega) _ outs (⟨x.f0 + sh, x.f1 + sh, x.f2⟩ : S34) [.int .i64 (x.f0 + sh), .int .i64 (x.f1 + sh), .string x.f2] (fun _ => True) (fun _ => False) rfl (by first | rfl | (simp; done) | (go_simp; done)) (k34_mkM _ _ _ (⟨x.f0 + sh, x.f1 + sh, x.f2⟩ : S34)) (fun _ hk => hk.elim) (fun _ _ => trivial) (Kd.R_alloc HOU.out _) (Below.refl _ _) (by simp; omega) (by have := HJ.out.2.2.1; have := HLA.out; omega) ?_; intro v5' w5' ho5 hb5 hg5 hat5; have HO5 := Aside0.mk ho5; have HM5 : Aside0 (w5'.ownsMap Tryd.prog 34 (plainElem Tryd.prog 4) w2.heap.size l1.length (mapOf l1)) := ⟨(HM.out.alloc _).kept hg5 (fun e => by have := HNE.out _ e.symm; omega)⟩; have HB5 : Aside0 (Below w2.heap.size w2 w5') := ⟨(HBj.out.alloc HBj.out.size _).trans (hb5.mono (by omega))⟩; clear ho5 hb5 hg5 hat5))
                go_roundg k2
                case measure => have := HJ.out.1; omega
                case rel => exact ⟨j + 1, x.f1, sh, outs ++ [(⟨x.f0 + sh, x.f1 + sh, x.f2⟩ : S34)], rfl, congrArg (Value.int .i64) (nx j (by have := HLA.out; omega)), ⟨by have := HJ.out.1; omega, by omega, by have := HJ.out.2.2.1; rw [List.length_append, List.length_singleton]; omega, HF.out.1, HF.out.2.1⟩, HC3, ⟨by have := HSX.out; omega⟩, HQ, HO5, HM5, HB5⟩
            · have hb : decide ((j : Int) < (la.length : Int)) = false := by simp; omega
              have hd : la.drop j = [] := List.drop_of_length_le (by omega)
              have heq := HEQ.out
              rw [hd] at heq
              have heq2 : outs = ovS l1 0 la := by rw [← heq]; simp [ovS]
              have HOV := Aside0.mk heq2
              clear heq heq2 hd
              obtain ⟨A5, c5, rfl⟩ := Kd.R_slice HOU.out
              have hR5 := Kd.R_reads' HOU.out
              have hjl : outs.length ≤ 20000 := by have := HJ.out; have := HLA.out; omega
              have hjs : sumS outs ≤ 1000000000000000 := by
                rw [HOV.out]
                exact Nat.le_trans (ovS_sum l1 la 0) (by have := HSA.out; omega)
              have H41 := Aside0.mk (text_joined.calls (outs.length + 1) A5 c5 outs (jnS outs) wr hR5.2.2 hR5.2.1 (tjoined_f outs (by omega) hjs (outs.length + 1) (Nat.le_refl _)))
              have HRR : Aside0 (r1 = jnS outs) := ⟨by rw [HR.out, HOV.out]⟩
              clear hR5 hjl hjs
              go_wp2_with (go_at_call 41; refine H41.out.mono ?_; rintro e w5 ⟨v5, rfl, ho, hb⟩; have HO5 := Aside0.mk ho; have HB5 := Aside0.mk hb; clear ho hb H41)
              go_ret2
              have hs5 : w.heap.size ≤ wr.heap.size := by have := HSW.out; have := HBj.out.size; omega
              exact ⟨_, rfl, by rw [HRR.out]; exact Kd.R_lower HO5.out hs5, (HB.out.trans (HBj.out.mono HSW.out)).trans (HB5.out.mono hs5)⟩
    · unfold overR at h'
      rw [if_pos (show (mergeR a0.size l1 l2).2 ≠ 0 from hz)] at h'
      have e1 : r1 = [] := (congrArg Prod.fst h').symm
      have e2 : r2 = (mergeR a0.size l1 l2).2 := (congrArg Prod.snd h').symm
      clear h'
      have b1 : ((mergeR a0.size l1 l2).2 != 0) = true := by simpa using hz
      have b2 : ((mergeR a0.size l1 l2).2 == 0) = false := by simpa using hz
      clear hz
      generalize (mergeR a0.size l1 l2).2 = fe at *
      generalize (mergeR a0.size l1 l2).1 = le at *
      subst e1 e2
      go_enter Tryd.func25, Tryd.ntmps25
      go_wp2_with (go_at_call 23; refine H23.out.mono ?_; rintro e w2 ⟨v, rfl, ho, hb⟩; have HB := Aside0.mk hb; clear ho hb H23)
      go_ret2
      exact ⟨_, rfl, Kd.R_nil _ _ _ _ _, HB.out⟩
  · rw [if_neg hh] at h; cases h
end Go.Proofs.YthimblhfjfngiaaDoor.PText

namespace Go.Proofs.YthimblhfjfngiaaDoor.PText
open Go.RowKit Go.Proofs.YthimblhfjfngiaaDoorW.PrintWords Go.Proofs.YthimblhfjfngiaaDoorW.PrintLast Go.Proofs.YthimblhfjfngiaaDoorW.PrintMore
attribute [local go_sem] max2_int min2_int max_two min_two max_three min_three max_four min_four   -- for this text's walks alone
set_option linter.unusedVariables false
set_option linter.unusedSimpArgs false

mutual
def smockinglaw01_TextMerges.j0 : Nat → ByteArray → List (S34) → List (S34) → Bool → Option (Bool)
 | 0, _, _, _, _ => none
 | k + 1, x0, x1, x2, x28 => if x28 = true then (some true) else ((text_Merge.f x0 x1 x2).bind fun bt519 => ((smockingref01_Merge.f k x0 x1 x2).bind fun bt523 => (if bt519.2 = bt523.2 then ((rf0_EqEdits.f k bt519.1 bt523.1).bind fun t527 => (smockinglaw01_TextMerges.j1 k x0 x1 x2 (!t527))) else (smockinglaw01_TextMerges.j1 k x0 x1 x2 true))))
def smockinglaw01_TextMerges.j1 : Nat → ByteArray → List (S34) → List (S34) → Bool → Option (Bool)
 | 0, _, _, _, _ => none
 | k + 1, x0, x1, x2, x51 => if x51 = true then (some false) else ((text_Over.f x0 x1 x2).bind fun bt528 => ((smockingref01_Over.f k x0 x1 x2).bind fun bt532 => (if bt528.2 = bt532.2 then ((rf0_EqEdits.f k bt528.1 bt532.1).bind fun t536 => (if t536 = true then ((smockinglaw01_awake.f).bind fun t537 => (some t537)) else (some false))) else (some false))))
end
def smockinglaw01_TextMerges.f (k : Nat) (a0 : ByteArray) (l1 : List (S34)) (l2 : List (S34)) : Option (Bool) := (smockinglaw01_heavy.f k a0 l1).bind fun t517 => (if t517 = true then (smockinglaw01_TextMerges.j0 k a0 l1 l2 true) else ((smockinglaw01_heavy.f k a0 l2).bind fun t518 => (if t518 = true then (smockinglaw01_TextMerges.j0 k a0 l1 l2 true) else (if (l1.length : Int) > 40 then (smockinglaw01_TextMerges.j0 k a0 l1 l2 true) else (smockinglaw01_TextMerges.j0 k a0 l1 l2 (decide ((l2.length : Int) > 40)))))))
set_option maxHeartbeats 8000000 in
set_option maxRecDepth 100000 in
theorem smockinglaw01_TextMerges.calls (k : Nat) (a0 : ByteArray) (A1 : Option Addr) (c1 : Nat) (l1 : List (S34)) (A2 : Option Addr) (c2 : Nat) (l2 : List (S34)) (r : Bool) (w : World) (hr1 : Kd.C k34 w A1 l1.length l1) (hc1 : l1.length ≤ c1) (hr2 : Kd.C k34 w A2 l2.length l2) (hc2 : l2.length ≤ c2) (h : smockinglaw01_TextMerges.f k a0 l1 l2 = some r) :
  Calls Tryd.prog 6 #[.string a0, .slice A1 l1.length c1, .slice A2 l2.length c2] w fun e w' => e = .returned (.bool r) ∧ Below w.heap.size w w' := by
 have HR1 := Aside0.mk hr1
 have HC1 := Aside0.mk hc1
 clear hr1 hc1
 have HR2 := Aside0.mk hr2
 have HC2 := Aside0.mk hc2
 clear hr2 hc2
 have HB := Aside0.mk (Below.refl w.heap.size w)
 have H : ((smockinglaw01_heavy.f k a0 l1).bind fun t517 => (if t517 = true then (smockinglaw01_TextMerges.j0 k a0 l1 l2 true) else ((smockinglaw01_heavy.f k a0 l2).bind fun t518 => (if t518 = true then (smockinglaw01_TextMerges.j0 k a0 l1 l2 true) else (if (l1.length : Int) > 40 then (smockinglaw01_TextMerges.j0 k a0 l1 l2 true) else (smockinglaw01_TextMerges.j0 k a0 l1 l2 (decide ((l2.length : Int) > 40)))))))) = some r := h
 clear h
 have HC4 := Aside0.mk H
 clear H
 go_enter Tryd.func6, Tryd.ntmps6
 go_upto_region 1 with (fail)
 go_cut [28] (fun v28 wc => ∃ (kq : Nat) (x28_3 : Bool), v28 = .bool x28_3 ∧ Aside0 (smockinglaw01_TextMerges.j0 kq a0 l1 l2 x28_3 = some r) ∧ Aside0 (kq ≤ k) ∧ Aside0 (Below w.heap.size w wc))
 case first =>
  have H := HC4.out
  clear HC4
  replace H := Option.bind_eq_some_iff.mp H
  obtain ⟨t517, A50, H⟩ := H
  replace H : (if t517 = true then (smockinglaw01_TextMerges.j0 k a0 l1 l2 true) else ((smockinglaw01_heavy.f k a0 l2).bind fun t518 => (if t518 = true then (smockinglaw01_TextMerges.j0 k a0 l1 l2 true) else (if (l1.length : Int) > 40 then (smockinglaw01_TextMerges.j0 k a0 l1 l2 true) else (smockinglaw01_TextMerges.j0 k a0 l1 l2 (decide ((l2.length : Int) > 40))))))) = some r := H
  have A5 := Aside0.mk A50
  clear A50
  by_cases c6 : t517 = true
  ·subst c6
   have H1 : (smockinglaw01_TextMerges.j0 k a0 l1 l2 true) = some r := by rw [if_pos rfl] at H; exact H
   clear H
   have H := H1
   clear H1
   have H' := Aside0.mk H
   clear H
   go_wp2_with (first | ((with_reducible refine gate_callee (f := 9) rfl ?_); refine goesL_ (some 13) rfl rfl Tryd.func9 (by kernel_rfl) rfl #[.string a0, .slice A1 l1.length c1] rfl (by (try simp only [List.map_toArray, List.map_cons, List.map_nil]); first | done | rfl | (simp only [List.length_drop, List.length_take]; rfl)) ?_; (with_reducible refine (smockinglaw01_heavy.calls k a0 _ _ l1 true _ ?side1 ?side2 A5.out).mono ?_); (case side1 => repeat (first | exact (Kd.C_below HR1.out HB.out) | (with_reducible refine Kd.C_alloc ?_ _) | (with_reducible refine Kd.C_drewN ?_ _) | (with_reducible refine Kd.C_drew ?_))); (case side2 => exact HC1.out); rintro e w' ⟨rfl, ⟨nd, rfl⟩⟩; refine ⟨_, rfl, ?_⟩))
   go_meet
   case rel => exact ⟨_, (true), (by first | rfl | (simp; done) | (simp [*]; done)), H', ⟨by first | omega | exact Nat.le_refl _⟩, ⟨by repeat (first | (with_reducible first | exact HB.out | apply below_alloc | apply pw_below_drewN | apply below_drew1) | exact HB.out)⟩⟩
  ·replace c6 := Bool.eq_false_iff.mpr c6
   subst c6
   have H1 : ((smockinglaw01_heavy.f k a0 l2).bind fun t518 => (if t518 = true then (smockinglaw01_TextMerges.j0 k a0 l1 l2 true) else (if (l1.length : Int) > 40 then (smockinglaw01_TextMerges.j0 k a0 l1 l2 true) else (smockinglaw01_TextMerges.j0 k a0 l1 l2 (decide ((l2.length : Int) > 40)))))) = some r := by rw [if_neg (show ¬ (false = true) by decide)] at H; exact H
   clear H
   have H := H1
   clear H1
   replace H := Option.bind_eq_some_iff.mp H
   obtain ⟨t518, A70, H⟩ := H
   replace H : (if t518 = true then (smockinglaw01_TextMerges.j0 k a0 l1 l2 true) else (if (l1.length : Int) > 40 then (smockinglaw01_TextMerges.j0 k a0 l1 l2 true) else (smockinglaw01_TextMerges.j0 k a0 l1 l2 (decide ((l2.length : Int) > 40))))) = some r := H
   have A7 := Aside0.mk A70
   clear A70
   by_cases c8 : t518 = true
   ·subst c8
    have H1 : (smockinglaw01_TextMerges.j0 k a0 l1 l2 true) = some r := by rw [if_pos rfl] at H; exact H
    clear H
    have H := H1
    clear H1
    have H' := Aside0.mk H
    clear H
    go_wp2_with (first | ((with_reducible refine gate_callee (f := 9) rfl ?_); refine goesL_ (some 13) rfl rfl Tryd.func9 (by kernel_rfl) rfl #[.string a0, .slice A1 l1.length c1] rfl (by (try simp only [List.map_toArray, List.map_cons, List.map_nil]); first | done | rfl | (simp only [List.length_drop, List.length_take]; rfl)) ?_; (with_reducible refine (smockinglaw01_heavy.calls k a0 _ _ l1 false _ ?side1 ?side2 A5.out).mono ?_); (case side1 => repeat (first | exact (Kd.C_below HR1.out HB.out) | (with_reducible refine Kd.C_alloc ?_ _) | (with_reducible refine Kd.C_drewN ?_ _) | (with_reducible refine Kd.C_drew ?_))); (case side2 => exact HC1.out); rintro e w' ⟨rfl, ⟨nd, rfl⟩⟩; refine ⟨_, rfl, ?_⟩) | (go_at_call 9; (with_reducible refine (smockinglaw01_heavy.calls k a0 _ _ l2 true _ ?side1 ?side2 A7.out).mono ?_); (case side1 => repeat (first | exact (Kd.C_below HR2.out (by repeat (first | (with_reducible first | exact HB.out | apply below_alloc | apply pw_below_drewN | apply below_drew1) | exact HB.out))) | (with_reducible refine Kd.C_alloc ?_ _) | (with_reducible refine Kd.C_drewN ?_ _) | (with_reducible refine Kd.C_drew ?_))); (case side2 => exact HC2.out); rintro e w' ⟨rfl, ⟨nd, rfl⟩⟩))
    go_meet
    case rel => exact ⟨_, (true), (by first | rfl | (simp; done) | (simp [*]; done)), H', ⟨by first | omega | exact Nat.le_refl _⟩, ⟨by repeat (first | (with_reducible first | exact HB.out | apply below_alloc | apply pw_below_drewN | apply below_drew1) | exact HB.out)⟩⟩
   ·replace c8 := Bool.eq_false_iff.mpr c8
    subst c8
    have H1 : (if (l1.length : Int) > 40 then (smockinglaw01_TextMerges.j0 k a0 l1 l2 true) else (smockinglaw01_TextMerges.j0 k a0 l1 l2 (decide ((l2.length : Int) > 40)))) = some r := by rw [if_neg (show ¬ (false = true) by decide)] at H; exact H
    clear H
    have H := H1
    clear H1
    by_cases c9 : (l1.length : Int) > 40
    ·rw [if_pos c9] at H
     have c9b0 : decide (40 < (l1.length : Int)) = true := decide_eq_true c9
     have c9b1 : decide (40 < l1.length) = true := decide_eq_true (by omega)
     clear c9
     (first | rw [c9b0] | (simp only [i64_w, i32_w]; rw [c9b0]) | skip)
     have H' := Aside0.mk H
     clear H
     go_wp2_with (first | ((with_reducible refine gate_callee (f := 9) rfl ?_); refine goesL_ (some 13) rfl rfl Tryd.func9 (by kernel_rfl) rfl #[.string a0, .slice A1 l1.length c1] rfl (by (try simp only [List.map_toArray, List.map_cons, List.map_nil]); first | done | rfl | (simp only [List.length_drop, List.length_take]; rfl)) ?_; (with_reducible refine (smockinglaw01_heavy.calls k a0 _ _ l1 false _ ?side1 ?side2 A5.out).mono ?_); (case side1 => repeat (first | exact (Kd.C_below HR1.out HB.out) | (with_reducible refine Kd.C_alloc ?_ _) | (with_reducible refine Kd.C_drewN ?_ _) | (with_reducible refine Kd.C_drew ?_))); (case side2 => exact HC1.out); rintro e w' ⟨rfl, ⟨nd, rfl⟩⟩; refine ⟨_, rfl, ?_⟩) | (go_at_call 9; (with_reducible refine (smockinglaw01_heavy.calls k a0 _ _ l2 false _ ?side1 ?side2 A7.out).mono ?_); (case side1 => repeat (first | exact (Kd.C_below HR2.out (by repeat (first | (with_reducible first | exact HB.out | apply below_alloc | apply pw_below_drewN | apply below_drew1) | exact HB.out))) | (with_reducible refine Kd.C_alloc ?_ _) | (with_reducible refine Kd.C_drewN ?_ _) | (with_reducible refine Kd.C_drew ?_))); (case side2 => exact HC2.out); rintro e w' ⟨rfl, ⟨nd, rfl⟩⟩))
     go_meet
     case rel => exact ⟨_, (true), (by first | rfl | (simp; done) | (simp [*]; done)), H', ⟨by first | omega | exact Nat.le_refl _⟩, ⟨by repeat (first | (with_reducible first | exact HB.out | apply below_alloc | apply pw_below_drewN | apply below_drew1) | exact HB.out)⟩⟩
    ·rw [if_neg c9] at H
     have c9b0 : decide (40 < (l1.length : Int)) = false := decide_eq_false c9
     have c9b1 : decide (40 < l1.length) = false := decide_eq_false (by omega)
     clear c9
     (first | rw [c9b0] | (simp only [i64_w, i32_w]; rw [c9b0]) | skip)
     have H' := Aside0.mk H
     clear H
     go_wp2_with (first | ((with_reducible refine gate_callee (f := 9) rfl ?_); refine goesL_ (some 13) rfl rfl Tryd.func9 (by kernel_rfl) rfl #[.string a0, .slice A1 l1.length c1] rfl (by (try simp only [List.map_toArray, List.map_cons, List.map_nil]); first | done | rfl | (simp only [List.length_drop, List.length_take]; rfl)) ?_; (with_reducible refine (smockinglaw01_heavy.calls k a0 _ _ l1 false _ ?side1 ?side2 A5.out).mono ?_); (case side1 => repeat (first | exact (Kd.C_below HR1.out HB.out) | (with_reducible refine Kd.C_alloc ?_ _) | (with_reducible refine Kd.C_drewN ?_ _) | (with_reducible refine Kd.C_drew ?_))); (case side2 => exact HC1.out); rintro e w' ⟨rfl, ⟨nd, rfl⟩⟩; refine ⟨_, rfl, ?_⟩) | (go_at_call 9; (with_reducible refine (smockinglaw01_heavy.calls k a0 _ _ l2 false _ ?side1 ?side2 A7.out).mono ?_); (case side1 => repeat (first | exact (Kd.C_below HR2.out (by repeat (first | (with_reducible first | exact HB.out | apply below_alloc | apply pw_below_drewN | apply below_drew1) | exact HB.out))) | (with_reducible refine Kd.C_alloc ?_ _) | (with_reducible refine Kd.C_drewN ?_ _) | (with_reducible refine Kd.C_drew ?_))); (case side2 => exact HC2.out); rintro e w' ⟨rfl, ⟨nd, rfl⟩⟩))
     go_meet
     case rel => exact ⟨_, (decide ((l2.length : Int) > 40)), (by first | rfl | (simp; done) | (simp [*]; done)), H', ⟨by first | omega | exact Nat.le_refl _⟩, ⟨by repeat (first | (with_reducible first | exact HB.out | apply below_alloc | apply pw_below_drewN | apply below_drew1) | exact HB.out)⟩⟩
 case rest =>
  clear HC4
  try clear c1
  try clear c2
  try clear p2
  try clear c6
  try clear c8
  try clear c9
  try clear c9b0
  try clear c9b1
  obtain ⟨kq, x28_3, rfl, HA, HJ3, HB⟩ := hcut
  cases kq with
  | zero => exact absurd HA.out (by simp [smockinglaw01_TextMerges.j0])
  | succ kj3 =>
   have H := HA.out
   clear HA
   simp only [smockinglaw01_TextMerges.j0] at H
   by_cases c10 : x28_3 = true
   ·subst c10
    have H1 : (some true) = some r := by rw [if_pos rfl] at H; exact H
    clear H
    have H := H1
    clear H1
    obtain rfl := Option.some.inj H
    go_wp2
    go_ret
    exact ⟨by first | rfl | (simp [errW_none, errW_some] <;> rfl) | (simp [*, errW_none, errW_some] <;> rfl), by repeat (first | (with_reducible first | exact HB.out | apply below_alloc | apply pw_below_drewN | apply below_drew1) | exact HB.out)⟩
   ·replace c10 := Bool.eq_false_iff.mpr c10
    subst c10
    have H1 : ((text_Merge.f a0 l1 l2).bind fun bt519 => ((smockingref01_Merge.f kj3 a0 l1 l2).bind fun bt523 => (if bt519.2 = bt523.2 then ((rf0_EqEdits.f kj3 bt519.1 bt523.1).bind fun t527 => (smockinglaw01_TextMerges.j1 kj3 a0 l1 l2 (!t527))) else (smockinglaw01_TextMerges.j1 kj3 a0 l1 l2 true)))) = some r := by rw [if_neg (show ¬ (false = true) by decide)] at H; exact H
    clear H
    have H := H1
    clear H1
    replace H := Option.bind_eq_some_iff.mp H
    obtain ⟨⟨t519, t520⟩, A110, H⟩ := H
    replace H : ((smockingref01_Merge.f kj3 a0 l1 l2).bind fun bt523 => (if t520 = bt523.2 then ((rf0_EqEdits.f kj3 t519 bt523.1).bind fun t527 => (smockinglaw01_TextMerges.j1 kj3 a0 l1 l2 (!t527))) else (smockinglaw01_TextMerges.j1 kj3 a0 l1 l2 true))) = some r := H
    have A11 := Aside0.mk A110
    clear A110
    replace H := Option.bind_eq_some_iff.mp H
    obtain ⟨⟨t523, t524⟩, A120, H⟩ := H
    replace H : (if t520 = t524 then ((rf0_EqEdits.f kj3 t519 t523).bind fun t527 => (smockinglaw01_TextMerges.j1 kj3 a0 l1 l2 (!t527))) else (smockinglaw01_TextMerges.j1 kj3 a0 l1 l2 true)) = some r := H
    have A12 := Aside0.mk A120
    clear A120
    have HC13 := Aside0.mk H
    clear H
    go_upto_region 5 with (first | ((with_reducible refine gate_callee (f := 23) rfl ?_); refine goesL_ (some 33) rfl rfl Tryd.func23 (by kernel_rfl) rfl #[.string a0, .slice A1 l1.length c1, .slice A2 l2.length c2] rfl (by (try simp only [List.map_toArray, List.map_cons, List.map_nil]); first | done | rfl | (simp only [List.length_drop, List.length_take]; rfl)) ?_; (with_reducible refine (text_Merge.calls a0 _ _ l1 _ _ l2 t519 t520 _ ?side1 ?side2 ?side3 ?side4 A11.out).mono ?_); (case side1 => repeat (first | exact (Kd.C_below HR1.out HB.out) | (with_reducible refine Kd.C_alloc ?_ _) | (with_reducible refine Kd.C_drewN ?_ _) | (with_reducible refine Kd.C_drew ?_))); (case side2 => exact HC1.out); (case side3 => repeat (first | exact (Kd.C_below HR2.out HB.out) | (with_reducible refine Kd.C_alloc ?_ _) | (with_reducible refine Kd.C_drewN ?_ _) | (with_reducible refine Kd.C_drew ?_))); (case side4 => exact HC2.out); rintro e w14 ⟨v521, rfl, ho0, hb⟩; refine ⟨_, rfl, ?_⟩; have n0_ := Aside0.mk (Kd.R_lower ho0 (below_size (by repeat (first | (with_reducible first | exact HB.out | apply below_alloc | apply pw_below_drewN | apply below_drew1) | exact HB.out)))); have n1_ := Aside0.mk (below_step (by repeat (first | (with_reducible first | exact HB.out | apply below_alloc | apply pw_below_drewN | apply below_drew1) | exact HB.out)) hb); clear HB; have HO522 := n0_; have HB := n1_; clear n0_ n1_; (try clear hb); (try clear hb2); (try clear hk); (try clear hi); (try clear ho0)) | ((with_reducible refine gate_callee (f := 24) rfl ?_); refine goesL_ (some 40) rfl rfl Tryd.func24 (by kernel_rfl) rfl #[.string a0, .slice A1 l1.length c1, .slice A2 l2.length c2] rfl (by (try simp only [List.map_toArray, List.map_cons, List.map_nil]); first | done | rfl | (simp only [List.length_drop, List.length_take]; rfl)) ?_; (with_reducible refine (smockingref01_Merge.calls kj3 a0 _ _ l1 _ _ l2 t523 t524 _ ?side1 ?side2 ?side3 ?side4 A12.out).mono ?_); (case side1 => repeat (first | exact (Kd.C_below HR1.out HB.out) | (with_reducible refine Kd.C_alloc ?_ _) | (with_reducible refine Kd.C_drewN ?_ _) | (with_reducible refine Kd.C_drew ?_))); (case side2 => exact HC1.out); (case side3 => repeat (first | exact (Kd.C_below HR2.out HB.out) | (with_reducible refine Kd.C_alloc ?_ _) | (with_reducible refine Kd.C_drewN ?_ _) | (with_reducible refine Kd.C_drew ?_))); (case side4 => exact HC2.out); rintro e w15 ⟨v525, rfl, ho0, hb⟩; refine ⟨_, rfl, ?_⟩; have n0_ := Aside0.mk (Kd.R_elder' (by (with_reducible repeat (first | apply Kd.R_alloc | apply Kd.R_drewN | apply Kd.R_drew)); exact HO522.out) (Kd.R_base ho0) hb); have n1_ := Aside0.mk (Kd.R_lower (Kd.R_new' ho0 (Kd.R_lt (by (with_reducible repeat (first | apply Kd.R_alloc | apply Kd.R_drewN | apply Kd.R_drew)); exact HO522.out))) (below_size (by repeat (first | (with_reducible first | exact HB.out | apply below_alloc | apply pw_below_drewN | apply below_drew1) | exact HB.out)))); have n2_ := Aside0.mk (below_step (by repeat (first | (with_reducible first | exact HB.out | apply below_alloc | apply pw_below_drewN | apply below_drew1) | exact HB.out)) hb); clear HO522; clear HB; have HO522 := n0_; have HO526 := n1_; have HB := n2_; clear n0_ n1_ n2_; (try clear hb); (try clear hb2); (try clear hk); (try clear hi); (try clear ho0)))
    (try simp only [Act.put, q1_, q2_, q3_])
    go_cut [51] (fun v51 wc => ∃ (kq : Nat) (x51_12 : Bool), v51 = .bool x51_12 ∧ Aside0 (smockinglaw01_TextMerges.j1 kq a0 l1 l2 x51_12 = some r) ∧ Aside0 (kq ≤ kj3) ∧ Aside0 (Below w.heap.size w wc))
    case first =>
     have H := HC13.out
     clear HC13
     by_cases c16 : t520 = t524
     ·rw [if_pos c16] at H
      have c16b0 : (t520 == t524) = true := beq_iff_eq.mpr c16
      have c16b1 : (t520 != t524) = false := bne_eq_false_iff_eq.mpr c16
      clear c16
      (first | rw [c16b0] | (simp only [i64_w, i32_w]; rw [c16b0]) | skip)
      replace H := Option.bind_eq_some_iff.mp H
      obtain ⟨t527, A170, H⟩ := H
      replace H : (smockinglaw01_TextMerges.j1 kj3 a0 l1 l2 (!t527)) = some r := H
      have A17 := Aside0.mk A170
      clear A170
      have H' := Aside0.mk H
      clear H
      obtain ⟨Ao18, co18, eo18⟩ := Kd.R_slice HO522.out
      subst eo18
      obtain ⟨Ao19, co19, eo19⟩ := Kd.R_slice HO526.out
      subst eo19
      go_wp2_with (first | (go_at_call 16; (with_reducible refine (rf0_EqEdits.calls kj3 _ _ t519 _ _ t523 t527 _ ?side1 ?side2 ?side3 ?side4 A17.out).mono ?_); (case side1 => repeat (first | exact (Kd.R_reads' HO522.out).2.2 | (with_reducible refine Kd.C_alloc ?_ _) | (with_reducible refine Kd.C_drewN ?_ _) | (with_reducible refine Kd.C_drew ?_))); (case side2 => exact (Kd.R_reads' HO522.out).2.1); (case side3 => repeat (first | exact (Kd.R_reads' HO526.out).2.2 | (with_reducible refine Kd.C_alloc ?_ _) | (with_reducible refine Kd.C_drewN ?_ _) | (with_reducible refine Kd.C_drew ?_))); (case side4 => exact (Kd.R_reads' HO526.out).2.1); rintro e w' ⟨rfl, ⟨nd, rfl⟩⟩))
      go_meet
      case rel => exact ⟨_, (!t527), (by first | rfl | (simp; done) | (simp [*]; done)), H', ⟨by have := HJ3.out; first | omega | exact Nat.le_refl _⟩, ⟨by repeat (first | (with_reducible first | exact HB.out | apply below_alloc | apply pw_below_drewN | apply below_drew1) | exact HB.out)⟩⟩
     ·rw [if_neg c16] at H
      have c16b0 : (t520 == t524) = false := beq_eq_false_iff_ne.mpr c16
      have c16b1 : (t520 != t524) = true := bne_iff_ne.mpr c16
      (first | rw [c16b0] | (simp only [i64_w, i32_w]; rw [c16b0]) | skip)
      have H' := Aside0.mk H
      clear H
      go_wp2
      go_meet
      case rel => exact ⟨_, (true), (by first | rfl | (simp; done) | (simp [*]; done)), H', ⟨by have := HJ3.out; first | omega | exact Nat.le_refl _⟩, ⟨by repeat (first | (with_reducible first | exact HB.out | apply below_alloc | apply pw_below_drewN | apply below_drew1) | exact HB.out)⟩⟩
    case rest =>
     clear HC13
     try clear c1
     try clear c2
     try clear p2
     try clear c6
     try clear c8
     try clear c9
     try clear c9b0
     try clear c9b1
     try clear c10
     try clear c16
     try clear c16b0
     try clear c16b1
     try clear p2
     obtain ⟨kq, x51_12, rfl, HA, HJ12, HB⟩ := hcut
     cases kq with
     | zero => exact absurd HA.out (by simp [smockinglaw01_TextMerges.j1])
     | succ kj12 =>
      have H := HA.out
      clear HA
      simp only [smockinglaw01_TextMerges.j1] at H
      by_cases c20 : x51_12 = true
      ·subst c20
       have H1 : (some false) = some r := by rw [if_pos rfl] at H; exact H
       clear H
       have H := H1
       clear H1
       obtain rfl := Option.some.inj H
       go_wp2
       go_ret
       exact ⟨by first | rfl | (simp [errW_none, errW_some] <;> rfl) | (simp [*, errW_none, errW_some] <;> rfl), by repeat (first | (with_reducible first | exact HB.out | apply below_alloc | apply pw_below_drewN | apply below_drew1) | exact HB.out)⟩
      ·replace c20 := Bool.eq_false_iff.mpr c20
       subst c20
       have H1 : ((text_Over.f a0 l1 l2).bind fun bt528 => ((smockingref01_Over.f kj12 a0 l1 l2).bind fun bt532 => (if bt528.2 = bt532.2 then ((rf0_EqEdits.f kj12 bt528.1 bt532.1).bind fun t536 => (if t536 = true then ((smockinglaw01_awake.f).bind fun t537 => (some t537)) else (some false))) else (some false)))) = some r := by rw [if_neg (show ¬ (false = true) by decide)] at H; exact H
       clear H
       have H := H1
       clear H1
       replace H := Option.bind_eq_some_iff.mp H
       obtain ⟨⟨t528, t529⟩, A210, H⟩ := H
       replace H : ((smockingref01_Over.f kj12 a0 l1 l2).bind fun bt532 => (if t529 = bt532.2 then ((rf0_EqEdits.f kj12 t528 bt532.1).bind fun t536 => (if t536 = true then ((smockinglaw01_awake.f).bind fun t537 => (some t537)) else (some false))) else (some false))) = some r := H
       have A21 := Aside0.mk A210
       clear A210
       replace H := Option.bind_eq_some_iff.mp H
       obtain ⟨⟨t532, t533⟩, A220, H⟩ := H
       replace H : (if t529 = t533 then ((rf0_EqEdits.f kj12 t528 t532).bind fun t536 => (if t536 = true then ((smockinglaw01_awake.f).bind fun t537 => (some t537)) else (some false))) else (some false)) = some r := H
       have A22 := Aside0.mk A220
       clear A220
       by_cases c23 : t529 = t533
       ·rw [if_pos c23] at H
        have c23b0 : (t529 == t533) = true := beq_iff_eq.mpr c23
        have c23b1 : (t529 != t533) = false := bne_eq_false_iff_eq.mpr c23
        clear c23
        replace H := Option.bind_eq_some_iff.mp H
        obtain ⟨t536, A240, H⟩ := H
        replace H : (if t536 = true then ((smockinglaw01_awake.f).bind fun t537 => (some t537)) else (some false)) = some r := H
        have A24 := Aside0.mk A240
        clear A240
        by_cases c25 : t536 = true
        ·subst c25
         have H1 : ((smockinglaw01_awake.f).bind fun t537 => (some t537)) = some r := by rw [if_pos rfl] at H; exact H
         clear H
         have H := H1
         clear H1
         replace H := Option.bind_eq_some_iff.mp H
         obtain ⟨t537, A260, H⟩ := H
         replace H : (some t537) = some r := H
         have A26 := Aside0.mk A260
         clear A260
         obtain rfl := Option.some.inj H
         go_wp2_with (first | ((with_reducible refine gate_callee (f := 25) rfl ?_); refine goesL_ (some 56) rfl rfl Tryd.func25 (by kernel_rfl) rfl #[.string a0, .slice A1 l1.length c1, .slice A2 l2.length c2] rfl (by (try simp only [List.map_toArray, List.map_cons, List.map_nil]); first | done | rfl | (simp only [List.length_drop, List.length_take]; rfl)) ?_; (with_reducible refine (text_Over.calls a0 _ _ l1 _ _ l2 t528 t529 _ ?side1 ?side2 ?side3 ?side4 A21.out).mono ?_); (case side1 => repeat (first | exact (Kd.C_below HR1.out HB.out) | (with_reducible refine Kd.C_alloc ?_ _) | (with_reducible refine Kd.C_drewN ?_ _) | (with_reducible refine Kd.C_drew ?_))); (case side2 => exact HC1.out); (case side3 => repeat (first | exact (Kd.C_below HR2.out HB.out) | (with_reducible refine Kd.C_alloc ?_ _) | (with_reducible refine Kd.C_drewN ?_ _) | (with_reducible refine Kd.C_drew ?_))); (case side4 => exact HC2.out); rintro e w27 ⟨v530, rfl, ho0, hb⟩; refine ⟨_, rfl, ?_⟩; have n0_ := Aside0.mk (Kd.R_lower ho0 (below_size (by repeat (first | (with_reducible first | exact HB.out | apply below_alloc | apply pw_below_drewN | apply below_drew1) | exact HB.out)))); have n1_ := Aside0.mk (below_step (by repeat (first | (with_reducible first | exact HB.out | apply below_alloc | apply pw_below_drewN | apply below_drew1) | exact HB.out)) hb); clear HB; have HO531 := n0_; have HB := n1_; clear n0_ n1_; (try clear hb); (try clear hb2); (try clear hk); (try clear hi); (try clear ho0)) | ((with_reducible refine gate_callee (f := 26) rfl ?_); refine goesL_ (some 63) rfl rfl Tryd.func26 (by kernel_rfl) rfl #[.string a0, .slice A1 l1.length c1, .slice A2 l2.length c2] rfl (by (try simp only [List.map_toArray, List.map_cons, List.map_nil]); first | done | rfl | (simp only [List.length_drop, List.length_take]; rfl)) ?_; (with_reducible refine (smockingref01_Over.calls kj12 a0 _ _ l1 _ _ l2 t532 t533 _ ?side1 ?side2 ?side3 ?side4 A22.out).mono ?_); (case side1 => repeat (first | exact (Kd.C_below HR1.out HB.out) | (with_reducible refine Kd.C_alloc ?_ _) | (with_reducible refine Kd.C_drewN ?_ _) | (with_reducible refine Kd.C_drew ?_))); (case side2 => exact HC1.out); (case side3 => repeat (first | exact (Kd.C_below HR2.out HB.out) | (with_reducible refine Kd.C_alloc ?_ _) | (with_reducible refine Kd.C_drewN ?_ _) | (with_reducible refine Kd.C_drew ?_))); (case side4 => exact HC2.out); rintro e w28 ⟨v534, rfl, ho0, hb⟩; refine ⟨_, rfl, ?_⟩; have n0_ := Aside0.mk (Kd.R_elder' (by (with_reducible repeat (first | apply Kd.R_alloc | apply Kd.R_drewN | apply Kd.R_drew)); exact HO531.out) (Kd.R_base ho0) hb); have n1_ := Aside0.mk (Kd.R_lower (Kd.R_new' ho0 (Kd.R_lt (by (with_reducible repeat (first | apply Kd.R_alloc | apply Kd.R_drewN | apply Kd.R_drew)); exact HO531.out))) (below_size (by repeat (first | (with_reducible first | exact HB.out | apply below_alloc | apply pw_below_drewN | apply below_drew1) | exact HB.out)))); have n2_ := Aside0.mk (below_step (by repeat (first | (with_reducible first | exact HB.out | apply below_alloc | apply pw_below_drewN | apply below_drew1) | exact HB.out)) hb); clear HO531; clear HB; have HO531 := n0_; have HO535 := n1_; have HB := n2_; clear n0_ n1_ n2_; (try clear hb); (try clear hb2); (try clear hk); (try clear hi); (try clear ho0); obtain ⟨Ao29, co29, eo29⟩ := Kd.R_slice HO531.out; subst eo29; obtain ⟨Ao30, co30, eo30⟩ := Kd.R_slice HO535.out; subst eo30) | (go_at_call 16; (with_reducible refine (rf0_EqEdits.calls kj12 _ _ t528 _ _ t532 true _ ?side1 ?side2 ?side3 ?side4 A24.out).mono ?_); (case side1 => repeat (first | exact (Kd.R_reads' HO531.out).2.2 | (with_reducible refine Kd.C_alloc ?_ _) | (with_reducible refine Kd.C_drewN ?_ _) | (with_reducible refine Kd.C_drew ?_))); (case side2 => exact (Kd.R_reads' HO531.out).2.1); (case side3 => repeat (first | exact (Kd.R_reads' HO535.out).2.2 | (with_reducible refine Kd.C_alloc ?_ _) | (with_reducible refine Kd.C_drewN ?_ _) | (with_reducible refine Kd.C_drew ?_))); (case side4 => exact (Kd.R_reads' HO535.out).2.1); rintro e w' ⟨rfl, ⟨nd, rfl⟩⟩) | (go_at_call 17; (with_reducible refine (smockinglaw01_awake.calls  t537 _ A26.out).mono ?_); rintro e w31 ⟨rfl, hb⟩; have n0_ := Aside0.mk (Kd.R_below (by (with_reducible repeat (first | apply Kd.R_alloc | apply Kd.R_drewN | apply Kd.R_drew)); exact HO531.out) hb); have n1_ := Aside0.mk (Kd.R_below (by (with_reducible repeat (first | apply Kd.R_alloc | apply Kd.R_drewN | apply Kd.R_drew)); exact HO535.out) hb); have n2_ := Aside0.mk (below_step (by repeat (first | (with_reducible first | exact HB.out | apply below_alloc | apply pw_below_drewN | apply below_drew1) | exact HB.out)) hb); clear HO531; clear HO535; clear HB; have HO531 := n0_; have HO535 := n1_; have HB := n2_; clear n0_ n1_ n2_; (try clear hb); (try clear hb2); (try clear hk); (try clear hi)))
         go_ret
         exact ⟨by first | rfl | (simp [errW_none, errW_some] <;> rfl) | (simp [*, errW_none, errW_some] <;> rfl), by repeat (first | (with_reducible first | exact HB.out | apply below_alloc | apply pw_below_drewN | apply below_drew1) | exact HB.out)⟩
        ·replace c25 := Bool.eq_false_iff.mpr c25
         subst c25
         have H1 : (some false) = some r := by rw [if_neg (show ¬ (false = true) by decide)] at H; exact H
         clear H
         have H := H1
         clear H1
         obtain rfl := Option.some.inj H
         go_wp2_with (first | ((with_reducible refine gate_callee (f := 25) rfl ?_); refine goesL_ (some 56) rfl rfl Tryd.func25 (by kernel_rfl) rfl #[.string a0, .slice A1 l1.length c1, .slice A2 l2.length c2] rfl (by (try simp only [List.map_toArray, List.map_cons, List.map_nil]); first | done | rfl | (simp only [List.length_drop, List.length_take]; rfl)) ?_; (with_reducible refine (text_Over.calls a0 _ _ l1 _ _ l2 t528 t529 _ ?side1 ?side2 ?side3 ?side4 A21.out).mono ?_); (case side1 => repeat (first | exact (Kd.C_below HR1.out HB.out) | (with_reducible refine Kd.C_alloc ?_ _) | (with_reducible refine Kd.C_drewN ?_ _) | (with_reducible refine Kd.C_drew ?_))); (case side2 => exact HC1.out); (case side3 => repeat (first | exact (Kd.C_below HR2.out HB.out) | (with_reducible refine Kd.C_alloc ?_ _) | (with_reducible refine Kd.C_drewN ?_ _) | (with_reducible refine Kd.C_drew ?_))); (case side4 => exact HC2.out); rintro e w32 ⟨v530, rfl, ho0, hb⟩; refine ⟨_, rfl, ?_⟩; have n0_ := Aside0.mk (Kd.R_lower ho0 (below_size (by repeat (first | (with_reducible first | exact HB.out | apply below_alloc | apply pw_below_drewN | apply below_drew1) | exact HB.out)))); have n1_ := Aside0.mk (below_step (by repeat (first | (with_reducible first | exact HB.out | apply below_alloc | apply pw_below_drewN | apply below_drew1) | exact HB.out)) hb); clear HB; have HO531 := n0_; have HB := n1_; clear n0_ n1_; (try clear hb); (try clear hb2); (try clear hk); (try clear hi); (try clear ho0)) | ((with_reducible refine gate_callee (f := 26) rfl ?_); refine goesL_ (some 63) rfl rfl Tryd.func26 (by kernel_rfl) rfl #[.string a0, .slice A1 l1.length c1, .slice A2 l2.length c2] rfl (by (try simp only [List.map_toArray, List.map_cons, List.map_nil]); first | done | rfl | (simp only [List.length_drop, List.length_take]; rfl)) ?_; (with_reducible refine (smockingref01_Over.calls kj12 a0 _ _ l1 _ _ l2 t532 t533 _ ?side1 ?side2 ?side3 ?side4 A22.out).mono ?_); (case side1 => repeat (first | exact (Kd.C_below HR1.out HB.out) | (with_reducible refine Kd.C_alloc ?_ _) | (with_reducible refine Kd.C_drewN ?_ _) | (with_reducible refine Kd.C_drew ?_))); (case side2 => exact HC1.out); (case side3 => repeat (first | exact (Kd.C_below HR2.out HB.out) | (with_reducible refine Kd.C_alloc ?_ _) | (with_reducible refine Kd.C_drewN ?_ _) | (with_reducible refine Kd.C_drew ?_))); (case side4 => exact HC2.out); rintro e w33 ⟨v534, rfl, ho0, hb⟩; refine ⟨_, rfl, ?_⟩; have n0_ := Aside0.mk (Kd.R_elder' (by (with_reducible repeat (first | apply Kd.R_alloc | apply Kd.R_drewN | apply Kd.R_drew)); exact HO531.out) (Kd.R_base ho0) hb); have n1_ := Aside0.mk (Kd.R_lower (Kd.R_new' ho0 (Kd.R_lt (by (with_reducible repeat (first | apply Kd.R_alloc | apply Kd.R_drewN | apply Kd.R_drew)); exact HO531.out))) (below_size (by repeat (first | (with_reducible first | exact HB.out | apply below_alloc | apply pw_below_drewN | apply below_drew1) | exact HB.out)))); have n2_ := Aside0.mk (below_step (by repeat (first | (with_reducible first | exact HB.out | apply below_alloc | apply pw_below_drewN | apply below_drew1) | exact HB.out)) hb); clear HO531; clear HB; have HO531 := n0_; have HO535 := n1_; have HB := n2_; clear n0_ n1_ n2_; (try clear hb); (try clear hb2); (try clear hk); (try clear hi); (try clear ho0); obtain ⟨Ao34, co34, eo34⟩ := Kd.R_slice HO531.out; subst eo34; obtain ⟨Ao35, co35, eo35⟩ := Kd.R_slice HO535.out; subst eo35) | (go_at_call 16; (with_reducible refine (rf0_EqEdits.calls kj12 _ _ t528 _ _ t532 false _ ?side1 ?side2 ?side3 ?side4 A24.out).mono ?_); (case side1 => repeat (first | exact (Kd.R_reads' HO531.out).2.2 | (with_reducible refine Kd.C_alloc ?_ _) | (with_reducible refine Kd.C_drewN ?_ _) | (with_reducible refine Kd.C_drew ?_))); (case side2 => exact (Kd.R_reads' HO531.out).2.1); (case side3 => repeat (first | exact (Kd.R_reads' HO535.out).2.2 | (with_reducible refine Kd.C_alloc ?_ _) | (with_reducible refine Kd.C_drewN ?_ _) | (with_reducible refine Kd.C_drew ?_))); (case side4 => exact (Kd.R_reads' HO535.out).2.1); rintro e w' ⟨rfl, ⟨nd, rfl⟩⟩))
         go_ret
         exact ⟨by first | rfl | (simp [errW_none, errW_some] <;> rfl) | (simp [*, errW_none, errW_some] <;> rfl), by repeat (first | (with_reducible first | exact HB.out | apply below_alloc | apply pw_below_drewN | apply below_drew1) | exact HB.out)⟩
       ·rw [if_neg c23] at H
        have c23b0 : (t529 == t533) = false := beq_eq_false_iff_ne.mpr c23
        have c23b1 : (t529 != t533) = true := bne_iff_ne.mpr c23
        obtain rfl := Option.some.inj H
        go_wp2_with (first | ((with_reducible refine gate_callee (f := 25) rfl ?_); refine goesL_ (some 56) rfl rfl Tryd.func25 (by kernel_rfl) rfl #[.string a0, .slice A1 l1.length c1, .slice A2 l2.length c2] rfl (by (try simp only [List.map_toArray, List.map_cons, List.map_nil]); first | done | rfl | (simp only [List.length_drop, List.length_take]; rfl)) ?_; (with_reducible refine (text_Over.calls a0 _ _ l1 _ _ l2 t528 t529 _ ?side1 ?side2 ?side3 ?side4 A21.out).mono ?_); (case side1 => repeat (first | exact (Kd.C_below HR1.out HB.out) | (with_reducible refine Kd.C_alloc ?_ _) | (with_reducible refine Kd.C_drewN ?_ _) | (with_reducible refine Kd.C_drew ?_))); (case side2 => exact HC1.out); (case side3 => repeat (first | exact (Kd.C_below HR2.out HB.out) | (with_reducible refine Kd.C_alloc ?_ _) | (with_reducible refine Kd.C_drewN ?_ _) | (with_reducible refine Kd.C_drew ?_))); (case side4 => exact HC2.out); rintro e w36 ⟨v530, rfl, ho0, hb⟩; refine ⟨_, rfl, ?_⟩; have n0_ := Aside0.mk (Kd.R_lower ho0 (below_size (by repeat (first | (with_reducible first | exact HB.out | apply below_alloc | apply pw_below_drewN | apply below_drew1) | exact HB.out)))); have n1_ := Aside0.mk (below_step (by repeat (first | (with_reducible first | exact HB.out | apply below_alloc | apply pw_below_drewN | apply below_drew1) | exact HB.out)) hb); clear HB; have HO531 := n0_; have HB := n1_; clear n0_ n1_; (try clear hb); (try clear hb2); (try clear hk); (try clear hi); (try clear ho0)) | ((with_reducible refine gate_callee (f := 26) rfl ?_); refine goesL_ (some 63) rfl rfl Tryd.func26 (by kernel_rfl) rfl #[.string a0, .slice A1 l1.length c1, .slice A2 l2.length c2] rfl (by (try simp only [List.map_toArray, List.map_cons, List.map_nil]); first | done | rfl | (simp only [List.length_drop, List.length_take]; rfl)) ?_; (with_reducible refine (smockingref01_Over.calls kj12 a0 _ _ l1 _ _ l2 t532 t533 _ ?side1 ?side2 ?side3 ?side4 A22.out).mono ?_); (case side1 => repeat (first | exact (Kd.C_below HR1.out HB.out) | (with_reducible refine Kd.C_alloc ?_ _) | (with_reducible refine Kd.C_drewN ?_ _) | (with_reducible refine Kd.C_drew ?_))); (case side2 => exact HC1.out); (case side3 => repeat (first | exact (Kd.C_below HR2.out HB.out) | (with_reducible refine Kd.C_alloc ?_ _) | (with_reducible refine Kd.C_drewN ?_ _) | (with_reducible refine Kd.C_drew ?_))); (case side4 => exact HC2.out); rintro e w37 ⟨v534, rfl, ho0, hb⟩; refine ⟨_, rfl, ?_⟩; have n0_ := Aside0.mk (Kd.R_elder' (by (with_reducible repeat (first | apply Kd.R_alloc | apply Kd.R_drewN | apply Kd.R_drew)); exact HO531.out) (Kd.R_base ho0) hb); have n1_ := Aside0.mk (Kd.R_lower (Kd.R_new' ho0 (Kd.R_lt (by (with_reducible repeat (first | apply Kd.R_alloc | apply Kd.R_drewN | apply Kd.R_drew)); exact HO531.out))) (below_size (by repeat (first | (with_reducible first | exact HB.out | apply below_alloc | apply pw_below_drewN | apply below_drew1) | exact HB.out)))); have n2_ := Aside0.mk (below_step (by repeat (first | (with_reducible first | exact HB.out | apply below_alloc | apply pw_below_drewN | apply below_drew1) | exact HB.out)) hb); clear HO531; clear HB; have HO531 := n0_; have HO535 := n1_; have HB := n2_; clear n0_ n1_ n2_; (try clear hb); (try clear hb2); (try clear hk); (try clear hi); (try clear ho0)))
        go_ret
        exact ⟨by first | rfl | (simp [errW_none, errW_some] <;> rfl) | (simp [*, errW_none, errW_some] <;> rfl), by repeat (first | (with_reducible first | exact HB.out | apply below_alloc | apply pw_below_drewN | apply below_drew1) | exact HB.out)⟩

end Go.Proofs.YthimblhfjfngiaaDoor.PText

namespace Go.Proofs.YthimblhfjfngiaaDoor.PText
open Go.RowKit Go.Lib Go.Proofs.YthimblhfjfngiaaDoorW.PrintWords Go.Proofs.YthimblhfjfngiaaDoorW.PrintLast Go.Proofs.YthimblhfjfngiaaDoorW.PrintMore
def togE (n : Nat) (l1 l2 : List S34) : Int := if fineE n l1 = 0 then (if fineE n l2 = 0 then fineE n (l1 ++ l2) else fineE n l2) else fineE n l1
theorem merge_tog (n : Nat) (l1 l2 : List S34) : mergeR n l1 l2 = if togE n l1 l2 = 0 then (Tx.ord eltS (l1 ++ l2), 0) else ([], togE n l1 l2) := by
  unfold mergeR togE
  by_cases h1 : fineE n l1 = 0
  · rw [if_neg (show ¬ (fineE n l1 ≠ 0) from fun q => q h1), if_pos h1]
    by_cases h2 : fineE n l2 = 0
    · rw [if_neg (show ¬ (fineE n l2 ≠ 0) from fun q => q h2), if_pos h2]
      by_cases h3 : fineE n (l1 ++ l2) = 0
      · rw [if_neg (show ¬ (fineE n (l1 ++ l2) ≠ 0) from fun q => q h3), if_pos h3]
      · rw [if_pos (show fineE n (l1 ++ l2) ≠ 0 from h3), if_neg h3]
    · rw [if_pos (show fineE n l2 ≠ 0 from h2), if_neg h2, if_neg h2]
  · rw [if_pos (show fineE n l1 ≠ 0 from h1), if_neg h1, if_neg h1]
theorem mem_toE {x : S34} {l : List S34} : toE x ∈ l.map toE ↔ x ∈ l := by
  rw [List.mem_map]
  exact ⟨fun ⟨y, hy, e⟩ => by rw [← toE_inj e]; exact hy, fun h => ⟨x, h, rfl⟩⟩
/-- whether an edit stands in the first list -/
def inE (l1 : List S34) (e : Tx.Ed) : Bool := decide (e ∈ l1.map toE)
theorem ov_toE (l1 : List S34) : ∀ (l : List S34) (sh : Int), (ovS l1 sh l).map toE = Tx.ov (inE l1) sh (l.map toE)
  | [], _ => rfl
  | x :: l, sh => by
    have e : ovS l1 sh (x :: l) = if x ∈ l1 then ovS l1 (sh + ((x.f2.size : Int) - (x.f1 - x.f0))) l else ⟨x.f0 + sh, x.f1 + sh, x.f2⟩ :: ovS l1 sh l := rfl
    have e2 : Tx.ov (inE l1) sh ((x :: l).map toE) = if inE l1 (toE x) = true then Tx.ov (inE l1) (sh + Tx.gain (toE x)) (l.map toE) else ⟨(toE x).f + sh, (toE x).t + sh, (toE x).x⟩ :: Tx.ov (inE l1) sh (l.map toE) := rfl
    have eg : Tx.gain (toE x) = (x.f2.size : Int) - (x.f1 - x.f0) := by unfold Tx.gain; rw [toE_x, ← size_list]; rfl
    rw [e, e2]
    by_cases h : x ∈ l1
    · rw [if_pos h, if_pos (show inE l1 (toE x) = true from decide_eq_true (mem_toE.2 h)), ov_toE l1 l, eg]
    · rw [if_neg h, if_neg (show ¬ inE l1 (toE x) = true from fun q => h (mem_toE.1 (of_decide_eq_true q))), List.map_cons, ov_toE l1 l]
      rfl
theorem asc_toE (l : List S34) : Tx.Asc Tx.elt ((Tx.ord eltS l).map toE) := List.pairwise_map.2 (Tx.asc_ord eltS_lin)
/-- of all edits, those of one list, in order -/
theorem in_filter (l1 L : List S34) (h : ∀ x ∈ l1, x ∈ L) : ((Tx.ord eltS L).map toE).filter (inE l1) = (Tx.ord eltS l1).map toE := by
  refine Tx.asc_unique Tx.elt_lin ((asc_toE L).filter _) (asc_toE l1) fun a => ?_
  rw [List.mem_filter, List.mem_map, List.mem_map]
  constructor
  · rintro ⟨⟨x, hx, rfl⟩, h2⟩
    exact ⟨x, (Tx.mem_ord eltS_lin).2 (mem_toE.1 (of_decide_eq_true h2)), rfl⟩
  · rintro ⟨x, hx, rfl⟩
    have hx := (Tx.mem_ord eltS_lin).1 hx
    exact ⟨⟨x, (Tx.mem_ord eltS_lin).2 (h x hx), rfl⟩, decide_eq_true (mem_toE.2 hx)⟩
theorem map_toE_inj {l m : List S34} (h : l.map toE = m.map toE) : l = m := by
  induction l generalizing m with
  | nil => cases m with
    | nil => rfl
    | cons y m => cases h
  | cons x l ih => cases m with
    | nil => cases h
    | cons y m =>
      rw [List.map_cons, List.map_cons, List.cons.injEq] at h
      rw [toE_inj h.1, ih h.2]
theorem ovS_len (l1 : List S34) : ∀ (l : List S34) (sh : Int), (ovS l1 sh l).length ≤ l.length
  | [], _ => Nat.le_refl _
  | x :: l, sh => by
    have e : ovS l1 sh (x :: l) = if x ∈ l1 then ovS l1 (sh + ((x.f2.size : Int) - (x.f1 - x.f0))) l else ⟨x.f0 + sh, x.f1 + sh, x.f2⟩ :: ovS l1 sh l := rfl
    rw [e, List.length_cons]
    by_cases h : x ∈ l1
    · rw [if_pos h]
      have := ovS_len l1 l (sh + ((x.f2.size : Int) - (x.f1 - x.f0)))
      omega
    · rw [if_neg h, List.length_cons]
      have := ovS_len l1 l sh
      omega
theorem merge_len (n : Nat) (l1 l2 : List S34) : (mergeR n l1 l2).1.length ≤ l1.length + l2.length := by
  rw [merge_tog]
  by_cases h : togE n l1 l2 = 0
  · rw [if_pos h]
    have := Tx.ord_len (lt := eltS) (l1 ++ l2)
    rw [List.length_append] at this
    exact this
  · rw [if_neg h]; exact Nat.zero_le _
theorem over_len (n : Nat) (l1 l2 : List S34) : (overR n l1 l2).1.length ≤ l1.length + l2.length := by
  unfold overR
  by_cases h : (mergeR n l1 l2).2 ≠ 0
  · rw [if_pos h]; exact Nat.zero_le _
  · rw [if_neg h]
    exact Nat.le_trans (jnS_len _) (Nat.le_trans (ovS_len _ _ _) (merge_len n l1 l2))
/-- edits over those that are made first come to the same as all at once -/
theorem over_facts (s : ByteArray) (l1 L : List S34) (hL : ∀ x ∈ l1, x ∈ L) (hc : Tx.Ch (s.size : Int) 0 ((Tx.ord eltS L).map toE)) (t x : ByteArray) (ht : t = ⟨(madeE s L).toArray⟩) (hx : x = ⟨(madeE s l1).toArray⟩)
    (hx2 : x.size ≤ 200000) (hn : L.length ≤ 10000) (m : List S34) (hm : m = jnS (ovS l1 0 (Tx.ord eltS L))) : fineE x.size m = 0 ∧ madeE x m = t.data.toList := by
  rw [size_list] at hc
  have h := Tx.over_ap s.data.toList (inE l1) ((Tx.ord eltS L).map toE) hc
  rw [in_filter l1 L hL, ← ov_toE, ← jn_toE, ← hm] at h
  have e1 : Tx.ap s.data.toList 0 ((Tx.ord eltS l1).map toE) = x.data.toList := by rw [hx]; rfl
  have e2 : Tx.ap s.data.toList 0 ((Tx.ord eltS L).map toE) = t.data.toList := by rw [ht]; rfl
  rw [e1, e2, ← size_list] at h
  have hlen : m.length ≤ 10000 := by
    rw [hm]
    exact Nat.le_trans (jnS_len _) (Nat.le_trans (ovS_len _ _ _) (Nat.le_trans (Tx.ord_len L) hn))
  obtain ⟨f1, f2⟩ := fine_of x.size m hx2 hlen h.2.1 h.2.2.1 h.2.2.2
  refine ⟨f1, ?_⟩
  unfold madeE
  rw [f2]
  exact h.1
end Go.Proofs.YthimblhfjfngiaaDoor.PText

namespace Go.Proofs.YthimblhfjfngiaaDoor.PText
open Go.RowKit Go.Lib Go.Proofs.YthimblhfjfngiaaDoorW.PrintWords Go.Proofs.YthimblhfjfngiaaDoorW.PrintLast Go.Proofs.YthimblhfjfngiaaDoorW.PrintMore
theorem tog_f (s : ByteArray) (l1 l2 : List S34) (N : Nat) (hN : l1.length + l2.length ≤ N) (hN2 : N ≤ 1000000) (k : Nat) (hk : N * (N + 4) + N + 5 ≤ k) : smockingref01_together.f k s l1 l2 = some (togE s.size l1 l2) := by
  unfold smockingref01_together.f togE
  rw [fine_f s l1 N (by omega) hN2 k hk, Option.bind_some]
  by_cases h1 : fineE s.size l1 = 0
  · rw [if_pos h1, if_pos h1, fine_f s l2 N (by omega) hN2 k hk, Option.bind_some]
    by_cases h2 : fineE s.size l2 = 0
    · rw [if_pos h2, if_pos h2, Option.bind_some, if_pos (by rw [List.length_nil]; omega), Option.bind_some, List.nil_append, if_pos (by omega), fine_f s (l1 ++ l2) N (by rw [List.length_append]; omega) hN2 k hk, Option.bind_some]
    · rw [if_neg h2, if_neg h2]
  · rw [if_neg h1, if_neg h1]
theorem rmerge_f (s : ByteArray) (l1 l2 : List S34) (N : Nat) (hN : l1.length + l2.length ≤ N) (hN2 : N ≤ 1000000) (k : Nat) (hk : N * (2 * N + 5) + N + 5 ≤ k) : smockingref01_Merge.f k s l1 l2 = some (mergeR s.size l1 l2) := by
  have hm : N * (N + 4) ≤ N * (2 * N + 5) := Nat.mul_le_mul_left _ (by omega)
  unfold smockingref01_Merge.f
  rw [merge_tog, tog_f s l1 l2 N hN hN2 k (by omega), Option.bind_some]
  by_cases h : togE s.size l1 l2 = 0
  · rw [if_pos h, if_pos h, Option.bind_some, if_pos (by rw [List.length_nil]; omega), Option.bind_some, List.nil_append, if_pos (by omega), ordered_f (l1 ++ l2) N (by rw [List.length_append]; omega) hN2 k (by omega), Option.bind_some]
  · rw [if_neg h, if_neg h]
theorem moved_l0 (x : S34) (l : List S34) (hl : l.length ≤ 10000) (hok : ∀ y ∈ l, okE y) : ∀ (m i k : Nat) (by_ : Int), l.length - i = m → i ≤ l.length → m + 1 ≤ k → -(2000000000000 * (i : Int)) ≤ by_ → by_ ≤ 2000000000000 * (i : Int) →
    smockingref01_moved.l0 k l by_ (i : Int) x.f0 x.f1 x.f2 = some (by_ + Tx.moved (toE x) ((l.drop i).map toE)) ∧ -(2000000000000 * (l.length : Int)) ≤ by_ + Tx.moved (toE x) ((l.drop i).map toE) ∧ by_ + Tx.moved (toE x) ((l.drop i).map toE) ≤ 2000000000000 * (l.length : Int) := by
  intro m
  induction m with
  | zero =>
    intro i k b hm hi hk h1 h2
    obtain ⟨k, rfl⟩ : ∃ q, k = q + 1 := ⟨k - 1, by omega⟩
    have e : Tx.moved (toE x) (([] : List S34).map toE) = 0 := rfl
    rw [smockingref01_moved.l0, if_neg (by omega), List.drop_of_length_le (by omega), e, Int.add_zero]
    exact ⟨rfl, by omega, by omega⟩
  | succ m ih =>
    intro i k b hm hi hk h1 h2
    obtain ⟨k, rfl⟩ : ∃ q, k = q + 1 := ⟨k - 1, by omega⟩
    have hlt : i < l.length := by omega
    have hd : l.drop i = l[i] :: l.drop (i + 1) := List.drop_eq_getElem_cons hlt
    obtain ⟨o1, o2, o3, o4, o5⟩ := hok l[i] (List.getElem_mem hlt)
    have e : Tx.moved (toE x) ((l[i] :: l.drop (i + 1)).map toE) = (if eltS l[i] x = true ∧ l[i].f1 ≤ x.f0 then Tx.gain (toE l[i]) else 0) + Tx.moved (toE x) ((l.drop (i + 1)).map toE) := rfl
    have eg : Tx.gain (toE l[i]) = (l[i].f2.size : Int) - (l[i].f1 - l[i].f0) := by unfold Tx.gain; rw [toE_x, ← size_list]; rfl
    rw [smockingref01_moved.l0, if_pos (by omega), if_pos (by omega), rd34_at l i hlt, before_f, Option.bind_some, nx i (by omega), hd, e]
    by_cases c1 : eltS l[i] x = true
    · rw [if_pos c1]
      by_cases c2 : l[i].f1 ≤ x.f0
      · have w1 : wrap64 (b + (l[i].f2.size : Int)) = b + (l[i].f2.size : Int) := w64 (by omega) (by omega)
        have w2 : wrap64 (l[i].f1 - l[i].f0) = l[i].f1 - l[i].f0 := w64 (by omega) (by omega)
        have w3 : wrap64 (b + (l[i].f2.size : Int) - (l[i].f1 - l[i].f0)) = b + (l[i].f2.size : Int) - (l[i].f1 - l[i].f0) := w64 (by omega) (by omega)
        have h := ih (i + 1) k (b + (l[i].f2.size : Int) - (l[i].f1 - l[i].f0)) (by omega) (by omega) (by omega) (by omega) (by omega)
        rw [if_pos c2, if_pos ⟨c1, c2⟩, w1, w2, w3, eg, show b + ((l[i].f2.size : Int) - (l[i].f1 - l[i].f0) + Tx.moved (toE x) ((l.drop (i + 1)).map toE)) = b + (l[i].f2.size : Int) - (l[i].f1 - l[i].f0) + Tx.moved (toE x) ((l.drop (i + 1)).map toE) by omega]
        exact h
      · rw [if_neg c2, if_neg (fun q => c2 q.2), Int.zero_add]
        exact ih (i + 1) k b (by omega) (by omega) (by omega) (by omega) (by omega)
    · rw [if_neg c1, if_neg (fun q => c1 q.1), Int.zero_add]
      exact ih (i + 1) k b (by omega) (by omega) (by omega) (by omega) (by omega)
theorem moved_f (x : S34) (l : List S34) (hl : l.length ≤ 10000) (hok : ∀ y ∈ l, okE y) (k : Nat) (hk : l.length + 1 ≤ k) : smockingref01_moved.f k x.f0 x.f1 x.f2 l = some (Tx.moved (toE x) (l.map toE)) ∧ -20000000000000000 ≤ Tx.moved (toE x) (l.map toE) ∧ Tx.moved (toE x) (l.map toE) ≤ 20000000000000000 := by
  have h := moved_l0 x l hl hok l.length 0 k 0 (by omega) (by omega) hk (by omega) (by omega)
  rw [List.drop_zero, Int.zero_add] at h
  exact ⟨h.1, by omega, by omega⟩
theorem rover_l1 (A L : List S34) (hA : A.length ≤ 1000000) (out : List S34) (i : Nat) (hi : i < L.length) (hi2 : i ≤ 1000000) : ∀ (m j k B : Nat) (b : Bool), A.length - j = m → j ≤ A.length → m + 1 + B ≤ k →
    ∃ k', B ≤ k' ∧ smockingref01_Over.l1 k A L out (i : Int) b (j : Int) = if b = true ∨ L[i] ∈ A.drop j then smockingref01_Over.l0 k' A L out (((i + 1 : Nat)) : Int) else
      (smockingref01_moved.f k' L[i].f0 L[i].f1 L[i].f2 A).bind fun t => if out.length < 4398046511104 then smockingref01_Over.l0 k' A L (out ++ [(⟨wrap64 (L[i].f0 + t), wrap64 (L[i].f1 + t), L[i].f2⟩ : S34)]) (((i + 1 : Nat)) : Int) else none := by
  intro m
  induction m with
  | zero =>
    intro j k B b hm hj hk
    obtain ⟨k, rfl⟩ : ∃ q, k = q + 1 := ⟨k - 1, by omega⟩
    refine ⟨k, by omega, ?_⟩
    rw [smockingref01_Over.l1, if_neg (by omega), List.drop_of_length_le (by omega)]
    cases b with
    | true => rw [if_pos rfl, if_pos (Or.inl rfl), nx i (by omega)]
    | false =>
      rw [if_neg (show ¬ (false = true) by decide), if_neg (show ¬ (false = true ∨ L[i] ∈ []) by rintro (q | q) <;> cases q), if_pos (by omega), if_pos (by omega), rd34_at L i hi, nx i (by omega)]
  | succ m ih =>
    intro j k B b hm hj hk
    obtain ⟨k, rfl⟩ : ∃ q, k = q + 1 := ⟨k - 1, by omega⟩
    have hlt : j < A.length := by omega
    have hd : A.drop j = A[j] :: A.drop (j + 1) := List.drop_eq_getElem_cons hlt
    rw [smockingref01_Over.l1, if_pos (by omega), nx j (by omega)]
    cases b with
    | true =>
      obtain ⟨k', h1, h2⟩ := ih (j + 1) k B true (by omega) (by omega) (by omega)
      refine ⟨k', h1, ?_⟩
      rw [if_pos rfl, h2, if_pos (Or.inl rfl), if_pos (Or.inl rfl)]
    | false =>
      obtain ⟨k', h1, h2⟩ := ih (j + 1) k B (decide (A[j] = L[i])) (by omega) (by omega) (by omega)
      refine ⟨k', h1, ?_⟩
      rw [if_neg (show ¬ (false = true) by decide), if_pos (by omega), if_pos (by omega), if_pos (by omega), rd34_at L i hi, rd34_at A j hlt, eqS34, h2, hd]
      by_cases q : A[j] = L[i]
      · rw [if_pos (Or.inl (decide_eq_true q)), if_pos (Or.inr (by rw [q]; exact List.mem_cons_self))]
      · by_cases q2 : L[i] ∈ A.drop (j + 1)
        · rw [if_pos (Or.inr q2), if_pos (Or.inr (List.mem_cons_of_mem _ q2))]
        · rw [if_neg (by rintro (c | c); exact q (of_decide_eq_true c); exact q2 c), if_neg (by
            rintro (c | c)
            · cases c
            · rcases List.mem_cons.1 c with c | c
              · exact q c.symm
              · exact q2 c)]
/-- the document's way: each edit that the first list has not, moved by those of the first one before it -/
def rovS (A : List S34) (l : List S34) : List S34 := (l.filter fun x => !decide (x ∈ A)).map fun x => ⟨x.f0 + Tx.moved (toE x) (A.map toE), x.f1 + Tx.moved (toE x) (A.map toE), x.f2⟩
theorem rovS_cons (A : List S34) (x : S34) (l : List S34) : rovS A (x :: l) = if x ∈ A then rovS A l else ⟨x.f0 + Tx.moved (toE x) (A.map toE), x.f1 + Tx.moved (toE x) (A.map toE), x.f2⟩ :: rovS A l := by
  unfold rovS
  by_cases h : x ∈ A
  · rw [if_pos h, List.filter_cons_of_neg (by simp [h])]
  · rw [if_neg h, List.filter_cons_of_pos (by simp [h]), List.map_cons]
theorem rovS_sum (A : List S34) : ∀ l : List S34, sumS (rovS A l) ≤ sumS l
  | [] => Nat.le_refl _
  | x :: l => by
    have h := rovS_sum A l
    rw [rovS_cons, sumS_cons]
    by_cases c : x ∈ A
    · rw [if_pos c]; omega
    · rw [if_neg c, sumS_cons]
      show x.f2.size + _ ≤ _
      omega
theorem rovS_len (A l : List S34) : (rovS A l).length ≤ l.length := by
  unfold rovS; rw [List.length_map]; exact List.length_filter_le ..
theorem rover_l0 (A L : List S34) (hA : A.length ≤ 10000) (hL : L.length ≤ 10000) (hoA : ∀ y ∈ A, okE y) (hoL : ∀ y ∈ L, okE y) (R : List S34) (hR : sumS R ≤ 1000000000000000) (hR2 : R.length ≤ 10000) : ∀ (m i k : Nat) (out : List S34), L.length - i = m → i ≤ L.length → (m + 1) * (A.length + 3) + R.length + 10 ≤ k → out.length ≤ i → R = out ++ rovS A (L.drop i) →
    smockingref01_Over.l0 k A L out (i : Int) = some (jnS R, 0) := by
  intro m
  induction m with
  | zero =>
    intro i k out hm hi hk ho hRe
    obtain ⟨k, rfl⟩ : ∃ q, k = q + 1 := ⟨k - 1, by omega⟩
    have e : rovS A [] = [] := rfl
    rw [List.drop_of_length_le (by omega), e, List.append_nil] at hRe
    subst hRe
    rw [smockingref01_Over.l0, if_neg (by omega), rjoined_f _ (by omega) hR k (by omega), Option.bind_some]
  | succ m ih =>
    intro i k out hm hi hk ho hRe
    rw [Nat.succ_mul] at hk
    obtain ⟨k, rfl⟩ : ∃ q, k = q + 1 := ⟨k - 1, by omega⟩
    have hlt : i < L.length := by omega
    have hd : L.drop i = L[i] :: L.drop (i + 1) := List.drop_eq_getElem_cons hlt
    rw [hd, rovS_cons] at hRe
    rw [smockingref01_Over.l0, if_pos (by omega)]
    obtain ⟨k1, h1, h2⟩ := rover_l1 A L (by omega) out i hlt (by omega) A.length 0 k ((m + 1) * (A.length + 3) + R.length + 10) false (by omega) (by omega) (by omega)
    rw [show ((0 : Nat) : Int) = 0 from rfl, List.drop_zero] at h2
    rw [h2]
    have h0 : 3 ≤ (m + 1) * (A.length + 3) := by rw [Nat.succ_mul]; omega
    have h00 : A.length ≤ (m + 1) * (A.length + 3) := by rw [Nat.succ_mul]; omega
    by_cases q : L[i] ∈ A
    · rw [if_pos q] at hRe
      rw [if_pos (Or.inr q)]
      exact ih (i + 1) k1 out (by omega) (by omega) h1 (by omega) hRe
    · rw [if_neg q] at hRe
      obtain ⟨g1, g2, g3⟩ := moved_f L[i] A hA hoA k1 (by omega)
      obtain ⟨o1, o2, o3, o4, o5⟩ := hoL L[i] (List.getElem_mem hlt)
      rw [if_neg (by rintro (c | c); cases c; exact q c), g1, Option.bind_some, if_pos (by omega), w64 (x := L[i].f0 + _) (by omega) (by omega), w64 (x := L[i].f1 + _) (by omega) (by omega)]
      exact ih (i + 1) k1 _ (by omega) (by omega) h1 (by rw [List.length_append, List.length_singleton]; omega) (by rw [hRe, List.append_assoc, List.singleton_append])
/-- both ways move alike -/
theorem rov_ov (n : Nat) (l1 l2 : List S34) (hc : Tx.Ch n 0 ((Tx.ord eltS (l1 ++ l2)).map toE)) : rovS (Tx.ord eltS l1) (Tx.ord eltS l2) = ovS l1 0 (Tx.ord eltS (l1 ++ l2)) := by
  refine map_toE_inj ?_
  have hm := Tx.ov_moved (n := n) (inE l1) ((Tx.ord eltS (l1 ++ l2)).map toE) [] hc (asc_toE _)
  have h0 : Tx.gains (([] : List Tx.Ed).filter (inE l1)) = 0 := rfl
  rw [h0, List.nil_append, in_filter l1 (l1 ++ l2) (fun x h => List.mem_append_left _ h)] at hm
  rw [ov_toE, hm]
  have hf : ((Tx.ord eltS (l1 ++ l2)).map toE).filter (fun e => !inE l1 e) = ((Tx.ord eltS l2).filter fun x => !decide (x ∈ Tx.ord eltS l1)).map toE := by
    refine Tx.asc_unique Tx.elt_lin ((asc_toE (l1 ++ l2)).filter _) (List.pairwise_map.2 ((Tx.asc_ord eltS_lin).filter _)) fun a => ?_
    rw [List.mem_filter, List.mem_map, List.mem_map]
    constructor
    · rintro ⟨⟨x, hx, rfl⟩, h2⟩
      have hn : x ∉ l1 := fun q => by
        rw [show inE l1 (toE x) = true from decide_eq_true (mem_toE.2 q)] at h2; cases h2
      refine ⟨x, List.mem_filter.2 ⟨(Tx.mem_ord eltS_lin).2 ?_, ?_⟩, rfl⟩
      · rcases List.mem_append.1 ((Tx.mem_ord eltS_lin).1 hx) with q | q
        · exact absurd q hn
        · exact q
      · rw [decide_eq_false (fun q => hn ((Tx.mem_ord eltS_lin).1 q))]; rfl
    · rintro ⟨x, hx, rfl⟩
      obtain ⟨h1, h2⟩ := List.mem_filter.1 hx
      have hn : x ∉ l1 := fun q => by
        rw [decide_eq_true ((Tx.mem_ord eltS_lin).2 q)] at h2; cases h2
      refine ⟨⟨x, (Tx.mem_ord eltS_lin).2 (List.mem_append_right _ ((Tx.mem_ord eltS_lin).1 h1)), rfl⟩, ?_⟩
      rw [show inE l1 (toE x) = false from decide_eq_false (fun q => hn (mem_toE.1 q))]; rfl
  rw [hf]
  unfold rovS
  rw [List.map_map, List.map_map]
  rfl
theorem rover_f (s : ByteArray) (l1 l2 : List S34) (N : Nat) (hN : l1.length + l2.length ≤ N) (hN2 : N ≤ 5000) (hz : sumS l1 + sumS l2 ≤ 100000000000) (k : Nat) (hk : 2 * N * (2 * N + 5) + 8 * N + 100 ≤ k) : smockingref01_Over.f k s l1 l2 = some (overR s.size l1 l2) := by
  have hm : N * (N + 4) ≤ 2 * N * (2 * N + 5) := Nat.mul_le_mul (by omega) (by omega)
  have hm2 : N * (2 * N + 5) ≤ 2 * N * (2 * N + 5) := Nat.mul_le_mul (by omega) (by omega)
  unfold smockingref01_Over.f overR
  rw [tog_f s l1 l2 N hN (by omega) k (by omega), Option.bind_some, merge_tog]
  by_cases h : togE s.size l1 l2 = 0
  · rw [if_pos h, if_pos h, if_neg (show ¬ (((Tx.ord eltS (l1 ++ l2), (0 : Int)).2) ≠ 0) from fun q => q rfl), ordered_f l1 N (by omega) (by omega) k (by omega), Option.bind_some, ordered_f l2 N (by omega) (by omega) k (by omega), Option.bind_some]
    have hz0 : (mergeR s.size l1 l2).2 = 0 := by rw [merge_tog, if_pos h]
    obtain ⟨f1, f2, f3, -⟩ := merge_zero hz0
    have hs1 := sumS_ord l1
    have hs2 := sumS_ord l2
    have hs3 := rovS_sum (Tx.ord eltS l1) (Tx.ord eltS l2)
    have hn1 := Tx.ord_len (lt := eltS) l1
    have hn2 := Tx.ord_len (lt := eltS) l2
    have hn3 := rovS_len (Tx.ord eltS l1) (Tx.ord eltS l2)
    have hb1 := (fine_ok f1 (by omega)).2.2
    have hb2 := (fine_ok f2 (by omega)).2.2
    have hmul : ((Tx.ord eltS l2).length + 1) * ((Tx.ord eltS l1).length + 3) ≤ 2 * N * (2 * N + 5) + 10 := by
      rcases Nat.eq_zero_or_pos N with hN0 | hN0
      · have e1 : (Tx.ord eltS l2).length = 0 := by omega
        have e2 : (Tx.ord eltS l1).length = 0 := by omega
        rw [e1, e2]; omega
      · exact Nat.le_trans (Nat.mul_le_mul (show _ ≤ 2 * N by omega) (show _ ≤ 2 * N + 5 by omega)) (Nat.le_add_right _ _)
    have hr := rover_l0 (Tx.ord eltS l1) (Tx.ord eltS l2) (by omega) (by omega) (fun y hy => hb1 y ((Tx.mem_ord eltS_lin).1 hy)) (fun y hy => hb2 y ((Tx.mem_ord eltS_lin).1 hy)) (rovS (Tx.ord eltS l1) (Tx.ord eltS l2)) (by omega) (by omega) (Tx.ord eltS l2).length 0 k [] (by omega) (by omega) (by omega) (Nat.zero_le _) (by rw [List.drop_zero, List.nil_append])
    rw [show ((0 : Nat) : Int) = 0 from rfl, rov_ov s.size l1 l2 (fine_chain s.size _ f3).2.2] at hr
    exact hr
  · rw [if_neg h, if_neg h, if_pos (show (([] : List S34), togE s.size l1 l2).2 ≠ 0 from h)]
end Go.Proofs.YthimblhfjfngiaaDoor.PText

namespace Go.Proofs.YthimblhfjfngiaaDoor.PText
open Go.RowKit Go.Lib Go.Proofs.YthimblhfjfngiaaDoorW.PrintWords Go.Proofs.YthimblhfjfngiaaDoorW.PrintLast Go.Proofs.YthimblhfjfngiaaDoorW.PrintMore
theorem textMerges_eq (s : ByteArray) (l1 l2 : List S34) (hs : s.size ≤ 1000000000000000) (hl1 : l1.length ≤ 1000000000000000) (hl2 : l2.length ≤ 1000000000000000) (hz1 : ∀ x ∈ l1, x.f2.size ≤ 1000000000000000) (hz2 : ∀ x ∈ l2, x.f2.size ≤ 1000000000000000) :
    ∃ k, smockinglaw01_TextMerges.f k s l1 l2 = some true := by
  refine ⟨l1.length + l2.length + 40000, ?_⟩
  obtain ⟨b1, h1, h2⟩ := heavy_f s l1 hs hl1 hz1 (l1.length + l2.length + 40000) (by omega)
  obtain ⟨b2, h3, h4⟩ := heavy_f s l2 hs hl2 hz2 (l1.length + l2.length + 40000) (by omega)
  unfold smockinglaw01_TextMerges.f
  rw [h1, Option.bind_some]
  have early : ∀ k, smockinglaw01_TextMerges.j0 (k + 1) s l1 l2 true = some true := fun k => by rw [smockinglaw01_TextMerges.j0, if_pos rfl]
  cases b1 with
  | true => rw [if_pos rfl]; exact early _
  | false =>
    rw [if_neg (show ¬ (false = true) by decide), h3, Option.bind_some]
    cases b2 with
    | true => rw [if_pos rfl]; exact early _
    | false =>
      rw [if_neg (show ¬ (false = true) by decide)]
      by_cases c1 : l1.length ≤ 40
      · rw [if_neg (show ¬ ((l1.length : Int) > 40) by omega)]
        by_cases c2 : l2.length ≤ 40
        · have hb1 := h2 rfl
          have hb2 := h4 rfl
          rw [decide_eq_false (show ¬ (l2.length : Int) > 40 by omega)]
          have e1 : text_Merge.f s l1 l2 = some (mergeR s.size l1 l2) := by unfold text_Merge.f; rw [if_pos (by omega)]
          have e2 := rmerge_f s l1 l2 80 (by omega) (by omega) (l1.length + l2.length + 39999) (by omega)
          have e3 : text_Over.f s l1 l2 = some (overR s.size l1 l2) := by unfold text_Over.f; rw [if_pos (by omega)]
          have e4 := rover_f s l1 l2 80 (by omega) (by omega) (by omega) (l1.length + l2.length + 39998) (by omega)
          have g1 := merge_len s.size l1 l2
          have g2 := over_len s.size l1 l2
          have e5 := eqEdits_f (mergeR s.size l1 l2).1 (by omega) (l1.length + l2.length + 39999) (by omega)
          have e6 := eqEdits_f (overR s.size l1 l2).1 (by omega) (l1.length + l2.length + 39998) (by omega)
          show smockinglaw01_TextMerges.j0 (l1.length + l2.length + 39999 + 1) s l1 l2 false = some true
          rw [smockinglaw01_TextMerges.j0, if_neg (show ¬ (false = true) by decide), e1, Option.bind_some, e2, Option.bind_some, if_pos rfl, e5, Option.bind_some]
          show smockinglaw01_TextMerges.j1 (l1.length + l2.length + 39998 + 1) s l1 l2 false = some true
          rw [smockinglaw01_TextMerges.j1, if_neg (show ¬ (false = true) by decide), e3, Option.bind_some, e4, Option.bind_some, if_pos rfl, e6, Option.bind_some, if_pos rfl, awake_f, Option.bind_some]
        · rw [decide_eq_true (show (l2.length : Int) > 40 by omega)]
          exact early _
      · rw [if_pos (show (l1.length : Int) > 40 by omega)]
        exact early _
end Go.Proofs.YthimblhfjfngiaaDoor.PText

