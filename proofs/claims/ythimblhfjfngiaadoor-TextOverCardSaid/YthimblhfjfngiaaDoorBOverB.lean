/- TextOver holds: for every text and any two lists of edits the statement answers true, where the three listed package variables hold what the program's text lays. Part 2 of 3. -/
import Derived.Test.YthimblhfjfngiaaDoorBOverA
import Derived.Maps.OwnOps
import Derived.Maps.Views
import Derived.DeepKeys4
import Derived.Maps.Own
namespace Go.Proofs.YthimblhfjfngiaaDoor.PText
open Go.RowKit Go.Maps Go.WideShapes Go.Proofs.YthimblhfjfngiaaDoorW.PrintWords Go.Proofs.YthimblhfjfngiaaDoorW.PrintLast Go.Proofs.YthimblhfjfngiaaDoorW.PrintMore
theorem laidOutK : laidOutB Tryd.prog = true := by kernel_rfl
theorem K34 : Keyed Tryd.prog 34 := Keyed.of_law (deep_law_laid laidOutK (m := 4) (by decide) (of_decide_eq_true (by kernel_rfl)) (by kernel_rfl) (by kernel_rfl))
/-- an edit whose numbers and text a key may hold -/
def okE (x : S34) : Prop := 0 ≤ x.f0 ∧ x.f0 ≤ 1000000 ∧ 0 ≤ x.f1 ∧ x.f1 ≤ 1000000 ∧ x.f2.size ≤ 1000000000000
def kvE (x : S34) : Value := .agg #[.int .i64 x.f0, .int .i64 x.f1, .string x.f2]
noncomputable def klE (x : S34) : Lit := (keyOf Tryd.prog 34 (kvE x)).getD (.bool false)
theorem kc3 : Tryd.prog.cellsOf 3 = 1 := by kernel_rfl
theorem kc9 : Tryd.prog.cellsOf 9 = 1 := by kernel_rfl
theorem kc34 : Tryd.prog.cellsOf 34 = 3 := by kernel_rfl
theorem keyT34 : Tryd.prog.keyType 34 = true := by kernel_rfl
theorem key_some (x : S34) (h : okE x) : ∃ l, keyOf Tryd.prog 34 (kvE x) = some l := by
  obtain ⟨h1, h2, h3, h4, h5⟩ := h
  obtain ⟨m, hm⟩ : ∃ m, Tryd.prog.types.size = m + 1 := ⟨Tryd.prog.types.size - 1, by have : 0 < Tryd.prog.types.size := of_decide_eq_true (by kernel_rfl); omega⟩
  have w0 : (Lit.int .i64 x.f0).wf = true := by
    simp only [Lit.wf, Bool.and_eq_true, decide_eq_true_eq]
    have e1 : IntKind.i64.min = -9223372036854775808 := by decide
    have e2 : IntKind.i64.max = 9223372036854775807 := by decide
    omega
  have w1 : (Lit.int .i64 x.f1).wf = true := by
    simp only [Lit.wf, Bool.and_eq_true, decide_eq_true_eq]
    have e1 : IntKind.i64.min = -9223372036854775808 := by decide
    have e2 : IntKind.i64.max = 9223372036854775807 := by decide
    omega
  have w2 : x.f2.size ≤ maxLen := by unfold maxLen; omega
  have f34 : (kvE x).formed Tryd.prog 34 = true := by simp [kvE, Value.formed, Tryd.underlying34, kc34]
  have kl : Tryd.prog.keyLits (Tryd.prog.types.size + 1) 34 (kvE x).cells.toList = some [.int .i64 x.f0, .int .i64 x.f1, .string x.f2.data.toList] := by
    rw [hm]
    unfold Program.keyLits
    simp only [Tryd.underlying34, kvE, Value.cells, kc34]
    rw [if_pos (by simp)]
    unfold Program.keyLits
    simp [Tryd.underlying3, Tryd.underlying9, kc3, kc9, w0, w1, w2]
  unfold keyOf
  simp only [Tryd.underlying34]
  rw [if_pos (by rw [keyT34, f34]; rfl), kl]
  exact ⟨_, rfl⟩
theorem key_ok (x : S34) (h : okE x) : keyOf Tryd.prog 34 (kvE x) = some (klE x) := by
  obtain ⟨l, hl⟩ := key_some x h
  unfold klE
  rw [hl]
  rfl
theorem key_inj {x y : S34} (hx : okE x) (hy : okE y) (h : klE x = klE y) : x = y := by
  have h1 := key_ok x hx
  have h2 := key_ok y hy
  rw [← h] at h2
  have := K34.inj h1 h2
  unfold kvE at this
  cases x; cases y
  simp only [Value.agg.injEq] at this
  simp_all
end Go.Proofs.YthimblhfjfngiaaDoor.PText

namespace Go.Proofs.YthimblhfjfngiaaDoor.PText
open Go.RowKit Go.Maps Go.WideShapes Go.Proofs.YthimblhfjfngiaaDoorW.PrintWords Go.Proofs.YthimblhfjfngiaaDoorW.PrintLast Go.Proofs.YthimblhfjfngiaaDoorW.PrintMore
set_option linter.unusedVariables false
set_option linter.unusedSimpArgs false
theorem wpList_lookup_bool {H : Type} {P : Program} (w : World) {ops : Array Oper} {rest : List Oper} {o : Oper} {a : Act} {Q : Exit → Act → World → Prop}
    (hg : o.guard = none) (m x : Operand) (t : TypeId) (hop : o.op = Op.lookup t m x false)
    (k e : TypeId) (K : Keyed P k) (ht : P.underlying t = some (.map k e)) (he : P.underlying e = some .bool) (hz : (zeroValue e).run P w = .ok (.bool false) w) (b n : Nat) (D : DataW H)
    (hm : a.eval m = .map (some b)) (hown : w.ownsMap P k (plainElem P e) b n D) (key : Value) (kl : Lit) (hx : a.eval x = key) (hkey : keyOf P k key = some kl)
    (c : Bool) (hat : D.atKey kl (.lit (.bool false)) = .lit (.bool c)) (hK : wpList P ops Q rest (a.put o.dst (.bool c)) w) :
    wpList P ops Q (o :: rest) a w := by
  refine wpList_plain hg fun K' hK' => ?_
  obtain ⟨v, ps, hrun, hv⟩ := hown.lookup K ht hz (plainElem_bool he false) hkey
  have hv2 : v = .bool c := by
    rw [hat] at hv
    unfold plainElem at hv
    cases v <;> simp [he] at hv
    exact congrArg Value.bool hv.1
  subst hv2
  unfold Oper.wp
  simp [execOp, hop, hm, hx, hrun, Result.andThen]
  exact hK' _ _ hK
/-- what the map holds behind some edits -/
noncomputable def mapOf (l : List S34) : DataW Unit := l.foldl (fun m x => m.put (klE x) (.lit (.bool true))) (.map [])
theorem mapOf_snoc (l : List S34) (x : S34) : mapOf (l ++ [x]) = (mapOf l).put (klE x) (.lit (.bool true)) := by unfold mapOf; rw [List.foldl_append]; rfl
set_option maxRecDepth 100000 in
theorem key_lit (x : S34) (h : okE x) : WideAt.IsKeyLit (klE x) := K34.key (v := kvE x) (key_ok x h)
theorem isMap_fold : ∀ (l : List S34) (m : DataW Unit), IsMap m → IsMap (l.foldl (fun m x => m.put (klE x) (.lit (.bool true))) m)
  | [], _, h => h
  | x :: l, m, h => isMap_fold l _ (h.put _ _)
set_option maxRecDepth 100000 in
theorem at_fold (x : S34) (hx : okE x) : ∀ (l : List S34) (m : DataW Unit), IsMap m → (∀ y ∈ l, okE y) →
    (l.foldl (fun m x => m.put (klE x) (.lit (.bool true))) m).atKey (klE x) (.lit (.bool false)) = if x ∈ l then .lit (.bool true) else m.atKey (klE x) (.lit (.bool false))
  | [], _, _, _ => by simp only [List.foldl_nil, List.not_mem_nil, if_false]
  | y :: l, m, h, hl => by
    have ih := at_fold x hx l (m.put (klE y) (.lit (.bool true))) (h.put _ _) (fun z hz => hl z (List.mem_cons_of_mem _ hz))
    rw [List.foldl_cons, ih]
    by_cases e : x = y
    · subst e
      rw [atKey_put_same h (key_lit x hx), if_pos (show x ∈ x :: l from List.mem_cons_self)]
      split <;> rfl
    · rw [atKey_put_other (fun q => e (key_inj hx (hl y List.mem_cons_self) q))]
      by_cases q : x ∈ l
      · rw [if_pos q, if_pos (List.mem_cons_of_mem _ q)]
      · rw [if_neg q, if_neg (fun c => (List.mem_cons.1 c).elim e q)]
theorem at_mapOf (l : List S34) (hl : ∀ y ∈ l, okE y) (x : S34) (hx : okE x) : (mapOf l).atKey (klE x) (.lit (.bool false)) = .lit (.bool (decide (x ∈ l))) := by
  unfold mapOf
  rw [at_fold x hx l _ isMap_empty hl]
  by_cases q : x ∈ l
  · rw [if_pos q, decide_eq_true q]
  · rw [if_neg q, decide_eq_false q]; rfl
/-- the second list's edits over the first's -/
def ovS (l1 : List S34) : Int → List S34 → List S34
  | _, [] => []
  | sh, x :: l => if x ∈ l1 then ovS l1 (sh + ((x.f2.size : Int) - (x.f1 - x.f0))) l else ⟨x.f0 + sh, x.f1 + sh, x.f2⟩ :: ovS l1 sh l
theorem ovS_sum (l1 : List S34) : ∀ (l : List S34) (sh : Int), sumS (ovS l1 sh l) ≤ sumS l
  | [], _ => Nat.le_refl _
  | x :: l, sh => by
    have e : ovS l1 sh (x :: l) = if x ∈ l1 then ovS l1 (sh + ((x.f2.size : Int) - (x.f1 - x.f0))) l else ⟨x.f0 + sh, x.f1 + sh, x.f2⟩ :: ovS l1 sh l := rfl
    rw [e, sumS_cons]
    by_cases h : x ∈ l1
    · rw [if_pos h]
      have := ovS_sum l1 l (sh + ((x.f2.size : Int) - (x.f1 - x.f0)))
      omega
    · rw [if_neg h, sumS_cons]
      have := ovS_sum l1 l sh
      show x.f2.size + _ ≤ _
      omega
/-- what text.Over answers -/
def overR (n : Nat) (l1 l2 : List S34) : List S34 × Int := if (mergeR n l1 l2).2 ≠ 0 then ([], (mergeR n l1 l2).2) else (jnS (ovS l1 0 (mergeR n l1 l2).1), 0)
def text_Over.f (a0 : ByteArray) (l1 l2 : List S34) : Option (List S34 × Int) := if l1.length + l2.length ≤ 20000 ∧ sumS l1 + sumS l2 ≤ 100000000000 then some (overR a0.size l1 l2) else none
theorem merge_zero {n : Nat} {l1 l2 : List S34} (h : (mergeR n l1 l2).2 = 0) : fineE n l1 = 0 ∧ fineE n l2 = 0 ∧ fineE n (l1 ++ l2) = 0 ∧ (mergeR n l1 l2).1 = Tx.ord eltS (l1 ++ l2) := by
  unfold mergeR at h ⊢
  by_cases h1 : fineE n l1 = 0
  · rw [if_neg (show ¬ (fineE n l1 ≠ 0) from fun q => q h1)] at h ⊢
    by_cases h2 : fineE n l2 = 0
    · rw [if_neg (show ¬ (fineE n l2 ≠ 0) from fun q => q h2)] at h ⊢
      by_cases h3 : fineE n (l1 ++ l2) = 0
      · rw [if_neg (show ¬ (fineE n (l1 ++ l2) ≠ 0) from fun q => q h3)]
        exact ⟨h1, h2, h3, rfl⟩
      · rw [if_pos (show fineE n (l1 ++ l2) ≠ 0 from h3)] at h; exact absurd h h3
    · rw [if_pos (show fineE n l2 ≠ 0 from h2)] at h; exact absurd h h2
  · rw [if_pos (show fineE n l1 ≠ 0 from h1)] at h; exact absurd h h1
theorem size_sum {l : List S34} {x : S34} (h : x ∈ l) : x.f2.size ≤ sumS l := by
  induction l with
  | nil => cases h
  | cons y l ih =>
    rw [sumS_cons]
    rcases List.mem_cons.1 h with h | h
    · subst h; omega
    · have := ih h; omega
theorem fine_ok {n : Nat} {l : List S34} (h : fineE n l = 0) (hz : sumS l ≤ 1000000000000) : n ≤ 200000 ∧ l.length ≤ 10000 ∧ ∀ x ∈ l, okE x := by
  obtain ⟨h1, h2, h3⟩ := fine_chain n l h
  refine ⟨h2, h1, fun x hx => ?_⟩
  have ho := Tx.ch_okay (Int.le_refl 0) h3 (toE x) (List.mem_map.2 ⟨x, (Tx.mem_ord eltS_lin).2 hx, rfl⟩)
  have g1 : 0 ≤ x.f0 := ho.1
  have g2 : x.f0 ≤ x.f1 := ho.2.1
  have g3 : x.f1 ≤ (n : Int) := ho.2.2
  have := size_sum hx
  exact ⟨g1, by omega, by omega, by omega, by omega⟩
set_option maxHeartbeats 8000000 in
set_option maxRecDepth 100000 in
theorem text_Over.calls (a0 : ByteArray) (A1 : Option Addr) (c1 : Nat) (l1 : List S34) (A2 : Option Addr) (c2 : Nat) (l2 : List S34) (r1 : List S34) (r2 : Int) (w : World) (hr1 : Kd.C k34 w A1 l1.length l1) (hc1 : l1.length ≤ c1) (hr2 : Kd.C k34 w A2 l2.length l2) (hc2 : l2.length ≤ c2) (h : text_Over.f a0 l1 l2 = some (r1, r2)) :
    Calls Tryd.prog 25 #[.string a0, .slice A1 l1.length c1, .slice A2 l2.length c2] w fun e w' => ∃ v0_ : Value, e = .returned (.tuple #[v0_, .int .i64 r2]) ∧ Kd.R k34 34 w' w.heap.size (fun _ => True) v0_ r1 ∧ Below w.heap.size w w' := by
  unfold text_Over.f at h
  by_cases hh : l1.length + l2.length ≤ 20000 ∧ sumS l1 + sumS l2 ≤ 100000000000
  · rw [if_pos hh] at h
    obtain ⟨hlen, hsum⟩ := hh
    have h' := Option.some.inj h
    clear h
    have H23 := Aside0.mk (text_Merge.calls a0 A1 c1 l1 A2 c2 l2 (mergeR a0.size l1 l2).1 (mergeR a0.size l1 l2).2 w hr1 hc1 hr2 hc2 (by unfold text_Merge.f; rw [if_pos hlen]))
    by_cases hz : (mergeR a0.size l1 l2).2 = 0
    · obtain ⟨f1, f2, f3, f4⟩ := merge_zero hz
      unfold overR at h'
      rw [if_neg (show ¬ ((mergeR a0.size l1 l2).2 ≠ 0) from fun q => q hz), f4] at h'
      rw [hz, f4] at H23
      have e1 : r1 = jnS (ovS l1 0 (Tx.ord eltS (l1 ++ l2))) := (congrArg Prod.fst h').symm
      have e2 : r2 = 0 := (congrArg Prod.snd h').symm
      clear h'
      subst e2
      have OK1 := Aside0.mk (fine_ok f1 (by omega)).2.2
      obtain ⟨g1, g2, g3⟩ := fine_ok f3 (by rw [sumS_app]; omega)
      have OKA : Aside0 (∀ x ∈ Tx.ord eltS (l1 ++ l2), okE x) := ⟨fun x hx => g3 x ((Tx.mem_ord eltS_lin).1 hx)⟩
      have CH := Aside0.mk (fine_chain a0.size (l1 ++ l2) f3).2.2
      have HLA := Aside0.mk (Nat.le_trans (Tx.ord_len (lt := eltS) (l1 ++ l2)) g2)
      have HSA : Aside0 (sumS (Tx.ord eltS (l1 ++ l2)) ≤ 100000000000) := ⟨Nat.le_trans (sumS_ord _) (by rw [sumS_app]; exact hsum)⟩
      have HN := Aside0.mk g1
      have HR := Aside0.mk e1
      have HC1 := Aside0.mk hr1
      have HL1 := Aside0.mk hc1
      have HLL : Aside0 (l1.length ≤ 20000) := ⟨by omega⟩
      clear e1 f1 f2 f3 f4 g1 g2 g3 hz hr1 hr2 hc1 hc2 hlen hsum
      generalize Tx.ord eltS (l1 ++ l2) = la at *
      go_enter Tryd.func25, Tryd.ntmps25
      have hmm := @run_makeMap Tryd.prog
      go_wp2_with (go_at_call 23; refine H23.out.mono ?_; rintro e w2 ⟨v, rfl, ho, hb⟩; obtain ⟨A3, c3, rfl⟩ := Kd.R_slice ho; have HO := Aside0.mk ho; have HB := Aside0.mk hb; clear ho hb H23)
      have own0 : (w2.alloc (.map #[] 0)).ownsMap Tryd.prog 34 (plainElem (H := Unit) Tryd.prog 4) w2.heap.size 0 (.map []) := World.ownsMap_made w2 Tryd.prog 34 _
      have OW0 := Aside0.mk own0
      have BW0 : Aside0 (Below w2.heap.size w2 (w2.alloc (.map #[] 0))) := ⟨(Below.refl _ w2).alloc (Nat.le_refl _) _⟩
      have HSW := Aside0.mk HB.out.size
      clear own0
      go_loopg [30] (l1.length + 1) (fun kq v30 wq => ∃ i : Nat, v30 = .int .i64 (i : Int) ∧ Aside0 (l1.length - i < kq ∧ i ≤ l1.length) ∧ Aside0 (wq.ownsMap Tryd.prog 34 (plainElem Tryd.prog 4) w2.heap.size i (mapOf (l1.take i))) ∧ Aside0 (Below w2.heap.size w2 wq))
      case atStart => exact ⟨0, rfl, ⟨by omega, by omega⟩, OW0, BW0⟩
      case round =>
        obtain ⟨i, rfl, HI, HM, HBe⟩ := hrel
        obtain ⟨k1, rfl⟩ : ∃ k1, gk = k1 + 1 := ⟨gk - 1, by have := HI.out.1; omega⟩
        by_cases hlt : i < l1.length
        · have hb : decide ((i : Int) < (l1.length : Int)) = true := by simp; omega
          have hb2 : decide ((0 : Int) ≤ (i : Int)) = true := by simp
          have p0 : (0 : Int) ≤ (i : Int) := by omega
          have q0 : (i : Int) < (l1.length : Int) := by omega
          obtain ⟨ad, e0, hx0, hx1, hx2⟩ := at_T34 (Kd.C_below HC1.out (HB.out.trans (HBe.out.mono HSW.out))) (i : Int) p0 q0
          cases e0
          rw [Int.toNat_natCast] at hx0 hx1 hx2
          rw [rd34_at l1 i hlt] at hx0 hx1 hx2
          have OKX := Aside0.mk (key_ok l1[i] (OK1.out l1[i] (List.getElem_mem hlt)))
          have HT : Aside0 (mapOf (l1.take (i + 1)) = (mapOf (l1.take i)).put (klE l1[i]) (.lit (.bool true))) := ⟨by rw [List.take_succ_eq_append_getElem hlt, mapOf_snoc]⟩
          generalize l1[i] = x at *
          have OKY : Aside0 (keyOf Tryd.prog 34 (.agg #[.int .i64 x.f0, .int .i64 x.f1, .string x.f2]) = some (klE x)) := OKX
          clear OKX
          go_wp2_with (at_mapUpdate; refine wpList_mapUpdate_own _ rfl _ _ _ 83 rfl 34 4 K34 Tryd.underlying83 _ w2.heap.size i _ rfl (HM.out.alloc _) (by have := HLL.out; unfold maxLen; omega) _ _ _ rfl rfl OKY.out _ [] (plainElem_bool Tryd.underlying4 true) ?_; intro w5 hown5 hgrow5; have HM5 : Aside0 (w5.ownsMap Tryd.prog 34 (plainElem Tryd.prog 4) w2.heap.size (i + 1) (mapOf (l1.take (i + 1)))) := ⟨by rw [HT.out]; exact hown5⟩; have HB5 : Aside0 (Below w2.heap.size w2 w5) := ⟨(HBe.out.alloc HBe.out.size _).grown hgrow5 (by have := HBe.out.size; simp; omega) (fun k e => by cases e; exact Nat.le_refl _)⟩; clear hown5 hgrow5)
          go_roundg k1
          case measure => have := HI.out.1; omega
          case rel => exact ⟨i + 1, congrArg (Value.int .i64) (nx i (by have := HLL.out; omega)), ⟨by have := HI.out.1; omega, by omega⟩, HM5, HB5⟩
        · have hb : decide ((i : Int) < (l1.length : Int)) = false := by simp; omega
          have hi : i = l1.length := by have := HI.out.2; omega
          subst hi
          have HM2 : Aside0 (wr.ownsMap Tryd.prog 34 (plainElem Tryd.prog 4) w2.heap.size l1.length (mapOf l1)) := ⟨by have := HM.out; rw [List.take_of_length_le (by omega)] at this; exact this⟩
          have HSM : Aside0 (w2.heap.size < wr.heap.size) := ⟨HM2.out.lt⟩
          clear HM
          go_wp2_with fail
          go_loopg [13, 14, 39] (la.length + 1) (fun kq v13 v14 v39 wq => ∃ (j : Nat) (p sh : Int) (outs : List S34), v14 = .int .i64 sh ∧ v39 = .int .i64 (j : Int) ∧ Aside0 (la.length - j < kq ∧ j ≤ la.length ∧ outs.length ≤ j ∧ 0 ≤ p ∧ -p ≤ sh) ∧ Aside0 (Tx.Ch (a0.size : Int) p ((la.drop j).map toE)) ∧ Aside0 (sh + (sumS (la.drop j) : Int) ≤ 100000000000) ∧ Aside0 (outs ++ ovS l1 sh (la.drop j) = ovS l1 0 la) ∧ Aside0 (Kd.R k34 34 wq (w2.heap.size + 1) (fun _ => True) v13 outs) ∧ Aside0 (wq.ownsMap Tryd.prog 34 (plainElem Tryd.prog 4) w2.heap.size l1.length (mapOf l1)) ∧ Aside0 (Below w2.heap.size w2 wq))
          case atStart => exact ⟨0, 0, 0, [], rfl, rfl, ⟨by omega, by omega, by simp, by omega, by omega⟩, CH, ⟨by have := HSA.out; rw [List.drop_zero]; omega⟩, ⟨rfl⟩, ⟨Kd.R_nil _ _ _ _ _⟩, HM2, HBe⟩
          case round =>
            obtain ⟨j, p, sh, outs, rfl, rfl, HJ, HCH, HSU, HEQ, HOU, HM, HBj⟩ := hrel
            obtain ⟨k2, rfl⟩ : ∃ k2, gk = k2 + 1 := ⟨gk - 1, by have := HJ.out.1; omega⟩
            by_cases hlt2 : j < la.length
            · have hb : decide ((j : Int) < (la.length : Int)) = true := by simp; omega
              have hb2 : decide ((0 : Int) ≤ (j : Int)) = true := by simp
              have p0 : (0 : Int) ≤ (j : Int) := by omega
              have q0 : (j : Int) < (la.length : Int) := by omega
              obtain ⟨ad, e0, hx0, hx1, hx2⟩ := at_T34 (Kd.C_below (Kd.R_reads' HO.out).2.2 HBj.out) (j : Int) p0 q0
              cases e0
              rw [Int.toNat_natCast] at hx0 hx1 hx2
              rw [rd34_at la j hlt2] at hx0 hx1 hx2
              have hok := OKA.out la[j] (List.getElem_mem hlt2)
              have OKX := Aside0.mk (key_ok la[j] hok)
              have HAT := Aside0.mk (at_mapOf l1 OK1.out la[j] hok)
              have HD := Aside0.mk (show la.drop j = la[j] :: la.drop (j + 1) from List.drop_eq_getElem_cons hlt2)
              generalize la[j] = x at *
              have OKY : Aside0 (keyOf Tryd.prog 34 (.agg #[.int .i64 x.f0, .int .i64 x.f1, .string x.f2]) = some (klE x)) := OKX
              have hc := HCH.out
              rw [HD.out] at hc
              obtain ⟨hc1, hc2, hc3⟩ := hc
              replace hc1 : p ≤ x.f0 := hc1
              replace hc2 : x.f0 ≤ x.f1 := hc2
              have hc4 : x.f1 ≤ (a0.size : Int) := Tx.ch_le hc3
              have HC3 : Aside0 (Tx.Ch (a0.size : Int) x.f1 ((la.drop (j + 1)).map toE)) := ⟨hc3⟩
              have hsu := HSU.out
              rw [HD.out, sumS_cons] at hsu
              have hn := HN.out
              obtain ⟨-, -, hj3, hj4, hj5⟩ := HJ.out
              have w1 : IntKind.i64.wrap (x.f0 + sh) = x.f0 + sh := (i64_w _).trans (w64 (by omega) (by omega))
              have w2' : IntKind.i64.wrap (x.f1 + sh) = x.f1 + sh := (i64_w _).trans (w64 (by omega) (by omega))
              have w3 : IntKind.i64.wrap (x.f1 - x.f0) = x.f1 - x.f0 := (i64_w _).trans (w64 (by omega) (by omega))
              have w4 : IntKind.i64.wrap ((x.f2.size : Int) - (x.f1 - x.f0)) = (x.f2.size : Int) - (x.f1 - x.f0) := (i64_w _).trans (w64 (by omega) (by omega))
              have w5 : IntKind.i64.wrap (sh + ((x.f2.size : Int) - (x.f1 - x.f0))) = sh + ((x.f2.size : Int) - (x.f1 - x.f0)) := (i64_w _).trans (w64 (by omega) (by omega))
              have v1 : wrap64 (x.f0 + sh) = x.f0 + sh := w64 (by omega) (by omega)
              have v2 : wrap64 (x.f1 + sh) = x.f1 + sh := w64 (by omega) (by omega)
              have v3 : wrap64 (x.f1 - x.f0) = x.f1 - x.f0 := w64 (by omega) (by omega)
              have v4 : wrap64 ((x.f2.size : Int) - (x.f1 - x.f0)) = (x.f2.size : Int) - (x.f1 - x.f0) := w64 (by omega) (by omega)
              have v5 : wrap64 (sh + ((x.f2.size : Int) - (x.f1 - x.f0))) = sh + ((x.f2.size : Int) - (x.f1 - x.f0)) := w64 (by omega) (by omega)
              have HF : Aside0 (0 ≤ x.f1 ∧ -x.f1 ≤ sh ∧ -x.f1 ≤ sh + ((x.f2.size : Int) - (x.f1 - x.f0))) := ⟨by omega⟩
              have HSX := Aside0.mk hsu
              have heq := HEQ.out
              rw [HD.out] at heq
              clear hc3 hsu hj3 hj4 hj5 OKX hok
              by_cases hmem : x ∈ l1
              · have HA2 : Aside0 ((mapOf l1).atKey (klE x) (.lit (.bool false)) = .lit (.bool true)) := ⟨by rw [HAT.out, decide_eq_true hmem]⟩
                have HQ : Aside0 (outs ++ ovS l1 (sh + ((x.f2.size : Int) - (x.f1 - x.f0))) (la.drop (j + 1)) = ovS l1 0 la) := ⟨by
                  have e : ovS l1 sh (x :: la.drop (j + 1)) = if x ∈ l1 then ovS l1 (sh + ((x.f2.size : Int) - (x.f1 - x.f0))) (la.drop (j + 1)) else ⟨x.f0 + sh, x.f1 + sh, x.f2⟩ :: ovS l1 sh (la.drop (j + 1)) := rfl
                  rw [e, if_pos hmem] at heq
                  exact heq⟩
                clear heq HAT
                go_wp2_with (at_lookup; refine wpList_lookup_bool _ rfl _ _ 83 rfl 34 4 K34 Tryd.underlying83 Tryd.underlying4 (Tryd.zeroValue4 _) w2.heap.size l1.length (mapOf l1) rfl (HM.out.alloc _) _ (klE x) rfl OKY.out true HA2.out ?_)
                go_roundg k2
                case measure => have := HJ.out.1; omega
                case rel => exact ⟨j + 1, x.f1, sh + ((x.f2.size : Int) - (x.f1 - x.f0)), outs, rfl, congrArg (Value.int .i64) (nx j (by have := HLA.out; omega)), ⟨by have := HJ.out.1; omega, by omega, by have := HJ.out.2.2.1; omega, HF.out.1, HF.out.2.2⟩, HC3, ⟨by have := HSX.out; omega⟩, HQ, ⟨Kd.R_alloc HOU.out _⟩, ⟨HM.out.alloc _⟩, ⟨HBj.out.alloc HBj.out.size _⟩⟩
              · have HA2 : Aside0 ((mapOf l1).atKey (klE x) (.lit (.bool false)) = .lit (.bool false)) := ⟨by rw [HAT.out, decide_eq_false hmem]⟩
                have HQ : Aside0 ((outs ++ [(⟨x.f0 + sh, x.f1 + sh, x.f2⟩ : S34)]) ++ ovS l1 sh (la.drop (j + 1)) = ovS l1 0 la) := ⟨by
                  have e : ovS l1 sh (x :: la.drop (j + 1)) = if x ∈ l1 then ovS l1 (sh + ((x.f2.size : Int) - (x.f1 - x.f0))) (la.drop (j + 1)) else ⟨x.f0 + sh, x.f1 + sh, x.f2⟩ :: ovS l1 sh (la.drop (j + 1)) := rfl
                  rw [e, if_neg hmem] at heq
                  rw [List.append_assoc, List.singleton_append]
                  exact heq⟩
                clear heq HAT
                have hsz2 : w2.heap.size + 1 ≤ wr.heap.size := HM.out.lt
                obtain ⟨innr, hrow⟩ := Kd.R_own HOU.out
                have HNE : Aside0 (∀ k, Value.ownBlock u13 = some k → w2.heap.size + 1 ≤ k) := ⟨fun k hk => (hrow.lt k hk).1⟩
                clear hrow
                go_wp2_with (first
                  | (at_lookup; refine wpList_lookup_bool _ rfl _ _ 83 rfl 34 4 K34 Tryd.underlying83 Tryd.underlying4 (Tryd.zeroValue4 _) w2.heap.size l1.length (mapOf l1) rfl (HM.out.alloc _) _ (klE x) rfl OKY.out false HA2.out ?_)
                  | (at_builtin; refine Kd.R_append k34 (w2.heap.size + 1) rfl (.tmp 57) (.tmp 69) 22 34 (.agg #[(.int .i64 0), (.int .i64 0), (.string ⟨#[]⟩)]) 32 rfl Tryd.underlying22 info34 rfl (by decide) (by omega) _ outs (⟨x.f0 + sh, x.f1 + sh, x.f2⟩ : S34) [.int .i64 (x.f0 + sh), .int .i64 (x.f1 + sh), .string x.f2] (fun _ => True) (fun _ => False) rfl (by first | rfl | (simp; done) | (go_simp; done)) (k34_mkM _ _ _ (⟨x.f0 + sh, x.f1 + sh, x.f2⟩ : S34)) (fun _ hk => hk.elim) (fun _ _ => trivial) (Kd.R_alloc HOU.out _) (Below.refl _ _) (by simp; omega) (by have := HJ.out.2.2.1; have := HLA.out; omega) ?_; intro v5' w5' ho5 hb5 hg5 hat5; have HO5 := Aside0.mk ho5; have HM5 : Aside0 (w5'.ownsMap Tryd.prog 34 (plainElem Tryd.prog 4) w2.heap.size l1.length (mapOf l1)) := ⟨(HM.out.alloc _).kept hg5 (fun e => by have := HNE.out _ e.symm; omega)⟩; have HB5 : Aside0 (Below w2.heap.size w2 w5') := ⟨(HBj.out.alloc HBj.out.size _).trans (hb5.mono (by omega))⟩; clear ho5 hb5 hg5 hat5))
                go_roundg k2
                case measure => have := HJ.out.1; omega
                case rel => exact ⟨j + 1, x.f1, sh, outs ++ [(⟨x.f0 + sh, x.f1 + sh, x.f2⟩ : S34)], rfl, congrArg (Value.int .i64) (nx j (by have := HLA.out; omega)), ⟨by have := HJ.out.1; omega, by omega, by have := HJ.out.2.2.1; rw [List.length_append, List.length_singleton]; omega, HF.out.1, HF.out.2.1⟩, HC3, ⟨by have := HSX.out; omega⟩, HQ, HO5, HM5, HB5⟩
            · have hb : decide ((j : Int) < (la.length : Int)) = false := by simp; omega
              have hd : la.drop j = [] := List.drop_of_length_le (by omega)
              have heq := HEQ.out
              rw [hd] at heq
              have heq2 : outs = ovS l1 0 la := by rw [← heq]; simp [ovS]
              have HOV := Aside0.mk heq2
              clear heq heq2 hd
              obtain ⟨A5, c5, rfl⟩ := Kd.R_slice HOU.out
              have hR5 := Kd.R_reads' HOU.out
              have hjl : outs.length ≤ 20000 := by have := HJ.out; have := HLA.out; omega
              have hjs : sumS outs ≤ 1000000000000000 := by
                rw [HOV.out]
                exact Nat.le_trans (ovS_sum l1 la 0) (by have := HSA.out; omega)
              have H41 := Aside0.mk (text_joined.calls (outs.length + 1) A5 c5 outs (jnS outs) wr hR5.2.2 hR5.2.1 (tjoined_f outs (by omega) hjs (outs.length + 1) (Nat.le_refl _)))
              have HRR : Aside0 (r1 = jnS outs) := ⟨by rw [HR.out, HOV.out]⟩
              clear hR5 hjl hjs
              go_wp2_with (go_at_call 41; refine H41.out.mono ?_; rintro e w5 ⟨v5, rfl, ho, hb⟩; have HO5 := Aside0.mk ho; have HB5 := Aside0.mk hb; clear ho hb H41)
              go_ret2
              have hs5 : w.heap.size ≤ wr.heap.size := by have := HSW.out; have := HBj.out.size; omega
              exact ⟨_, rfl, by rw [HRR.out]; exact Kd.R_lower HO5.out hs5, (HB.out.trans (HBj.out.mono HSW.out)).trans (HB5.out.mono hs5)⟩
    · unfold overR at h'
      rw [if_pos (show (mergeR a0.size l1 l2).2 ≠ 0 from hz)] at h'
      have e1 : r1 = [] := (congrArg Prod.fst h').symm
      have e2 : r2 = (mergeR a0.size l1 l2).2 := (congrArg Prod.snd h').symm
      clear h'
      have b1 : ((mergeR a0.size l1 l2).2 != 0) = true := by simpa using hz
      have b2 : ((mergeR a0.size l1 l2).2 == 0) = false := by simpa using hz
      clear hz
      generalize (mergeR a0.size l1 l2).2 = fe at *
      generalize (mergeR a0.size l1 l2).1 = le at *
      subst e1 e2
      go_enter Tryd.func25, Tryd.ntmps25
      go_wp2_with (go_at_call 23; refine H23.out.mono ?_; rintro e w2 ⟨v, rfl, ho, hb⟩; have HB := Aside0.mk hb; clear ho hb H23)
      go_ret2
      exact ⟨_, rfl, Kd.R_nil _ _ _ _ _, HB.out⟩
  · rw [if_neg hh] at h; cases h
end Go.Proofs.YthimblhfjfngiaaDoor.PText

namespace Go.Proofs.YthimblhfjfngiaaDoor.PText
open Go.RowKit Go.Proofs.YthimblhfjfngiaaDoorW.PrintWords Go.Proofs.YthimblhfjfngiaaDoorW.PrintLast Go.Proofs.YthimblhfjfngiaaDoorW.PrintMore
attribute [local go_sem] max2_int min2_int max_two min_two max_three min_three max_four min_four   -- for this text's walks alone
set_option linter.unusedVariables false
set_option linter.unusedSimpArgs false

mutual
def smockinglaw01_TextOver.j0 : Nat → ByteArray → List (S34) → List (S34) → Bool → Option (Bool)
 | 0, _, _, _, _ => none
 | k + 1, x0, x1, x2, x39 => if x39 = true then (some true) else ((text_Merge.f x0 x1 x2).bind fun bt540 => (if bt540.2 = 0 then ((text_Apply.f x0 bt540.1).bind fun bt545 => (if bt545.2 = 0 then ((text_Apply.f x0 x1).bind fun bt548 => ((text_Apply.f x0 x2).bind fun bt550 => (if bt548.2 = 0 then ((text_Over.f x0 x1 x2).bind fun bt552 => ((text_Apply.f bt548.1 bt552.1).bind fun bt556 => (if bt552.2 = 0 then (if bt556.2 = 0 then (if bt556.1.toList = bt545.1.toList then (smockinglaw01_TextOver.j1 k x0 x1 x2 bt545.1 bt550.1 bt550.2) else (some false)) else (some false)) else (some false)))) else (smockinglaw01_TextOver.j1 k x0 x1 x2 bt545.1 bt550.1 bt550.2)))) else ((smockinglaw01_awake.f).bind fun t547 => (some t547)))) else ((smockinglaw01_awake.f).bind fun t544 => (some t544))))
def smockinglaw01_TextOver.j1 : Nat → ByteArray → List (S34) → List (S34) → ByteArray → ByteArray → Int → Option (Bool)
 | 0, _, _, _, _, _, _ => none
 | k + 1, x0, x1, x2, x9, x12, x13 => if x13 = 0 then ((text_Over.f x0 x2 x1).bind fun bt558 => ((text_Apply.f x12 bt558.1).bind fun bt562 => (if bt558.2 = 0 then (if bt562.2 = 0 then (if bt562.1.toList = x9.toList then ((smockinglaw01_awake.f).bind fun t564 => (some t564)) else (some false)) else (some false)) else (some false)))) else ((smockinglaw01_awake.f).bind fun t565 => (some t565))
end
def smockinglaw01_TextOver.f (k : Nat) (a0 : ByteArray) (l1 : List (S34)) (l2 : List (S34)) : Option (Bool) := (smockinglaw01_heavy.f k a0 l1).bind fun t538 => (if t538 = true then (smockinglaw01_TextOver.j0 k a0 l1 l2 true) else ((smockinglaw01_heavy.f k a0 l2).bind fun t539 => (if t539 = true then (smockinglaw01_TextOver.j0 k a0 l1 l2 true) else (if (l1.length : Int) > 40 then (smockinglaw01_TextOver.j0 k a0 l1 l2 true) else (smockinglaw01_TextOver.j0 k a0 l1 l2 (decide ((l2.length : Int) > 40)))))))
set_option maxHeartbeats 8000000 in
set_option maxRecDepth 100000 in
theorem smockinglaw01_TextOver.calls (k : Nat) (a0 : ByteArray) (A1 : Option Addr) (c1 : Nat) (l1 : List (S34)) (A2 : Option Addr) (c2 : Nat) (l2 : List (S34)) (r : Bool) (w : World) (hr1 : Kd.C k34 w A1 l1.length l1) (hc1 : l1.length ≤ c1) (hr2 : Kd.C k34 w A2 l2.length l2) (hc2 : l2.length ≤ c2) (h : smockinglaw01_TextOver.f k a0 l1 l2 = some r) :
  Calls Tryd.prog 7 #[.string a0, .slice A1 l1.length c1, .slice A2 l2.length c2] w fun e w' => e = .returned (.bool r) ∧ Below w.heap.size w w' := by
 have HR1 := Aside0.mk hr1
 have HC1 := Aside0.mk hc1
 clear hr1 hc1
 have HR2 := Aside0.mk hr2
 have HC2 := Aside0.mk hc2
 clear hr2 hc2
 have HB := Aside0.mk (Below.refl w.heap.size w)
 have H : ((smockinglaw01_heavy.f k a0 l1).bind fun t538 => (if t538 = true then (smockinglaw01_TextOver.j0 k a0 l1 l2 true) else ((smockinglaw01_heavy.f k a0 l2).bind fun t539 => (if t539 = true then (smockinglaw01_TextOver.j0 k a0 l1 l2 true) else (if (l1.length : Int) > 40 then (smockinglaw01_TextOver.j0 k a0 l1 l2 true) else (smockinglaw01_TextOver.j0 k a0 l1 l2 (decide ((l2.length : Int) > 40)))))))) = some r := h
 clear h
 have HC4 := Aside0.mk H
 clear H
 go_enter Tryd.func7, Tryd.ntmps7
 go_upto_region 1 with (fail)
 go_cut [39] (fun v39 wc => ∃ (kq : Nat) (x39_3 : Bool), v39 = .bool x39_3 ∧ Aside0 (smockinglaw01_TextOver.j0 kq a0 l1 l2 x39_3 = some r) ∧ Aside0 (kq ≤ k) ∧ Aside0 (Below w.heap.size w wc))
 case first =>
  have H := HC4.out
  clear HC4
  replace H := Option.bind_eq_some_iff.mp H
  obtain ⟨t538, A50, H⟩ := H
  replace H : (if t538 = true then (smockinglaw01_TextOver.j0 k a0 l1 l2 true) else ((smockinglaw01_heavy.f k a0 l2).bind fun t539 => (if t539 = true then (smockinglaw01_TextOver.j0 k a0 l1 l2 true) else (if (l1.length : Int) > 40 then (smockinglaw01_TextOver.j0 k a0 l1 l2 true) else (smockinglaw01_TextOver.j0 k a0 l1 l2 (decide ((l2.length : Int) > 40))))))) = some r := H
  have A5 := Aside0.mk A50
  clear A50
  by_cases c6 : t538 = true
  ·subst c6
   have H1 : (smockinglaw01_TextOver.j0 k a0 l1 l2 true) = some r := by rw [if_pos rfl] at H; exact H
   clear H
   have H := H1
   clear H1
   have H' := Aside0.mk H
   clear H
   go_wp2_with (first | ((with_reducible refine gate_callee (f := 9) rfl ?_); refine goesL_ (some 24) rfl rfl Tryd.func9 (by kernel_rfl) rfl #[.string a0, .slice A1 l1.length c1] rfl (by (try simp only [List.map_toArray, List.map_cons, List.map_nil]); first | done | rfl | (simp only [List.length_drop, List.length_take]; rfl)) ?_; (with_reducible refine (smockinglaw01_heavy.calls k a0 _ _ l1 true _ ?side1 ?side2 A5.out).mono ?_); (case side1 => repeat (first | exact (Kd.C_below HR1.out HB.out) | (with_reducible refine Kd.C_alloc ?_ _) | (with_reducible refine Kd.C_drewN ?_ _) | (with_reducible refine Kd.C_drew ?_))); (case side2 => exact HC1.out); rintro e w' ⟨rfl, ⟨nd, rfl⟩⟩; refine ⟨_, rfl, ?_⟩))
   go_meet
   case rel => exact ⟨_, (true), (by first | rfl | (simp; done) | (simp [*]; done)), H', ⟨by first | omega | exact Nat.le_refl _⟩, ⟨by repeat (first | (with_reducible first | exact HB.out | apply below_alloc | apply pw_below_drewN | apply below_drew1) | exact HB.out)⟩⟩
  ·replace c6 := Bool.eq_false_iff.mpr c6
   subst c6
   have H1 : ((smockinglaw01_heavy.f k a0 l2).bind fun t539 => (if t539 = true then (smockinglaw01_TextOver.j0 k a0 l1 l2 true) else (if (l1.length : Int) > 40 then (smockinglaw01_TextOver.j0 k a0 l1 l2 true) else (smockinglaw01_TextOver.j0 k a0 l1 l2 (decide ((l2.length : Int) > 40)))))) = some r := by rw [if_neg (show ¬ (false = true) by decide)] at H; exact H
   clear H
   have H := H1
   clear H1
   replace H := Option.bind_eq_some_iff.mp H
   obtain ⟨t539, A70, H⟩ := H
   replace H : (if t539 = true then (smockinglaw01_TextOver.j0 k a0 l1 l2 true) else (if (l1.length : Int) > 40 then (smockinglaw01_TextOver.j0 k a0 l1 l2 true) else (smockinglaw01_TextOver.j0 k a0 l1 l2 (decide ((l2.length : Int) > 40))))) = some r := H
   have A7 := Aside0.mk A70
   clear A70
   by_cases c8 : t539 = true
   ·subst c8
    have H1 : (smockinglaw01_TextOver.j0 k a0 l1 l2 true) = some r := by rw [if_pos rfl] at H; exact H
    clear H
    have H := H1
    clear H1
    have H' := Aside0.mk H
    clear H
    go_wp2_with (first | ((with_reducible refine gate_callee (f := 9) rfl ?_); refine goesL_ (some 24) rfl rfl Tryd.func9 (by kernel_rfl) rfl #[.string a0, .slice A1 l1.length c1] rfl (by (try simp only [List.map_toArray, List.map_cons, List.map_nil]); first | done | rfl | (simp only [List.length_drop, List.length_take]; rfl)) ?_; (with_reducible refine (smockinglaw01_heavy.calls k a0 _ _ l1 false _ ?side1 ?side2 A5.out).mono ?_); (case side1 => repeat (first | exact (Kd.C_below HR1.out HB.out) | (with_reducible refine Kd.C_alloc ?_ _) | (with_reducible refine Kd.C_drewN ?_ _) | (with_reducible refine Kd.C_drew ?_))); (case side2 => exact HC1.out); rintro e w' ⟨rfl, ⟨nd, rfl⟩⟩; refine ⟨_, rfl, ?_⟩) | (go_at_call 9; (with_reducible refine (smockinglaw01_heavy.calls k a0 _ _ l2 true _ ?side1 ?side2 A7.out).mono ?_); (case side1 => repeat (first | exact (Kd.C_below HR2.out (by repeat (first | (with_reducible first | exact HB.out | apply below_alloc | apply pw_below_drewN | apply below_drew1) | exact HB.out))) | (with_reducible refine Kd.C_alloc ?_ _) | (with_reducible refine Kd.C_drewN ?_ _) | (with_reducible refine Kd.C_drew ?_))); (case side2 => exact HC2.out); rintro e w' ⟨rfl, ⟨nd, rfl⟩⟩))
    go_meet
    case rel => exact ⟨_, (true), (by first | rfl | (simp; done) | (simp [*]; done)), H', ⟨by first | omega | exact Nat.le_refl _⟩, ⟨by repeat (first | (with_reducible first | exact HB.out | apply below_alloc | apply pw_below_drewN | apply below_drew1) | exact HB.out)⟩⟩
   ·replace c8 := Bool.eq_false_iff.mpr c8
    subst c8
    have H1 : (if (l1.length : Int) > 40 then (smockinglaw01_TextOver.j0 k a0 l1 l2 true) else (smockinglaw01_TextOver.j0 k a0 l1 l2 (decide ((l2.length : Int) > 40)))) = some r := by rw [if_neg (show ¬ (false = true) by decide)] at H; exact H
    clear H
    have H := H1
    clear H1
    by_cases c9 : (l1.length : Int) > 40
    ·rw [if_pos c9] at H
     have c9b0 : decide (40 < (l1.length : Int)) = true := decide_eq_true c9
     have c9b1 : decide (40 < l1.length) = true := decide_eq_true (by omega)
     clear c9
     (first | rw [c9b0] | (simp only [i64_w, i32_w]; rw [c9b0]) | skip)
     have H' := Aside0.mk H
     clear H
     go_wp2_with (first | ((with_reducible refine gate_callee (f := 9) rfl ?_); refine goesL_ (some 24) rfl rfl Tryd.func9 (by kernel_rfl) rfl #[.string a0, .slice A1 l1.length c1] rfl (by (try simp only [List.map_toArray, List.map_cons, List.map_nil]); first | done | rfl | (simp only [List.length_drop, List.length_take]; rfl)) ?_; (with_reducible refine (smockinglaw01_heavy.calls k a0 _ _ l1 false _ ?side1 ?side2 A5.out).mono ?_); (case side1 => repeat (first | exact (Kd.C_below HR1.out HB.out) | (with_reducible refine Kd.C_alloc ?_ _) | (with_reducible refine Kd.C_drewN ?_ _) | (with_reducible refine Kd.C_drew ?_))); (case side2 => exact HC1.out); rintro e w' ⟨rfl, ⟨nd, rfl⟩⟩; refine ⟨_, rfl, ?_⟩) | (go_at_call 9; (with_reducible refine (smockinglaw01_heavy.calls k a0 _ _ l2 false _ ?side1 ?side2 A7.out).mono ?_); (case side1 => repeat (first | exact (Kd.C_below HR2.out (by repeat (first | (with_reducible first | exact HB.out | apply below_alloc | apply pw_below_drewN | apply below_drew1) | exact HB.out))) | (with_reducible refine Kd.C_alloc ?_ _) | (with_reducible refine Kd.C_drewN ?_ _) | (with_reducible refine Kd.C_drew ?_))); (case side2 => exact HC2.out); rintro e w' ⟨rfl, ⟨nd, rfl⟩⟩))
     go_meet
     case rel => exact ⟨_, (true), (by first | rfl | (simp; done) | (simp [*]; done)), H', ⟨by first | omega | exact Nat.le_refl _⟩, ⟨by repeat (first | (with_reducible first | exact HB.out | apply below_alloc | apply pw_below_drewN | apply below_drew1) | exact HB.out)⟩⟩
    ·rw [if_neg c9] at H
     have c9b0 : decide (40 < (l1.length : Int)) = false := decide_eq_false c9
     have c9b1 : decide (40 < l1.length) = false := decide_eq_false (by omega)
     clear c9
     (first | rw [c9b0] | (simp only [i64_w, i32_w]; rw [c9b0]) | skip)
     have H' := Aside0.mk H
     clear H
     go_wp2_with (first | ((with_reducible refine gate_callee (f := 9) rfl ?_); refine goesL_ (some 24) rfl rfl Tryd.func9 (by kernel_rfl) rfl #[.string a0, .slice A1 l1.length c1] rfl (by (try simp only [List.map_toArray, List.map_cons, List.map_nil]); first | done | rfl | (simp only [List.length_drop, List.length_take]; rfl)) ?_; (with_reducible refine (smockinglaw01_heavy.calls k a0 _ _ l1 false _ ?side1 ?side2 A5.out).mono ?_); (case side1 => repeat (first | exact (Kd.C_below HR1.out HB.out) | (with_reducible refine Kd.C_alloc ?_ _) | (with_reducible refine Kd.C_drewN ?_ _) | (with_reducible refine Kd.C_drew ?_))); (case side2 => exact HC1.out); rintro e w' ⟨rfl, ⟨nd, rfl⟩⟩; refine ⟨_, rfl, ?_⟩) | (go_at_call 9; (with_reducible refine (smockinglaw01_heavy.calls k a0 _ _ l2 false _ ?side1 ?side2 A7.out).mono ?_); (case side1 => repeat (first | exact (Kd.C_below HR2.out (by repeat (first | (with_reducible first | exact HB.out | apply below_alloc | apply pw_below_drewN | apply below_drew1) | exact HB.out))) | (with_reducible refine Kd.C_alloc ?_ _) | (with_reducible refine Kd.C_drewN ?_ _) | (with_reducible refine Kd.C_drew ?_))); (case side2 => exact HC2.out); rintro e w' ⟨rfl, ⟨nd, rfl⟩⟩))
     go_meet
     case rel => exact ⟨_, (decide ((l2.length : Int) > 40)), (by first | rfl | (simp; done) | (simp [*]; done)), H', ⟨by first | omega | exact Nat.le_refl _⟩, ⟨by repeat (first | (with_reducible first | exact HB.out | apply below_alloc | apply pw_below_drewN | apply below_drew1) | exact HB.out)⟩⟩
 case rest =>
  clear HC4
  try clear c1
  try clear c2
  try clear p2
  try clear c6
  try clear c7
  try clear c8
  try clear c9
  try clear c9b0
  try clear c9b1
  obtain ⟨kq, x39_3, rfl, HA, HJ3, HB⟩ := hcut
  cases kq with
  | zero => exact absurd HA.out (by simp [smockinglaw01_TextOver.j0])
  | succ kj3 =>
   have H := HA.out
   clear HA
   simp only [smockinglaw01_TextOver.j0] at H
   by_cases c10 : x39_3 = true
   ·subst c10
    have H1 : (some true) = some r := by rw [if_pos rfl] at H; exact H
    clear H
    have H := H1
    clear H1
    obtain rfl := Option.some.inj H
    go_wp2
    go_ret
    exact ⟨by first | rfl | (simp [errW_none, errW_some] <;> rfl) | (simp [*, errW_none, errW_some] <;> rfl), by repeat (first | (with_reducible first | exact HB.out | apply below_alloc | apply pw_below_drewN | apply below_drew1) | exact HB.out)⟩
   ·replace c10 := Bool.eq_false_iff.mpr c10
    subst c10
    have H1 : ((text_Merge.f a0 l1 l2).bind fun bt540 => (if bt540.2 = 0 then ((text_Apply.f a0 bt540.1).bind fun bt545 => (if bt545.2 = 0 then ((text_Apply.f a0 l1).bind fun bt548 => ((text_Apply.f a0 l2).bind fun bt550 => (if bt548.2 = 0 then ((text_Over.f a0 l1 l2).bind fun bt552 => ((text_Apply.f bt548.1 bt552.1).bind fun bt556 => (if bt552.2 = 0 then (if bt556.2 = 0 then (if bt556.1.toList = bt545.1.toList then (smockinglaw01_TextOver.j1 kj3 a0 l1 l2 bt545.1 bt550.1 bt550.2) else (some false)) else (some false)) else (some false)))) else (smockinglaw01_TextOver.j1 kj3 a0 l1 l2 bt545.1 bt550.1 bt550.2)))) else ((smockinglaw01_awake.f).bind fun t547 => (some t547)))) else ((smockinglaw01_awake.f).bind fun t544 => (some t544)))) = some r := by rw [if_neg (show ¬ (false = true) by decide)] at H; exact H
    clear H
    have H := H1
    clear H1
    replace H := Option.bind_eq_some_iff.mp H
    obtain ⟨⟨t540, t541⟩, A110, H⟩ := H
    replace H : (if t541 = 0 then ((text_Apply.f a0 t540).bind fun bt545 => (if bt545.2 = 0 then ((text_Apply.f a0 l1).bind fun bt548 => ((text_Apply.f a0 l2).bind fun bt550 => (if bt548.2 = 0 then ((text_Over.f a0 l1 l2).bind fun bt552 => ((text_Apply.f bt548.1 bt552.1).bind fun bt556 => (if bt552.2 = 0 then (if bt556.2 = 0 then (if bt556.1.toList = bt545.1.toList then (smockinglaw01_TextOver.j1 kj3 a0 l1 l2 bt545.1 bt550.1 bt550.2) else (some false)) else (some false)) else (some false)))) else (smockinglaw01_TextOver.j1 kj3 a0 l1 l2 bt545.1 bt550.1 bt550.2)))) else ((smockinglaw01_awake.f).bind fun t547 => (some t547)))) else ((smockinglaw01_awake.f).bind fun t544 => (some t544))) = some r := H
    have A11 := Aside0.mk A110
    clear A110
    by_cases c12 : t541 = 0
    ·rw [if_pos c12] at H
     have c12b0 : (t541 == 0) = true := beq_iff_eq.mpr c12
     have c12b1 : (t541 != 0) = false := bne_eq_false_iff_eq.mpr c12
     clear c12
     replace H := Option.bind_eq_some_iff.mp H
     obtain ⟨⟨t545, t546⟩, A130, H⟩ := H
     replace H : (if t546 = 0 then ((text_Apply.f a0 l1).bind fun bt548 => ((text_Apply.f a0 l2).bind fun bt550 => (if bt548.2 = 0 then ((text_Over.f a0 l1 l2).bind fun bt552 => ((text_Apply.f bt548.1 bt552.1).bind fun bt556 => (if bt552.2 = 0 then (if bt556.2 = 0 then (if bt556.1.toList = t545.toList then (smockinglaw01_TextOver.j1 kj3 a0 l1 l2 t545 bt550.1 bt550.2) else (some false)) else (some false)) else (some false)))) else (smockinglaw01_TextOver.j1 kj3 a0 l1 l2 t545 bt550.1 bt550.2)))) else ((smockinglaw01_awake.f).bind fun t547 => (some t547))) = some r := H
     have A13 := Aside0.mk A130
     clear A130
     by_cases c14 : t546 = 0
     ·rw [if_pos c14] at H
      have c14b0 : (t546 == 0) = true := beq_iff_eq.mpr c14
      have c14b1 : (t546 != 0) = false := bne_eq_false_iff_eq.mpr c14
      clear c14
      replace H := Option.bind_eq_some_iff.mp H
      obtain ⟨⟨t548, t549⟩, A150, H⟩ := H
      replace H : ((text_Apply.f a0 l2).bind fun bt550 => (if t549 = 0 then ((text_Over.f a0 l1 l2).bind fun bt552 => ((text_Apply.f t548 bt552.1).bind fun bt556 => (if bt552.2 = 0 then (if bt556.2 = 0 then (if bt556.1.toList = t545.toList then (smockinglaw01_TextOver.j1 kj3 a0 l1 l2 t545 bt550.1 bt550.2) else (some false)) else (some false)) else (some false)))) else (smockinglaw01_TextOver.j1 kj3 a0 l1 l2 t545 bt550.1 bt550.2))) = some r := H
      have A15 := Aside0.mk A150
      clear A150
      replace H := Option.bind_eq_some_iff.mp H
      obtain ⟨⟨t550, t551⟩, A160, H⟩ := H
      replace H : (if t549 = 0 then ((text_Over.f a0 l1 l2).bind fun bt552 => ((text_Apply.f t548 bt552.1).bind fun bt556 => (if bt552.2 = 0 then (if bt556.2 = 0 then (if bt556.1.toList = t545.toList then (smockinglaw01_TextOver.j1 kj3 a0 l1 l2 t545 t550 t551) else (some false)) else (some false)) else (some false)))) else (smockinglaw01_TextOver.j1 kj3 a0 l1 l2 t545 t550 t551)) = some r := H
      have A16 := Aside0.mk A160
      clear A160
      have HC17 := Aside0.mk H
      clear H
      go_upto_if 72 with (first | ((with_reducible refine gate_callee (f := 23) rfl ?_); refine goesL_ (some 44) rfl rfl Tryd.func23 (by kernel_rfl) rfl #[.string a0, .slice A1 l1.length c1, .slice A2 l2.length c2] rfl (by (try simp only [List.map_toArray, List.map_cons, List.map_nil]); first | done | rfl | (simp only [List.length_drop, List.length_take]; rfl)) ?_; (with_reducible refine (text_Merge.calls a0 _ _ l1 _ _ l2 t540 t541 _ ?side1 ?side2 ?side3 ?side4 A11.out).mono ?_); (case side1 => repeat (first | exact (Kd.C_below HR1.out HB.out) | (with_reducible refine Kd.C_alloc ?_ _) | (with_reducible refine Kd.C_drewN ?_ _) | (with_reducible refine Kd.C_drew ?_))); (case side2 => exact HC1.out); (case side3 => repeat (first | exact (Kd.C_below HR2.out HB.out) | (with_reducible refine Kd.C_alloc ?_ _) | (with_reducible refine Kd.C_drewN ?_ _) | (with_reducible refine Kd.C_drew ?_))); (case side4 => exact HC2.out); rintro e w18 ⟨v542, rfl, ho0, hb⟩; refine ⟨_, rfl, ?_⟩; have n0_ := Aside0.mk (Kd.R_lower ho0 (below_size (by repeat (first | (with_reducible first | exact HB.out | apply below_alloc | apply pw_below_drewN | apply below_drew1) | exact HB.out)))); have n1_ := Aside0.mk (below_step (by repeat (first | (with_reducible first | exact HB.out | apply below_alloc | apply pw_below_drewN | apply below_drew1) | exact HB.out)) hb); clear HB; have HO543 := n0_; have HB := n1_; clear n0_ n1_; (try clear hb); (try clear hb2); (try clear hk); (try clear hi); (try clear ho0); obtain ⟨Ao19, co19, eo19⟩ := Kd.R_slice HO543.out; subst eo19) | ((with_reducible refine gate_callee (f := 10) rfl ?_); refine goesL_ (some 53) rfl rfl Tryd.func10 (by kernel_rfl) rfl #[.string a0, .slice Ao19 t540.length co19] rfl (by (try simp only [List.map_toArray, List.map_cons, List.map_nil]); first | done | rfl | (simp only [List.length_drop, List.length_take]; rfl)) ?_; (with_reducible refine (text_Apply.calls a0 _ _ t540 t545 t546 _ ?side1 ?side2 A13.out).mono ?_); (case side1 => repeat (first | exact (Kd.R_reads' HO543.out).2.2 | (with_reducible refine Kd.C_alloc ?_ _) | (with_reducible refine Kd.C_drewN ?_ _) | (with_reducible refine Kd.C_drew ?_))); (case side2 => exact (Kd.R_reads' HO543.out).2.1); rintro e w20 ⟨rfl, hb⟩; refine ⟨_, rfl, ?_⟩; have n0_ := Aside0.mk (Kd.R_below (by (with_reducible repeat (first | apply Kd.R_alloc | apply Kd.R_drewN | apply Kd.R_drew)); exact HO543.out) hb); have n1_ := Aside0.mk (below_step (by repeat (first | (with_reducible first | exact HB.out | apply below_alloc | apply pw_below_drewN | apply below_drew1) | exact HB.out)) hb); clear HO543; clear HB; have HO543 := n0_; have HB := n1_; clear n0_ n1_; (try clear hb); (try clear hb2); (try clear hk); (try clear hi)) | ((with_reducible refine gate_callee (f := 10) rfl ?_); refine goesL_ (some 62) rfl rfl Tryd.func10 (by kernel_rfl) rfl #[.string a0, .slice A1 l1.length c1] rfl (by (try simp only [List.map_toArray, List.map_cons, List.map_nil]); first | done | rfl | (simp only [List.length_drop, List.length_take]; rfl)) ?_; (with_reducible refine (text_Apply.calls a0 _ _ l1 t548 t549 _ ?side1 ?side2 A15.out).mono ?_); (case side1 => repeat (first | exact (Kd.C_below HR1.out HB.out) | (with_reducible refine Kd.C_alloc ?_ _) | (with_reducible refine Kd.C_drewN ?_ _) | (with_reducible refine Kd.C_drew ?_))); (case side2 => exact HC1.out); rintro e w21 ⟨rfl, hb⟩; refine ⟨_, rfl, ?_⟩; have n0_ := Aside0.mk (Kd.R_below (by (with_reducible repeat (first | apply Kd.R_alloc | apply Kd.R_drewN | apply Kd.R_drew)); exact HO543.out) hb); have n1_ := Aside0.mk (below_step (by repeat (first | (with_reducible first | exact HB.out | apply below_alloc | apply pw_below_drewN | apply below_drew1) | exact HB.out)) hb); clear HO543; clear HB; have HO543 := n0_; have HB := n1_; clear n0_ n1_; (try clear hb); (try clear hb2); (try clear hk); (try clear hi)) | ((with_reducible refine gate_callee (f := 10) rfl ?_); refine goesL_ (some 68) rfl rfl Tryd.func10 (by kernel_rfl) rfl #[.string a0, .slice A2 l2.length c2] rfl (by (try simp only [List.map_toArray, List.map_cons, List.map_nil]); first | done | rfl | (simp only [List.length_drop, List.length_take]; rfl)) ?_; (with_reducible refine (text_Apply.calls a0 _ _ l2 t550 t551 _ ?side1 ?side2 A16.out).mono ?_); (case side1 => repeat (first | exact (Kd.C_below HR2.out HB.out) | (with_reducible refine Kd.C_alloc ?_ _) | (with_reducible refine Kd.C_drewN ?_ _) | (with_reducible refine Kd.C_drew ?_))); (case side2 => exact HC2.out); rintro e w22 ⟨rfl, hb⟩; refine ⟨_, rfl, ?_⟩; have n0_ := Aside0.mk (Kd.R_below (by (with_reducible repeat (first | apply Kd.R_alloc | apply Kd.R_drewN | apply Kd.R_drew)); exact HO543.out) hb); have n1_ := Aside0.mk (below_step (by repeat (first | (with_reducible first | exact HB.out | apply below_alloc | apply pw_below_drewN | apply below_drew1) | exact HB.out)) hb); clear HO543; clear HB; have HO543 := n0_; have HB := n1_; clear n0_ n1_; (try clear hb); (try clear hb2); (try clear hk); (try clear hi)))
      (try simp only [Act.put, q1_, q2_, q3_])
      go_cut [] (fun wc => ∃ (kq : Nat), Aside0 (smockinglaw01_TextOver.j1 kq a0 l1 l2 t545 t550 t551 = some r) ∧ Aside0 (kq ≤ kj3) ∧ Aside0 (Below w.heap.size w wc))
      case first =>
       have H := HC17.out
       clear HC17
       by_cases c23 : t549 = 0
       ·rw [if_pos c23] at H
        have c23b0 : (t549 == 0) = true := beq_iff_eq.mpr c23
        have c23b1 : (t549 != 0) = false := bne_eq_false_iff_eq.mpr c23
        clear c23
        (first | rw [c23b0] | (simp only [i64_w, i32_w]; rw [c23b0]) | skip)
        replace H := Option.bind_eq_some_iff.mp H
        obtain ⟨⟨t552, t553⟩, A240, H⟩ := H
        replace H : ((text_Apply.f t548 t552).bind fun bt556 => (if t553 = 0 then (if bt556.2 = 0 then (if bt556.1.toList = t545.toList then (smockinglaw01_TextOver.j1 kj3 a0 l1 l2 t545 t550 t551) else (some false)) else (some false)) else (some false))) = some r := H
        have A24 := Aside0.mk A240
        clear A240
        replace H := Option.bind_eq_some_iff.mp H
        obtain ⟨⟨t556, t557⟩, A250, H⟩ := H
        replace H : (if t553 = 0 then (if t557 = 0 then (if t556.toList = t545.toList then (smockinglaw01_TextOver.j1 kj3 a0 l1 l2 t545 t550 t551) else (some false)) else (some false)) else (some false)) = some r := H
        have A25 := Aside0.mk A250
        clear A250
        by_cases c26 : t553 = 0
        ·rw [if_pos c26] at H
         have c26b0 : (t553 == 0) = true := beq_iff_eq.mpr c26
         have c26b1 : (t553 != 0) = false := bne_eq_false_iff_eq.mpr c26
         clear c26
         by_cases c27 : t557 = 0
         ·rw [if_pos c27] at H
          have c27b0 : (t557 == 0) = true := beq_iff_eq.mpr c27
          have c27b1 : (t557 != 0) = false := bne_eq_false_iff_eq.mpr c27
          clear c27
          by_cases c28 : t556.toList = t545.toList
          ·rw [if_pos c28] at H
           have c28b0 : (t556.toList == t545.toList) = true := beq_iff_eq.mpr c28
           have c28b1 : (t556.toList != t545.toList) = false := bne_eq_false_iff_eq.mpr c28
           clear c28
           have H' := Aside0.mk H
           clear H
           go_wp2_with (first | ((with_reducible refine gate_callee (f := 25) rfl ?_); refine goesL_ (some 77) rfl rfl Tryd.func25 (by kernel_rfl) rfl #[.string a0, .slice A1 l1.length c1, .slice A2 l2.length c2] rfl (by (try simp only [List.map_toArray, List.map_cons, List.map_nil]); first | done | rfl | (simp only [List.length_drop, List.length_take]; rfl)) ?_; (with_reducible refine (text_Over.calls a0 _ _ l1 _ _ l2 t552 t553 _ ?side1 ?side2 ?side3 ?side4 A24.out).mono ?_); (case side1 => repeat (first | exact (Kd.C_below HR1.out HB.out) | (with_reducible refine Kd.C_alloc ?_ _) | (with_reducible refine Kd.C_drewN ?_ _) | (with_reducible refine Kd.C_drew ?_))); (case side2 => exact HC1.out); (case side3 => repeat (first | exact (Kd.C_below HR2.out HB.out) | (with_reducible refine Kd.C_alloc ?_ _) | (with_reducible refine Kd.C_drewN ?_ _) | (with_reducible refine Kd.C_drew ?_))); (case side4 => exact HC2.out); rintro e w29 ⟨v554, rfl, ho0, hb⟩; refine ⟨_, rfl, ?_⟩; have n0_ := Aside0.mk (Kd.R_elder' (by (with_reducible repeat (first | apply Kd.R_alloc | apply Kd.R_drewN | apply Kd.R_drew)); exact HO543.out) (Kd.R_base ho0) hb); have n1_ := Aside0.mk (Kd.R_lower (Kd.R_new' ho0 (Kd.R_lt (by (with_reducible repeat (first | apply Kd.R_alloc | apply Kd.R_drewN | apply Kd.R_drew)); exact HO543.out))) (below_size (by repeat (first | (with_reducible first | exact HB.out | apply below_alloc | apply pw_below_drewN | apply below_drew1) | exact HB.out)))); have n2_ := Aside0.mk (below_step (by repeat (first | (with_reducible first | exact HB.out | apply below_alloc | apply pw_below_drewN | apply below_drew1) | exact HB.out)) hb); clear HO543; clear HB; have HO543 := n0_; have HO555 := n1_; have HB := n2_; clear n0_ n1_ n2_; (try clear hb); (try clear hb2); (try clear hk); (try clear hi); (try clear ho0); obtain ⟨Ao30, co30, eo30⟩ := Kd.R_slice HO555.out; subst eo30) | ((with_reducible refine gate_callee (f := 10) rfl ?_); refine goesL_ (some 83) rfl rfl Tryd.func10 (by kernel_rfl) rfl #[.string t548, .slice Ao30 t552.length co30] rfl (by (try simp only [List.map_toArray, List.map_cons, List.map_nil]); first | done | rfl | (simp only [List.length_drop, List.length_take]; rfl)) ?_; (with_reducible refine (text_Apply.calls t548 _ _ t552 t556 t557 _ ?side1 ?side2 A25.out).mono ?_); (case side1 => repeat (first | exact (Kd.R_reads' HO555.out).2.2 | (with_reducible refine Kd.C_alloc ?_ _) | (with_reducible refine Kd.C_drewN ?_ _) | (with_reducible refine Kd.C_drew ?_))); (case side2 => exact (Kd.R_reads' HO555.out).2.1); rintro e w31 ⟨rfl, hb⟩; refine ⟨_, rfl, ?_⟩; have n0_ := Aside0.mk (Kd.R_below (by (with_reducible repeat (first | apply Kd.R_alloc | apply Kd.R_drewN | apply Kd.R_drew)); exact HO543.out) hb); have n1_ := Aside0.mk (Kd.R_below (by (with_reducible repeat (first | apply Kd.R_alloc | apply Kd.R_drewN | apply Kd.R_drew)); exact HO555.out) hb); have n2_ := Aside0.mk (below_step (by repeat (first | (with_reducible first | exact HB.out | apply below_alloc | apply pw_below_drewN | apply below_drew1) | exact HB.out)) hb); clear HO543; clear HO555; clear HB; have HO543 := n0_; have HO555 := n1_; have HB := n2_; clear n0_ n1_ n2_; (try clear hb); (try clear hb2); (try clear hk); (try clear hi)))
           go_meet
           case rel => exact ⟨_, H', ⟨by have := HJ3.out; first | omega | exact Nat.le_refl _⟩, ⟨by repeat (first | (with_reducible first | exact HB.out | apply below_alloc | apply pw_below_drewN | apply below_drew1) | exact HB.out)⟩⟩
          ·rw [if_neg c28] at H
           have c28b0 : (t556.toList == t545.toList) = false := beq_eq_false_iff_ne.mpr c28
           have c28b1 : (t556.toList != t545.toList) = true := bne_iff_ne.mpr c28
           obtain rfl := Option.some.inj H
           go_wp2_with (first | ((with_reducible refine gate_callee (f := 25) rfl ?_); refine goesL_ (some 77) rfl rfl Tryd.func25 (by kernel_rfl) rfl #[.string a0, .slice A1 l1.length c1, .slice A2 l2.length c2] rfl (by (try simp only [List.map_toArray, List.map_cons, List.map_nil]); first | done | rfl | (simp only [List.length_drop, List.length_take]; rfl)) ?_; (with_reducible refine (text_Over.calls a0 _ _ l1 _ _ l2 t552 t553 _ ?side1 ?side2 ?side3 ?side4 A24.out).mono ?_); (case side1 => repeat (first | exact (Kd.C_below HR1.out HB.out) | (with_reducible refine Kd.C_alloc ?_ _) | (with_reducible refine Kd.C_drewN ?_ _) | (with_reducible refine Kd.C_drew ?_))); (case side2 => exact HC1.out); (case side3 => repeat (first | exact (Kd.C_below HR2.out HB.out) | (with_reducible refine Kd.C_alloc ?_ _) | (with_reducible refine Kd.C_drewN ?_ _) | (with_reducible refine Kd.C_drew ?_))); (case side4 => exact HC2.out); rintro e w32 ⟨v554, rfl, ho0, hb⟩; refine ⟨_, rfl, ?_⟩; have n0_ := Aside0.mk (Kd.R_elder' (by (with_reducible repeat (first | apply Kd.R_alloc | apply Kd.R_drewN | apply Kd.R_drew)); exact HO543.out) (Kd.R_base ho0) hb); have n1_ := Aside0.mk (Kd.R_lower (Kd.R_new' ho0 (Kd.R_lt (by (with_reducible repeat (first | apply Kd.R_alloc | apply Kd.R_drewN | apply Kd.R_drew)); exact HO543.out))) (below_size (by repeat (first | (with_reducible first | exact HB.out | apply below_alloc | apply pw_below_drewN | apply below_drew1) | exact HB.out)))); have n2_ := Aside0.mk (below_step (by repeat (first | (with_reducible first | exact HB.out | apply below_alloc | apply pw_below_drewN | apply below_drew1) | exact HB.out)) hb); clear HO543; clear HB; have HO543 := n0_; have HO555 := n1_; have HB := n2_; clear n0_ n1_ n2_; (try clear hb); (try clear hb2); (try clear hk); (try clear hi); (try clear ho0); obtain ⟨Ao33, co33, eo33⟩ := Kd.R_slice HO555.out; subst eo33) | ((with_reducible refine gate_callee (f := 10) rfl ?_); refine goesL_ (some 83) rfl rfl Tryd.func10 (by kernel_rfl) rfl #[.string t548, .slice Ao33 t552.length co33] rfl (by (try simp only [List.map_toArray, List.map_cons, List.map_nil]); first | done | rfl | (simp only [List.length_drop, List.length_take]; rfl)) ?_; (with_reducible refine (text_Apply.calls t548 _ _ t552 t556 t557 _ ?side1 ?side2 A25.out).mono ?_); (case side1 => repeat (first | exact (Kd.R_reads' HO555.out).2.2 | (with_reducible refine Kd.C_alloc ?_ _) | (with_reducible refine Kd.C_drewN ?_ _) | (with_reducible refine Kd.C_drew ?_))); (case side2 => exact (Kd.R_reads' HO555.out).2.1); rintro e w34 ⟨rfl, hb⟩; refine ⟨_, rfl, ?_⟩; have n0_ := Aside0.mk (Kd.R_below (by (with_reducible repeat (first | apply Kd.R_alloc | apply Kd.R_drewN | apply Kd.R_drew)); exact HO543.out) hb); have n1_ := Aside0.mk (Kd.R_below (by (with_reducible repeat (first | apply Kd.R_alloc | apply Kd.R_drewN | apply Kd.R_drew)); exact HO555.out) hb); have n2_ := Aside0.mk (below_step (by repeat (first | (with_reducible first | exact HB.out | apply below_alloc | apply pw_below_drewN | apply below_drew1) | exact HB.out)) hb); clear HO543; clear HO555; clear HB; have HO543 := n0_; have HO555 := n1_; have HB := n2_; clear n0_ n1_ n2_; (try clear hb); (try clear hb2); (try clear hk); (try clear hi)))
           go_ret
           exact ⟨by first | rfl | (simp [errW_none, errW_some] <;> rfl) | (simp [*, errW_none, errW_some] <;> rfl), by repeat (first | (with_reducible first | exact HB.out | apply below_alloc | apply pw_below_drewN | apply below_drew1) | exact HB.out)⟩
         ·rw [if_neg c27] at H
          have c27b0 : (t557 == 0) = false := beq_eq_false_iff_ne.mpr c27
          have c27b1 : (t557 != 0) = true := bne_iff_ne.mpr c27
          obtain rfl := Option.some.inj H
          go_wp2_with (first | ((with_reducible refine gate_callee (f := 25) rfl ?_); refine goesL_ (some 77) rfl rfl Tryd.func25 (by kernel_rfl) rfl #[.string a0, .slice A1 l1.length c1, .slice A2 l2.length c2] rfl (by (try simp only [List.map_toArray, List.map_cons, List.map_nil]); first | done | rfl | (simp only [List.length_drop, List.length_take]; rfl)) ?_; (with_reducible refine (text_Over.calls a0 _ _ l1 _ _ l2 t552 t553 _ ?side1 ?side2 ?side3 ?side4 A24.out).mono ?_); (case side1 => repeat (first | exact (Kd.C_below HR1.out HB.out) | (with_reducible refine Kd.C_alloc ?_ _) | (with_reducible refine Kd.C_drewN ?_ _) | (with_reducible refine Kd.C_drew ?_))); (case side2 => exact HC1.out); (case side3 => repeat (first | exact (Kd.C_below HR2.out HB.out) | (with_reducible refine Kd.C_alloc ?_ _) | (with_reducible refine Kd.C_drewN ?_ _) | (with_reducible refine Kd.C_drew ?_))); (case side4 => exact HC2.out); rintro e w35 ⟨v554, rfl, ho0, hb⟩; refine ⟨_, rfl, ?_⟩; have n0_ := Aside0.mk (Kd.R_elder' (by (with_reducible repeat (first | apply Kd.R_alloc | apply Kd.R_drewN | apply Kd.R_drew)); exact HO543.out) (Kd.R_base ho0) hb); have n1_ := Aside0.mk (Kd.R_lower (Kd.R_new' ho0 (Kd.R_lt (by (with_reducible repeat (first | apply Kd.R_alloc | apply Kd.R_drewN | apply Kd.R_drew)); exact HO543.out))) (below_size (by repeat (first | (with_reducible first | exact HB.out | apply below_alloc | apply pw_below_drewN | apply below_drew1) | exact HB.out)))); have n2_ := Aside0.mk (below_step (by repeat (first | (with_reducible first | exact HB.out | apply below_alloc | apply pw_below_drewN | apply below_drew1) | exact HB.out)) hb); clear HO543; clear HB; have HO543 := n0_; have HO555 := n1_; have HB := n2_; clear n0_ n1_ n2_; (try clear hb); (try clear hb2); (try clear hk); (try clear hi); (try clear ho0); obtain ⟨Ao36, co36, eo36⟩ := Kd.R_slice HO555.out; subst eo36) | ((with_reducible refine gate_callee (f := 10) rfl ?_); refine goesL_ (some 83) rfl rfl Tryd.func10 (by kernel_rfl) rfl #[.string t548, .slice Ao36 t552.length co36] rfl (by (try simp only [List.map_toArray, List.map_cons, List.map_nil]); first | done | rfl | (simp only [List.length_drop, List.length_take]; rfl)) ?_; (with_reducible refine (text_Apply.calls t548 _ _ t552 t556 t557 _ ?side1 ?side2 A25.out).mono ?_); (case side1 => repeat (first | exact (Kd.R_reads' HO555.out).2.2 | (with_reducible refine Kd.C_alloc ?_ _) | (with_reducible refine Kd.C_drewN ?_ _) | (with_reducible refine Kd.C_drew ?_))); (case side2 => exact (Kd.R_reads' HO555.out).2.1); rintro e w37 ⟨rfl, hb⟩; refine ⟨_, rfl, ?_⟩; have n0_ := Aside0.mk (Kd.R_below (by (with_reducible repeat (first | apply Kd.R_alloc | apply Kd.R_drewN | apply Kd.R_drew)); exact HO543.out) hb); have n1_ := Aside0.mk (Kd.R_below (by (with_reducible repeat (first | apply Kd.R_alloc | apply Kd.R_drewN | apply Kd.R_drew)); exact HO555.out) hb); have n2_ := Aside0.mk (below_step (by repeat (first | (with_reducible first | exact HB.out | apply below_alloc | apply pw_below_drewN | apply below_drew1) | exact HB.out)) hb); clear HO543; clear HO555; clear HB; have HO543 := n0_; have HO555 := n1_; have HB := n2_; clear n0_ n1_ n2_; (try clear hb); (try clear hb2); (try clear hk); (try clear hi)))
          go_ret
          exact ⟨by first | rfl | (simp [errW_none, errW_some] <;> rfl) | (simp [*, errW_none, errW_some] <;> rfl), by repeat (first | (with_reducible first | exact HB.out | apply below_alloc | apply pw_below_drewN | apply below_drew1) | exact HB.out)⟩
        ·rw [if_neg c26] at H
         have c26b0 : (t553 == 0) = false := beq_eq_false_iff_ne.mpr c26
         have c26b1 : (t553 != 0) = true := bne_iff_ne.mpr c26
         obtain rfl := Option.some.inj H
         go_wp2_with (first | ((with_reducible refine gate_callee (f := 25) rfl ?_); refine goesL_ (some 77) rfl rfl Tryd.func25 (by kernel_rfl) rfl #[.string a0, .slice A1 l1.length c1, .slice A2 l2.length c2] rfl (by (try simp only [List.map_toArray, List.map_cons, List.map_nil]); first | done | rfl | (simp only [List.length_drop, List.length_take]; rfl)) ?_; (with_reducible refine (text_Over.calls a0 _ _ l1 _ _ l2 t552 t553 _ ?side1 ?side2 ?side3 ?side4 A24.out).mono ?_); (case side1 => repeat (first | exact (Kd.C_below HR1.out HB.out) | (with_reducible refine Kd.C_alloc ?_ _) | (with_reducible refine Kd.C_drewN ?_ _) | (with_reducible refine Kd.C_drew ?_))); (case side2 => exact HC1.out); (case side3 => repeat (first | exact (Kd.C_below HR2.out HB.out) | (with_reducible refine Kd.C_alloc ?_ _) | (with_reducible refine Kd.C_drewN ?_ _) | (with_reducible refine Kd.C_drew ?_))); (case side4 => exact HC2.out); rintro e w38 ⟨v554, rfl, ho0, hb⟩; refine ⟨_, rfl, ?_⟩; have n0_ := Aside0.mk (Kd.R_elder' (by (with_reducible repeat (first | apply Kd.R_alloc | apply Kd.R_drewN | apply Kd.R_drew)); exact HO543.out) (Kd.R_base ho0) hb); have n1_ := Aside0.mk (Kd.R_lower (Kd.R_new' ho0 (Kd.R_lt (by (with_reducible repeat (first | apply Kd.R_alloc | apply Kd.R_drewN | apply Kd.R_drew)); exact HO543.out))) (below_size (by repeat (first | (with_reducible first | exact HB.out | apply below_alloc | apply pw_below_drewN | apply below_drew1) | exact HB.out)))); have n2_ := Aside0.mk (below_step (by repeat (first | (with_reducible first | exact HB.out | apply below_alloc | apply pw_below_drewN | apply below_drew1) | exact HB.out)) hb); clear HO543; clear HB; have HO543 := n0_; have HO555 := n1_; have HB := n2_; clear n0_ n1_ n2_; (try clear hb); (try clear hb2); (try clear hk); (try clear hi); (try clear ho0); obtain ⟨Ao39, co39, eo39⟩ := Kd.R_slice HO555.out; subst eo39) | ((with_reducible refine gate_callee (f := 10) rfl ?_); refine goesL_ (some 83) rfl rfl Tryd.func10 (by kernel_rfl) rfl #[.string t548, .slice Ao39 t552.length co39] rfl (by (try simp only [List.map_toArray, List.map_cons, List.map_nil]); first | done | rfl | (simp only [List.length_drop, List.length_take]; rfl)) ?_; (with_reducible refine (text_Apply.calls t548 _ _ t552 t556 t557 _ ?side1 ?side2 A25.out).mono ?_); (case side1 => repeat (first | exact (Kd.R_reads' HO555.out).2.2 | (with_reducible refine Kd.C_alloc ?_ _) | (with_reducible refine Kd.C_drewN ?_ _) | (with_reducible refine Kd.C_drew ?_))); (case side2 => exact (Kd.R_reads' HO555.out).2.1); rintro e w40 ⟨rfl, hb⟩; refine ⟨_, rfl, ?_⟩; have n0_ := Aside0.mk (Kd.R_below (by (with_reducible repeat (first | apply Kd.R_alloc | apply Kd.R_drewN | apply Kd.R_drew)); exact HO543.out) hb); have n1_ := Aside0.mk (Kd.R_below (by (with_reducible repeat (first | apply Kd.R_alloc | apply Kd.R_drewN | apply Kd.R_drew)); exact HO555.out) hb); have n2_ := Aside0.mk (below_step (by repeat (first | (with_reducible first | exact HB.out | apply below_alloc | apply pw_below_drewN | apply below_drew1) | exact HB.out)) hb); clear HO543; clear HO555; clear HB; have HO543 := n0_; have HO555 := n1_; have HB := n2_; clear n0_ n1_ n2_; (try clear hb); (try clear hb2); (try clear hk); (try clear hi)))
         go_ret
         exact ⟨by first | rfl | (simp [errW_none, errW_some] <;> rfl) | (simp [*, errW_none, errW_some] <;> rfl), by repeat (first | (with_reducible first | exact HB.out | apply below_alloc | apply pw_below_drewN | apply below_drew1) | exact HB.out)⟩
       ·rw [if_neg c23] at H
        have c23b0 : (t549 == 0) = false := beq_eq_false_iff_ne.mpr c23
        have c23b1 : (t549 != 0) = true := bne_iff_ne.mpr c23
        (first | rw [c23b0] | (simp only [i64_w, i32_w]; rw [c23b0]) | skip)
        have H' := Aside0.mk H
        clear H
        go_wp2
        go_meet
        case rel => exact ⟨_, H', ⟨by have := HJ3.out; first | omega | exact Nat.le_refl _⟩, ⟨by repeat (first | (with_reducible first | exact HB.out | apply below_alloc | apply pw_below_drewN | apply below_drew1) | exact HB.out)⟩⟩
      case rest =>
       clear HC17
       try clear c1
       try clear c2
       try clear p2
       try clear c6
       try clear c7
       try clear c8
       try clear c9
       try clear c9b0
       try clear c9b1
       try clear c10
       try clear c12
       try clear c12b0
       try clear c12b1
       try clear c14
       try clear c14b0
       try clear c14b1
       try clear c23
       try clear c23b0
       try clear c23b1
       try clear c25
       try clear c26
       try clear c26b0
       try clear c26b1
       try clear c27
       try clear c27b0
       try clear c27b1
       try clear c28
       try clear c28b0
       try clear c28b1
       try clear p2
       obtain ⟨kq, HA, HJ16, HB⟩ := hcut
       cases kq with
       | zero => exact absurd HA.out (by simp [smockinglaw01_TextOver.j1])
       | succ kj16 =>
        have H := HA.out
        clear HA
        simp only [smockinglaw01_TextOver.j1] at H
        by_cases c41 : t551 = 0
        ·rw [if_pos c41] at H
         have c41b0 : (t551 == 0) = true := beq_iff_eq.mpr c41
         have c41b1 : (t551 != 0) = false := bne_eq_false_iff_eq.mpr c41
         clear c41
         replace H := Option.bind_eq_some_iff.mp H
         obtain ⟨⟨t558, t559⟩, A420, H⟩ := H
         replace H : ((text_Apply.f t550 t558).bind fun bt562 => (if t559 = 0 then (if bt562.2 = 0 then (if bt562.1.toList = t545.toList then ((smockinglaw01_awake.f).bind fun t564 => (some t564)) else (some false)) else (some false)) else (some false))) = some r := H
         have A42 := Aside0.mk A420
         clear A420
         replace H := Option.bind_eq_some_iff.mp H
         obtain ⟨⟨t562, t563⟩, A430, H⟩ := H
         replace H : (if t559 = 0 then (if t563 = 0 then (if t562.toList = t545.toList then ((smockinglaw01_awake.f).bind fun t564 => (some t564)) else (some false)) else (some false)) else (some false)) = some r := H
         have A43 := Aside0.mk A430
         clear A430
         by_cases c44 : t559 = 0
         ·rw [if_pos c44] at H
          have c44b0 : (t559 == 0) = true := beq_iff_eq.mpr c44
          have c44b1 : (t559 != 0) = false := bne_eq_false_iff_eq.mpr c44
          clear c44
          by_cases c45 : t563 = 0
          ·rw [if_pos c45] at H
           have c45b0 : (t563 == 0) = true := beq_iff_eq.mpr c45
           have c45b1 : (t563 != 0) = false := bne_eq_false_iff_eq.mpr c45
           clear c45
           by_cases c46 : t562.toList = t545.toList
           ·rw [if_pos c46] at H
            have c46b0 : (t562.toList == t545.toList) = true := beq_iff_eq.mpr c46
            have c46b1 : (t562.toList != t545.toList) = false := bne_eq_false_iff_eq.mpr c46
            clear c46
            replace H := Option.bind_eq_some_iff.mp H
            obtain ⟨t564, A470, H⟩ := H
            replace H : (some t564) = some r := H
            have A47 := Aside0.mk A470
            clear A470
            obtain rfl := Option.some.inj H
            go_wp2_with (first | ((with_reducible refine gate_callee (f := 25) rfl ?_); refine goesL_ (some 103) rfl rfl Tryd.func25 (by kernel_rfl) rfl #[.string a0, .slice A2 l2.length c2, .slice A1 l1.length c1] rfl (by (try simp only [List.map_toArray, List.map_cons, List.map_nil]); first | done | rfl | (simp only [List.length_drop, List.length_take]; rfl)) ?_; (with_reducible refine (text_Over.calls a0 _ _ l2 _ _ l1 t558 t559 _ ?side1 ?side2 ?side3 ?side4 A42.out).mono ?_); (case side1 => repeat (first | exact (Kd.C_below HR2.out HB.out) | (with_reducible refine Kd.C_alloc ?_ _) | (with_reducible refine Kd.C_drewN ?_ _) | (with_reducible refine Kd.C_drew ?_))); (case side2 => exact HC2.out); (case side3 => repeat (first | exact (Kd.C_below HR1.out HB.out) | (with_reducible refine Kd.C_alloc ?_ _) | (with_reducible refine Kd.C_drewN ?_ _) | (with_reducible refine Kd.C_drew ?_))); (case side4 => exact HC1.out); rintro e w48 ⟨v560, rfl, ho0, hb⟩; refine ⟨_, rfl, ?_⟩; have n0_ := Aside0.mk (Kd.R_lower ho0 (below_size (by repeat (first | (with_reducible first | exact HB.out | apply below_alloc | apply pw_below_drewN | apply below_drew1) | exact HB.out)))); have n1_ := Aside0.mk (below_step (by repeat (first | (with_reducible first | exact HB.out | apply below_alloc | apply pw_below_drewN | apply below_drew1) | exact HB.out)) hb); clear HB; have HO561 := n0_; have HB := n1_; clear n0_ n1_; (try clear hb); (try clear hb2); (try clear hk); (try clear hi); (try clear ho0); obtain ⟨Ao49, co49, eo49⟩ := Kd.R_slice HO561.out; subst eo49) | ((with_reducible refine gate_callee (f := 10) rfl ?_); refine goesL_ (some 109) rfl rfl Tryd.func10 (by kernel_rfl) rfl #[.string t550, .slice Ao49 t558.length co49] rfl (by (try simp only [List.map_toArray, List.map_cons, List.map_nil]); first | done | rfl | (simp only [List.length_drop, List.length_take]; rfl)) ?_; (with_reducible refine (text_Apply.calls t550 _ _ t558 t562 t563 _ ?side1 ?side2 A43.out).mono ?_); (case side1 => repeat (first | exact (Kd.R_reads' HO561.out).2.2 | (with_reducible refine Kd.C_alloc ?_ _) | (with_reducible refine Kd.C_drewN ?_ _) | (with_reducible refine Kd.C_drew ?_))); (case side2 => exact (Kd.R_reads' HO561.out).2.1); rintro e w50 ⟨rfl, hb⟩; refine ⟨_, rfl, ?_⟩; have n0_ := Aside0.mk (Kd.R_below (by (with_reducible repeat (first | apply Kd.R_alloc | apply Kd.R_drewN | apply Kd.R_drew)); exact HO561.out) hb); have n1_ := Aside0.mk (below_step (by repeat (first | (with_reducible first | exact HB.out | apply below_alloc | apply pw_below_drewN | apply below_drew1) | exact HB.out)) hb); clear HO561; clear HB; have HO561 := n0_; have HB := n1_; clear n0_ n1_; (try clear hb); (try clear hb2); (try clear hk); (try clear hi)) | ((with_reducible refine gate_callee (f := 17) rfl ?_); refine goesL_ (some 123) rfl rfl Tryd.func17 (by kernel_rfl) rfl #[] rfl (by (try simp only [List.map_toArray, List.map_cons, List.map_nil]); first | done | rfl | (simp only [List.length_drop, List.length_take]; rfl)) ?_; (with_reducible refine (smockinglaw01_awake.calls  t564 _ A47.out).mono ?_); rintro e w51 ⟨rfl, hb⟩; refine ⟨_, rfl, ?_⟩; have n0_ := Aside0.mk (Kd.R_below (by (with_reducible repeat (first | apply Kd.R_alloc | apply Kd.R_drewN | apply Kd.R_drew)); exact HO561.out) hb); have n1_ := Aside0.mk (below_step (by repeat (first | (with_reducible first | exact HB.out | apply below_alloc | apply pw_below_drewN | apply below_drew1) | exact HB.out)) hb); clear HO561; clear HB; have HO561 := n0_; have HB := n1_; clear n0_ n1_; (try clear hb); (try clear hb2); (try clear hk); (try clear hi)))
            go_ret
            exact ⟨by first | rfl | (simp [errW_none, errW_some] <;> rfl) | (simp [*, errW_none, errW_some] <;> rfl), by repeat (first | (with_reducible first | exact HB.out | apply below_alloc | apply pw_below_drewN | apply below_drew1) | exact HB.out)⟩
           ·rw [if_neg c46] at H
            have c46b0 : (t562.toList == t545.toList) = false := beq_eq_false_iff_ne.mpr c46
            have c46b1 : (t562.toList != t545.toList) = true := bne_iff_ne.mpr c46
            obtain rfl := Option.some.inj H
            go_wp2_with (first | ((with_reducible refine gate_callee (f := 25) rfl ?_); refine goesL_ (some 103) rfl rfl Tryd.func25 (by kernel_rfl) rfl #[.string a0, .slice A2 l2.length c2, .slice A1 l1.length c1] rfl (by (try simp only [List.map_toArray, List.map_cons, List.map_nil]); first | done | rfl | (simp only [List.length_drop, List.length_take]; rfl)) ?_; (with_reducible refine (text_Over.calls a0 _ _ l2 _ _ l1 t558 t559 _ ?side1 ?side2 ?side3 ?side4 A42.out).mono ?_); (case side1 => repeat (first | exact (Kd.C_below HR2.out HB.out) | (with_reducible refine Kd.C_alloc ?_ _) | (with_reducible refine Kd.C_drewN ?_ _) | (with_reducible refine Kd.C_drew ?_))); (case side2 => exact HC2.out); (case side3 => repeat (first | exact (Kd.C_below HR1.out HB.out) | (with_reducible refine Kd.C_alloc ?_ _) | (with_reducible refine Kd.C_drewN ?_ _) | (with_reducible refine Kd.C_drew ?_))); (case side4 => exact HC1.out); rintro e w52 ⟨v560, rfl, ho0, hb⟩; refine ⟨_, rfl, ?_⟩; have n0_ := Aside0.mk (Kd.R_lower ho0 (below_size (by repeat (first | (with_reducible first | exact HB.out | apply below_alloc | apply pw_below_drewN | apply below_drew1) | exact HB.out)))); have n1_ := Aside0.mk (below_step (by repeat (first | (with_reducible first | exact HB.out | apply below_alloc | apply pw_below_drewN | apply below_drew1) | exact HB.out)) hb); clear HB; have HO561 := n0_; have HB := n1_; clear n0_ n1_; (try clear hb); (try clear hb2); (try clear hk); (try clear hi); (try clear ho0); obtain ⟨Ao53, co53, eo53⟩ := Kd.R_slice HO561.out; subst eo53) | ((with_reducible refine gate_callee (f := 10) rfl ?_); refine goesL_ (some 109) rfl rfl Tryd.func10 (by kernel_rfl) rfl #[.string t550, .slice Ao53 t558.length co53] rfl (by (try simp only [List.map_toArray, List.map_cons, List.map_nil]); first | done | rfl | (simp only [List.length_drop, List.length_take]; rfl)) ?_; (with_reducible refine (text_Apply.calls t550 _ _ t558 t562 t563 _ ?side1 ?side2 A43.out).mono ?_); (case side1 => repeat (first | exact (Kd.R_reads' HO561.out).2.2 | (with_reducible refine Kd.C_alloc ?_ _) | (with_reducible refine Kd.C_drewN ?_ _) | (with_reducible refine Kd.C_drew ?_))); (case side2 => exact (Kd.R_reads' HO561.out).2.1); rintro e w54 ⟨rfl, hb⟩; refine ⟨_, rfl, ?_⟩; have n0_ := Aside0.mk (Kd.R_below (by (with_reducible repeat (first | apply Kd.R_alloc | apply Kd.R_drewN | apply Kd.R_drew)); exact HO561.out) hb); have n1_ := Aside0.mk (below_step (by repeat (first | (with_reducible first | exact HB.out | apply below_alloc | apply pw_below_drewN | apply below_drew1) | exact HB.out)) hb); clear HO561; clear HB; have HO561 := n0_; have HB := n1_; clear n0_ n1_; (try clear hb); (try clear hb2); (try clear hk); (try clear hi)))
            go_ret
            exact ⟨by first | rfl | (simp [errW_none, errW_some] <;> rfl) | (simp [*, errW_none, errW_some] <;> rfl), by repeat (first | (with_reducible first | exact HB.out | apply below_alloc | apply pw_below_drewN | apply below_drew1) | exact HB.out)⟩
          ·rw [if_neg c45] at H
           have c45b0 : (t563 == 0) = false := beq_eq_false_iff_ne.mpr c45
           have c45b1 : (t563 != 0) = true := bne_iff_ne.mpr c45
           obtain rfl := Option.some.inj H
           go_wp2_with (first | ((with_reducible refine gate_callee (f := 25) rfl ?_); refine goesL_ (some 103) rfl rfl Tryd.func25 (by kernel_rfl) rfl #[.string a0, .slice A2 l2.length c2, .slice A1 l1.length c1] rfl (by (try simp only [List.map_toArray, List.map_cons, List.map_nil]); first | done | rfl | (simp only [List.length_drop, List.length_take]; rfl)) ?_; (with_reducible refine (text_Over.calls a0 _ _ l2 _ _ l1 t558 t559 _ ?side1 ?side2 ?side3 ?side4 A42.out).mono ?_); (case side1 => repeat (first | exact (Kd.C_below HR2.out HB.out) | (with_reducible refine Kd.C_alloc ?_ _) | (with_reducible refine Kd.C_drewN ?_ _) | (with_reducible refine Kd.C_drew ?_))); (case side2 => exact HC2.out); (case side3 => repeat (first | exact (Kd.C_below HR1.out HB.out) | (with_reducible refine Kd.C_alloc ?_ _) | (with_reducible refine Kd.C_drewN ?_ _) | (with_reducible refine Kd.C_drew ?_))); (case side4 => exact HC1.out); rintro e w55 ⟨v560, rfl, ho0, hb⟩; refine ⟨_, rfl, ?_⟩; have n0_ := Aside0.mk (Kd.R_lower ho0 (below_size (by repeat (first | (with_reducible first | exact HB.out | apply below_alloc | apply pw_below_drewN | apply below_drew1) | exact HB.out)))); have n1_ := Aside0.mk (below_step (by repeat (first | (with_reducible first | exact HB.out | apply below_alloc | apply pw_below_drewN | apply below_drew1) | exact HB.out)) hb); clear HB; have HO561 := n0_; have HB := n1_; clear n0_ n1_; (try clear hb); (try clear hb2); (try clear hk); (try clear hi); (try clear ho0); obtain ⟨Ao56, co56, eo56⟩ := Kd.R_slice HO561.out; subst eo56) | ((with_reducible refine gate_callee (f := 10) rfl ?_); refine goesL_ (some 109) rfl rfl Tryd.func10 (by kernel_rfl) rfl #[.string t550, .slice Ao56 t558.length co56] rfl (by (try simp only [List.map_toArray, List.map_cons, List.map_nil]); first | done | rfl | (simp only [List.length_drop, List.length_take]; rfl)) ?_; (with_reducible refine (text_Apply.calls t550 _ _ t558 t562 t563 _ ?side1 ?side2 A43.out).mono ?_); (case side1 => repeat (first | exact (Kd.R_reads' HO561.out).2.2 | (with_reducible refine Kd.C_alloc ?_ _) | (with_reducible refine Kd.C_drewN ?_ _) | (with_reducible refine Kd.C_drew ?_))); (case side2 => exact (Kd.R_reads' HO561.out).2.1); rintro e w57 ⟨rfl, hb⟩; refine ⟨_, rfl, ?_⟩; have n0_ := Aside0.mk (Kd.R_below (by (with_reducible repeat (first | apply Kd.R_alloc | apply Kd.R_drewN | apply Kd.R_drew)); exact HO561.out) hb); have n1_ := Aside0.mk (below_step (by repeat (first | (with_reducible first | exact HB.out | apply below_alloc | apply pw_below_drewN | apply below_drew1) | exact HB.out)) hb); clear HO561; clear HB; have HO561 := n0_; have HB := n1_; clear n0_ n1_; (try clear hb); (try clear hb2); (try clear hk); (try clear hi)))
           go_ret
           exact ⟨by first | rfl | (simp [errW_none, errW_some] <;> rfl) | (simp [*, errW_none, errW_some] <;> rfl), by repeat (first | (with_reducible first | exact HB.out | apply below_alloc | apply pw_below_drewN | apply below_drew1) | exact HB.out)⟩
         ·rw [if_neg c44] at H
          have c44b0 : (t559 == 0) = false := beq_eq_false_iff_ne.mpr c44
          have c44b1 : (t559 != 0) = true := bne_iff_ne.mpr c44
          obtain rfl := Option.some.inj H
          go_wp2_with (first | ((with_reducible refine gate_callee (f := 25) rfl ?_); refine goesL_ (some 103) rfl rfl Tryd.func25 (by kernel_rfl) rfl #[.string a0, .slice A2 l2.length c2, .slice A1 l1.length c1] rfl (by (try simp only [List.map_toArray, List.map_cons, List.map_nil]); first | done | rfl | (simp only [List.length_drop, List.length_take]; rfl)) ?_; (with_reducible refine (text_Over.calls a0 _ _ l2 _ _ l1 t558 t559 _ ?side1 ?side2 ?side3 ?side4 A42.out).mono ?_); (case side1 => repeat (first | exact (Kd.C_below HR2.out HB.out) | (with_reducible refine Kd.C_alloc ?_ _) | (with_reducible refine Kd.C_drewN ?_ _) | (with_reducible refine Kd.C_drew ?_))); (case side2 => exact HC2.out); (case side3 => repeat (first | exact (Kd.C_below HR1.out HB.out) | (with_reducible refine Kd.C_alloc ?_ _) | (with_reducible refine Kd.C_drewN ?_ _) | (with_reducible refine Kd.C_drew ?_))); (case side4 => exact HC1.out); rintro e w58 ⟨v560, rfl, ho0, hb⟩; refine ⟨_, rfl, ?_⟩; have n0_ := Aside0.mk (Kd.R_lower ho0 (below_size (by repeat (first | (with_reducible first | exact HB.out | apply below_alloc | apply pw_below_drewN | apply below_drew1) | exact HB.out)))); have n1_ := Aside0.mk (below_step (by repeat (first | (with_reducible first | exact HB.out | apply below_alloc | apply pw_below_drewN | apply below_drew1) | exact HB.out)) hb); clear HB; have HO561 := n0_; have HB := n1_; clear n0_ n1_; (try clear hb); (try clear hb2); (try clear hk); (try clear hi); (try clear ho0); obtain ⟨Ao59, co59, eo59⟩ := Kd.R_slice HO561.out; subst eo59) | ((with_reducible refine gate_callee (f := 10) rfl ?_); refine goesL_ (some 109) rfl rfl Tryd.func10 (by kernel_rfl) rfl #[.string t550, .slice Ao59 t558.length co59] rfl (by (try simp only [List.map_toArray, List.map_cons, List.map_nil]); first | done | rfl | (simp only [List.length_drop, List.length_take]; rfl)) ?_; (with_reducible refine (text_Apply.calls t550 _ _ t558 t562 t563 _ ?side1 ?side2 A43.out).mono ?_); (case side1 => repeat (first | exact (Kd.R_reads' HO561.out).2.2 | (with_reducible refine Kd.C_alloc ?_ _) | (with_reducible refine Kd.C_drewN ?_ _) | (with_reducible refine Kd.C_drew ?_))); (case side2 => exact (Kd.R_reads' HO561.out).2.1); rintro e w60 ⟨rfl, hb⟩; refine ⟨_, rfl, ?_⟩; have n0_ := Aside0.mk (Kd.R_below (by (with_reducible repeat (first | apply Kd.R_alloc | apply Kd.R_drewN | apply Kd.R_drew)); exact HO561.out) hb); have n1_ := Aside0.mk (below_step (by repeat (first | (with_reducible first | exact HB.out | apply below_alloc | apply pw_below_drewN | apply below_drew1) | exact HB.out)) hb); clear HO561; clear HB; have HO561 := n0_; have HB := n1_; clear n0_ n1_; (try clear hb); (try clear hb2); (try clear hk); (try clear hi)))
          go_ret
          exact ⟨by first | rfl | (simp [errW_none, errW_some] <;> rfl) | (simp [*, errW_none, errW_some] <;> rfl), by repeat (first | (with_reducible first | exact HB.out | apply below_alloc | apply pw_below_drewN | apply below_drew1) | exact HB.out)⟩
        ·rw [if_neg c41] at H
         have c41b0 : (t551 == 0) = false := beq_eq_false_iff_ne.mpr c41
         have c41b1 : (t551 != 0) = true := bne_iff_ne.mpr c41
         replace H := Option.bind_eq_some_iff.mp H
         obtain ⟨t565, A610, H⟩ := H
         replace H : (some t565) = some r := H
         have A61 := Aside0.mk A610
         clear A610
         obtain rfl := Option.some.inj H
         go_wp2_with (first | ((with_reducible refine gate_callee (f := 17) rfl ?_); refine goesL_ (some 123) rfl rfl Tryd.func17 (by kernel_rfl) rfl #[] rfl (by (try simp only [List.map_toArray, List.map_cons, List.map_nil]); first | done | rfl | (simp only [List.length_drop, List.length_take]; rfl)) ?_; (with_reducible refine (smockinglaw01_awake.calls  t565 _ A61.out).mono ?_); rintro e w62 ⟨rfl, hb⟩; refine ⟨_, rfl, ?_⟩; have n0_ := Aside0.mk (below_step (by repeat (first | (with_reducible first | exact HB.out | apply below_alloc | apply pw_below_drewN | apply below_drew1) | exact HB.out)) hb); clear HB; have HB := n0_; clear n0_; (try clear hb); (try clear hb2); (try clear hk); (try clear hi)))
         go_ret
         exact ⟨by first | rfl | (simp [errW_none, errW_some] <;> rfl) | (simp [*, errW_none, errW_some] <;> rfl), by repeat (first | (with_reducible first | exact HB.out | apply below_alloc | apply pw_below_drewN | apply below_drew1) | exact HB.out)⟩
     ·rw [if_neg c14] at H
      have c14b0 : (t546 == 0) = false := beq_eq_false_iff_ne.mpr c14
      have c14b1 : (t546 != 0) = true := bne_iff_ne.mpr c14
      replace H := Option.bind_eq_some_iff.mp H
      obtain ⟨t547, A630, H⟩ := H
      replace H : (some t547) = some r := H
      have A63 := Aside0.mk A630
      clear A630
      obtain rfl := Option.some.inj H
      go_wp2_with (first | ((with_reducible refine gate_callee (f := 23) rfl ?_); refine goesL_ (some 44) rfl rfl Tryd.func23 (by kernel_rfl) rfl #[.string a0, .slice A1 l1.length c1, .slice A2 l2.length c2] rfl (by (try simp only [List.map_toArray, List.map_cons, List.map_nil]); first | done | rfl | (simp only [List.length_drop, List.length_take]; rfl)) ?_; (with_reducible refine (text_Merge.calls a0 _ _ l1 _ _ l2 t540 t541 _ ?side1 ?side2 ?side3 ?side4 A11.out).mono ?_); (case side1 => repeat (first | exact (Kd.C_below HR1.out HB.out) | (with_reducible refine Kd.C_alloc ?_ _) | (with_reducible refine Kd.C_drewN ?_ _) | (with_reducible refine Kd.C_drew ?_))); (case side2 => exact HC1.out); (case side3 => repeat (first | exact (Kd.C_below HR2.out HB.out) | (with_reducible refine Kd.C_alloc ?_ _) | (with_reducible refine Kd.C_drewN ?_ _) | (with_reducible refine Kd.C_drew ?_))); (case side4 => exact HC2.out); rintro e w64 ⟨v542, rfl, ho0, hb⟩; refine ⟨_, rfl, ?_⟩; have n0_ := Aside0.mk (Kd.R_lower ho0 (below_size (by repeat (first | (with_reducible first | exact HB.out | apply below_alloc | apply pw_below_drewN | apply below_drew1) | exact HB.out)))); have n1_ := Aside0.mk (below_step (by repeat (first | (with_reducible first | exact HB.out | apply below_alloc | apply pw_below_drewN | apply below_drew1) | exact HB.out)) hb); clear HB; have HO543 := n0_; have HB := n1_; clear n0_ n1_; (try clear hb); (try clear hb2); (try clear hk); (try clear hi); (try clear ho0); obtain ⟨Ao65, co65, eo65⟩ := Kd.R_slice HO543.out; subst eo65) | ((with_reducible refine gate_callee (f := 10) rfl ?_); refine goesL_ (some 53) rfl rfl Tryd.func10 (by kernel_rfl) rfl #[.string a0, .slice Ao65 t540.length co65] rfl (by (try simp only [List.map_toArray, List.map_cons, List.map_nil]); first | done | rfl | (simp only [List.length_drop, List.length_take]; rfl)) ?_; (with_reducible refine (text_Apply.calls a0 _ _ t540 t545 t546 _ ?side1 ?side2 A13.out).mono ?_); (case side1 => repeat (first | exact (Kd.R_reads' HO543.out).2.2 | (with_reducible refine Kd.C_alloc ?_ _) | (with_reducible refine Kd.C_drewN ?_ _) | (with_reducible refine Kd.C_drew ?_))); (case side2 => exact (Kd.R_reads' HO543.out).2.1); rintro e w66 ⟨rfl, hb⟩; refine ⟨_, rfl, ?_⟩; have n0_ := Aside0.mk (Kd.R_below (by (with_reducible repeat (first | apply Kd.R_alloc | apply Kd.R_drewN | apply Kd.R_drew)); exact HO543.out) hb); have n1_ := Aside0.mk (below_step (by repeat (first | (with_reducible first | exact HB.out | apply below_alloc | apply pw_below_drewN | apply below_drew1) | exact HB.out)) hb); clear HO543; clear HB; have HO543 := n0_; have HB := n1_; clear n0_ n1_; (try clear hb); (try clear hb2); (try clear hk); (try clear hi)) | ((with_reducible refine gate_callee (f := 17) rfl ?_); refine goesL_ (some 58) rfl rfl Tryd.func17 (by kernel_rfl) rfl #[] rfl (by (try simp only [List.map_toArray, List.map_cons, List.map_nil]); first | done | rfl | (simp only [List.length_drop, List.length_take]; rfl)) ?_; (with_reducible refine (smockinglaw01_awake.calls  t547 _ A63.out).mono ?_); rintro e w67 ⟨rfl, hb⟩; refine ⟨_, rfl, ?_⟩; have n0_ := Aside0.mk (Kd.R_below (by (with_reducible repeat (first | apply Kd.R_alloc | apply Kd.R_drewN | apply Kd.R_drew)); exact HO543.out) hb); have n1_ := Aside0.mk (below_step (by repeat (first | (with_reducible first | exact HB.out | apply below_alloc | apply pw_below_drewN | apply below_drew1) | exact HB.out)) hb); clear HO543; clear HB; have HO543 := n0_; have HB := n1_; clear n0_ n1_; (try clear hb); (try clear hb2); (try clear hk); (try clear hi)))
      go_ret
      exact ⟨by first | rfl | (simp [errW_none, errW_some] <;> rfl) | (simp [*, errW_none, errW_some] <;> rfl), by repeat (first | (with_reducible first | exact HB.out | apply below_alloc | apply pw_below_drewN | apply below_drew1) | exact HB.out)⟩
    ·rw [if_neg c12] at H
     have c12b0 : (t541 == 0) = false := beq_eq_false_iff_ne.mpr c12
     have c12b1 : (t541 != 0) = true := bne_iff_ne.mpr c12
     replace H := Option.bind_eq_some_iff.mp H
     obtain ⟨t544, A680, H⟩ := H
     replace H : (some t544) = some r := H
     have A68 := Aside0.mk A680
     clear A680
     obtain rfl := Option.some.inj H
     go_wp2_with (first | ((with_reducible refine gate_callee (f := 23) rfl ?_); refine goesL_ (some 44) rfl rfl Tryd.func23 (by kernel_rfl) rfl #[.string a0, .slice A1 l1.length c1, .slice A2 l2.length c2] rfl (by (try simp only [List.map_toArray, List.map_cons, List.map_nil]); first | done | rfl | (simp only [List.length_drop, List.length_take]; rfl)) ?_; (with_reducible refine (text_Merge.calls a0 _ _ l1 _ _ l2 t540 t541 _ ?side1 ?side2 ?side3 ?side4 A11.out).mono ?_); (case side1 => repeat (first | exact (Kd.C_below HR1.out HB.out) | (with_reducible refine Kd.C_alloc ?_ _) | (with_reducible refine Kd.C_drewN ?_ _) | (with_reducible refine Kd.C_drew ?_))); (case side2 => exact HC1.out); (case side3 => repeat (first | exact (Kd.C_below HR2.out HB.out) | (with_reducible refine Kd.C_alloc ?_ _) | (with_reducible refine Kd.C_drewN ?_ _) | (with_reducible refine Kd.C_drew ?_))); (case side4 => exact HC2.out); rintro e w69 ⟨v542, rfl, ho0, hb⟩; refine ⟨_, rfl, ?_⟩; have n0_ := Aside0.mk (Kd.R_lower ho0 (below_size (by repeat (first | (with_reducible first | exact HB.out | apply below_alloc | apply pw_below_drewN | apply below_drew1) | exact HB.out)))); have n1_ := Aside0.mk (below_step (by repeat (first | (with_reducible first | exact HB.out | apply below_alloc | apply pw_below_drewN | apply below_drew1) | exact HB.out)) hb); clear HB; have HO543 := n0_; have HB := n1_; clear n0_ n1_; (try clear hb); (try clear hb2); (try clear hk); (try clear hi); (try clear ho0)) | ((with_reducible refine gate_callee (f := 17) rfl ?_); refine goesL_ (some 49) rfl rfl Tryd.func17 (by kernel_rfl) rfl #[] rfl (by (try simp only [List.map_toArray, List.map_cons, List.map_nil]); first | done | rfl | (simp only [List.length_drop, List.length_take]; rfl)) ?_; (with_reducible refine (smockinglaw01_awake.calls  t544 _ A68.out).mono ?_); rintro e w70 ⟨rfl, hb⟩; refine ⟨_, rfl, ?_⟩; have n0_ := Aside0.mk (Kd.R_below (by (with_reducible repeat (first | apply Kd.R_alloc | apply Kd.R_drewN | apply Kd.R_drew)); exact HO543.out) hb); have n1_ := Aside0.mk (below_step (by repeat (first | (with_reducible first | exact HB.out | apply below_alloc | apply pw_below_drewN | apply below_drew1) | exact HB.out)) hb); clear HO543; clear HB; have HO543 := n0_; have HB := n1_; clear n0_ n1_; (try clear hb); (try clear hb2); (try clear hk); (try clear hi)))
     go_ret
     exact ⟨by first | rfl | (simp [errW_none, errW_some] <;> rfl) | (simp [*, errW_none, errW_some] <;> rfl), by repeat (first | (with_reducible first | exact HB.out | apply below_alloc | apply pw_below_drewN | apply below_drew1) | exact HB.out)⟩

end Go.Proofs.YthimblhfjfngiaaDoor.PText

namespace Go.Proofs.YthimblhfjfngiaaDoor.PText
open Go.RowKit Go.Lib Go.Proofs.YthimblhfjfngiaaDoorW.PrintWords Go.Proofs.YthimblhfjfngiaaDoorW.PrintLast Go.Proofs.YthimblhfjfngiaaDoorW.PrintMore
def togE (n : Nat) (l1 l2 : List S34) : Int := if fineE n l1 = 0 then (if fineE n l2 = 0 then fineE n (l1 ++ l2) else fineE n l2) else fineE n l1
theorem merge_tog (n : Nat) (l1 l2 : List S34) : mergeR n l1 l2 = if togE n l1 l2 = 0 then (Tx.ord eltS (l1 ++ l2), 0) else ([], togE n l1 l2) := by
  unfold mergeR togE
  by_cases h1 : fineE n l1 = 0
  · rw [if_neg (show ¬ (fineE n l1 ≠ 0) from fun q => q h1), if_pos h1]
    by_cases h2 : fineE n l2 = 0
    · rw [if_neg (show ¬ (fineE n l2 ≠ 0) from fun q => q h2), if_pos h2]
      by_cases h3 : fineE n (l1 ++ l2) = 0
      · rw [if_neg (show ¬ (fineE n (l1 ++ l2) ≠ 0) from fun q => q h3), if_pos h3]
      · rw [if_pos (show fineE n (l1 ++ l2) ≠ 0 from h3), if_neg h3]
    · rw [if_pos (show fineE n l2 ≠ 0 from h2), if_neg h2, if_neg h2]
  · rw [if_pos (show fineE n l1 ≠ 0 from h1), if_neg h1, if_neg h1]
theorem mem_toE {x : S34} {l : List S34} : toE x ∈ l.map toE ↔ x ∈ l := by
  rw [List.mem_map]
  exact ⟨fun ⟨y, hy, e⟩ => by rw [← toE_inj e]; exact hy, fun h => ⟨x, h, rfl⟩⟩
/-- whether an edit stands in the first list -/
def inE (l1 : List S34) (e : Tx.Ed) : Bool := decide (e ∈ l1.map toE)
theorem ov_toE (l1 : List S34) : ∀ (l : List S34) (sh : Int), (ovS l1 sh l).map toE = Tx.ov (inE l1) sh (l.map toE)
  | [], _ => rfl
  | x :: l, sh => by
    have e : ovS l1 sh (x :: l) = if x ∈ l1 then ovS l1 (sh + ((x.f2.size : Int) - (x.f1 - x.f0))) l else ⟨x.f0 + sh, x.f1 + sh, x.f2⟩ :: ovS l1 sh l := rfl
    have e2 : Tx.ov (inE l1) sh ((x :: l).map toE) = if inE l1 (toE x) = true then Tx.ov (inE l1) (sh + Tx.gain (toE x)) (l.map toE) else ⟨(toE x).f + sh, (toE x).t + sh, (toE x).x⟩ :: Tx.ov (inE l1) sh (l.map toE) := rfl
    have eg : Tx.gain (toE x) = (x.f2.size : Int) - (x.f1 - x.f0) := by unfold Tx.gain; rw [toE_x, ← size_list]; rfl
    rw [e, e2]
    by_cases h : x ∈ l1
    · rw [if_pos h, if_pos (show inE l1 (toE x) = true from decide_eq_true (mem_toE.2 h)), ov_toE l1 l, eg]
    · rw [if_neg h, if_neg (show ¬ inE l1 (toE x) = true from fun q => h (mem_toE.1 (of_decide_eq_true q))), List.map_cons, ov_toE l1 l]
      rfl
theorem asc_toE (l : List S34) : Tx.Asc Tx.elt ((Tx.ord eltS l).map toE) := List.pairwise_map.2 (Tx.asc_ord eltS_lin)
/-- of all edits, those of one list, in order -/
theorem in_filter (l1 L : List S34) (h : ∀ x ∈ l1, x ∈ L) : ((Tx.ord eltS L).map toE).filter (inE l1) = (Tx.ord eltS l1).map toE := by
  refine Tx.asc_unique Tx.elt_lin ((asc_toE L).filter _) (asc_toE l1) fun a => ?_
  rw [List.mem_filter, List.mem_map, List.mem_map]
  constructor
  · rintro ⟨⟨x, hx, rfl⟩, h2⟩
    exact ⟨x, (Tx.mem_ord eltS_lin).2 (mem_toE.1 (of_decide_eq_true h2)), rfl⟩
  · rintro ⟨x, hx, rfl⟩
    have hx := (Tx.mem_ord eltS_lin).1 hx
    exact ⟨⟨x, (Tx.mem_ord eltS_lin).2 (h x hx), rfl⟩, decide_eq_true (mem_toE.2 hx)⟩
theorem map_toE_inj {l m : List S34} (h : l.map toE = m.map toE) : l = m := by
  induction l generalizing m with
  | nil => cases m with
    | nil => rfl
    | cons y m => cases h
  | cons x l ih => cases m with
    | nil => cases h
    | cons y m =>
      rw [List.map_cons, List.map_cons, List.cons.injEq] at h
      rw [toE_inj h.1, ih h.2]
theorem ovS_len (l1 : List S34) : ∀ (l : List S34) (sh : Int), (ovS l1 sh l).length ≤ l.length
  | [], _ => Nat.le_refl _
  | x :: l, sh => by
    have e : ovS l1 sh (x :: l) = if x ∈ l1 then ovS l1 (sh + ((x.f2.size : Int) - (x.f1 - x.f0))) l else ⟨x.f0 + sh, x.f1 + sh, x.f2⟩ :: ovS l1 sh l := rfl
    rw [e, List.length_cons]
    by_cases h : x ∈ l1
    · rw [if_pos h]
      have := ovS_len l1 l (sh + ((x.f2.size : Int) - (x.f1 - x.f0)))
      omega
    · rw [if_neg h, List.length_cons]
      have := ovS_len l1 l sh
      omega
theorem merge_len (n : Nat) (l1 l2 : List S34) : (mergeR n l1 l2).1.length ≤ l1.length + l2.length := by
  rw [merge_tog]
  by_cases h : togE n l1 l2 = 0
  · rw [if_pos h]
    have := Tx.ord_len (lt := eltS) (l1 ++ l2)
    rw [List.length_append] at this
    exact this
  · rw [if_neg h]; exact Nat.zero_le _
theorem over_len (n : Nat) (l1 l2 : List S34) : (overR n l1 l2).1.length ≤ l1.length + l2.length := by
  unfold overR
  by_cases h : (mergeR n l1 l2).2 ≠ 0
  · rw [if_pos h]; exact Nat.zero_le _
  · rw [if_neg h]
    exact Nat.le_trans (jnS_len _) (Nat.le_trans (ovS_len _ _ _) (merge_len n l1 l2))
/-- edits over those that are made first come to the same as all at once -/
theorem over_facts (s : ByteArray) (l1 L : List S34) (hL : ∀ x ∈ l1, x ∈ L) (hc : Tx.Ch (s.size : Int) 0 ((Tx.ord eltS L).map toE)) (t x : ByteArray) (ht : t = ⟨(madeE s L).toArray⟩) (hx : x = ⟨(madeE s l1).toArray⟩)
    (hx2 : x.size ≤ 200000) (hn : L.length ≤ 10000) (m : List S34) (hm : m = jnS (ovS l1 0 (Tx.ord eltS L))) : fineE x.size m = 0 ∧ madeE x m = t.data.toList := by
  rw [size_list] at hc
  have h := Tx.over_ap s.data.toList (inE l1) ((Tx.ord eltS L).map toE) hc
  rw [in_filter l1 L hL, ← ov_toE, ← jn_toE, ← hm] at h
  have e1 : Tx.ap s.data.toList 0 ((Tx.ord eltS l1).map toE) = x.data.toList := by rw [hx]; rfl
  have e2 : Tx.ap s.data.toList 0 ((Tx.ord eltS L).map toE) = t.data.toList := by rw [ht]; rfl
  rw [e1, e2, ← size_list] at h
  have hlen : m.length ≤ 10000 := by
    rw [hm]
    exact Nat.le_trans (jnS_len _) (Nat.le_trans (ovS_len _ _ _) (Nat.le_trans (Tx.ord_len L) hn))
  obtain ⟨f1, f2⟩ := fine_of x.size m hx2 hlen h.2.1 h.2.2.1 h.2.2.2
  refine ⟨f1, ?_⟩
  unfold madeE
  rw [f2]
  exact h.1
end Go.Proofs.YthimblhfjfngiaaDoor.PText

namespace Go.Proofs.YthimblhfjfngiaaDoor.PText
open Go.RowKit Go.Lib Go.Proofs.YthimblhfjfngiaaDoorW.PrintWords Go.Proofs.YthimblhfjfngiaaDoorW.PrintLast Go.Proofs.YthimblhfjfngiaaDoorW.PrintMore
theorem over_made (s : ByteArray) (l1 l2 : List S34) (hl : l1.length + l2.length ≤ 80) (hz : s.size + sumS l1 + sumS l2 ≤ 12000) (hm : (mergeR s.size l1 l2).2 = 0) (t : ByteArray) (ht : t = ⟨(madeE s (l1 ++ l2)).toArray⟩) :
    ∃ x m : _, applyR s l1 = (x, 0) ∧ x.size ≤ 12000 ∧ overR s.size l1 l2 = (m, 0) ∧ sumS m ≤ 12000 ∧ applyR x m = (t, 0) := by
  obtain ⟨f1, f2, f3, f4⟩ := merge_zero hm
  obtain ⟨-, -, hc⟩ := fine_chain s.size _ f3
  have hl1 := made_len f1
  have hl3 := made_len f3
  rw [sumS_app] at hl3
  obtain ⟨x, hx⟩ : ∃ x : ByteArray, x = ⟨(madeE s l1).toArray⟩ := ⟨_, rfl⟩
  have hxs : x.size = (madeE s l1).length := by rw [size_list, hx]
  have hts : t.size = (madeE s (l1 ++ l2)).length := by rw [size_list, ht]
  obtain ⟨m, hme⟩ : ∃ m, m = jnS (ovS l1 0 (Tx.ord eltS (l1 ++ l2))) := ⟨_, rfl⟩
  obtain ⟨g1, g2⟩ := over_facts s l1 (l1 ++ l2) (fun x h => List.mem_append_left _ h) hc t x ht hx (by omega) (by rw [List.length_append]; omega) m hme
  refine ⟨x, m, ?_, by omega, ?_, ?_, ?_⟩
  · unfold applyR
    rw [if_neg (show ¬ (fineE s.size l1 ≠ 0) from fun q => q f1), if_neg (by omega), hx]
  · unfold overR
    rw [if_neg (fun q => q hm), f4, hme]
  · rw [hme, sumS_jn]
    have h1 := ovS_sum l1 (Tx.ord eltS (l1 ++ l2)) 0
    have h2 := sumS_ord (l1 ++ l2)
    rw [sumS_app] at h2
    omega
  · unfold applyR
    rw [if_neg (show ¬ (fineE x.size m ≠ 0) from fun q => q g1), g2, if_neg (by rw [← size_list]; omega), ba_eta]
theorem fine_comm (n : Nat) (l1 l2 : List S34) : fineE n (l2 ++ l1) = fineE n (l1 ++ l2) := by
  have hm : ∀ a, a ∈ l2 ++ l1 ↔ a ∈ l1 ++ l2 := fun a => by rw [List.mem_append, List.mem_append]; exact Or.comm
  have h1 : Tx.ord eltS (l2 ++ l1) = Tx.ord eltS (l1 ++ l2) := Tx.ord_congr eltS_lin hm
  have h2 : (l2 ++ l1).any (badE n) = (l1 ++ l2).any (badE n) := by rw [List.any_append, List.any_append, Bool.or_comm]
  have h3 : (l2 ++ l1).length = (l1 ++ l2).length := by rw [List.length_append, List.length_append, Nat.add_comm]
  unfold fineE
  rw [h1, h2, h3]
theorem textOver_eq (s : ByteArray) (l1 l2 : List S34) (hs : s.size ≤ 1000000000000000) (hl1 : l1.length ≤ 1000000000000000) (hl2 : l2.length ≤ 1000000000000000) (hz1 : ∀ x ∈ l1, x.f2.size ≤ 1000000000000000) (hz2 : ∀ x ∈ l2, x.f2.size ≤ 1000000000000000) :
    ∃ k, smockinglaw01_TextOver.f k s l1 l2 = some true := by
  refine ⟨l1.length + l2.length + 1000, ?_⟩
  obtain ⟨b1, h1, h2⟩ := heavy_f s l1 hs hl1 hz1 (l1.length + l2.length + 1000) (by omega)
  obtain ⟨b2, h3, h4⟩ := heavy_f s l2 hs hl2 hz2 (l1.length + l2.length + 1000) (by omega)
  unfold smockinglaw01_TextOver.f
  rw [h1, Option.bind_some]
  have early : ∀ k, smockinglaw01_TextOver.j0 (k + 1) s l1 l2 true = some true := fun k => by rw [smockinglaw01_TextOver.j0, if_pos rfl]
  cases b1 with
  | true => rw [if_pos rfl]; exact early _
  | false =>
    rw [if_neg (show ¬ (false = true) by decide), h3, Option.bind_some]
    cases b2 with
    | true => rw [if_pos rfl]; exact early _
    | false =>
      rw [if_neg (show ¬ (false = true) by decide)]
      by_cases c1 : l1.length ≤ 40
      · rw [if_neg (show ¬ ((l1.length : Int) > 40) by omega)]
        by_cases c2 : l2.length ≤ 40
        · have hb1 := h2 rfl
          have hb2 := h4 rfl
          rw [decide_eq_false (show ¬ (l2.length : Int) > 40 by omega)]
          have e1 : text_Merge.f s l1 l2 = some (mergeR s.size l1 l2) := by unfold text_Merge.f; rw [if_pos (by omega)]
          show smockinglaw01_TextOver.j0 (l1.length + l2.length + 999 + 1) s l1 l2 false = some true
          rw [smockinglaw01_TextOver.j0, if_neg (show ¬ (false = true) by decide), e1, Option.bind_some]
          by_cases hm : (mergeR s.size l1 l2).2 = 0
          · rw [if_pos hm]
            obtain ⟨f1, f2, f3, f4⟩ := merge_zero hm
            have hoo : Tx.ord eltS (Tx.ord eltS (l1 ++ l2)) = Tx.ord eltS (l1 ++ l2) := Tx.ord_ord eltS_lin (Tx.asc_ord eltS_lin)
            have hso := sumS_ord (l1 ++ l2)
            rw [sumS_app] at hso
            have e2 := apply_f s (mergeR s.size l1 l2).1 (by rw [f4]; omega)
            rw [e2, Option.bind_some]
            by_cases ha : (applyR s (mergeR s.size l1 l2).1).2 = 0
            · rw [if_pos ha]
              obtain ⟨-, ha2⟩ := apply_zero ha
              have hmade : madeE s (mergeR s.size l1 l2).1 = madeE s (l1 ++ l2) := by unfold madeE; rw [f4, hoo]
              rw [hmade] at ha2
              obtain ⟨t, ht⟩ : ∃ t : ByteArray, t = ⟨(madeE s (l1 ++ l2)).toArray⟩ := ⟨_, rfl⟩
              rw [← ht] at ha2
              have hm' : (mergeR s.size l2 l1).2 = 0 := by
                unfold mergeR
                rw [if_neg (fun q => q f2), if_neg (fun q => q f1), fine_comm, if_neg (fun q => q f3)]
              have ht' : t = ⟨(madeE s (l2 ++ l1)).toArray⟩ := by
                rw [ht]
                unfold madeE
                rw [Tx.ord_congr eltS_lin (l := l2 ++ l1) (m := l1 ++ l2) (fun a => by rw [List.mem_append, List.mem_append]; exact Or.comm)]
              obtain ⟨x, m, a1, a2, a3, a4, a5⟩ := over_made s l1 l2 (by omega) (by omega) hm t ht
              obtain ⟨y, m2, b1, b2, b3, b4, b5⟩ := over_made s l2 l1 (by omega) (by omega) hm' t ht'
              have e3 := apply_f s l1 (by omega)
              have e4 := apply_f s l2 (by omega)
              have e5 : text_Over.f s l1 l2 = some (overR s.size l1 l2) := by unfold text_Over.f; rw [if_pos (by omega)]
              have e6 : text_Over.f s l2 l1 = some (overR s.size l2 l1) := by unfold text_Over.f; rw [if_pos (by omega)]
              have e7 := apply_f x m (by omega)
              have e8 := apply_f y m2 (by omega)
              rw [ha2, e3, Option.bind_some, e4, Option.bind_some, a1, b1, if_pos rfl, e5, Option.bind_some, a3, e7, Option.bind_some, a5, if_pos rfl, if_pos rfl, if_pos rfl]
              show smockinglaw01_TextOver.j1 (l1.length + l2.length + 998 + 1) s l1 l2 t y 0 = some true
              rw [smockinglaw01_TextOver.j1, if_pos rfl, e6, Option.bind_some, b3, e8, Option.bind_some, b5, if_pos rfl, if_pos rfl, if_pos rfl, awake_f, Option.bind_some]
            · rw [if_neg ha, awake_f, Option.bind_some]
          · rw [if_neg hm, awake_f, Option.bind_some]
        · rw [decide_eq_true (show (l2.length : Int) > 40 by omega)]
          exact early _
      · rw [if_pos (show (l1.length : Int) > 40 by omega)]
        exact early _
end Go.Proofs.YthimblhfjfngiaaDoor.PText

