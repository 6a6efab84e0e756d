/- TextRefuses holds: for every two texts the statement answers true, where the seven listed package variables hold what the program's text lays. Part 12 of 21. -/
import Derived.Test.YtidlmkdoofcgnaaGreatDoorBRefusesK
import Derived.RangeFuncNested
import Derived.RangeFuncBound
import Derived.RangeFuncCalls
import Derived.RangeFuncLeaves
namespace Go.Proofs.YtidlmkdoofcgnaaGreatDoor.PText
open Go.RowKit Go.Lib Go.Proofs.YtidlmkdoofcgnaaGreatDoorW.PrintWords Go.Proofs.YtidlmkdoofcgnaaGreatDoorW.PrintLast Go.Proofs.YtidlmkdoofcgnaaGreatDoorW.PrintMore
def toE (x : S24) : Tx.Ed := ⟨x.f0, x.f1, x.f2.toList⟩
theorem toE_inj {x y : S24} (h : toE x = toE y) : x = y := by
  have h0 := congrArg Tx.Ed.f h
  have h1 := congrArg Tx.Ed.t h
  have h2 := congrArg Tx.Ed.x h
  refine S24.ext' h0 h1 ?_
  simp only [toE] at h2
  rw [Lib.toList_data, Lib.toList_data] at h2
  exact ByteArray.ext (Array.toList_inj.1 h2)
def eltS (x y : S24) : Bool := Tx.elt (toE x) (toE y)
theorem eltS_lin : Tx.Lin eltS where
  irr _ := Tx.elt_lin.irr _
  tr := fun h1 h2 => Tx.elt_lin.tr h1 h2
  tri := fun h1 h2 => toE_inj (Tx.elt_lin.tri h1 h2)
def cI (a b : Int) : Int := if a < b then -1 else if b < a then 1 else 0
def cS (a b : List UInt8) : Int := if a < b then -1 else if b < a then 1 else 0
def cfE (x y : S24) : Int := if cI x.f0 y.f0 ≠ 0 then cI x.f0 y.f0 else if cI x.f1 y.f1 ≠ 0 then cI x.f1 y.f1 else cS x.f2.toList y.f2.toList
theorem cmpI_f (a b : Int) : cmp_Compare_int.f a b = some (cI a b) := by
  unfold cmp_Compare_int.f cmp_isNaN_int.f cI
  simp only [bne_self_eq_false, Option.bind_some, Bool.false_eq_true, if_false]
  by_cases h : a < b
  · rw [if_pos h, if_pos h]
  · rw [if_neg h, if_neg h]
    by_cases h' : b < a
    · rw [if_pos h', if_pos h']
    · rw [if_neg h', if_neg h']
theorem cmpS_f (a b : ByteArray) : cmp_Compare_string.f a b = some (cS a.toList b.toList) := by
  unfold cmp_Compare_string.f cmp_isNaN_string.f cS
  simp only [bne_self_eq_false, Option.bind_some, Bool.false_eq_true, if_false, bl_lt, decide_eq_true_eq]
  by_cases h : a.toList < b.toList
  · rw [if_pos h, if_pos h]
  · rw [if_neg h, if_neg h]
    by_cases h' : b.toList < a.toList
    · rw [if_pos h', if_pos h']
    · rw [if_neg h', if_neg h']
theorem or_f (a b c : Int) : cmp_Or_int.f 8 [a, b, c] = some (if a ≠ 0 then a else if b ≠ 0 then b else c) := by
  have w1 : wrap64 1 = 1 := by unfold wrap64; omega
  have w2 : wrap64 2 = 2 := by unfold wrap64; omega
  have w3 : wrap64 3 = 3 := by unfold wrap64; omega
  unfold cmp_Or_int.f
  by_cases ha : a = 0
  · by_cases hb : b = 0
    · by_cases hc : c = 0
      · simp [cmp_Or_int.l0, rd, ha, hb, hc, w1, w2, w3]
      · simp [cmp_Or_int.l0, rd, ha, hb, hc, w1, w2]
    · simp [cmp_Or_int.l0, rd, ha, hb, w1]
  · simp [cmp_Or_int.l0, rd, ha]
theorem order_f (x y : S24) : text_order.f 8 x.f0 x.f1 x.f2 y.f0 y.f1 y.f2 = some (cfE x y) := by
  unfold text_order.f
  rw [cmpI_f, Option.bind_some, cmpI_f, Option.bind_some, cmpS_f, Option.bind_some, or_f]
  rfl
theorem ltOf_cfE (x y : S24) : decide (cfE x y < 0) = eltS x y := by
  rw [Bool.eq_iff_iff, decide_eq_true_eq]
  unfold eltS
  rw [Tx.elt_iff]
  unfold cfE cI cS toE
  by_cases h0 : x.f0 < y.f0
  · rw [if_pos h0]; simp [h0]
  · rw [if_neg h0]
    by_cases h1 : y.f0 < x.f0
    · rw [if_pos h1]; simp; omega
    · have e0 : x.f0 = y.f0 := by omega
      rw [if_neg h1]
      by_cases h2 : x.f1 < y.f1
      · rw [if_pos h2]; simp [e0, h2]
      · rw [if_neg h2]
        by_cases h3 : y.f1 < x.f1
        · rw [if_pos h3]; simp [e0]; omega
        · have e1 : x.f1 = y.f1 := by omega
          rw [if_neg h3]
          by_cases h4 : x.f2.toList < y.f2.toList
          · rw [if_pos h4]; simp [e0, e1, h4]
          · rw [if_neg h4]
            by_cases h5 : y.f2.toList < x.f2.toList
            · rw [if_pos h5]; simp [e0, e1, h4]
            · rw [if_neg h5]; simp [e0, e1, h4]
end Go.Proofs.YtidlmkdoofcgnaaGreatDoor.PText

namespace Go.Proofs.YtidlmkdoofcgnaaGreatDoor.PText
open Go.RowKit Go.Lib Go.Proofs.YtidlmkdoofcgnaaGreatDoorW.PrintWords Go.Proofs.YtidlmkdoofcgnaaGreatDoorW.PrintLast Go.Proofs.YtidlmkdoofcgnaaGreatDoorW.PrintMore
theorem rd34_at (l : List S24) (i : Nat) (h : i < l.length) : rd_T24 l (i : Int) = l[i] := by
  unfold rd_T24
  rw [Int.toNat_natCast, List.getD_eq_getElem?_getD, List.getElem?_eq_getElem h]; rfl
theorem clash_l0 (l : List S24) (hl : l.length ≤ 1000000) : ∀ (m i k : Nat) (e last : Int), l.length - i = m → i ≤ l.length → 2 * m + 1 ≤ k →
    text_clash.l0 k e last l (l.length : Int) (i : Int) = some (Tx.clash e last ((l.drop i).map toE)) := by
  intro m
  induction m with
  | zero =>
    intro i k e last hm hi hk
    obtain ⟨k, rfl⟩ : ∃ j, k = j + 1 := ⟨k - 1, by omega⟩
    rw [text_clash.l0, if_neg (by omega), List.drop_of_length_le (by omega)]
    rfl
  | succ m ih =>
    intro i k e last hm hi hk
    obtain ⟨k, rfl⟩ : ∃ j, k = j + 2 := ⟨k - 2, by omega⟩
    have hlt : i < l.length := by omega
    have hd : (l.drop i).map toE = toE l[i] :: (l.drop (i + 1)).map toE := by rw [List.drop_eq_getElem_cons hlt]; rfl
    have hn : wrap64 ((i : Int) + 1) = ((i + 1 : Nat) : Int) := by rw [w64 (by omega) (by omega)]; omega
    have ih1 := fun e last => ih (i + 1) k e last (by omega) (by omega) (by omega)
    rw [text_clash.l0, if_pos (by omega), if_pos (by omega), if_pos (by omega), rd34_at l i hlt, hd]
    generalize l[i] = x
    have step : ∀ b : Bool, text_clash.j1 (k + 1) e last l (l.length : Int) (i : Int) b x.f0 x.f1 x.f2 = some (if b = true then true else Tx.clash (max e x.f1) (if x.f0 = x.f1 then x.f0 else last) ((l.drop (i + 1)).map toE)) := by
      intro b
      rw [text_clash.j1]
      cases b with
      | true => rfl
      | false =>
        rw [if_neg (show ¬ (false = true) by decide), if_neg (show ¬ (false = true) by decide), hn]
        by_cases h : x.f0 = x.f1
        · rw [if_pos h, if_pos h, ih1, mx_max]
        · rw [if_neg h, if_neg h, ih1, mx_max]
    rw [step, step, step]
    show _ = some (if x.f0 < e ∨ (x.f0 = x.f1 ∧ x.f0 = last) then true else Tx.clash (max e x.f1) (if x.f0 = x.f1 then x.f0 else last) ((l.drop (i + 1)).map toE))
    by_cases h1 : x.f0 < e
    · rw [if_pos h1, if_pos (Or.inl h1)]; rfl
    · rw [if_neg h1]
      by_cases h2 : x.f0 = x.f1
      · rw [if_pos h2]
        by_cases h3 : x.f0 = last
        · have hb : (x.f0 == last) = true := beq_iff_eq.2 h3
          rw [hb, if_pos rfl, if_pos (Or.inr ⟨h2, h3⟩)]
        · have hb : (x.f0 == last) = false := beq_eq_false_iff_ne.2 h3
          rw [hb, if_neg (show ¬ (false = true) by decide)]
          congr 1
          rw [if_neg (show ¬ (x.f0 < e ∨ (x.f0 = x.f1 ∧ x.f0 = last)) by rintro (q | ⟨_, q⟩); exact h1 q; exact h3 q)]
      · rw [if_neg h2, if_neg (show ¬ (false = true) by decide)]
        congr 1
        rw [if_neg (show ¬ (x.f0 < e ∨ (x.f0 = x.f1 ∧ x.f0 = last)) by rintro (q | ⟨q, _⟩); exact h1 q; exact h2 q)]
theorem clash_f (l : List S24) (hl : l.length ≤ 10000) : text_clash.f 20001 l = some (Tx.clash 0 (-1) (l.map toE)) := by
  have h := clash_l0 l (by omega) l.length 0 20001 0 (-1) (by omega) (by omega) (by omega)
  rw [List.drop_zero] at h
  exact h
end Go.Proofs.YtidlmkdoofcgnaaGreatDoor.PText

namespace Go.Proofs.YtidlmkdoofcgnaaGreatDoor.PText
open Go.RowKit Go.Lib Go.Proofs.YtidlmkdoofcgnaaGreatDoorW.PrintWords Go.Proofs.YtidlmkdoofcgnaaGreatDoorW.PrintLast Go.Proofs.YtidlmkdoofcgnaaGreatDoorW.PrintMore
def badE (n : Nat) (x : S24) : Bool := decide (x.f0 < 0) || decide ((n : Int) < x.f1) || decide (x.f1 < x.f0)
def fineE (n : Nat) (l : List S24) : Int := if 200000 < n ∨ 10000 < l.length then 2 else if l.any (badE n) = true then 1 else if Tx.clash 0 (-1) ((Tx.ord eltS l).map toE) = true then 10 else 0
end Go.Proofs.YtidlmkdoofcgnaaGreatDoor.PText

namespace Go.Proofs.YtidlmkdoofcgnaaGreatDoor.PText
open Go Go.RowKit
/-- the box Bc is kept, whatever it holds -/
def KeepsBox (Bc : Nat) (t : TypeId) (W W' : World) : Prop := ∀ v, Boxed W Bc t v → Boxed W' Bc t v
theorem KeepsBox.trans {Bc : Nat} {t : TypeId} {A B C : World} (h : KeepsBox Bc t A B) (k : KeepsBox Bc t B C) : KeepsBox Bc t A C := fun v q => k v (h v q)
theorem KeepsBox.putObj {Bc : Nat} {t : TypeId} (W : World) {l : Nat} {o : Obj} (o' : Obj) (h : W.heap[l]? = some o) (hc : o.isCells = false) : KeepsBox Bc t W (W.putObj l o') := fun v q =>
  q.kept (grownBy_putObj' W l o') (fun e => by cases e; rw [show W.heap[Bc]? = _ from q] at h; cases h; cases hc)
/-- the contract of such an iterator: whatever J tells of the world and abides new blocks and stores into the box, each round adds an element, and J comes to hold of all of them -/
def SeqCell {α : Type} (F : Fence) (n : Nat) (P : Program) (g : Nat) (lb : Array Value) (encs : α → Array Value) (Bc : Nat) (t : TypeId) (v0 : Value) (xs : List α) : Prop :=
  ∀ (l : Nat) (J : List α → World → Prop) (W : World), AbidesFrom W.heap.size J → (∀ s W v, J s W → J s (W.setCell ⟨Bc, 0, none⟩ v)) →
    (∀ pre x W1, (∃ post, pre ++ x :: post = xs) → J pre W1 → YieldAt F (n - 1) P l (encs x) W1 fun e W' => e = .returned (.bool true) ∧ J (pre ++ [x]) W' ∧ KeepsBox Bc t W1 W') →
    Boxed W Bc t v0 → J [] W →
    CallsIn F n P g (#[.func (.yield l) #[] #[]] ++ lb) W fun e W' => (∃ v, e = .returned v) ∧ J xs W'
variable {F : Fence} {n : Nat} {P : Program}
def cellPost {α : Type} (Bc : Nat) (t : TypeId) (I : List α → World → Prop) (xs : List α) (W : World) : Exit → Act → World → Prop
  | .normal, _, W' => KeepsOthers W W' ∧ KeepsBox Bc t W W' ∧ I xs W'
  | _, _, _ => False
theorem wpIn_rangeFunc_cell {α : Type} {g : Operand} {ps : Array Tmp} {assign body : Code} {Q : Exit → Act → World → Prop} {a : Act} {w : World}
    (hro : F.round = none) (h1 : 1 ≤ n) {gf : Nat} {lb : Array Value} (hg : a.eval g = .func (.func gf) #[] lb) (hFg : F.fn gf) (eg : ∀ args w, (callFunc gf args).run P w = .ok (.enter gf args) w)
    {encs : α → Array Value} {Bc : Nat} {t : TypeId} {v0 : Value} {xs : List α} (hseq : SeqCell F (n - 1) P gf lb encs Bc t v0 xs) (hbox : Boxed w Bc t v0)
    (hps : ∀ x, (encs x).size = ps.size)
    (I : List α → World → Prop) (hI : OwnFrom w.heap.size I) (hIc : ∀ s W v, I s W → I s (W.setCell ⟨Bc, 0, none⟩ v)) (h0 : I [] w) (a₁ : α → Act)
    (hassign : ∀ (l : Nat) (x : α) (W : World) (K : Act → World → Prop), K (a₁ x) W →
      assign.wpIn (F.inRound l) (n - 1 - 1) P (Exit.then K (fun _ _ _ => False)) { tmps := (ps.zip (encs x)).foldl (fun t (p, v) => t.setIfInBounds p v) a.tmps, defers := [] } W)
    (hbody : ∀ (l : Nat) (pre : List α) (x : α) (W : World), (∃ post, pre ++ x :: post = xs) → I pre W → body.wpIn (F.inRound l) (n - 1 - 1) P (cellPost Bc t I (pre ++ [x]) W) (a₁ x) W)
    (hdone : ∀ (D : Nat) (W : World), w.heap.size ≤ D → I xs W → W.heap[D]? = some (.deferred (some [])) → Q .normal { a with defers := { target := .collected D, args := #[] } :: a.defers } W) :
    (Code.rangeFunc g ps assign body).wpIn F n P Q a w := by
  refine wpIn_rangeFunc ?_
  intro fn hfn
  rw [hro]
  obtain ⟨rec, hrec⟩ : ∃ rec : LoopState → Option Code → Loop, rec = fun st pe => { state := st, pending := pe, fn, tmps := a.tmps, params := ps, assign, body, defers := w.heap.size } := ⟨_, rfl⟩
  obtain ⟨W1, hW1⟩ : ∃ W1, (w.alloc (.deferred (some []))).alloc (.loop (rec .ready none)) = W1 := ⟨_, rfl⟩
  have hL1 : W1.heap[w.heap.size + 1]? = some (.loop (rec .ready none)) := by
    rw [← hW1]; have := World.alloc_heap_new (w.alloc (.deferred (some []))) (.loop (rec .ready none)); rwa [World.size_alloc] at this
  have hK1 : W1.heap[w.heap.size]? = some (.deferred (some [])) := by
    rw [← hW1]; exact (Below.heap_alloc _ _ _ (by simp)).trans (World.alloc_heap_new w _)
  have hI1 : I [] W1 := by rw [← hW1]; exact hI.alloc _ (hI.alloc _ h0)
  have hx1 : Boxed W1 Bc t v0 := by rw [← hW1]; exact (hbox.alloc _).alloc _
  have hBc := hbox.lt
  refine ⟨w.heap.size + 1, [{ target := .collected w.heap.size, args := #[] }], W1, { target := .fn (.func gf) lb, args := #[.func (.yield (w.heap.size + 1)) #[] #[]] }, W1, gf,
    #[.func (.yield (w.heap.size + 1)) #[] #[]] ++ lb, W1, ?_, ?_, ?_, ?_, fun _ => h1, ?_⟩
  · rw [← hW1, hrec]; exact run_enterLoop_outer _ _ _ _ _
  · simp only [resolve, hg]
    simp [go_sem]
  · intro f' hf'; simp [Target.leads] at hf'; subst hf'; exact hFg
  · simp [invoke, go_sem, eg]
  · have hnw : ∀ {A B : World} {row : Option Nat}, (∀ r, row = some r → W1.heap.size ≤ r ∧ ∃ o : Obj, A.heap[r]? = some o ∧ o.isWalk = true) → (∀ r, row = some r → w.heap.size ≤ r ∧ ∃ o : Obj, A.heap[r]? = some o ∧ o.isCells = false) :=
      fun hr r e => by obtain ⟨hB, o, ho, hw⟩ := hr r e; exact ⟨by rw [← hW1] at hB; simp at hB; omega, o, ho, Obj.not_cells_of_walk hw⟩
    have hset : ∀ (W : World) (v : Value) (k : Nat) (o : Obj), w.heap.size ≤ k → W.heap[k]? = some o → (W.setCell ⟨Bc, 0, none⟩ v).heap[k]? = some o := fun W v k o hk ho =>
      (Below.heap_setCell _ _ _ k (fun e => by simp at e; omega)).trans ho
    refine (hseq (w.heap.size + 1)
      (fun pre W => I pre W ∧ W.heap[w.heap.size + 1]? = some (.loop (rec .ready none)) ∧ W.heap[w.heap.size]? = some (.deferred (some [])))
      W1
      (fun s A B row hs hg' hr => ⟨hI s A B row hs.1 hg' (hnw (B := B) hr), (grownBy_keeps hg' (fun r e => (hr r e).2) hs.2.1 rfl).trans hs.2.1, (grownBy_keeps hg' (fun r e => (hr r e).2) hs.2.2 rfl).trans hs.2.2⟩)
      (fun s A v hs => ⟨hIc s A v hs.1, hset A v _ _ (by omega) hs.2.1, hset A v _ _ (Nat.le_refl _) hs.2.2⟩)
      ?_ hx1 ⟨hI1, hL1, hK1⟩).mono ?_
    · rintro pre x W hpost ⟨hi, hl, hk⟩
      have hlt : w.heap.size + 1 < W.heap.size := (Array.getElem?_eq_some_iff.1 hl).1
      have hy := run_yield (P := P) (args := encs x) hl (by rw [hrec]; exact hps x)
      rw [hrec] at hy
      refine ⟨fn, _, assign, body, hy, roundIn_of_wpIn hfn (hassign _ x W _ ⟨_, run_beginRound hl (by rw [hrec]), ?_⟩)⟩
      have hl2 : (W.putObj (w.heap.size + 1) (.loop { rec .ready none with state := .busy })).heap[w.heap.size + 1]? = some (.loop { rec .ready none with state := .busy }) := World.putObj_heap_same hlt
      have hk2 : (W.putObj (w.heap.size + 1) (.loop { rec .ready none with state := .busy })).heap[w.heap.size]? = some (.deferred (some [])) := (World.putObj_heap_other (by omega)).trans hk
      have hw2 : KeepsBox Bc t W (W.putObj (w.heap.size + 1) (.loop { rec .ready none with state := .busy })) := KeepsBox.putObj _ _ hl rfl
      refine wpIn_mono (hbody _ pre x _ hpost (hI.putObj _ hi (by omega) hl rfl)) ?_
      rintro e a3 W3 hp
      cases e with
      | normal =>
        obtain ⟨hk3, hkp3, hi3⟩ := hp
        have hl3 := hk3.same _ _ hl2 rfl
        have hr := run_endRound (P := P) none hl3
        rw [hrec] at hr
        refine ⟨_, _, hr, rfl, ⟨hI.putObj _ hi3 (by omega) hl3 rfl, ?_, (World.putObj_heap_other (by omega)).trans (hk3.same _ _ hk2 rfl)⟩, hw2.trans (hkp3.trans (KeepsBox.putObj _ _ hl3 rfl))⟩
        rw [hrec]
        exact World.putObj_heap_same (Array.getElem?_eq_some_iff.1 hl3).1
      | ret => exact hp.elim
      | exit id => exact hp.elim
      | goto t => exact hp.elim
      | panic ch => exact hp.elim
      | outgrown => exact hp.elim
    · rintro e W2 ⟨⟨v, rfl⟩, hi, hl, hk⟩
      exact ⟨none, _, by have := run_endLoop (P := P) hl (by rw [hrec]; simp); rw [hrec] at this; exact this, hdone _ _ (Nat.le_refl _) (hI.putObj _ hi (by omega) hl rfl) ((World.putObj_heap_other (by omega)).trans hk)⟩
end Go.Proofs.YtidlmkdoofcgnaaGreatDoor.PText

