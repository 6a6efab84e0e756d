/- PastSides holds: for every three texts the statement answers true. Part 18 of 20. -/
import Derived.Test.YthimblhfjfngiaaBSidesQ
namespace Go.Proofs.Ythimblhfjfngiaa.PText
open Go.RowKit Go.Lib Go.Sort Go.Proofs.YthimblhfjfngiaaW.PrintWords Go.Proofs.YthimblhfjfngiaaW.PrintLast Go.Proofs.YthimblhfjfngiaaW.PrintMore
set_option linter.unusedVariables false
set_option linter.unusedSimpArgs false
theorem heap_same {w : World} {b t : Nat} {v : Value} {fz : Nat × Nat} (h : w.heap[b]? = some (.cells #[v] t fz)) (k : Nat) : (w.setCell ⟨b, 0, none⟩ v).heap[k]? = w.heap[k]? := by
  by_cases hk : k = b
  · subst hk
    unfold World.setCell
    simp only
    rw [Array.getElem?_modify, if_pos rfl, h]
    rfl
  · exact Below.heap_setCell _ _ _ _ (fun e => hk e)
theorem below_same {B : Nat} {a w : World} {b t : Nat} {v : Value} {fz : Nat × Nat} (h : Below B a w) (hb : w.heap[b]? = some (.cells #[v] t fz)) : Below B a (w.setCell ⟨b, 0, none⟩ v) :=
  ⟨h.os, h.tape, h.output, by
    have : (w.setCell ⟨b, 0, none⟩ v).heap.size = w.heap.size := by unfold World.setCell; simp
    rw [this]; exact h.size, fun k hk => (heap_same hb k).trans (h.block k hk)⟩
/-- to append no values to a row -/
theorem append_idle {P : Program} {ops : Array Oper} {o : Oper} {a : Act} {Q : Exit → Act → World → Prop} {Kc : Act → World → Prop} {W : World} {α : Type} (d : Kd α) (hw : Region.wanted o (yielded ops a.tmps) = true) (s x : Operand) (t e : TypeId) (z : Value) (bytes base : Nat)
    (ho : o.op = .call { callee := .builtin .append, args := #[s, x], argTypes := #[t, t] })
    (ht : P.underlying t = some (.slice e)) (hinfo : (P.info? e).map (fun i => (i.zero, i.size, i.bytes)) = some (some z, d.sz, bytes)) (v : Value) (xs : List α) (ok : Nat → Prop) (hs : a.eval s = v) (hx : a.eval x = .slice none 0 0)
    {W0 : World} (HO : d.R e W0 base ok v xs) (h : Kc (a.put o.dst v) W) :
    if Region.wanted o (yielded ops a.tmps) = true then Oper.wp P o a W Kc Q else Kc (a.put o.dst undef) W := by
  obtain ⟨i0, hi, hzz⟩ := Option.map_eq_some_iff.1 hinfo
  obtain ⟨hok, inner, hown, hr⟩ := HO
  have hrun : (Builtin.append_ #[t, t] o.type #[v, .slice none 0 0]).run P W = .ok v W := by
    rcases hown.2 with ⟨rfl, hn⟩ | ⟨g, cap, cur, rfl, _, _, hnc, _⟩
    · simp [Builtin.append_, run_underlying ht, sizeOf, typeInfo, hi, Builtin.lenOf, Builtin.firstCells]
    · simp [Builtin.append_, run_underlying ht, sizeOf, typeInfo, hi, Builtin.lenOf, Builtin.firstCells, hnc, storeCells]
  rw [if_pos hw]
  unfold Oper.wp execOp
  simp only [ho, resolve, invoke, builtin, Sem.run_bind, Sem.run_pure, Result.andThen_ok, List.map_toArray, List.map_cons, List.map_nil, hs, hx, hrun]
  exact h
/-- the same heap -/
structure Same (w w' : World) : Prop where
  below : Below w.heap.size w w'
  heap : ∀ k : Nat, w'.heap[k]? = w.heap[k]?
theorem Same.refl (w : World) : Same w w := ⟨Below.refl _ _, fun _ => rfl⟩
theorem Same.drew {w w' : World} (h : Same w w') : Same w w'.drew := ⟨h.below.drew, h.heap⟩
theorem Same.set {w w' : World} {b t : Nat} {v : Value} {fz : Nat × Nat} (h : Same w w') (hb : w.heap[b]? = some (.cells #[v] t fz)) : Same w (w'.setCell ⟨b, 0, none⟩ v) :=
  ⟨below_same h.below ((h.heap b).trans hb), fun k => (heap_same ((h.heap b).trans hb) k).trans (h.heap k)⟩
theorem Same.cell {w w' : World} (h : Same w w') (p : Addr) : w'.cell? p = w.cell? p := by
  unfold World.cell?
  simp only [h.heap]
theorem Same.frozen {w w' : World} (h : Same w w') (p : Addr) : w'.frozen? p = w.frozen? p := by
  simp only [World.frozen?, h.heap]
theorem Same.all {w w' : World} {bn bo bl : Nat} {v : Value} (h : Same w w') (hn : w.cell? ⟨bn, 0, none⟩ = some (.int .i64 0)) (ho : w.cell? ⟨bo, 0, none⟩ = some v) (hl : w.cell? ⟨bl, 0, none⟩ = some (.slice none 0 0)) (hf : w.frozen? ⟨bo, 0, none⟩ = false) :
    w'.cell? ⟨bn, 0, none⟩ = some (.int .i64 0) ∧ w'.cell? ⟨bo, 0, none⟩ = some v ∧ w'.cell? ⟨bl, 0, none⟩ = some (.slice none 0 0) ∧ w'.frozen? ⟨bo, 0, none⟩ = false ∧ Same w w' :=
  ⟨(h.cell _).trans hn, (h.cell _).trans ho, (h.cell _).trans hl, (h.frozen _).trans hf, h⟩
set_option maxRecDepth 100000 in
set_option maxHeartbeats 2000000 in
/-- nothing to pass -/
theorem pass_idle (keep : Bool) (bn ba bs bo bl base : Nat) (v : Value) (D : List Int) (w : World) (hn : w.cell? ⟨bn, 0, none⟩ = some (.int .i64 0)) (ha : w.cell? ⟨ba, 0, none⟩ = some (.int .i64 0))
    (ho : w.heap[bo]? = some (.cells #[v] 43 (0, 0))) (hl : w.cell? ⟨bl, 0, none⟩ = some (.slice none 0 0)) (hR : Kd.R (Kd.int .i64) 3 w base (fun _ => True) v D) :
    Calls Try.prog 56 #[.int .i64 0, .bool keep, .pointer (some ⟨bn, 0, none⟩), .pointer (some ⟨ba, 0, none⟩), .pointer (some ⟨bs, 0, none⟩), .pointer (some ⟨bo, 0, none⟩), .pointer (some ⟨bl, 0, none⟩)] w fun e w' => e = .returned (.tuple #[]) ∧ Below w.heap.size w w' := by
  obtain ⟨A, c, rfl⟩ := Kd.R_slice hR
  have hoc : w.cell? ⟨bo, 0, none⟩ = some (.slice A D.length c) := by unfold World.cell?; rw [ho]; rfl
  have hof : w.frozen? ⟨bo, 0, none⟩ = false := by simp [World.frozen?, ho]
  have HO := Aside0.mk ho
  have HR := Aside0.mk hR
  clear ho hR
  go_enter Try.func56, Try.ntmps56
  go_wp2_with fail
  go_loopg [11] 0 (fun _ v11 wr => wr = w)
  case atStart => exact rfl
  case round =>
    obtain rfl := hrel
    cases keep
    · go_wp2_with fail
      first
        | (go_end0; exact ⟨rfl, Below.refl _ _⟩)
        | exact ⟨rfl, Below.refl _ _⟩
    · go_wp2_with fail
      go_region_held3 (fun w' => w'.cell? ⟨bn, 0, none⟩ = some (.int .i64 0) ∧ w'.cell? ⟨bo, 0, none⟩ = some (.slice A D.length c) ∧ w'.cell? ⟨bl, 0, none⟩ = some (.slice none 0 0) ∧ w'.frozen? ⟨bo, 0, none⟩ = false ∧ Same wr w')
        (first | exact Same.all (Same.refl _) hn hoc hl hof | exact Same.all (Same.refl _).drew hn hoc hl hof | exact Same.all ((Same.refl _).set HO.out).drew hn hoc hl hof | exact Same.all ((Same.refl _).drew.set HO.out).drew hn hoc hl hof)
        (first
          | (refine append_idle (Kd.int .i64) ?hw1 (.tmp 24) (.tmp 29) 43 3 (.int .i64 0) 8 base ?hg1 Try.underlying43 info3 _ D (fun _ => True) ?hs1 ?hx1 HR.out ?_; (case hw1 => rfl); (case hg1 => rfl); (case hs1 => rfl); (case hx1 => rfl)))
      go_split_ands
      first
        | (go_end0; exact ⟨rfl, Same.below (by assumption)⟩)
        | exact ⟨rfl, Same.below (by assumption)⟩
        | exact bodyPost_end0 ⟨rfl, Same.below (by assumption)⟩
/-- as many times one number as there are lines -/
def putL (es : List S59) (k : Int) : List Int := (es.map (fun x => List.replicate (linesB x.f2).length k)).flatten
theorem putL_snoc (es : List S59) (k : Int) (i : Nat) (h : i < es.length) : putL (es.take (i + 1)) k = putL (es.take i) k ++ List.replicate (linesB es[i].f2).length k := by
  unfold putL
  rw [List.take_add_one, List.getElem?_eq_getElem h, Option.toList_some, List.map_append, List.flatten_append]
  simp
theorem putL_take (es : List S59) (k : Int) (i : Nat) : (putL (es.take i) k).length ≤ (putL es k).length := by
  have h : putL es k = putL (es.take i) k ++ putL (es.drop i) k := by
    unfold putL
    rw [← List.flatten_append, ← List.map_append, List.take_append_drop]
  rw [h, List.length_append]; omega
theorem lines_nil : text_Lines.f ⟨#[]⟩ = some [] := by kernel_rfl
theorem heap3 (w : World) (a b c : Obj) : (((w.alloc a).alloc b).alloc c).heap[w.heap.size]? = some a ∧ (((w.alloc a).alloc b).alloc c).heap[w.heap.size + 1]? = some b ∧ (((w.alloc a).alloc b).alloc c).heap[w.heap.size + 1 + 1]? = some c ∧ (((w.alloc a).alloc b).alloc c).heap.size = w.heap.size + 3 ∧ Below w.heap.size w (((w.alloc a).alloc b).alloc c) := by
  refine ⟨?_, ?_, ?_, ?_, ?_⟩
  · show (((w.heap.push a).push b).push c)[w.heap.size]? = _
    rw [Array.getElem?_push, if_neg (by simp; omega), Array.getElem?_push, if_neg (by simp), Array.getElem?_push_size]
  · show (((w.heap.push a).push b).push c)[w.heap.size + 1]? = _
    rw [Array.getElem?_push, if_neg (by simp), Array.getElem?_push, if_pos (by simp)]
  · show (((w.heap.push a).push b).push c)[w.heap.size + 1 + 1]? = _
    rw [Array.getElem?_push, if_pos (by simp)]
  · show (((w.heap.push a).push b).push c).size = _
    simp
  · exact (((Below.refl _ w).alloc (Nat.le_refl _) a).alloc (by simp) b).alloc (by simp; omega) c
/-- the variables of past.blamed, laid -/
theorem boxes {w w1 w2 : World} {v2 : Value} {A1 : Option Addr} {c1 : Nat} {es : List S59} (h1 : Below (w.alloc (.cells #[.slice none 0 0] 43)).heap.size (w.alloc (.cells #[.slice none 0 0] 43)) w1)
    (h2 : Below (((w1.alloc (.cells #[.slice none 0 0] 43)).alloc (.cells #[.int .i64 0] 3)).alloc (.cells #[.int .i64 0] 3)).heap.size (((w1.alloc (.cells #[.slice none 0 0] 43)).alloc (.cells #[.int .i64 0] 3)).alloc (.cells #[.int .i64 0] 3)) w2)
    (ho : Kd.R k59 59 w1 (w.alloc (.cells #[.slice none 0 0] 43)).heap.size (fun _ => True) (.slice A1 es.length c1) es) :
    (w2.alloc (.cells #[v2] 32)).heap[w1.heap.size]? = some (.cells #[.slice none 0 0] 43 (0, 0)) ∧ (w2.alloc (.cells #[v2] 32)).cell? ⟨w1.heap.size + 1, 0, none⟩ = some (.int .i64 0) ∧ (w2.alloc (.cells #[v2] 32)).cell? ⟨w1.heap.size + 1 + 1, 0, none⟩ = some (.int .i64 0) ∧
    (w2.alloc (.cells #[v2] 32)).cell? ⟨w.heap.size, 0, none⟩ = some (.slice none 0 0) ∧ Below w.heap.size w (w2.alloc (.cells #[v2] 32)) ∧ (w2.alloc (.cells #[v2] 32)).heap.size = w2.heap.size + 1 ∧ w.heap.size < w1.heap.size ∧ w1.heap.size + 3 ≤ w2.heap.size ∧
    Kd.R k59 59 (w2.alloc (.cells #[v2] 32)) (w.alloc (.cells #[.slice none 0 0] 43)).heap.size (fun _ => True) (.slice A1 es.length c1) es := by
  obtain ⟨q1, q2, q3, q4, q5⟩ := heap3 w1 (.cells #[.slice none 0 0] 43) (.cells #[.int .i64 0] 3) (.cells #[.int .i64 0] 3)
  have s0 : (w.alloc (.cells #[.slice none 0 0] 43)).heap.size = w.heap.size + 1 := by simp
  have s1 := h1.size
  have s2 := h2.size
  have b2 : Below w2.heap.size w2 (w2.alloc (.cells #[v2] 32)) := (Below.refl _ w2).alloc (Nat.le_refl _) _
  have B12 : Below w1.heap.size w1 (w2.alloc (.cells #[v2] 32)) := (q5.trans (h2.mono (by omega))).trans (b2.mono (by omega))
  have hh : ∀ k, k < w1.heap.size + 3 → (w2.alloc (.cells #[v2] 32)).heap[k]? = (((w1.alloc (.cells #[.slice none 0 0] 43)).alloc (.cells #[.int .i64 0] 3)).alloc (.cells #[.int .i64 0] 3)).heap[k]? := fun k hk => (b2.block k (by omega)).trans (h2.block k (by omega))
  refine ⟨(hh _ (by omega)).trans q1, ?_, ?_, ?_, ?_, by simp, by omega, by omega, Kd.R_below ho B12⟩
  · have e := (hh (w1.heap.size + 1) (by omega)).trans q2
    unfold World.cell?; simp only [e]; rfl
  · have e := (hh (w1.heap.size + 1 + 1) (by omega)).trans q3
    unfold World.cell?; simp only [e]; rfl
  · have : (w2.alloc (.cells #[v2] 32)).heap[w.heap.size]? = some (.cells #[.slice none 0 0] 43 (0, 0)) := (B12.block _ (by omega)).trans ((h1.block _ (by omega)).trans (heap_nw w _))
    unfold World.cell?; rw [this]; rfl
  · exact (((Below.refl _ w).alloc (Nat.le_refl _) _).trans (h1.mono (by omega))).trans (B12.mono (by omega))
theorem box_self {W0 wr : World} {bo base : Nat} {v0 v : Value} (h : Below base (W0.setCell ⟨bo, 0, none⟩ v) wr) (h0 : W0.heap[bo]? = some (.cells #[v0] 43 (0, 0))) (hb : bo < base) : wr.heap[bo]? = some (.cells #[v] 43 (0, 0)) := by
  rw [h.block bo hb]
  unfold World.setCell
  simp only
  rw [Array.getElem?_modify, if_pos rfl, h0]
  rfl
theorem box_other {W0 wr : World} {bo base : Nat} {v u : Value} {b i : Nat} (h : Below base (W0.setCell ⟨bo, 0, none⟩ v) wr) (hb : b < base) (hne : b ≠ bo) (hc : W0.cell? ⟨b, i, none⟩ = some u) : wr.cell? ⟨b, i, none⟩ = some u := by
  rw [← hc]
  unfold World.cell?
  simp only
  rw [h.block b hb, Below.heap_setCell _ _ _ _ hne]
theorem box_step2 {W0 wr w5 : World} {bo base : Nat} {v0 v v5 : Value} (h : Below base (W0.setCell ⟨bo, 0, none⟩ v) wr) (h5 : Below base wr w5) (h0 : W0.heap[bo]? = some (.cells #[v0] 43 (0, 0))) (hb : bo < base) :
    Below base (W0.setCell ⟨bo, 0, none⟩ v5) (w5.setCell ⟨bo, 0, none⟩ v5) := by
  have ss : ∀ (W : World) (u : Value), (W.setCell ⟨bo, 0, none⟩ u).heap.size = W.heap.size := fun W u => by unfold World.setCell; simp
  refine ⟨h5.os.trans h.os, h5.tape.trans h.tape, h5.output.trans h.output, ?_, fun k hk => ?_⟩
  · have := h.size; have := h5.size
    rw [ss] at *; rw [ss]; omega
  · by_cases e : k = bo
    · subst e
      have h3 := (h5.block k hk).trans (box_self h h0 hk)
      unfold World.setCell
      simp only
      rw [Array.getElem?_modify, if_pos rfl, Array.getElem?_modify, if_pos rfl, h0, h3]
      rfl
    · rw [Below.heap_setCell _ _ _ _ e, Below.heap_setCell _ _ _ _ e, h5.block k hk, h.block k hk, Below.heap_setCell _ _ _ _ e]
set_option maxRecDepth 100000 in
set_option maxHeartbeats 4000000 in
theorem blamed_new (es : List S59) (k : Int) (now : ByteArray) (w : World) (he : text_Edits.f 5000000 ⟨#[]⟩ now = some (es, 0)) (h0 : ∀ x ∈ es, x.f0 = 0 ∧ x.f1 = 0 ∧ x.f2.size ≤ 1000000000) (hlen : es.length ≤ 4000) (hD : (putL es k).length ≤ 1000000) :
    Calls Try.prog 35 #[.string ⟨#[]⟩, .string now, .slice none 0 0, .int .i64 k] w fun e w' => ∃ v, e = .returned (.tuple #[v, .int .i64 0]) ∧ Kd.R (Kd.int .i64) 3 w' w.heap.size (fun _ => True) v (putL es k) ∧ Below w.heap.size w w' := by
  have HE := Aside0.mk he
  have H0 := Aside0.mk h0
  have HLN := Aside0.mk hlen
  have HD := Aside0.mk hD
  clear he h0 hlen hD
  go_enter Try.func35, Try.ntmps35
  go_wp2_with (first
    | (go_at_call 41; refine (text_Edits.calls 5000000 _ now es 0 _ HE.out).mono ?_; rintro e w1 ⟨v1, rfl, ho, hb⟩; obtain ⟨A1, c1, rfl⟩ := Kd.R_slice ho; have HO1 := Aside0.mk ho; have HB1 := Aside0.mk hb; clear ho hb HE)
    | (go_at_call 55; refine (text_Lines.calls _ [] _ lines_nil).mono ?_; rintro e w2 ⟨v2, rfl, ho, hb⟩; obtain ⟨A2, c2, rfl⟩ := Kd.R_slice ho; have HX := Aside0.mk (boxes (v2 := .slice A2 0 c2) HB1.out hb HO1.out); clear ho hb HB1 HO1))
  obtain ⟨hbo, hba, hbn, hbl, hB, hz, hlt1, hlt2, hER⟩ := HX.out
  clear HX
  generalize w2.alloc (.cells #[.slice A2 0 c2] 32) = W0 at *
  have l1 : w1.heap.size + 1 + 1 < W0.heap.size := by omega
  have l2 : w1.heap.size + 1 < W0.heap.size := by omega
  have l3 : w1.heap.size < W0.heap.size := by omega
  have l4 : w.heap.size < W0.heap.size := by omega
  have l5 : w.heap.size ≤ w1.heap.size := by omega
  have n1 : w1.heap.size + 1 + 1 ≠ w1.heap.size := by omega
  have n2 : w1.heap.size + 1 ≠ w1.heap.size := by omega
  have n4 : w.heap.size ≠ w1.heap.size := by omega
  clear hlt1 hlt2 hz
  generalize w2.heap.size = bs at *
  generalize w1.heap.size + 1 + 1 = bn at *
  generalize w1.heap.size + 1 = ba at *
  generalize w1.heap.size = bo at *
  have ss : ∀ (W : World) (u : Value), (W.setCell ⟨bo, 0, none⟩ u).heap.size = W.heap.size := fun W u => by unfold World.setCell; simp
  have HCE : Aside0 (∀ v wr, Below W0.heap.size (W0.setCell ⟨bo, 0, none⟩ v) wr → Kd.C k59 wr A1 es.length es) := ⟨fun v wr h =>
    (Kd.R_reads' (Kd.R_below (Kd.R_set hER hbo (fun q hq => by rcases List.mem_cons.1 hq with h | h; subst h; decide; cases h) 0 v) (by rw [ss]; exact h))).2.2⟩
  have HPA : Aside0 (∀ (keep : Bool) (v : Value) (D : List Int) (wr : World), Below W0.heap.size (W0.setCell ⟨bo, 0, none⟩ v) wr → Kd.R (Kd.int .i64) 3 wr W0.heap.size (fun _ => True) v D →
      Calls Try.prog 56 #[.int .i64 0, .bool keep, .pointer (some ⟨bn, 0, none⟩), .pointer (some ⟨ba, 0, none⟩), .pointer (some ⟨bs, 0, none⟩), .pointer (some ⟨bo, 0, none⟩), .pointer (some ⟨w.heap.size, 0, none⟩)] wr fun e w' => e = .returned (.tuple #[]) ∧ Below wr.heap.size wr w') :=
    ⟨fun keep v D wr h1 h2 => pass_idle keep bn ba bs bo w.heap.size W0.heap.size v D wr (box_other h1 l1 n1 hbn) (box_other h1 l2 n2 hba) (box_self h1 hbo l3) (box_other h1 l4 n4 hbl) h2⟩
  have HBF : Aside0 (∀ v wr, Below W0.heap.size (W0.setCell ⟨bo, 0, none⟩ v) wr → Below w.heap.size w wr) := ⟨fun v wr h => (hB.setCell (p := ⟨bo, 0, none⟩) l5 v).trans (h.mono (by omega))⟩
  have HBO := Aside0.mk hbo
  have HL3 := Aside0.mk l3
  have HS0 : Aside0 (Below W0.heap.size (W0.setCell ⟨bo, 0, none⟩ (.slice none 0 0)) W0) := ⟨by
    have q := Same.set (Same.refl W0) hbo
    exact ⟨rfl, rfl, rfl, by rw [ss]; exact Nat.le_refl _, fun k _ => (q.heap k).symm⟩⟩
  clear hbo hba hbn hbl hB hER l1 l2 l3 l4 l5 n1 n2 n4 ss
  go_loopg [33] (es.length + 1) (fun kq v33 w' => ∃ (i : Nat) (v : Value), v33 = .int .i64 (i : Int) ∧ Aside0 (es.length - i < kq ∧ i ≤ es.length) ∧ Aside0 (Below W0.heap.size (W0.setCell ⟨bo, 0, none⟩ v) w') ∧ Aside0 (Kd.R (Kd.int .i64) 3 w' W0.heap.size (fun _ => True) v (putL (es.take i) k)))
  case atStart => exact ⟨0, .slice none 0 0, rfl, ⟨by omega, by omega⟩, HS0, ⟨Kd.R_nil _ _ _ _ _⟩⟩
  case round =>
    obtain ⟨i, v, rfl, HI, HBe, HR⟩ := hrel
    obtain ⟨k1, rfl⟩ : ∃ k1, gk = k1 + 1 := ⟨gk - 1, by have := HI.out.1; omega⟩
    have hwr : W0.heap.size ≤ wr.heap.size := by have := HBe.out.size; unfold World.setCell at this; simpa using this
    by_cases hlt : i < es.length
    · have hb : decide ((i : Int) < (es.length : Int)) = true := by simp; omega
      have hb2 : decide ((0 : Int) ≤ (i : Int)) = true := by simp
      obtain ⟨ad, e0, hx0, hx1, hx2⟩ := at_T59 (HCE.out v wr HBe.out) (i : Int) (by omega) (by omega)
      cases e0
      rw [Int.toNat_natCast] at hx0 hx1 hx2
      rw [rd34_at es i hlt] at hx0 hx1 hx2
      have HSN := Aside0.mk (putL_snoc es k i hlt)
      have HTK := Aside0.mk (putL_take es k (i + 1))
      have hx := H0.out es[i] (List.getElem_mem hlt)
      generalize es[i] = x at *
      obtain ⟨g0, g1, t⟩ := x
      obtain ⟨y0, y1, y2⟩ := hx
      cases y0
      cases y1
      have HT := Aside0.mk (show text_Lines.f t = some (linesB t) by unfold text_Lines.f; rw [if_pos y2])
      have HBA : Aside0 (Below W0.heap.size (W0.setCell ⟨bo, 0, none⟩ v) (wr.alloc (.cells #[.int .i64 0, .int .i64 0, .string t] 59))) := ⟨HBe.out.alloc hwr _⟩
      have HP1 := Aside0.mk (HPA.out true v _ _ HBA.out (Kd.R_alloc HR.out _))
      have hy0 : (wr.alloc (.cells #[.int .i64 0, .int .i64 0, .string t] 59)).cell? ⟨wr.heap.size, 0, none⟩ = some (.int .i64 0) := by unfold World.cell?; simp only [heap_nw]; rfl
      have hy1 : (wr.alloc (.cells #[.int .i64 0, .int .i64 0, .string t] 59)).cell? ⟨wr.heap.size, 1, none⟩ = some (.int .i64 0) := by unfold World.cell?; simp only [heap_nw]; rfl
      have hy2 : (wr.alloc (.cells #[.int .i64 0, .int .i64 0, .string t] 59)).cell? ⟨wr.heap.size, 2, none⟩ = some (.string t) := by unfold World.cell?; simp only [heap_nw]; rfl
      have hsa : wr.heap.size < (wr.alloc (.cells #[.int .i64 0, .int .i64 0, .string t] 59)).heap.size := by simp
      have HY1 := Aside0.mk hy1
      have HY2 := Aside0.mk hy2
      have HSA := Aside0.mk hsa
      clear hy1 hy2 hsa y2
      go_wp2_with (first
        | (go_at_call 56; refine HP1.out.mono ?_; rintro e w3 ⟨rfl, hb3⟩; have HB3 := Aside0.mk hb3; have hz1 := (hb3.cell (p := ⟨wr.heap.size, 1, none⟩) HSA.out).trans HY1.out; clear hb3 HP1)
        | (go_at_call 56; refine (HPA.out false v (putL (es.take i) k) w3 (HBA.out.trans (HB3.out.mono (Nat.le_trans hwr (Nat.le_of_lt HSA.out)))) (Kd.R_below (Kd.R_alloc HR.out _) HB3.out)).mono ?_; rintro e w4 ⟨rfl, hb4⟩; have HB4 := Aside0.mk (HB3.out.trans (hb4.mono HB3.out.size)); have hz2 := (HB4.out.cell (p := ⟨wr.heap.size, 2, none⟩) HSA.out).trans HY2.out; clear hb4)
        | (go_at_call 55; refine (text_Lines.calls _ _ _ HT.out).mono ?_; rintro e w5 ⟨v5, rfl, ho, hb⟩; obtain ⟨A5, c5, rfl⟩ := Kd.R_slice ho; have HB5 := Aside0.mk (HB4.out.trans (hb.mono HB4.out.size)); clear ho hb))
      have hW : wr.heap.size ≤ w5.heap.size := Nat.le_trans (Nat.le_of_lt HSA.out) HB5.out.size
      have HB6 : Aside0 (Below W0.heap.size (W0.setCell ⟨bo, 0, none⟩ v) w5) := ⟨HBA.out.trans (HB5.out.mono (Nat.le_trans hwr (Nat.le_of_lt HSA.out)))⟩
      have HR6 : Aside0 (Kd.R (Kd.int .i64) 3 w5 W0.heap.size (fun _ => True) v (putL (es.take i) k ++ List.replicate 0 k)) := ⟨by rw [List.replicate_zero, List.append_nil]; exact Kd.R_below (Kd.R_alloc HR.out _) HB5.out⟩
      have HL5 := Aside0.mk (Nat.le_trans hwr hW)
      have HI2 : Aside0 (es.length - i < k1 + 1 ∧ i < es.length) := ⟨HI.out.1, hlt⟩
      clear hW hwr hx0 hx1 hx2 HB5 HB4 HB3 HBA HSA HY1 HY2 hz1 hz2 HBe HR hy0 hlt
      generalize hn : (linesB t).length = n at *
      clear hn
      go_loopg [49] (n + 1) (fun kq v49 w' => ∃ (j : Nat) (v : Value), v49 = .int .i64 (j : Int) ∧ Aside0 (n - j < kq ∧ j ≤ n) ∧ Aside0 (Below W0.heap.size (W0.setCell ⟨bo, 0, none⟩ v) w') ∧ Aside0 (Kd.R (Kd.int .i64) 3 w' W0.heap.size (fun _ => True) v (putL (es.take i) k ++ List.replicate j k)))
      case atStart => exact ⟨0, v, rfl, ⟨by omega, by omega⟩, HB6, HR6⟩
      case round =>
        obtain ⟨j, v, rfl, HJ, HBj, HRj⟩ := hrel
        obtain ⟨k2, rfl⟩ : ∃ k2, gk = k2 + 1 := ⟨gk - 1, by have := HJ.out.1; omega⟩
        have hwr : W0.heap.size ≤ wr.heap.size := by have := HBj.out.size; unfold World.setCell at this; simpa using this
        have hLen : (putL (es.take i) k ++ List.replicate j k).length ≤ 1000000 := by
          have h1 := HTK.out
          rw [HSN.out, List.length_append, List.length_replicate] at h1
          have h2 := HD.out
          have h3 := HJ.out.2
          rw [List.length_append, List.length_replicate]
          omega
        have HLE := Aside0.mk hLen
        have HWR := Aside0.mk hwr
        clear hLen
        by_cases hlt : j < n
        · have hb : decide ((j : Int) < (n : Int)) = true := by simp; omega
          obtain ⟨A7, c7, rfl⟩ := Kd.R_slice HRj.out
          have hoh := box_self HBj.out HBO.out HL3.out
          have hoc : wr.cell? ⟨bo, 0, none⟩ = some (.slice A7 (putL (es.take i) k ++ List.replicate j k).length c7) := by unfold World.cell?; rw [hoh]; rfl
          have HOH := Aside0.mk hoh
          have HLT := Aside0.mk hlt
          clear hoh
          have HEQ : Aside0 (putL (es.take i) k ++ List.replicate j k ++ [k] = putL (es.take i) k ++ List.replicate (j + 1) k) := ⟨by rw [List.append_assoc, List.replicate_succ']⟩
          have HNB : Aside0 (n ≤ 1000000) := ⟨by
            have h1 := HTK.out
            rw [HSN.out, List.length_append, List.length_replicate] at h1
            have h2 := HD.out
            omega⟩
          generalize putL (es.take i) k ++ List.replicate j k = L at *
          go_wp2_with (at_builtin; go_loud (refine Kd.R_append (Kd.int .i64) (w0 := wr) W0.heap.size rfl (.tmp 51) (.tmp 53) 43 3 (.int .i64 0) 8 rfl Try.underlying43 info3 rfl (by decide) (by omega) _ L k [.int .i64 k] (fun _ => True) (fun _ => False) rfl (by first | rfl | (simp; done) | (go_simp; done)) rfl (fun _ hk => hk.elim) (fun _ _ => trivial) HRj.out (Below.refl W0.heap.size wr) HWR.out (by have := HLE.out; omega) ?_); intro v1 w7 ho hb hg hat; go_loud (obtain ⟨A8, c8, rfl⟩ := Kd.R_slice ho; have hp7 : w7.heap[bo]? = some (.cells #[.slice A7 L.length c7] 43 (0, 0)) := (hb.block bo HL3.out).trans HOH.out; have hc7 : w7.cell? ⟨bo, 0, none⟩ = some (.slice A7 L.length c7) := (by unfold World.cell?; rw [hp7]; rfl); have hf7 : w7.frozen? ⟨bo, 0, none⟩ = false := (by simp [World.frozen?, hp7])); rw [show (L ++ [k]).length = L.length + 1 by rw [List.length_append]; rfl] at ho; have HO7 := Aside0.mk ho; have HB7 := Aside0.mk hb; have HP7 := Aside0.mk hp7; clear ho hb hg hat hp7)
          go_roundg k2
          case measure => have := HJ.out.1; have := HLT.out; omega
          case rel => exact ⟨j + 1, _, congrArg (Value.int .i64) (by first | exact nx j (by have := HNB.out; have := HJ.out; omega) | (have := HNB.out; have := HJ.out; omega)), ⟨by have := HJ.out.1; omega, by have := HLT.out; omega⟩, ⟨box_step2 HBj.out HB7.out HBO.out HL3.out⟩, ⟨by rw [← HEQ.out]; exact Kd.R_set HO7.out HP7.out (fun q hq => by rcases List.mem_cons.1 hq with h | h; subst h; decide; cases h) 0 _⟩⟩
        · have hb : decide ((j : Int) < (n : Int)) = false := by simp; omega
          have hjn : j = n := by have := HJ.out.2; omega
          subst hjn
          rw [← HSN.out] at HRj
          go_wp2_with fail
          go_roundg k1
          case measure => have := HI2.out; omega
          case rel => exact ⟨i + 1, _, congrArg (Value.int .i64) (by first | exact nx i (by have := HLN.out; have := HI2.out; omega) | (have := HLN.out; have := HI2.out; omega)), ⟨by have := HI2.out; omega, by have := HI2.out; omega⟩, HBj, HRj⟩
    · have hb : decide ((i : Int) < (es.length : Int)) = false := by simp; omega
      have hin : es.take i = es := List.take_of_length_le (by omega)
      rw [hin] at HR
      clear hin
      obtain ⟨A7, c7, rfl⟩ := Kd.R_slice HR.out
      have hoh := box_self HBe.out HBO.out HL3.out
      have hoc : wr.cell? ⟨bo, 0, none⟩ = some (.slice A7 (putL es k).length c7) := by unfold World.cell?; rw [hoh]; rfl
      have hbw : bo < wr.heap.size := Nat.lt_of_lt_of_le HL3.out hwr
      have HPZ := Aside0.mk (HPA.out true _ _ wr HBe.out HR.out)
      go_wp2_with (go_at_call 56; refine HPZ.out.mono ?_; rintro e w3 ⟨rfl, hb3⟩; have HB3 := Aside0.mk hb3; have hz1 := (hb3.cell (p := ⟨bo, 0, none⟩) hbw).trans hoc; clear hb3 HPZ)
      go_ret2
      have hbs : w.heap.size ≤ W0.heap.size := by have := (HBF.out _ _ HS0.out).size; exact this
      exact ⟨_, rfl, Kd.R_below (Kd.R_lower HR.out hbs) HB3.out, (HBF.out _ _ HBe.out).trans (HB3.out.mono (Nat.le_trans hbs hwr))⟩
end Go.Proofs.Ythimblhfjfngiaa.PText

namespace Go.Proofs.Ythimblhfjfngiaa.PText
open Go.RowKit Go.Lib Go.Sort Go.Proofs.YthimblhfjfngiaaW.PrintWords Go.Proofs.YthimblhfjfngiaaW.PrintLast Go.Proofs.YthimblhfjfngiaaW.PrintMore
set_option linter.unusedVariables false
set_option linter.unusedSimpArgs false
theorem keep2 {w w' : World} {p g : Nat} {u v : Value} (hb : Below w.heap.size w w') (h1 : w.cell? ⟨p, 0, none⟩ = some u) (h2 : w.cell? ⟨g, 0, none⟩ = some v) (l1 : p < w.heap.size) (l2 : g < w.heap.size) :
    w'.cell? ⟨p, 0, none⟩ = some u ∧ w'.cell? ⟨g, 0, none⟩ = some v ∧ Below w.heap.size w w' := ⟨(hb.cell (p := ⟨p, 0, none⟩) l1).trans h1, (hb.cell (p := ⟨g, 0, none⟩) l2).trans h2, hb⟩
/-- the row of a past of one commit -/
theorem past_one {w : World} {base p : Nat} {x : Com} (h : PastIs w base p [x]) : ∃ g cap c, p < w.heap.size ∧ g < w.heap.size ∧ w.cell? ⟨p, 0, none⟩ = some (.slice (some ⟨g, 0, none⟩) 1 cap) ∧ w.cell? ⟨g, 0, none⟩ = some (.pointer (some ⟨c, 0, none⟩)) ∧ ComAt w c x := by
  obtain ⟨A, cap, ps, h1, h2, h3, h4, h5⟩ := h
  obtain ⟨c, rfl⟩ : ∃ c, ps = [c] := List.length_eq_one_iff.1 h1
  obtain ⟨g, cap', hv, hb, -, cs, hc⟩ := Kd.R_form h4 (by simp)
  cases hv
  obtain ⟨q1, -⟩ := Kd.R_cell (enc := fun c : Nat => Value.pointer (some ⟨c, 0, none⟩)) (h1 := fun _ => rfl) 0 h4 0 (Int.le_refl _) (by simp)
  exact ⟨g, cap, c, (Array.getElem?_eq_some_iff.1 h3).1, (Array.getElem?_eq_some_iff.1 hc).1, by unfold World.cell?; rw [h3]; rfl, q1, h5 0 (by simp) (by simp)⟩
set_option maxRecDepth 100000 in
set_option maxHeartbeats 4000000 in
theorem blame_one (base p : Nat) (x : Com) (file t : ByteArray) (es : List S59) (w : World) (hP : PastIs w base p [x]) (hx : x.files.length ≤ 10000) (hf : findR x.files file = (t, true))
    (he : text_Edits.f 5000000 ⟨#[]⟩ t = some (es, 0)) (h0 : ∀ x ∈ es, x.f0 = 0 ∧ x.f1 = 0 ∧ x.f2.size ≤ 1000000000) (hlen : es.length ≤ 4000) (hD : (putL es 0).length ≤ 1000000) :
    Calls Try.prog 19 #[.pointer (some ⟨p, 0, none⟩), .string file] w fun e w' => ∃ v, e = .returned (.tuple #[v, .int .i64 0]) ∧ Kd.R (Kd.int .i64) 3 w' w.heap.size (fun _ => True) v (putL es 0) ∧ Below w.heap.size w w' := by
  obtain ⟨g, cap, c, l1, l2, hc1, hc2, hcom⟩ := past_one hP
  have HF : Aside0 (∀ wr, Below w.heap.size w wr → Calls Try.prog 34 #[.pointer (some ⟨c, 0, none⟩), .string file] wr fun e w' => e = .returned (.tuple #[.string t, .bool true]) ∧ Below wr.heap.size wr w') :=
    ⟨fun wr hb => by
      have q := find_calls c x file wr (hcom.keep (PKept.of_below hb)) hx
      rw [hf] at q
      exact q⟩
  have HBL := Aside0.mk (fun wr => blamed_new es 0 t wr he h0 hlen hD)
  clear hP hx hf he h0 hlen hD hcom
  have hw0 : wrap64 ((1 : Int) - 1) = 0 := by rw [w64 (by omega) (by omega)]; rfl
  have hw1 : wrap64 0 = 0 := by rw [w64 (by omega) (by omega)]
  have hw2 : IntKind.i64.wrap ((1 : Int) - 1) = 0 := (i64_w _).trans hw0
  have hw3 : IntKind.i64.wrap 0 = 0 := (i64_w _).trans hw1
  have HB0 := Aside0.mk (Below.refl w.heap.size w)
  go_enter Try.func19, Try.ntmps19
  go_wp2_with fail
  go_region_held3 (fun w' => w'.cell? ⟨p, 0, none⟩ = some (.slice (some ⟨g, 0, none⟩) 1 cap) ∧ w'.cell? ⟨g, 0, none⟩ = some (.pointer (some ⟨c, 0, none⟩)) ∧ Below w.heap.size w w')
    (first
      | exact keep2 (Below.refl _ _) hc1 hc2 l1 l2
      | exact keep2 (Below.refl _ _).drew hc1 hc2 l1 l2
      | (go_split_ands; exact keep2 (Below.drew (by assumption)) hc1 hc2 l1 l2)
      | (go_split_ands; exact keep2 (below_step (by assumption) hb) hc1 hc2 l1 l2)
      | (go_split_ands; exact keep2 (below_step (by assumption) hb).drew hc1 hc2 l1 l2))
    (first
      | (go_at_call 34; with_reducible refine (HF.out _ ?zb).mono ?_; (case zb => (go_split_ands; assumption)); rintro e w5 ⟨rfl, hb⟩))
  go_split_ands
  have HB5 : Aside0 (Below w.heap.size w w5) := ⟨by assumption⟩
  clear hb
  go_wp2_with fail
  go_loopg [48, 8, 9] 2 (fun kq v48 v8 v9 w' => Aside0 (Below w.heap.size w w') ∧ ((1 < kq ∧ v48 = .int .i64 0 ∧ v8 = .slice none 0 0 ∧ v9 = .string ⟨#[]⟩) ∨ (∃ A cc, 0 < kq ∧ v48 = .int .i64 1 ∧ v8 = .slice A (putL es 0).length cc ∧ v9 = .string t ∧ Aside0 (Kd.R (Kd.int .i64) 3 w' w.heap.size (fun _ => True) (.slice A (putL es 0).length cc) (putL es 0)))))
  case atStart => exact ⟨HB5, .inl ⟨by omega, rfl, rfl, rfl⟩⟩
  case round =>
    obtain ⟨HBe, hrel⟩ := hrel
    have hcr := (HBe.out.cell (p := ⟨g, 0, none⟩) l2).trans hc2
    rcases hrel with ⟨hk, rfl, rfl, rfl⟩ | ⟨A, cc, hk, rfl, rfl, rfl, HR⟩
    · obtain ⟨k1, rfl⟩ : ∃ k1, gk = k1 + 1 := ⟨gk - 1, by omega⟩
      go_wp2_with (first
        | (go_at_call 34; refine (HF.out _ HBe.out).mono ?_; rintro e w6 ⟨rfl, hb⟩; have HB6 := Aside0.mk (below_step HBe.out hb); clear hb)
        | (go_at_call 35; refine (HBL.out _).mono ?_; rintro e w7 ⟨v7, rfl, ho, hb⟩; obtain ⟨A7, c7, rfl⟩ := Kd.R_slice ho; have HO7 := Aside0.mk (Kd.R_lower ho HB6.out.size); have HB7 := Aside0.mk (below_step HB6.out hb); clear ho hb))
      go_roundg k1
      case measure => omega
      case rel => exact ⟨HB7, .inr ⟨A7, c7, by omega, by first | rfl | exact congrArg (Value.int .i64) (nx 0 (by omega)), rfl, rfl, HO7⟩⟩
    · go_wp2_with fail
      go_ret2
      exact ⟨_, rfl, HR.out, HBe.out⟩
end Go.Proofs.Ythimblhfjfngiaa.PText

