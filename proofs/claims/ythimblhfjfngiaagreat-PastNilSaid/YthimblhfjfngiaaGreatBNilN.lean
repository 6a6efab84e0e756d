/- PastNil holds: for every number and every text the statement answers true. Part 14 of 19. -/
import Derived.Test.YthimblhfjfngiaaGreatBNilM
import Derived.Shelf.SlicesQ.IndexFunc
namespace Go.Proofs.YthimblhfjfngiaaGreat.PText
open Go.RowKit Go.Lib Go.Sort Go.Proofs.YthimblhfjfngiaaGreatW.PrintWords Go.Proofs.YthimblhfjfngiaaGreatW.PrintLast Go.Proofs.YthimblhfjfngiaaGreatW.PrintMore
set_option linter.unusedVariables false
set_option linter.unusedSimpArgs false
instance : Inhabited S41 := ⟨z41⟩
theorem S41.ext' {a b : S41} (h0 : a.f0 = b.f0) (h1 : a.f1 = b.f1) : a = b := by cases a; cases b; simp_all
instance : DecidableEq S41 := fun a b => decidable_of_iff (a.f0 = b.f0 ∧ a.f1 = b.f1) ⟨fun h => S41.ext' h.1 h.2, fun h => by subst h; exact ⟨rfl, rfl⟩⟩
def enc53 (x : S41) : List Value := [.string x.f0, .string x.f1]
theorem enc53_len (x : S41) : (enc53 x).length = 2 := rfl
theorem enc53_one (x : S41) : ∀ v ∈ enc53 x, v.oneCell' = true := by
  intro v hv
  simp [enc53] at hv
  rcases hv with rfl | rfl <;> rfl
theorem isAgg53 : ∀ w, (isAgg 41).run Tryz.prog w = .ok true w := fun w => by simp [isAgg, run_underlying Tryz.underlying41]
theorem sizeOf53 : ∀ w, (Go.sizeOf 41).run Tryz.prog w = .ok 2 w := fun w => by
  obtain ⟨i0, hi, hz0, hz1, hz2⟩ := info_parts info41
  simp [Go.sizeOf, typeInfo, hi, hz1]
/-- a row of one's own, out of its cells -/
theorem row53 {W : World} {base g cap : Nat} {cur : Array Value} {r : List S41} (hh : W.heap[g]? = some (.cells cur 41 (0, 0))) (hb : base ≤ g) (hl : r.length ≤ cap) (hm : cap ≤ maxLen) (hs : cur.size = cap * 2)
    (hc : ∀ t, t < r.length * 2 → cur[t]! = (Sort.flatK enc53 2 r.toArray)[t]!) : Kd.R k41 41 W base (fun _ => True) (.slice (some ⟨g, 0, none⟩) r.length cap) r := by
  have hle : r.length * 2 ≤ cur.size := by omega
  refine ⟨fun _ _ => trivial, cur.toList.take (r.length * 2), ⟨by rw [List.length_take, Nat.min_eq_left (by rw [Array.length_toList]; exact hle)]; rfl, Or.inr ⟨g, cap, cur, rfl, hb, hh, hl, hm, hs, rfl⟩⟩, by rw [List.length_take, Nat.min_eq_left (by rw [Array.length_toList]; exact hle)]; rfl, fun j p hp => ?_⟩
  obtain ⟨hj, rfl⟩ := List.getElem?_eq_some_iff.1 hp
  have key : ((cur.toList.take (r.length * 2)).drop (j * 2)).take 2 = [.string r[j].f0, .string r[j].f1] := by
    have one : ∀ c, c < 2 → cur[j * 2 + c]? = some (enc53 r[j])[c]! := by
      intro c hcc
      have h1 := hc (j * 2 + c) (by omega)
      rw [Sort.get_flatK _ _ _ _ (by rw [List.size_toArray]; omega), show (j * 2 + c) / 2 = j by omega, show (j * 2 + c) % 2 = c by omega] at h1
      rw [Array.getElem?_eq_getElem (by omega), ← getElem!_pos cur (j * 2 + c) (by omega), h1, getElem!_pos r.toArray j (by rw [List.size_toArray]; exact hj), List.getElem_toArray]
    have z0 := one 0 (by omega)
    have z1 := one 1 (by omega)
    apply List.ext_getElem?
    intro c
    rw [List.getElem?_take]
    by_cases h3 : c < 2
    · rw [if_pos h3, List.getElem?_drop, List.getElem?_take, if_pos (by omega), Array.getElem?_toList]
      have : c = 0 ∨ c = 1 := by omega
      rcases this with rfl | rfl
      · rw [z0]; rfl
      · rw [z1]; rfl
    · rw [if_neg h3, List.getElem?_eq_none (by simp; omega)]
  show k41.M W base _ r[j] (((cur.toList.take (r.length * 2)).drop (j * 2)).take 2)
  rw [key]
  exact k41_mkM _ _ _ _
/-- the cells of a row of one's own -/
theorem holds_of_row53 {W : World} {base g cap : Nat} {ok : Nat → Prop} {l : List S41} (h : Kd.R k41 41 W base ok (.slice (some ⟨g, 0, none⟩) l.length cap) l) (hg : ∃ cur, W.heap[g]? = some (.cells cur 41 (0, 0))) : Sort.HoldsK enc53 2 W g 0 l.toArray := by
  intro t ht
  rw [Sort.size_flatK, List.size_toArray] at ht
  have hC := (Kd.R_reads' h).2.2
  obtain ⟨ad, e, h0, h1⟩ := at_T41 hC ((t / 2 : Nat) : Int) (by omega) (by omega)
  cases e
  obtain ⟨cur, hcur⟩ := hg
  refine ⟨?_, by simp [World.frozen?, hcur]⟩
  rw [Sort.get_flatK _ _ _ _ (by rw [List.size_toArray]; exact ht)]
  have hx : (l.toArray)[t / 2]! = rd_T41 l ((t / 2 : Nat) : Int) := by
    unfold rd_T41
    rw [Int.toNat_natCast, getElem!_pos l.toArray (t / 2) (by rw [List.size_toArray]; omega), List.getElem_toArray, List.getD_eq_getElem?_getD, List.getElem?_eq_getElem (by omega)]
    rfl
  rw [hx]
  simp only [Int.toNat_natCast, add_plain] at h0 h1
  have : t % 2 = 0 ∨ t % 2 = 1 := by omega
  rcases this with c | c
  · rw [c, show 0 + t = t / 2 * 2 by omega]; exact h0
  · rw [c, show 0 + t = t / 2 * 2 + 1 by omega]; exact h1
theorem C_none53 {w : World} {l : List S41} (h : Kd.C k41 w none l.length l) : l = [] := by
  cases l with
  | nil => rfl
  | cons x r =>
    obtain ⟨ad, _, q, _⟩ := Kd.C_get h z41 0 (Int.le_refl _) (by rw [List.length_cons]; omega)
    cases q
set_option maxHeartbeats 8000000 in
set_option maxRecDepth 100000 in
theorem clone53_calls (A0 : Option Addr) (c0 : Nat) (l0 : List S41) (w : World) (hr0 : Kd.C k41 w A0 l0.length l0) (hl : l0.length ≤ 10000) :
    Calls Tryz.prog 40 #[.slice A0 l0.length c0] w fun e w' => ∃ v0_ : Value, e = .returned v0_ ∧ Kd.R k41 41 w' w.heap.size (fun _ => True) v0_ l0 ∧ Below w.heap.size w w' := by
  have hnil : ∀ w', Sem.run Tryz.prog (binOp .eql 37 (.slice A0 l0.length c0) (.slice none 0 0)) w' = .ok (.bool A0.isNone) w' := fun w' => Go.Lib.run_eql_slice_nil w' 37 41 A0 l0.length c0 0 0 Tryz.underlying37
  have HR1 := Aside0.mk hr0
  clear hr0
  cases hA : A0.isNone with
  | true =>
    obtain rfl : A0 = none := by cases A0 with | none => rfl | some a => cases hA
    obtain rfl := C_none53 HR1.out
    rw [hA] at hnil
    simp only [List.length_nil] at hnil ⊢
    go_enter Tryz.func40, Tryz.ntmps40
    go_wp2
    go_ret
    exact ⟨_, rfl, Kd.R_nil _ _ _ _ _, Below.refl _ _⟩
  | false =>
    rw [hA] at hnil
    have HB := Aside0.mk (Below.refl w.heap.size w)
    obtain ⟨y467, hy467⟩ : ∃ y_ : List (S41), y_ = (([] : List (S41))) := ⟨_, rfl⟩
    have Ny467 := Aside0.mk hy467
    have LMc8 := Aside0.mk (show y467.length + l0.length < 4398046511104 by rw [hy467]; simp; omega)
    clear hy467
    obtain ⟨y470, hy470⟩ : ∃ y_ : List (S41), y_ = (y467 ++ l0) := ⟨_, rfl⟩
    have Ny470 := Aside0.mk hy470
    clear hy470
    go_enter Tryz.func40, Tryz.ntmps40
    go_wp2_with (first | ((with_reducible refine gate_dst (N := 5) rfl ?_); refine Kd.R_lit k41 _ 41 ?hg (N := 5) ?hd (xs := ([] : List (S41))) (inner := []) (ok := fun _ => True) (okp := fun _ => True) ?hr ?hp (fun _ hk => hk) trivial (Below.refl _ _) (Nat.le_refl _) (by simp) ?_; (case hd => rfl); (case hg => rfl); (case hr => first | (go_simp; done) | (go_simp; rfl)); (case hp => exact (Reps.none _ _)); intro v468 w13 ho14 hb hg_ hnew_; clear hg_ hnew_; (first | rw [← Ny467.out] at ho14 | (simp only [Int.reduceToNat] at ho14; rw [← Ny467.out] at ho14)); have n0_ := Aside0.mk (Kd.R_lower ho14 (below_size (by repeat (first | (with_reducible first | exact HB.out | apply below_alloc | apply pw_below_drewN | apply below_drew1) | exact HB.out)))); have n1_ := Aside0.mk (below_step (by repeat (first | (with_reducible first | exact HB.out | apply below_alloc | apply pw_below_drewN | apply below_drew1) | exact HB.out)) hb); clear HB; have HO469 := n0_; have HB := n1_; clear n0_ n1_; clear hb ho14) | ((with_reducible refine gate_builtin (b := .append) (xs := #[.tmp 5, .tmp 6]) rfl ?_); at_builtin; refine Kd.R_append_rows k41 (w0 := w) w.heap.size rfl (.tmp 5) (.tmp 6) 37 41 (.agg #[(.string ⟨#[]⟩), (.string ⟨#[]⟩)]) 32 rfl Tryz.underlying37 info41 rfl (by decide) (by omega) v468 y467 l0 _ _ _ (fun _ => True) (fun _ => False) rfl rfl ?aO ?aR (fun _ _ h => h) (fun _ h => h.elim) ?aF ?aB ?aS ?aL ?_; (case aR => repeat (first | exact (Kd.C_below HR1.out HB.out) | (with_reducible refine Kd.C_alloc ?_ _) | (with_reducible refine Kd.C_drewN ?_ _) | (with_reducible refine Kd.C_drew ?_))); (case aB => exact (by repeat (first | (with_reducible first | exact HB.out | apply below_alloc | apply pw_below_drewN | apply below_drew1) | exact HB.out))); (case aF => exact (fun _ _ => trivial)); (case aO => exact (by (with_reducible repeat (first | apply Kd.R_alloc | apply Kd.R_drewN | apply Kd.R_drew)); exact HO469.out)); (case aS => exact (below_size (by repeat (first | (with_reducible first | exact HB.out | apply below_alloc | apply pw_below_drewN | apply below_drew1) | exact HB.out)))); (case aL => have := LMc8.out; omega); intro v471 w15 ho hb hg hat; rw [← Ny470.out] at ho; have n0_ := Aside0.mk (hb); have n1_ := Aside0.mk (ho); clear HB; clear HO469; have HB := n0_; have HO472 := n1_; clear n0_ n1_; clear ho hb hg hat))
    go_ret
    have e : y470 = l0 := by rw [Ny470.out, Ny467.out]; rfl
    rw [e] at HO472
    exact ⟨_, rfl, HO472.out, HB.out⟩
/-- the order of files: by their names -/
def cfF (x y : S41) : Int := cS x.f0.toList y.f0.toList
def ltF (x y : S41) : Bool := decide (x.f0.toList < y.f0.toList)
theorem ltOf_cfF : ltOf cfF = ltF := by
  funext x y
  show decide (cfF x y < 0) = ltF x y
  unfold cfF cS ltF
  by_cases h : x.f0.toList < y.f0.toList
  · rw [if_pos h, decide_eq_true h]; rfl
  · rw [if_neg h, decide_eq_false h]
    by_cases h2 : y.f0.toList < x.f0.toList
    · rw [if_pos h2]; rfl
    · rw [if_neg h2]; rfl
theorem ltF_swo : Sort.SWO ltF where
  irrefl x := decide_eq_false (List.lt_irrefl _)
  trans x y z h1 h2 := decide_eq_true (List.lt_trans (of_decide_eq_true h1) (of_decide_eq_true h2))
  ntrans x y z h1 h2 := decide_eq_false (fun q => by
    have a1 := of_decide_eq_false h1
    have a2 := of_decide_eq_false h2
    have b1 : y.f0.toList ≤ x.f0.toList := List.not_lt.1 a1
    have b2 : z.f0.toList ≤ y.f0.toList := List.not_lt.1 a2
    exact absurd q (List.not_lt.2 (List.le_trans b2 b1)))
theorem order53_grows (x y : S41) (w : World) : Calls Tryz.prog 45 #[.agg #[.string x.f0, .string x.f1], .agg #[.string y.f0, .string y.f1]] w fun e w' => e = .returned (.int .i64 (cfF x y)) ∧ ∃ q os', w' = Sort.grow (w.drewN q) os' := by
  go_enter Tryz.func45, Tryz.ntmps45
  go_wp2_with (go_at_call 46; refine (cmp_Compare_string.calls x.f0 y.f0 (cfF x y) _ (cmpS_f x.f0 y.f0)).mono ?_; rintro e w2 ⟨rfl, hd⟩)
  go_ret
  obtain ⟨q, rfl⟩ := hd
  exact ⟨rfl, grow_of_below (pw_below_drewN (((Below.refl _ w).alloc (Nat.le_refl _) _).alloc (by simp) _) _) (by simp [World.drewN])⟩
theorem sort53_calls (g cap : Nat) (l : List S41) (w : World) (hH : Sort.HoldsK enc53 2 w g 0 l.toArray) (hb : g < w.heap.size) (hl : l.length ≤ 10000) :
    Calls Tryz.prog 44 #[.slice (some ⟨g, 0, none⟩) l.length cap, .func (.func 45) #[] #[]] w fun e w' => e = .returned (.tuple #[]) ∧
      ∃ (d' : Array S41) (n : Nat) (os : Array Obj), d'.size = l.length ∧ d'.toList.Perm l ∧ (∀ i j, i < j → j < d'.size → ltF d'[j]! d'[i]! = false) ∧ w' = Sort.grow (Sort.putRowK enc53 2 (Sort.ahead w n) g 0 d') os := by
  have eg : ∀ args w, (callFunc 45 args).run Tryz.prog w = .ok (.enter 45 args) w := enters_of Tryz.func45 (by kernel_rfl) rfl
  have hcmp : CmpLays Tryz.prog 45 #[] enc53 2 cfF g 0 l.toArray.size w := fun m os dk _ x y => order53_grows x y _
  have h := AnyQ.slices_SortFunc Tryz.sortFi 2 isAgg53 sizeOf53 enc53 enc53_len enc53_one cfF (by rw [ltOf_cfF]; exact ltF_swo) 45 #[] g 0 cap l.toArray w eg hcmp hH hb (by rw [List.size_toArray]; omega)
  rw [List.size_toArray] at h
  refine h.mono ?_
  rintro e w' ⟨he, d', n, os, hp, hs, hw⟩
  obtain ⟨p1, _, p3⟩ := hp
  replace p1 : d'.size = l.length := p1.trans (by simp)
  refine ⟨he, d', n, os, p1, ?_, fun i j hij hj => ?_, hw⟩
  · have e1 : (d'.extract 0 l.length).toList = d'.toList := by rw [show l.length = d'.size from p1.symm]; simp
    have e2 : (l.toArray.extract 0 l.length).toList = l := by simp
    rw [e1, e2] at p3
    exact p3
  · have := hs i j (Nat.zero_le _) hij (by omega)
    rwa [ltOf_cfF] at this
/-- a row of one's own, sorted -/
theorem sort53_row (A : Option Addr) (cap : Nat) (l : List S41) (w : World) (base : Nat) (h : Kd.R k41 41 w base (fun _ => True) (.slice A l.length cap) l) (hl : l.length ≤ 10000) :
    Calls Tryz.prog 44 #[.slice A l.length cap, .func (.func 45) #[] #[]] w fun e w' => e = .returned (.tuple #[]) ∧
      ∃ d : List S41, d.length = l.length ∧ d.Perm l ∧ (∀ i j, i < j → ∀ hj : j < d.length, ∀ hi : i < d.length, ltF d[j] d[i] = false) ∧ Kd.R k41 41 w' base (fun _ => True) (.slice A l.length cap) d ∧ Below base w w' := by
  by_cases h0 : l = []
  · subst h0
    refine (AnyF.slices_SortFunc_none Tryz.sortFi A cap (.func (.func 45) #[] #[]) w).mono ?_
    rintro e w' ⟨rfl, rfl⟩
    exact ⟨rfl, [], rfl, List.Perm.refl _, fun i j h1 hj => absurd hj (Nat.not_lt_zero _), h, Below.refl _ _⟩
  · obtain ⟨inner, hlen, hz | ⟨g, cap', cur, e, g1, g2, g3, g4, g5, _⟩⟩ := Kd.R_own h
    · exact absurd (List.eq_nil_of_length_eq_zero hz.2) h0
    · cases e
      replace g5 : cur.size = cap * 2 := g5
      have hg := (Array.getElem?_eq_some_iff.1 g2).1
      have hH := holds_of_row53 h ⟨cur, g2⟩
      refine (sort53_calls g cap l w hH hg hl).mono ?_
      rintro e w' ⟨he, d', n, os, p1, p2, p3, rfl⟩
      have hh0 : (Sort.ahead w n).heap[g]? = some (.cells cur 41 (0, 0)) := g2
      obtain ⟨cur1, hh1, s1⟩ := putRow_heap id (off := 0) (F := Sort.flatK enc53 2 d') hh0
      have H1 : Sort.HoldsK enc53 2 (Sort.putRowK enc53 2 (Sort.ahead w n) g 0 d') g 0 d' := Sort.holdsK_putRowK enc53 2 _ g 0 l.toArray d' (Sort.holdsK_ahead enc53 2 w n g 0 _ hH) (by rw [p1]; simp)
      have hh2 : (Sort.grow (Sort.putRowK enc53 2 (Sort.ahead w n) g 0 d') os).heap[g]? = some (.cells cur1 41 (0, 0)) := grow_heap os hh1
      have H2 : Sort.HoldsK enc53 2 (Sort.grow (Sort.putRowK enc53 2 (Sort.ahead w n) g 0 d') os) g 0 d' := Sort.holdsK_grow enc53 2 _ os g 0 d' (Array.getElem?_eq_some_iff.1 hh1).1 H1
      have hlen' : d'.toList.length = l.length := by rw [Array.length_toList, p1]
      refine ⟨he, d'.toList, hlen', p2, fun i j hij hj hi => ?_, ?_, ?_⟩
      · have := p3 i j hij (by simpa using hj)
        rw [getElem!_pos d' j (by simpa using hj), getElem!_pos d' i (by simpa using hi)] at this
        simpa using this
      · have := row53 (W := Sort.grow (Sort.putRowK enc53 2 (Sort.ahead w n) g 0 d') os) (base := base) (g := g) (cap := cap) (cur := cur1) (r := d'.toList) hh2 g1 (by omega) g4 (by rw [s1, g5]) (fun t ht => by
          have h4 := (H2 t (by rw [Sort.size_flatK]; simpa using ht)).1
          have ht2 : t < cur1.size := by rw [s1, g5]; rw [hlen'] at ht; omega
          simp only [World.cell?, hh2, Nat.zero_add] at h4
          have h5 : cur1[t]? = some (Sort.flatK enc53 2 d')[t]! := h4
          rw [getElem!_pos cur1 t ht2]
          rw [Array.getElem?_eq_getElem ht2] at h5
          simpa using Option.some.inj h5)
        rw [hlen'] at this
        exact this
      · refine ((below_ahead _ w n).trans ((below_putRow id _ 0 (Sort.flatK enc53 2 d') g1).trans ?_))
        refine below_grow ?_ os
        have := (Array.getElem?_eq_some_iff.1 hh1).1
        show base ≤ (Sort.putRow id _ g 0 _).heap.size
        omega
end Go.Proofs.YthimblhfjfngiaaGreat.PText

namespace Go.Proofs.YthimblhfjfngiaaGreat.PText
open Go.RowKit Go.Lib Go.Proofs.YthimblhfjfngiaaGreatW.PrintWords Go.Proofs.YthimblhfjfngiaaGreatW.PrintLast Go.Proofs.YthimblhfjfngiaaGreatW.PrintMore
set_option linter.unusedVariables false
set_option linter.unusedSimpArgs false
def text_Fine.f (a0 : ByteArray) (l1 : List S91) : Option Int := some (fineE a0.size l1)
theorem fine_pred (s : ByteArray) (B : Nat) (w : World) (hB : B < w.heap.size) (hcell : w.cell? ⟨B, 0, none⟩ = some (.string s)) :
    PredBelow Tryz.prog 104 #[.pointer (some ⟨B, 0, none⟩)] (fun x => .agg (enc34 x).toArray) (badE s.size) w := fun W x hb => by
  have hc : W.cell? ⟨B, 0, none⟩ = some (.string s) := (hb.cell (p := ⟨B, 0, none⟩) hB).trans hcell
  have hBW : B < W.heap.size := Nat.lt_of_lt_of_le hB hb.size
  have hne : B ≠ W.heap.size := by omega
  have hu34 := Tryz.underlying91
  show Calls Tryz.prog 104 #[.agg #[.int .i64 x.f0, .int .i64 x.f1, .string x.f2], .pointer (some ⟨B, 0, none⟩)] W _
  unfold badE
  by_cases h1 : x.f0 < 0
  · go_enter Tryz.func104, Tryz.ntmps104
    go_wp2
    go_ret
    exact ⟨by simp [h1], hb.alloc hb.size _⟩
  · by_cases h2 : (s.size : Int) < x.f1
    · go_enter Tryz.func104, Tryz.ntmps104
      go_wp2
      go_ret
      exact ⟨by simp [h1, h2], hb.alloc hb.size _⟩
    · go_enter Tryz.func104, Tryz.ntmps104
      go_wp2
      go_ret
      exact ⟨by first | (simp [h1, h2]; done) | (simp; omega), hb.alloc hb.size _⟩
set_option maxHeartbeats 1000000 in
theorem index_empty (p : Option Addr) (c g : Nat) (lb : Array Value) (w : World) : Calls Tryz.prog 72 #[.slice p 0 c, .func (.func g) #[] lb] w fun e w' => e = .returned (.int .i64 (-1)) ∧ Below w.heap.size w w' := by
  go_enter Tryz.func72, Tryz.ntmps72
  go_wp2
  go_loopg [5, 8] 0 (fun _ _ s8 wr => s8 = .int .i64 0 ∧ wr = w)
  case atStart => exact ⟨rfl, rfl⟩
  case round =>
    obtain ⟨rfl, rfl⟩ := hrel
    go_wp2
    go_ret
    exact ⟨rfl, Below.refl _ _⟩
set_option maxHeartbeats 1000000 in
theorem contains_empty (p : Option Addr) (c g : Nat) (lb : Array Value) (w : World) : Calls Tryz.prog 58 #[.slice p 0 c, .func (.func g) #[] lb] w fun e w' => e = .returned (.bool false) ∧ Below w.heap.size w w' := by
  go_enter Tryz.func58, Tryz.ntmps58
  go_wp2_with (go_at_call 72; refine (index_empty p c g lb _).mono ?_; rintro e w' ⟨rfl, hb⟩)
  go_ret
  exact ⟨rfl, hb⟩
theorem C_addr34 {w : World} {A : Option Addr} {l : List S91} (h : Kd.C k91 w A l.length l) (hp : 0 < l.length) :
    ∃ b o, A = some ⟨b, o, none⟩ ∧ b < w.heap.size ∧ ∀ j, j < l.length → ∀ i v, (enc34 l[j]!)[i]? = some v → w.cell? ⟨b, o + j * 3 + i, none⟩ = some v := by
  obtain ⟨⟨b, o, sp⟩, rfl, h0, _⟩ := at_T91 h 0 (by omega) (by omega)
  have hsp : sp = none := by
    cases sp with
    | none => rfl
    | some q =>
      unfold World.cell? at h0
      simp only [Addr.add] at h0
      split at h0 <;> simp at h0
  subst hsp
  have hb : b < w.heap.size := World.block_lt_of_cell? w _ h0
  refine ⟨b, o, rfl, hb, fun j hj i v hv => ?_⟩
  obtain ⟨ad, e, h1, h2, h3⟩ := at_T91 h (j : Int) (by omega) (by omega)
  cases e
  rw [rd34_at l j hj] at h1 h2 h3
  rw [getElem!_pos l j hj] at hv
  simp only [Int.toNat_natCast, Addr.add_lit] at h1 h2 h3
  match i, hv with
  | 0, hv => simp [enc34] at hv; subst hv; exact h1
  | 1, hv => simp [enc34] at hv; subst hv; exact h2
  | 2, hv => simp [enc34] at hv; subst hv; exact h3
  | i + 3, hv => simp [enc34] at hv
theorem contains_calls (a0 : ByteArray) (A1 : Option Addr) (c1 B : Nat) (l1 : List S91) (w : World) (hC : Kd.C k91 w A1 l1.length l1) (hB : B < w.heap.size) (hcell : w.cell? ⟨B, 0, none⟩ = some (.string a0)) (hl : l1.length ≤ 10000) :
    Calls Tryz.prog 58 #[.slice A1 l1.length c1, .func (.func 104) #[] #[.pointer (some ⟨B, 0, none⟩)]] w fun e w' => e = .returned (.bool (l1.any (badE a0.size))) ∧ Below w.heap.size w w' := by
  by_cases hp : l1.length = 0
  · obtain rfl := List.eq_nil_of_length_eq_zero hp
    exact contains_empty A1 c1 104 _ w
  · obtain ⟨b, o, rfl, hb, hc⟩ := C_addr34 hC (by omega)
    have eg : ∀ args w, (callFunc 104 args).run Tryz.prog w = .ok (.enter 104 args) w := enters_of Tryz.func104 (by kernel_rfl) rfl
    have h := AnyQ.slices_ContainsFunc Tryz.containsEd 3 isAgg34 sizeOf34 enc34 enc34_len (badE a0.size) 104 #[.pointer (some ⟨B, 0, none⟩)] eg b o l1.length c1 l1 w (fine_pred a0 B w hB hcell) (Nat.le_refl _) (by omega) hb hc
    rw [List.take_length] at h
    exact h
set_option maxHeartbeats 8000000 in
set_option maxRecDepth 100000 in
theorem text_Fine.calls (a0 : ByteArray) (A1 : Option Addr) (c1 : Nat) (l1 : List S91) (r : Int) (w : World) (hr1 : Kd.C k91 w A1 l1.length l1) (hc1 : l1.length ≤ c1) (h : text_Fine.f a0 l1 = some r) :
    Calls Tryz.prog 74 #[.string a0, .slice A1 l1.length c1] w fun e w' => e = .returned (.int .i64 r) ∧ Below w.heap.size w w' := by
  have hr := Option.some.inj h
  clear h
  have HR := Aside0.mk hr
  have HC := Aside0.mk hr1
  have HL := Aside0.mk hc1
  clear hr hr1 hc1
  by_cases g1 : 200000 < a0.size
  · go_enter Tryz.func74, Tryz.ntmps74
    go_wp2
    go_ret
    refine ⟨?_, (Below.refl _ w).alloc (Nat.le_refl _) _⟩
    rw [← HR.out]
    unfold fineE
    rw [if_pos (Or.inl g1)]
    rfl
  · by_cases g2 : 10000 < l1.length
    · go_enter Tryz.func74, Tryz.ntmps74
      go_wp2
      go_ret
      refine ⟨?_, (Below.refl _ w).alloc (Nat.le_refl _) _⟩
      rw [← HR.out]
      unfold fineE
      rw [if_pos (Or.inr g2)]
      rfl
    · have W1 := Aside0.mk ((Below.refl w.heap.size w).alloc (Nat.le_refl _) (.cells #[.string a0] 9))
      have H37 := Aside0.mk (contains_calls a0 A1 c1 w.heap.size l1 (w.alloc (.cells #[.string a0] 9)) (Kd.C_below HC.out W1.out) (by simp) (by simp) (by omega))
      have H32 := Aside0.mk (fun w2 (h2 : Kd.C k91 w2 A1 l1.length l1) => text_sorted.calls A1 c1 l1 (Tx.ord eltS l1) w2 h2 HL.out (by unfold text_sorted.f; rw [if_pos (by omega)]))
      have hlo : (Tx.ord eltS l1).length ≤ 10000 := Nat.le_trans (Tx.ord_len l1) (by omega)
      have HLO := Aside0.mk hlo
      clear hlo
      obtain ⟨cl, hcl⟩ : ∃ b, b = Tx.clash 0 (-1) ((Tx.ord eltS l1).map toE) := ⟨_, rfl⟩
      have H39 := Aside0.mk (fun A c w3 (h3 : Kd.C k91 w3 A (Tx.ord eltS l1).length (Tx.ord eltS l1)) (h4 : (Tx.ord eltS l1).length ≤ c) => text_clash.calls 20001 A c (Tx.ord eltS l1) cl w3 h3 h4 (by rw [clash_f _ HLO.out, hcl]))
      have HCL := Aside0.mk hcl
      clear hcl
      cases hany : l1.any (badE a0.size) with
      | true =>
        rw [hany] at H37
        have HA := Aside0.mk hany
        clear hany H32 H39
        go_enter Tryz.func74, Tryz.ntmps74
        go_wp2_with (go_at_call 58; refine H37.out.mono ?_; rintro e w2 ⟨rfl, hb⟩; have HB := Aside0.mk hb; clear hb H37)
        go_ret
        refine ⟨?_, W1.out.trans (HB.out.mono (by simp))⟩
        rw [← HR.out]
        unfold fineE
        rw [if_neg (by omega), if_pos HA.out]
        rfl
      | false =>
        rw [hany] at H37
        have HA := Aside0.mk hany
        clear hany
        have fin : (if cl = true then (10 : Int) else 0) = r := by
          rw [← HR.out]
          unfold fineE
          rw [if_neg (show ¬ (200000 < a0.size ∨ 10000 < l1.length) by omega), if_neg (show ¬ (l1.any (badE a0.size) = true) by rw [HA.out]; decide), ← HCL.out]
        have FIN := Aside0.mk fin
        clear fin
        cases cl with
        | true =>
          go_enter Tryz.func74, Tryz.ntmps74
          go_wp2_with (first
            | (go_at_call 58; refine H37.out.mono ?_; rintro e w2 ⟨rfl, hb⟩; have HB := Aside0.mk (W1.out.trans (hb.mono (by simp))); clear hb H37)
            | (go_at_call 75; refine (H32.out w2 (Kd.C_below HC.out HB.out)).mono ?_; rintro e w3 ⟨v3, rfl, ho, hb⟩; obtain ⟨A3, c3, rfl⟩ := Kd.R_slice ho; have HO := Aside0.mk ho; have HB3 := Aside0.mk (HB.out.trans (hb.mono HB.out.size)); clear ho hb H32)
            | (go_at_call 105; refine (H39.out A3 c3 w3 (Kd.R_reads' HO.out).2.2 (Kd.R_reads' HO.out).2.1).mono ?_; rintro e w4 ⟨rfl, hb⟩; have HB4 := Aside0.mk (HB3.out.trans (hb.mono HB3.out.size)); clear hb H39))
          go_ret
          exact ⟨by rw [← FIN.out]; rfl, HB4.out⟩
        | false =>
          go_enter Tryz.func74, Tryz.ntmps74
          go_wp2_with (first
            | (go_at_call 58; refine H37.out.mono ?_; rintro e w2 ⟨rfl, hb⟩; have HB := Aside0.mk (W1.out.trans (hb.mono (by simp))); clear hb H37)
            | (go_at_call 75; refine (H32.out w2 (Kd.C_below HC.out HB.out)).mono ?_; rintro e w3 ⟨v3, rfl, ho, hb⟩; obtain ⟨A3, c3, rfl⟩ := Kd.R_slice ho; have HO := Aside0.mk ho; have HB3 := Aside0.mk (HB.out.trans (hb.mono HB.out.size)); clear ho hb H32)
            | (go_at_call 105; refine (H39.out A3 c3 w3 (Kd.R_reads' HO.out).2.2 (Kd.R_reads' HO.out).2.1).mono ?_; rintro e w4 ⟨rfl, hb⟩; have HB4 := Aside0.mk (HB3.out.trans (hb.mono HB3.out.size)); clear hb H39))
          go_ret
          exact ⟨by rw [← FIN.out]; rfl, HB4.out⟩
end Go.Proofs.YthimblhfjfngiaaGreat.PText

