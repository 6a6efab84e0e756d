/- PastKeeps holds: for all steps and every file's name the statement answers true. Part 18 of 20. -/
import Derived.Test.YthimblhfjfngiaaBKeepsQ
namespace Go.Proofs.Ythimblhfjfngiaa.PText
open Go.RowKit Go.Lib Go.Sort Go.Proofs.YthimblhfjfngiaaW.PrintWords Go.Proofs.YthimblhfjfngiaaW.PrintLast Go.Proofs.YthimblhfjfngiaaW.PrintMore
set_option linter.unusedVariables false
set_option linter.unusedSimpArgs false
theorem keep2 {w w' : World} {p g : Nat} {u v : Value} (hb : Below w.heap.size w w') (h1 : w.cell? ⟨p, 0, none⟩ = some u) (h2 : w.cell? ⟨g, 0, none⟩ = some v) (l1 : p < w.heap.size) (l2 : g < w.heap.size) :
    w'.cell? ⟨p, 0, none⟩ = some u ∧ w'.cell? ⟨g, 0, none⟩ = some v ∧ Below w.heap.size w w' := ⟨(hb.cell (p := ⟨p, 0, none⟩) l1).trans h1, (hb.cell (p := ⟨g, 0, none⟩) l2).trans h2, hb⟩
/-- the row of a past of one commit -/
theorem past_one {w : World} {base p : Nat} {x : Com} (h : PastIs w base p [x]) : ∃ g cap c, p < w.heap.size ∧ g < w.heap.size ∧ w.cell? ⟨p, 0, none⟩ = some (.slice (some ⟨g, 0, none⟩) 1 cap) ∧ w.cell? ⟨g, 0, none⟩ = some (.pointer (some ⟨c, 0, none⟩)) ∧ ComAt w c x := by
  obtain ⟨A, cap, ps, h1, h2, h3, h4, h5⟩ := h
  obtain ⟨c, rfl⟩ : ∃ c, ps = [c] := List.length_eq_one_iff.1 h1
  obtain ⟨g, cap', hv, hb, -, cs, hc⟩ := Kd.R_form h4 (by simp)
  cases hv
  obtain ⟨q1, -⟩ := Kd.R_cell (enc := fun c : Nat => Value.pointer (some ⟨c, 0, none⟩)) (h1 := fun _ => rfl) 0 h4 0 (Int.le_refl _) (by simp)
  exact ⟨g, cap, c, (Array.getElem?_eq_some_iff.1 h3).1, (Array.getElem?_eq_some_iff.1 hc).1, by unfold World.cell?; rw [h3]; rfl, q1, h5 0 (by simp) (by simp)⟩
set_option maxRecDepth 100000 in
set_option maxHeartbeats 4000000 in
theorem blame_one (base p : Nat) (x : Com) (file t : ByteArray) (es : List S59) (w : World) (hP : PastIs w base p [x]) (hx : x.files.length ≤ 10000) (hf : findR x.files file = (t, true))
    (he : text_Edits.f 5000000 ⟨#[]⟩ t = some (es, 0)) (h0 : ∀ x ∈ es, x.f0 = 0 ∧ x.f1 = 0 ∧ x.f2.size ≤ 1000000000) (hlen : es.length ≤ 4000) (hD : (putL es 0).length ≤ 1000000) :
    Calls Try.prog 19 #[.pointer (some ⟨p, 0, none⟩), .string file] w fun e w' => ∃ v, e = .returned (.tuple #[v, .int .i64 0]) ∧ Kd.R (Kd.int .i64) 3 w' w.heap.size (fun _ => True) v (putL es 0) ∧ Below w.heap.size w w' := by
  obtain ⟨g, cap, c, l1, l2, hc1, hc2, hcom⟩ := past_one hP
  have HF : Aside0 (∀ wr, Below w.heap.size w wr → Calls Try.prog 34 #[.pointer (some ⟨c, 0, none⟩), .string file] wr fun e w' => e = .returned (.tuple #[.string t, .bool true]) ∧ Below wr.heap.size wr w') :=
    ⟨fun wr hb => by
      have q := find_calls c x file wr (hcom.keep (PKept.of_below hb)) hx
      rw [hf] at q
      exact q⟩
  have HBL := Aside0.mk (fun wr => blamed_new es 0 t wr he h0 hlen hD)
  clear hP hx hf he h0 hlen hD hcom
  have hw0 : wrap64 ((1 : Int) - 1) = 0 := by rw [w64 (by omega) (by omega)]; rfl
  have hw1 : wrap64 0 = 0 := by rw [w64 (by omega) (by omega)]
  have hw2 : IntKind.i64.wrap ((1 : Int) - 1) = 0 := (i64_w _).trans hw0
  have hw3 : IntKind.i64.wrap 0 = 0 := (i64_w _).trans hw1
  have HB0 := Aside0.mk (Below.refl w.heap.size w)
  go_enter Try.func19, Try.ntmps19
  go_wp2_with fail
  go_region_held3 (fun w' => w'.cell? ⟨p, 0, none⟩ = some (.slice (some ⟨g, 0, none⟩) 1 cap) ∧ w'.cell? ⟨g, 0, none⟩ = some (.pointer (some ⟨c, 0, none⟩)) ∧ Below w.heap.size w w')
    (first
      | exact keep2 (Below.refl _ _) hc1 hc2 l1 l2
      | exact keep2 (Below.refl _ _).drew hc1 hc2 l1 l2
      | (go_split_ands; exact keep2 (Below.drew (by assumption)) hc1 hc2 l1 l2)
      | (go_split_ands; exact keep2 (below_step (by assumption) hb) hc1 hc2 l1 l2)
      | (go_split_ands; exact keep2 (below_step (by assumption) hb).drew hc1 hc2 l1 l2))
    (first
      | (go_at_call 34; with_reducible refine (HF.out _ ?zb).mono ?_; (case zb => (go_split_ands; assumption)); rintro e w5 ⟨rfl, hb⟩))
  go_split_ands
  have HB5 : Aside0 (Below w.heap.size w w5) := ⟨by assumption⟩
  clear hb
  go_wp2_with fail
  go_loopg [48, 8, 9] 2 (fun kq v48 v8 v9 w' => Aside0 (Below w.heap.size w w') ∧ ((1 < kq ∧ v48 = .int .i64 0 ∧ v8 = .slice none 0 0 ∧ v9 = .string ⟨#[]⟩) ∨ (∃ A cc, 0 < kq ∧ v48 = .int .i64 1 ∧ v8 = .slice A (putL es 0).length cc ∧ v9 = .string t ∧ Aside0 (Kd.R (Kd.int .i64) 3 w' w.heap.size (fun _ => True) (.slice A (putL es 0).length cc) (putL es 0)))))
  case atStart => exact ⟨HB5, .inl ⟨by omega, rfl, rfl, rfl⟩⟩
  case round =>
    obtain ⟨HBe, hrel⟩ := hrel
    have hcr := (HBe.out.cell (p := ⟨g, 0, none⟩) l2).trans hc2
    rcases hrel with ⟨hk, rfl, rfl, rfl⟩ | ⟨A, cc, hk, rfl, rfl, rfl, HR⟩
    · obtain ⟨k1, rfl⟩ : ∃ k1, gk = k1 + 1 := ⟨gk - 1, by omega⟩
      go_wp2_with (first
        | (go_at_call 34; refine (HF.out _ HBe.out).mono ?_; rintro e w6 ⟨rfl, hb⟩; have HB6 := Aside0.mk (below_step HBe.out hb); clear hb)
        | (go_at_call 35; refine (HBL.out _).mono ?_; rintro e w7 ⟨v7, rfl, ho, hb⟩; obtain ⟨A7, c7, rfl⟩ := Kd.R_slice ho; have HO7 := Aside0.mk (Kd.R_lower ho HB6.out.size); have HB7 := Aside0.mk (below_step HB6.out hb); clear ho hb))
      go_roundg k1
      case measure => omega
      case rel => exact ⟨HB7, .inr ⟨A7, c7, by omega, by first | rfl | exact congrArg (Value.int .i64) (nx 0 (by omega)), rfl, rfl, HO7⟩⟩
    · go_wp2_with fail
      go_ret2
      exact ⟨_, rfl, HR.out, HBe.out⟩
end Go.Proofs.Ythimblhfjfngiaa.PText

namespace Go.Proofs.Ythimblhfjfngiaa.PText
open Go.RowKit Go.Lib Go.Proofs.YthimblhfjfngiaaW.PrintWords Go.Proofs.YthimblhfjfngiaaW.PrintLast Go.Proofs.YthimblhfjfngiaaW.PrintMore
set_option linter.unusedVariables false
set_option linter.unusedSimpArgs false
/-- two edits that do not go together -/
def meetE (x y : S59) : Bool := decide (x ≠ y) && (decide (x.f0 ≤ y.f1) && decide (y.f0 ≤ x.f1))
theorem meet_f (x y : S59) : past_meet.f x.f0 x.f1 x.f2 y.f0 y.f1 y.f2 = some (meetE x y) := by
  unfold past_meet.f meetE
  rw [neS34]
  by_cases c : x = y
  · rw [decide_eq_false (show ¬ x ≠ y from fun q => q c), if_neg (by decide)]; rfl
  · rw [decide_eq_true (show x ≠ y from c), if_pos rfl]
    by_cases c2 : x.f0 ≤ y.f1
    · rw [if_pos c2, decide_eq_true c2]; rfl
    · rw [if_neg c2, decide_eq_false c2]; rfl
theorem meet_pred (x : S59) (B : Nat) (w : World) (hB : B < w.heap.size) (h0 : w.cell? ⟨B, 0, none⟩ = some (.int .i64 x.f0)) (h1 : w.cell? ⟨B, 1, none⟩ = some (.int .i64 x.f1)) (h2 : w.cell? ⟨B, 2, none⟩ = some (.string x.f2)) :
    PredBelow Try.prog 25 #[.pointer (some ⟨B, 0, none⟩)] (fun y => .agg (enc34 y).toArray) (meetE x) w := fun W y hb => by
  have c0 : W.cell? ⟨B, 0, none⟩ = some (.int .i64 x.f0) := (hb.cell (p := ⟨B, 0, none⟩) hB).trans h0
  have c1 : W.cell? ⟨B, 1, none⟩ = some (.int .i64 x.f1) := (hb.cell (p := ⟨B, 1, none⟩) hB).trans h1
  have c2 : W.cell? ⟨B, 2, none⟩ = some (.string x.f2) := (hb.cell (p := ⟨B, 2, none⟩) hB).trans h2
  have hm := Aside0.mk (fun W' => past_meet.calls x.f0 x.f1 x.f2 y.f0 y.f1 y.f2 (meetE x y) W' (meet_f x y))
  have hu34 := Try.underlying59
  have HB := Aside0.mk hb
  have hBW : B < W.heap.size := Nat.lt_of_lt_of_le hB hb.size
  clear hb h0 h1 h2
  show Calls Try.prog 25 #[.agg #[.int .i64 y.f0, .int .i64 y.f1, .string y.f2], .pointer (some ⟨B, 0, none⟩)] W _
  go_enter Try.func25, Try.ntmps25
  go_wp2_with (go_at_call 26; refine (hm.out _).mono ?_; rintro e w2 ⟨rfl, hb2⟩)
  go_ret
  exact ⟨rfl, (HB.out.alloc HB.out.size _).trans (hb2.mono (by have := HB.out.size; simp; omega))⟩
theorem contains_meet (x : S59) (A1 : Option Addr) (c1 B : Nat) (l1 : List S59) (w : World) (hC : Kd.C k59 w A1 l1.length l1) (hB : B < w.heap.size) (h0 : w.cell? ⟨B, 0, none⟩ = some (.int .i64 x.f0)) (h1 : w.cell? ⟨B, 1, none⟩ = some (.int .i64 x.f1)) (h2 : w.cell? ⟨B, 2, none⟩ = some (.string x.f2)) (hl : l1.length ≤ 10000) :
    Calls Try.prog 24 #[.slice A1 l1.length c1, .func (.func 25) #[] #[.pointer (some ⟨B, 0, none⟩)]] w fun e w' => e = .returned (.bool (l1.any (meetE x))) ∧ Below w.heap.size w w' := by
  by_cases hp : l1.length = 0
  · obtain rfl := List.eq_nil_of_length_eq_zero hp
    exact contains_empty A1 c1 25 _ w
  · obtain ⟨b, o, rfl, hb, hc⟩ := C_addr34 hC (by omega)
    have eg : ∀ args w, (callFunc 25 args).run Try.prog w = .ok (.enter 25 args) w := enters_of Try.func25 (by kernel_rfl) rfl
    have h := AnyQ.slices_ContainsFunc Try.containsEd 3 isAgg34 sizeOf34 enc34 enc34_len (meetE x) 25 #[.pointer (some ⟨B, 0, none⟩)] eg b o l1.length c1 l1 w (meet_pred x B w hB h0 h1 h2) (Nat.le_refl _) (by omega) hb hc
    rw [List.take_length] at h
    exact h
/-- three texts merged: what it answers, but for the making of the edits -/
def past_Three.f (b a c : ByteArray) : Option (ByteArray × Int) :=
  if b.size ≤ 1000000000 ∧ a.size ≤ 1000000000 ∧ c.size ≤ 1000000000 then
    (if (editsR b a).2 ≠ 0 then some (⟨#[]⟩, (editsR b a).2) else if (editsR b c).2 ≠ 0 then some (⟨#[]⟩, (editsR b c).2)
     else if (editsR b a).1.any (fun i => (editsR b c).1.any (meetE i)) = true then some (⟨#[]⟩, 250)
     else if (mergeR b.size (editsR b a).1 (editsR b c).1).2 ≠ 0 then some (⟨#[]⟩, 250)
     else (text_Apply.f b (mergeR b.size (editsR b a).1 (editsR b c).1).1).bind fun q => some (if q.2 = 0 then (q.1, 0) else (⟨#[]⟩, q.2)))
  else none
theorem both_f (b a c : ByteArray) (hb : b.size ≤ 1000000000) (ha : a.size ≤ 1000000000) (hc : c.size ≤ 1000000000) (k : Nat) (hk : 5000000 ≤ k) :
    past_both.f k b a c = some (if (editsR b a).2 ≠ 0 then ([], [], (editsR b a).2) else if (editsR b c).2 ≠ 0 then ([], [], (editsR b c).2) else ((editsR b a).1, (editsR b c).1, 0)) := by
  unfold past_both.f
  rw [edits_f b a hb ha k hk, Option.bind_some]
  by_cases h1 : (editsR b a).2 = 0
  · rw [if_pos h1, if_neg (fun q => q h1), edits_f b c hb hc k hk, Option.bind_some]
    by_cases h2 : (editsR b c).2 = 0
    · rw [if_pos h2, if_neg (fun q => q h2)]
    · rw [if_neg h2, if_pos h2]
  · rw [if_neg h1, if_pos h1]
set_option maxHeartbeats 8000000 in
set_option maxRecDepth 100000 in
theorem past_Three.calls (b a c : ByteArray) (r1 : ByteArray) (r2 : Int) (w : World) (h : past_Three.f b a c = some (r1, r2)) :
    Calls Try.prog 6 #[.string b, .string a, .string c] w fun e w' => e = .returned (.tuple #[.string r1, .int .i64 r2]) ∧ Below w.heap.size w w' := by
  unfold past_Three.f at h
  by_cases hs : b.size ≤ 1000000000 ∧ a.size ≤ 1000000000 ∧ c.size ≤ 1000000000
  · rw [if_pos hs] at h
    have hb := both_f b a c hs.1 hs.2.1 hs.2.2 5000000 (Nat.le_refl _)
    have L1 := Aside0.mk (editsR_len b a)
    have L2 := Aside0.mk (editsR_len b c)
    by_cases h1 : (editsR b a).2 ≠ 0
    · rw [if_pos h1] at h hb
      have HB := Aside0.mk (past_both.calls 5000000 b a c _ _ _ w hb)
      have h' := Option.some.inj h
      have hr : r1 = ⟨#[]⟩ ∧ r2 = (editsR b a).2 := ⟨(congrArg Prod.fst h').symm, (congrArg Prod.snd h').symm⟩
      obtain ⟨rfl, rfl⟩ := hr
      clear h h' hb hs
      have b1 : ((editsR b a).2 != 0) = true := by simpa using h1
      have b2 : ((editsR b a).2 == 0) = false := by simpa using h1
      generalize (editsR b a).2 = fe at *
      clear h1
      go_enter Try.func6, Try.ntmps6
      go_wp2_with (go_at_call 23; refine HB.out.mono ?_; rintro e w2 ⟨v1, v2, rfl, -, -, hb⟩; have HB2 := Aside0.mk hb; clear hb HB)
      go_ret2
      exact ⟨rfl, HB2.out⟩
    · rw [if_neg h1] at h hb
      by_cases h2 : (editsR b c).2 ≠ 0
      · rw [if_pos h2] at h hb
        have HB := Aside0.mk (past_both.calls 5000000 b a c _ _ _ w hb)
        have h' := Option.some.inj h
        have hr : r1 = ⟨#[]⟩ ∧ r2 = (editsR b c).2 := ⟨(congrArg Prod.fst h').symm, (congrArg Prod.snd h').symm⟩
        obtain ⟨rfl, rfl⟩ := hr
        clear h h' hb hs h1
        have b1 : ((editsR b c).2 != 0) = true := by simpa using h2
        have b2 : ((editsR b c).2 == 0) = false := by simpa using h2
        generalize (editsR b c).2 = fe at *
        clear h2
        go_enter Try.func6, Try.ntmps6
        go_wp2_with (go_at_call 23; refine HB.out.mono ?_; rintro e w2 ⟨v1, v2, rfl, -, -, hb⟩; have HB2 := Aside0.mk hb; clear hb HB)
        go_ret2
        exact ⟨rfl, HB2.out⟩
      · rw [if_neg h2] at h hb
        have HB := Aside0.mk (past_both.calls 5000000 b a c _ _ _ w hb)
        have HBS := Aside0.mk hs
        clear hb h1 h2 hs
        generalize (editsR b a).1 = x at *
        generalize (editsR b c).1 = y at *
        have HH := Aside0.mk h
        clear h
        go_enter Try.func6, Try.ntmps6
        go_wp2_with (go_at_call 23; refine HB.out.mono ?_; rintro e w1 ⟨v1, v2, rfl, ho1, ho2, hb⟩; obtain ⟨A1, c1, rfl⟩ := Kd.R_slice ho1; obtain ⟨A2, c2, rfl⟩ := Kd.R_slice ho2; have HC1 := Aside0.mk (Kd.R_reads' ho1).2.2; have HL1 := Aside0.mk (Kd.R_reads' ho1).2.1; have HC2 := Aside0.mk (Kd.R_reads' ho2).2.2; have HL2 := Aside0.mk (Kd.R_reads' ho2).2.1; have HB2 := Aside0.mk hb; clear hb ho1 ho2 HB)
        go_loopg [28] (x.length + 1) (fun kq v28 w' => ∃ i : Nat, v28 = .int .i64 (i : Int) ∧ Aside0 (x.length - i < kq ∧ i ≤ x.length) ∧ Aside0 (Below w1.heap.size w1 w') ∧ Aside0 (∀ j, ∀ hj : j < x.length, j < i → y.any (meetE x[j]) = false))
        case atStart => exact ⟨0, rfl, ⟨by omega, by omega⟩, ⟨Below.refl _ _⟩, ⟨fun j hj h0 => by omega⟩⟩
        case round =>
          obtain ⟨i, rfl, HI, HBe, HN⟩ := hrel
          obtain ⟨k1, rfl⟩ : ∃ k1, gk = k1 + 1 := ⟨gk - 1, by have := HI.out.1; omega⟩
          by_cases hlt : i < x.length
          · have hb : decide ((i : Int) < (x.length : Int)) = true := by simp; omega
            have hb2 : decide ((0 : Int) ≤ (i : Int)) = true := by simp
            have p0 : (0 : Int) ≤ (i : Int) := by omega
            have q0 : (i : Int) < (x.length : Int) := by omega
            obtain ⟨ad, e0, hx0, hx1, hx2⟩ := at_T59 (Kd.C_below HC1.out HBe.out) (i : Int) p0 q0
            cases e0
            rw [Int.toNat_natCast] at hx0 hx1 hx2
            rw [rd34_at x i hlt] at hx0 hx1 hx2
            have HM : Aside0 (x.any (fun i => y.any (meetE i)) = true ∨ y.any (meetE x[i]) = false) := ⟨by
              cases hq : y.any (meetE x[i]) with
              | true => exact Or.inl (List.any_eq_true.2 ⟨x[i], List.getElem_mem hlt, hq⟩)
              | false => exact Or.inr rfl⟩
            have HN2 : Aside0 (y.any (meetE x[i]) = false → ∀ j, ∀ hj : j < x.length, j < i + 1 → y.any (meetE x[j]) = false) := ⟨fun hq j hj h0 => by
              by_cases e : j = i
              · subst e; exact hq
              · exact HN.out j hj (by omega)⟩
            have H24 := Aside0.mk (fun (w' : World) (h1 : Below w1.heap.size w1 w') (B : Nat) (h2 : B < w'.heap.size) (h3 : w'.cell? ⟨B, 0, none⟩ = some (.int .i64 x[i].f0)) (h4 : w'.cell? ⟨B, 1, none⟩ = some (.int .i64 x[i].f1)) (h5 : w'.cell? ⟨B, 2, none⟩ = some (.string x[i].f2)) =>
              contains_meet x[i] A2 c2 B y w' (Kd.C_below HC2.out h1) h2 h3 h4 h5 (by have := L2.out; omega))
            generalize x[i] = xi at *
            cases hq : y.any (meetE xi) with
            | true =>
              rw [hq] at H24
              have HR := HH.out
              rw [if_pos (by rcases HM.out with q | q; exact q; rw [hq] at q; cases q)] at HR
              have h' := Option.some.inj HR
              have hr : r1 = ⟨#[]⟩ ∧ r2 = 250 := ⟨(congrArg Prod.fst h').symm, (congrArg Prod.snd h').symm⟩
              obtain ⟨rfl, rfl⟩ := hr
              clear HR h' HH HM HN2 hq
              go_wp2_with (go_at_call 24; refine (H24.out _ ?za _ ?zb ?zc ?zd ?ze).mono ?_; (case za => exact HBe.out.alloc HBe.out.size _); (case zb => simp); (case zc => simp); (case zd => simp); (case ze => simp); rintro e w5 ⟨rfl, hb⟩; have HB5 := Aside0.mk ((HBe.out.alloc HBe.out.size (.cells #[.int .i64 xi.f0, .int .i64 xi.f1, .string xi.f2] 59)).trans (hb.mono (by have := HBe.out.size; simp; omega))); clear hb)
              go_ret2
              exact ⟨rfl, HB2.out.trans (HB5.out.mono HB2.out.size)⟩
            | false =>
              rw [hq] at H24
              have HN3 := Aside0.mk (HN2.out hq)
              clear HM HN2 hq
              go_wp2_with (go_at_call 24; refine (H24.out _ ?za _ ?zb ?zc ?zd ?ze).mono ?_; (case za => exact HBe.out.alloc HBe.out.size _); (case zb => simp); (case zc => simp); (case zd => simp); (case ze => simp); rintro e w5 ⟨rfl, hb⟩; have HB5 := Aside0.mk ((HBe.out.alloc HBe.out.size (.cells #[.int .i64 xi.f0, .int .i64 xi.f1, .string xi.f2] 59)).trans (hb.mono (by have := HBe.out.size; simp; omega))); clear hb)
              go_roundg k1
              case measure => have := HI.out.1; omega
              case rel => exact ⟨i + 1, congrArg (Value.int .i64) (nx i (by have := L1.out; omega)), ⟨by have := HI.out.1; omega, by omega⟩, HB5, HN3⟩
          · have hb : decide ((i : Int) < (x.length : Int)) = false := by simp; omega
            have hany : x.any (fun i => y.any (meetE i)) = false := by
              rw [List.any_eq_false]
              intro z hz
              obtain ⟨j, hj, rfl⟩ := List.mem_iff_getElem.1 hz
              rw [HN.out j hj (by omega)]; decide
            have HR := HH.out
            rw [if_neg (by rw [hany]; decide)] at HR
            have HWB := Aside0.mk (HB2.out.trans (HBe.out.mono HB2.out.size))
            have H27 := Aside0.mk (text_Merge.calls b A1 c1 x A2 c2 y (mergeR b.size x y).1 (mergeR b.size x y).2 wr (Kd.C_below HC1.out HBe.out) HL1.out (Kd.C_below HC2.out HBe.out) HL2.out (by unfold text_Merge.f; rw [if_pos (by have := L1.out; have := L2.out; omega)]))
            clear HH HN hany
            by_cases hm : (mergeR b.size x y).2 ≠ 0
            · rw [if_pos hm] at HR
              have h' := Option.some.inj HR
              have hr : r1 = ⟨#[]⟩ ∧ r2 = 250 := ⟨(congrArg Prod.fst h').symm, (congrArg Prod.snd h').symm⟩
              obtain ⟨rfl, rfl⟩ := hr
              clear HR h'
              have b1 : ((mergeR b.size x y).2 != 0) = true := by simpa using hm
              have b2 : ((mergeR b.size x y).2 == 0) = false := by simpa using hm
              generalize (mergeR b.size x y).2 = fe at *
              generalize (mergeR b.size x y).1 = ml at *
              clear hm
              go_wp2_with (go_at_call 27; refine H27.out.mono ?_; rintro e w5 ⟨v5, rfl, -, hb⟩; have HB5 := Aside0.mk (HWB.out.trans (hb.mono HWB.out.size)); clear hb H27)
              go_ret2
              exact ⟨rfl, HB5.out⟩
            · rw [if_neg hm] at HR
              have hm0 : (mergeR b.size x y).2 = 0 := Classical.not_not.1 hm
              rw [hm0] at H27
              generalize (mergeR b.size x y).1 = ml at *
              clear hm hm0
              obtain ⟨q, hq1, hq2⟩ := Option.bind_eq_some_iff.1 HR
              obtain ⟨s, e⟩ := q
              have H28 := Aside0.mk (fun A c w5 (h3 : Kd.C k59 w5 A ml.length ml) (h4 : ml.length ≤ c) => text_Apply.calls b A c ml s e w5 h3 h4 hq1)
              have h' := Option.some.inj hq2
              clear HR hq1 hq2
              by_cases he : e = 0
              · subst he
                rw [if_pos rfl] at h'
                have hr : r1 = s ∧ r2 = 0 := ⟨(congrArg Prod.fst h').symm, (congrArg Prod.snd h').symm⟩
                obtain ⟨rfl, rfl⟩ := hr
                clear h'
                go_wp2_with (first
                  | (go_at_call 27; refine H27.out.mono ?_; rintro e w5 ⟨v5, rfl, ho, hb⟩; obtain ⟨A5, c5, rfl⟩ := Kd.R_slice ho; have HC5 := Aside0.mk (Kd.R_reads' ho).2.2; have HL5 := Aside0.mk (Kd.R_reads' ho).2.1; have HB5 := Aside0.mk (HWB.out.trans (hb.mono HWB.out.size)); clear hb H27 ho)
                  | (go_at_call 28; refine (H28.out _ _ _ HC5.out HL5.out).mono ?_; rintro e w6 ⟨rfl, hb⟩; have HB6 := Aside0.mk (HB5.out.trans (hb.mono HB5.out.size)); clear hb H28))
                go_ret2
                exact ⟨rfl, HB6.out⟩
              · have he' : ¬ ((s, e) : ByteArray × Int).2 = 0 := he
                rw [if_neg he'] at h'
                have hr : r1 = ⟨#[]⟩ ∧ r2 = e := ⟨(congrArg Prod.fst h').symm, (congrArg Prod.snd h').symm⟩
                obtain ⟨rfl, rfl⟩ := hr
                clear h'
                have b1 : (r2 != 0) = true := by simpa using he
                have b2 : (r2 == 0) = false := by simpa using he
                clear he he'
                go_wp2_with (first
                  | (go_at_call 27; refine H27.out.mono ?_; rintro e w5 ⟨v5, rfl, ho, hb⟩; obtain ⟨A5, c5, rfl⟩ := Kd.R_slice ho; have HC5 := Aside0.mk (Kd.R_reads' ho).2.2; have HL5 := Aside0.mk (Kd.R_reads' ho).2.1; have HB5 := Aside0.mk (HWB.out.trans (hb.mono HWB.out.size)); clear hb H27 ho)
                  | (go_at_call 28; refine (H28.out _ _ _ HC5.out HL5.out).mono ?_; rintro e w6 ⟨rfl, hb⟩; have HB6 := Aside0.mk (HB5.out.trans (hb.mono HB5.out.size)); clear hb H28))
                go_ret2
                exact ⟨rfl, HB6.out⟩
  · rw [if_neg hs] at h; cases h
end Go.Proofs.Ythimblhfjfngiaa.PText

namespace Go.Proofs.Ythimblhfjfngiaa.PText
open Go.RowKit Go.Lib Go.Sort Go.Proofs.YthimblhfjfngiaaW.PrintWords Go.Proofs.YthimblhfjfngiaaW.PrintLast Go.Proofs.YthimblhfjfngiaaW.PrintMore
set_option linter.unusedVariables false
set_option linter.unusedSimpArgs false
theorem edits_k (a b : ByteArray) (r : List S59 × Int) (k : Nat) (hk : k ≤ 5000000) (h : text_Edits.f k a b = some r) : text_Edits.f 5000000 a b = some r := at_rounds (text_Edits.mono a b) hk h
theorem editsR_k (a b : ByteArray) (r : List S59 × Int) (k : Nat) (hk : k ≤ 5000000) (ha : a.size ≤ 1000000000) (hb : b.size ≤ 1000000000) (h : text_Edits.f k a b = some r) : editsR a b = r :=
  Option.some.inj ((edits_f a b ha hb 5000000 (Nat.le_refl _)).symm.trans (edits_k a b r k hk h))
def awA : ByteArray := ⟨#[97, 10, 98, 10, 99, 10]⟩
def awB : ByteArray := ⟨#[120, 10, 98, 10, 99, 10]⟩
def awC : ByteArray := ⟨#[97, 10, 98, 10, 121, 10]⟩
def awR : ByteArray := ⟨#[120, 10, 98, 10, 121, 10]⟩
theorem aw_e1 : text_Edits.f 60 awA awB = some ([⟨0, 2, ⟨#[120, 10]⟩⟩], 0) := by kernel_rfl
theorem aw_e2 : text_Edits.f 60 awA awC = some ([⟨4, 6, ⟨#[121, 10]⟩⟩], 0) := by kernel_rfl
theorem aw_e0 : text_Edits.f 60 ⟨#[]⟩ ⟨#[97, 10]⟩ = some ([⟨0, 0, ⟨#[97, 10]⟩⟩], 0) := by kernel_rfl
theorem aw_mg : mergeR 6 [⟨0, 2, ⟨#[120, 10]⟩⟩] [⟨4, 6, ⟨#[121, 10]⟩⟩] = ([⟨0, 2, ⟨#[120, 10]⟩⟩, ⟨4, 6, ⟨#[121, 10]⟩⟩], 0) := by kernel_rfl
theorem aw_ap : text_Apply.f awA [⟨0, 2, ⟨#[120, 10]⟩⟩, ⟨4, 6, ⟨#[121, 10]⟩⟩] = some (awR, 0) := by kernel_rfl
theorem aw_three : past_Three.f awA awB awC = some (awR, 0) := by
  have s1 : awA.size = 6 := rfl
  have s2 : awB.size = 6 := rfl
  have s3 : awC.size = 6 := rfl
  have h1 := editsR_k awA awB _ 60 (by omega) (by omega) (by omega) aw_e1
  have h2 := editsR_k awA awC _ 60 (by omega) (by omega) (by omega) aw_e2
  unfold past_Three.f
  rw [if_pos ⟨by omega, by omega, by omega⟩, h1, h2, s1, aw_mg]
  rw [if_neg (by decide), if_neg (by decide), if_neg (by decide), if_neg (by decide), aw_ap, Option.bind_some]
  rfl
theorem aw_put : putL [⟨0, 0, ⟨#[97, 10]⟩⟩] 0 = [0] := by kernel_rfl
def awF : S53 := ⟨⟨#[102]⟩, ⟨#[97, 10]⟩⟩
theorem aw_commit : commitR [] ⟨#[111, 110, 101]⟩ [awF] = (0, 0, [⟨⟨#[111, 110, 101]⟩, [awF]⟩]) := by
  have h : srtF [awF] = [awF] := by kernel_rfl
  unfold commitR
  rw [if_neg (by decide), if_neg (fun q => q (show ([_] : List _).Nodup by simp)), if_neg (by rintro ⟨x, hx, e⟩; rcases List.mem_cons.1 hx with rfl | h; exact absurd e (by rw [show awF.f0.toList = [102] by kernel_rfl]; decide); cases h), h]
  rfl
theorem aw_find : findR [awF] ⟨#[102]⟩ = (⟨#[97, 10]⟩, true) := by kernel_rfl
def smockinglaw25_awake.f : Option Bool := some true
theorem file_row (w : World) : Kd.C k53 (w.alloc (.cells #[.string ⟨#[102]⟩, .string ⟨#[97, 10]⟩] 53)) (some ⟨w.heap.size, 0, none⟩) 1 [awF] := by
  refine ⟨rfl, by simp, fun _ => ⟨⟨w.heap.size, 0, none⟩, rfl, fun j t hj => ?_⟩⟩
  have hj0 : j = 0 := by
    rcases Nat.eq_zero_or_pos j with h | h
    · exact h
    · rw [List.getElem?_eq_none (by simp; omega)] at hj; cases hj
  subst hj0
  cases Option.some.inj hj
  refine ⟨[.string ⟨#[102]⟩, .string ⟨#[97, 10]⟩], rfl, k53_mk _ _, fun i u hu => ?_⟩
  have hi : (w.alloc (.cells #[.string ⟨#[102]⟩, .string ⟨#[97, 10]⟩] 53)).cell? ⟨w.heap.size, i, none⟩ = some u := by
    unfold World.cell?
    simp only [heap_nw]
    match i, hu with
    | 0, hu => exact hu
    | 1, hu => exact hu
    | i + 2, hu => simp at hu
  have e : (Addr.add ⟨w.heap.size, 0, none⟩ (0 * k53.sz + i)) = (⟨w.heap.size, i, none⟩ : Addr) := by unfold Addr.add; simp; exact fun q => q.symm
  rw [e]
  exact hi
theorem int_row (w : World) (k : Int) : Kd.C (Kd.int .i64) (w.alloc (.cells #[.int .i64 k] 3)) (some ⟨w.heap.size, 0, none⟩) 1 [k] := by
  refine ⟨rfl, by simp, fun _ => ⟨⟨w.heap.size, 0, none⟩, rfl, fun j t hj => ?_⟩⟩
  have hj0 : j = 0 := by
    rcases Nat.eq_zero_or_pos j with h | h
    · exact h
    · rw [List.getElem?_eq_none (by simp; omega)] at hj; cases hj
  subst hj0
  cases Option.some.inj hj
  refine ⟨[.int .i64 k], rfl, rfl, fun i u hu => ?_⟩
  have hi : (w.alloc (.cells #[.int .i64 k] 3)).cell? ⟨w.heap.size, i, none⟩ = some u := by
    unfold World.cell?
    simp only [heap_nw]
    match i, hu with
    | 0, hu => exact hu
    | i + 1, hu => simp at hu
  have e : (Addr.add ⟨w.heap.size, 0, none⟩ (0 * (Kd.int .i64).sz + i)) = (⟨w.heap.size, i, none⟩ : Addr) := by unfold Addr.add; simp; exact fun q => q.symm
  rw [e]
  exact hi
theorem aw_ints : rf0_EqInts.f 10 [0] [0] = some true := by kernel_rfl
set_option maxRecDepth 100000 in
set_option maxHeartbeats 4000000 in
theorem smockinglaw25_awake.calls (r : Bool) (w : World) (h : smockinglaw25_awake.f = some r) : Calls Try.prog 11 #[] w fun e w' => e = .returned (.bool r) ∧ Below w.heap.size w w' := by
  cases Option.some.inj h
  have H3 := Aside0.mk (fun w => past_Three.calls awA awB awC _ _ w aw_three)
  have HBL := Aside0.mk (fun base p w hP => blame_one base p ⟨⟨#[111, 110, 101]⟩, [awF]⟩ ⟨#[102]⟩ _ _ w hP (by simp) aw_find (edits_k _ _ _ 60 (by omega) aw_e0) (by
    intro x hx
    rcases List.mem_cons.1 hx with rfl | h
    · exact ⟨rfl, rfl, by show 2 ≤ 1000000000; omega⟩
    · cases h) (by simp) (by rw [aw_put]; simp))
  unfold awA awB awC awR at H3
  go_enter Try.func11, Try.ntmps11
  go_wp2_with (first
    | (go_at_call 6; refine (H3.out _).mono ?_; rintro e w1 ⟨rfl, hb⟩; have HB1 := Aside0.mk hb; clear hb H3)
    | (go_at_call 32; refine (new_calls _).mono ?_; rintro e w2 ⟨rfl, hp, hb, hk⟩; have HP2 := Aside0.mk hp; have HB2 := Aside0.mk (below_step HB1.out hb); have HBB := Aside0.mk hb.size; clear hp hb hk)
    | (go_at_call 21; refine (commit_calls w1.heap.size w1.heap.size [] ⟨#[111, 110, 101]⟩ (some ⟨w2.heap.size, 0, none⟩) 1 [awF] _ (HP2.out.below (Below.alloc (Below.refl _ w2) (Nat.le_refl _) _)) (file_row w2) (by simp) (by simp) (by have := HBB.out; simp; omega)).mono ?_; rintro e w3 ⟨rfl, hp, hb, hk⟩; rw [aw_commit] at hp; have HP3 := Aside0.mk hp; have HB3 := Aside0.mk ((HB2.out.alloc HB2.out.size _).trans (hb.mono HB1.out.size)); clear hp hb hk; rw [aw_commit])
    | (go_at_call 19; refine (HBL.out w1.heap.size w1.heap.size w3 HP3.out).mono ?_; rintro e w4 ⟨v4, rfl, ho, hb⟩; rw [aw_put] at ho; obtain ⟨A4, c4, rfl⟩ := Kd.R_slice ho; have HO4 := Aside0.mk (Kd.R_reads' ho); have HB4 := Aside0.mk (below_step HB3.out hb); clear ho hb)
    | (go_at_call 22; refine (rf0_EqInts.calls 10 A4 c4 [0] (some ⟨w4.heap.size, 0, none⟩) 1 [0] true _ (Kd.C_alloc HO4.out.2.2 _) HO4.out.2.1 (int_row w4 0) (by simp) aw_ints).mono ?_; rintro e w5 ⟨rfl, hd⟩; have HD5 := Aside0.mk hd; clear hd))
  go_ret
  exact ⟨rfl, (HB4.out.alloc HB4.out.size _).trans (HD5.out.below.mono (by have := HB4.out.size; simp; omega))⟩
end Go.Proofs.Ythimblhfjfngiaa.PText

