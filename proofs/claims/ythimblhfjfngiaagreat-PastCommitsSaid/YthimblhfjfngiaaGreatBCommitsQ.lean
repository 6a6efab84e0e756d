/- PastCommits holds: for all steps and every number the statement answers true. Part 17 of 20. -/
import Derived.Test.YthimblhfjfngiaaGreatBCommitsP
namespace Go.Proofs.YthimblhfjfngiaaGreat.PText
open Go.RowKit Go.Lib Go.Proofs.YthimblhfjfngiaaGreatW.PrintWords Go.Proofs.YthimblhfjfngiaaGreatW.PrintLast Go.Proofs.YthimblhfjfngiaaGreatW.PrintMore
set_option linter.unusedVariables false
set_option linter.unusedSimpArgs false
/-- two edits that do not go together -/
def meetE (x y : S91) : Bool := decide (x ≠ y) && (decide (x.f0 ≤ y.f1) && decide (y.f0 ≤ x.f1))
theorem meet_f (x y : S91) : past_meet.f x.f0 x.f1 x.f2 y.f0 y.f1 y.f2 = some (meetE x y) := by
  unfold past_meet.f meetE
  rw [neS34]
  by_cases c : x = y
  · rw [decide_eq_false (show ¬ x ≠ y from fun q => q c), if_neg (by decide)]; rfl
  · rw [decide_eq_true (show x ≠ y from c), if_pos rfl]
    by_cases c2 : x.f0 ≤ y.f1
    · rw [if_pos c2, decide_eq_true c2]; rfl
    · rw [if_neg c2, decide_eq_false c2]; rfl
theorem meet_pred (x : S91) (B : Nat) (w : World) (hB : B < w.heap.size) (h0 : w.cell? ⟨B, 0, none⟩ = some (.int .i64 x.f0)) (h1 : w.cell? ⟨B, 1, none⟩ = some (.int .i64 x.f1)) (h2 : w.cell? ⟨B, 2, none⟩ = some (.string x.f2)) :
    PredBelow Tryz.prog 59 #[.pointer (some ⟨B, 0, none⟩)] (fun y => .agg (enc34 y).toArray) (meetE x) w := fun W y hb => by
  have c0 : W.cell? ⟨B, 0, none⟩ = some (.int .i64 x.f0) := (hb.cell (p := ⟨B, 0, none⟩) hB).trans h0
  have c1 : W.cell? ⟨B, 1, none⟩ = some (.int .i64 x.f1) := (hb.cell (p := ⟨B, 1, none⟩) hB).trans h1
  have c2 : W.cell? ⟨B, 2, none⟩ = some (.string x.f2) := (hb.cell (p := ⟨B, 2, none⟩) hB).trans h2
  have hm := Aside0.mk (fun W' => past_meet.calls x.f0 x.f1 x.f2 y.f0 y.f1 y.f2 (meetE x y) W' (meet_f x y))
  have hu34 := Tryz.underlying91
  have HB := Aside0.mk hb
  have hBW : B < W.heap.size := Nat.lt_of_lt_of_le hB hb.size
  clear hb h0 h1 h2
  show Calls Tryz.prog 59 #[.agg #[.int .i64 y.f0, .int .i64 y.f1, .string y.f2], .pointer (some ⟨B, 0, none⟩)] W _
  go_enter Tryz.func59, Tryz.ntmps59
  go_wp2_with (go_at_call 60; refine (hm.out _).mono ?_; rintro e w2 ⟨rfl, hb2⟩)
  go_ret
  exact ⟨rfl, (HB.out.alloc HB.out.size _).trans (hb2.mono (by have := HB.out.size; simp; omega))⟩
theorem contains_meet (x : S91) (A1 : Option Addr) (c1 B : Nat) (l1 : List S91) (w : World) (hC : Kd.C k91 w A1 l1.length l1) (hB : B < w.heap.size) (h0 : w.cell? ⟨B, 0, none⟩ = some (.int .i64 x.f0)) (h1 : w.cell? ⟨B, 1, none⟩ = some (.int .i64 x.f1)) (h2 : w.cell? ⟨B, 2, none⟩ = some (.string x.f2)) (hl : l1.length ≤ 10000) :
    Calls Tryz.prog 58 #[.slice A1 l1.length c1, .func (.func 59) #[] #[.pointer (some ⟨B, 0, none⟩)]] w fun e w' => e = .returned (.bool (l1.any (meetE x))) ∧ Below w.heap.size w w' := by
  by_cases hp : l1.length = 0
  · obtain rfl := List.eq_nil_of_length_eq_zero hp
    exact contains_empty A1 c1 59 _ w
  · obtain ⟨b, o, rfl, hb, hc⟩ := C_addr34 hC (by omega)
    have eg : ∀ args w, (callFunc 59 args).run Tryz.prog w = .ok (.enter 59 args) w := enters_of Tryz.func59 (by kernel_rfl) rfl
    have h := AnyQ.slices_ContainsFunc Tryz.containsEd 3 isAgg34 sizeOf34 enc34 enc34_len (meetE x) 59 #[.pointer (some ⟨B, 0, none⟩)] eg b o l1.length c1 l1 w (meet_pred x B w hB h0 h1 h2) (Nat.le_refl _) (by omega) hb hc
    rw [List.take_length] at h
    exact h
/-- three texts merged: what it answers, but for the making of the edits -/
def past_Three.f (b a c : ByteArray) : Option (ByteArray × Int) :=
  if b.size ≤ 1000000000 ∧ a.size ≤ 1000000000 ∧ c.size ≤ 1000000000 then
    (if (editsR b a).2 ≠ 0 then some (⟨#[]⟩, (editsR b a).2) else if (editsR b c).2 ≠ 0 then some (⟨#[]⟩, (editsR b c).2)
     else if (editsR b a).1.any (fun i => (editsR b c).1.any (meetE i)) = true then some (⟨#[]⟩, 250)
     else if (mergeR b.size (editsR b a).1 (editsR b c).1).2 ≠ 0 then some (⟨#[]⟩, 250)
     else (text_Apply.f b (mergeR b.size (editsR b a).1 (editsR b c).1).1).bind fun q => some (if q.2 = 0 then (q.1, 0) else (⟨#[]⟩, q.2)))
  else none
theorem both_f (b a c : ByteArray) (hb : b.size ≤ 1000000000) (ha : a.size ≤ 1000000000) (hc : c.size ≤ 1000000000) (k : Nat) (hk : 5000000 ≤ k) :
    past_both.f k b a c = some (if (editsR b a).2 ≠ 0 then ([], [], (editsR b a).2) else if (editsR b c).2 ≠ 0 then ([], [], (editsR b c).2) else ((editsR b a).1, (editsR b c).1, 0)) := by
  unfold past_both.f
  rw [edits_f b a hb ha k hk, Option.bind_some]
  by_cases h1 : (editsR b a).2 = 0
  · rw [if_pos h1, if_neg (fun q => q h1), edits_f b c hb hc k hk, Option.bind_some]
    by_cases h2 : (editsR b c).2 = 0
    · rw [if_pos h2, if_neg (fun q => q h2)]
    · rw [if_neg h2, if_pos h2]
  · rw [if_neg h1, if_pos h1]
set_option maxHeartbeats 8000000 in
set_option maxRecDepth 100000 in
theorem past_Three.calls (b a c : ByteArray) (r1 : ByteArray) (r2 : Int) (w : World) (h : past_Three.f b a c = some (r1, r2)) :
    Calls Tryz.prog 38 #[.string b, .string a, .string c] w fun e w' => e = .returned (.tuple #[.string r1, .int .i64 r2]) ∧ Below w.heap.size w w' := by
  unfold past_Three.f at h
  by_cases hs : b.size ≤ 1000000000 ∧ a.size ≤ 1000000000 ∧ c.size ≤ 1000000000
  · rw [if_pos hs] at h
    have hb := both_f b a c hs.1 hs.2.1 hs.2.2 5000000 (Nat.le_refl _)
    have L1 := Aside0.mk (editsR_len b a)
    have L2 := Aside0.mk (editsR_len b c)
    by_cases h1 : (editsR b a).2 ≠ 0
    · rw [if_pos h1] at h hb
      have HB := Aside0.mk (past_both.calls 5000000 b a c _ _ _ w hb)
      have h' := Option.some.inj h
      have hr : r1 = ⟨#[]⟩ ∧ r2 = (editsR b a).2 := ⟨(congrArg Prod.fst h').symm, (congrArg Prod.snd h').symm⟩
      obtain ⟨rfl, rfl⟩ := hr
      clear h h' hb hs
      have b1 : ((editsR b a).2 != 0) = true := by simpa using h1
      have b2 : ((editsR b a).2 == 0) = false := by simpa using h1
      generalize (editsR b a).2 = fe at *
      clear h1
      go_enter Tryz.func38, Tryz.ntmps38
      go_wp2_with (go_at_call 57; refine HB.out.mono ?_; rintro e w2 ⟨v1, v2, rfl, -, -, hb⟩; have HB2 := Aside0.mk hb; clear hb HB)
      go_ret2
      exact ⟨rfl, HB2.out⟩
    · rw [if_neg h1] at h hb
      by_cases h2 : (editsR b c).2 ≠ 0
      · rw [if_pos h2] at h hb
        have HB := Aside0.mk (past_both.calls 5000000 b a c _ _ _ w hb)
        have h' := Option.some.inj h
        have hr : r1 = ⟨#[]⟩ ∧ r2 = (editsR b c).2 := ⟨(congrArg Prod.fst h').symm, (congrArg Prod.snd h').symm⟩
        obtain ⟨rfl, rfl⟩ := hr
        clear h h' hb hs h1
        have b1 : ((editsR b c).2 != 0) = true := by simpa using h2
        have b2 : ((editsR b c).2 == 0) = false := by simpa using h2
        generalize (editsR b c).2 = fe at *
        clear h2
        go_enter Tryz.func38, Tryz.ntmps38
        go_wp2_with (go_at_call 57; refine HB.out.mono ?_; rintro e w2 ⟨v1, v2, rfl, -, -, hb⟩; have HB2 := Aside0.mk hb; clear hb HB)
        go_ret2
        exact ⟨rfl, HB2.out⟩
      · rw [if_neg h2] at h hb
        have HB := Aside0.mk (past_both.calls 5000000 b a c _ _ _ w hb)
        have HBS := Aside0.mk hs
        clear hb h1 h2 hs
        generalize (editsR b a).1 = x at *
        generalize (editsR b c).1 = y at *
        have HH := Aside0.mk h
        clear h
        go_enter Tryz.func38, Tryz.ntmps38
        go_wp2_with (go_at_call 57; refine HB.out.mono ?_; rintro e w1 ⟨v1, v2, rfl, ho1, ho2, hb⟩; obtain ⟨A1, c1, rfl⟩ := Kd.R_slice ho1; obtain ⟨A2, c2, rfl⟩ := Kd.R_slice ho2; have HC1 := Aside0.mk (Kd.R_reads' ho1).2.2; have HL1 := Aside0.mk (Kd.R_reads' ho1).2.1; have HC2 := Aside0.mk (Kd.R_reads' ho2).2.2; have HL2 := Aside0.mk (Kd.R_reads' ho2).2.1; have HB2 := Aside0.mk hb; clear hb ho1 ho2 HB)
        go_loopg [28] (x.length + 1) (fun kq v28 w' => ∃ i : Nat, v28 = .int .i64 (i : Int) ∧ Aside0 (x.length - i < kq ∧ i ≤ x.length) ∧ Aside0 (Below w1.heap.size w1 w') ∧ Aside0 (∀ j, ∀ hj : j < x.length, j < i → y.any (meetE x[j]) = false))
        case atStart => exact ⟨0, rfl, ⟨by omega, by omega⟩, ⟨Below.refl _ _⟩, ⟨fun j hj h0 => by omega⟩⟩
        case round =>
          obtain ⟨i, rfl, HI, HBe, HN⟩ := hrel
          obtain ⟨k1, rfl⟩ : ∃ k1, gk = k1 + 1 := ⟨gk - 1, by have := HI.out.1; omega⟩
          by_cases hlt : i < x.length
          · have hb : decide ((i : Int) < (x.length : Int)) = true := by simp; omega
            have hb2 : decide ((0 : Int) ≤ (i : Int)) = true := by simp
            have p0 : (0 : Int) ≤ (i : Int) := by omega
            have q0 : (i : Int) < (x.length : Int) := by omega
            obtain ⟨ad, e0, hx0, hx1, hx2⟩ := at_T91 (Kd.C_below HC1.out HBe.out) (i : Int) p0 q0
            cases e0
            rw [Int.toNat_natCast] at hx0 hx1 hx2
            rw [rd34_at x i hlt] at hx0 hx1 hx2
            have HM : Aside0 (x.any (fun i => y.any (meetE i)) = true ∨ y.any (meetE x[i]) = false) := ⟨by
              cases hq : y.any (meetE x[i]) with
              | true => exact Or.inl (List.any_eq_true.2 ⟨x[i], List.getElem_mem hlt, hq⟩)
              | false => exact Or.inr rfl⟩
            have HN2 : Aside0 (y.any (meetE x[i]) = false → ∀ j, ∀ hj : j < x.length, j < i + 1 → y.any (meetE x[j]) = false) := ⟨fun hq j hj h0 => by
              by_cases e : j = i
              · subst e; exact hq
              · exact HN.out j hj (by omega)⟩
            have H24 := Aside0.mk (fun (w' : World) (h1 : Below w1.heap.size w1 w') (B : Nat) (h2 : B < w'.heap.size) (h3 : w'.cell? ⟨B, 0, none⟩ = some (.int .i64 x[i].f0)) (h4 : w'.cell? ⟨B, 1, none⟩ = some (.int .i64 x[i].f1)) (h5 : w'.cell? ⟨B, 2, none⟩ = some (.string x[i].f2)) =>
              contains_meet x[i] A2 c2 B y w' (Kd.C_below HC2.out h1) h2 h3 h4 h5 (by have := L2.out; omega))
            generalize x[i] = xi at *
            cases hq : y.any (meetE xi) with
            | true =>
              rw [hq] at H24
              have HR := HH.out
              rw [if_pos (by rcases HM.out with q | q; exact q; rw [hq] at q; cases q)] at HR
              have h' := Option.some.inj HR
              have hr : r1 = ⟨#[]⟩ ∧ r2 = 250 := ⟨(congrArg Prod.fst h').symm, (congrArg Prod.snd h').symm⟩
              obtain ⟨rfl, rfl⟩ := hr
              clear HR h' HH HM HN2 hq
              go_wp2_with (go_at_call 58; refine (H24.out _ ?za _ ?zb ?zc ?zd ?ze).mono ?_; (case za => exact HBe.out.alloc HBe.out.size _); (case zb => simp); (case zc => simp); (case zd => simp); (case ze => simp); rintro e w5 ⟨rfl, hb⟩; have HB5 := Aside0.mk ((HBe.out.alloc HBe.out.size (.cells #[.int .i64 xi.f0, .int .i64 xi.f1, .string xi.f2] 91)).trans (hb.mono (by have := HBe.out.size; simp; omega))); clear hb)
              go_ret2
              exact ⟨rfl, HB2.out.trans (HB5.out.mono HB2.out.size)⟩
            | false =>
              rw [hq] at H24
              have HN3 := Aside0.mk (HN2.out hq)
              clear HM HN2 hq
              go_wp2_with (go_at_call 58; refine (H24.out _ ?za _ ?zb ?zc ?zd ?ze).mono ?_; (case za => exact HBe.out.alloc HBe.out.size _); (case zb => simp); (case zc => simp); (case zd => simp); (case ze => simp); rintro e w5 ⟨rfl, hb⟩; have HB5 := Aside0.mk ((HBe.out.alloc HBe.out.size (.cells #[.int .i64 xi.f0, .int .i64 xi.f1, .string xi.f2] 91)).trans (hb.mono (by have := HBe.out.size; simp; omega))); clear hb)
              go_roundg k1
              case measure => have := HI.out.1; omega
              case rel => exact ⟨i + 1, congrArg (Value.int .i64) (nx i (by have := L1.out; omega)), ⟨by have := HI.out.1; omega, by omega⟩, HB5, HN3⟩
          · have hb : decide ((i : Int) < (x.length : Int)) = false := by simp; omega
            have hany : x.any (fun i => y.any (meetE i)) = false := by
              rw [List.any_eq_false]
              intro z hz
              obtain ⟨j, hj, rfl⟩ := List.mem_iff_getElem.1 hz
              rw [HN.out j hj (by omega)]; decide
            have HR := HH.out
            rw [if_neg (by rw [hany]; decide)] at HR
            have HWB := Aside0.mk (HB2.out.trans (HBe.out.mono HB2.out.size))
            have H27 := Aside0.mk (text_Merge.calls b A1 c1 x A2 c2 y (mergeR b.size x y).1 (mergeR b.size x y).2 wr (Kd.C_below HC1.out HBe.out) HL1.out (Kd.C_below HC2.out HBe.out) HL2.out (by unfold text_Merge.f; rw [if_pos (by have := L1.out; have := L2.out; omega)]))
            clear HH HN hany
            by_cases hm : (mergeR b.size x y).2 ≠ 0
            · rw [if_pos hm] at HR
              have h' := Option.some.inj HR
              have hr : r1 = ⟨#[]⟩ ∧ r2 = 250 := ⟨(congrArg Prod.fst h').symm, (congrArg Prod.snd h').symm⟩
              obtain ⟨rfl, rfl⟩ := hr
              clear HR h'
              have b1 : ((mergeR b.size x y).2 != 0) = true := by simpa using hm
              have b2 : ((mergeR b.size x y).2 == 0) = false := by simpa using hm
              generalize (mergeR b.size x y).2 = fe at *
              generalize (mergeR b.size x y).1 = ml at *
              clear hm
              go_wp2_with (go_at_call 61; refine H27.out.mono ?_; rintro e w5 ⟨v5, rfl, -, hb⟩; have HB5 := Aside0.mk (HWB.out.trans (hb.mono HWB.out.size)); clear hb H27)
              go_ret2
              exact ⟨rfl, HB5.out⟩
            · rw [if_neg hm] at HR
              have hm0 : (mergeR b.size x y).2 = 0 := Classical.not_not.1 hm
              rw [hm0] at H27
              generalize (mergeR b.size x y).1 = ml at *
              clear hm hm0
              obtain ⟨q, hq1, hq2⟩ := Option.bind_eq_some_iff.1 HR
              obtain ⟨s, e⟩ := q
              have H28 := Aside0.mk (fun A c w5 (h3 : Kd.C k91 w5 A ml.length ml) (h4 : ml.length ≤ c) => text_Apply.calls b A c ml s e w5 h3 h4 hq1)
              have h' := Option.some.inj hq2
              clear HR hq1 hq2
              by_cases he : e = 0
              · subst he
                rw [if_pos rfl] at h'
                have hr : r1 = s ∧ r2 = 0 := ⟨(congrArg Prod.fst h').symm, (congrArg Prod.snd h').symm⟩
                obtain ⟨rfl, rfl⟩ := hr
                clear h'
                go_wp2_with (first
                  | (go_at_call 61; refine H27.out.mono ?_; rintro e w5 ⟨v5, rfl, ho, hb⟩; obtain ⟨A5, c5, rfl⟩ := Kd.R_slice ho; have HC5 := Aside0.mk (Kd.R_reads' ho).2.2; have HL5 := Aside0.mk (Kd.R_reads' ho).2.1; have HB5 := Aside0.mk (HWB.out.trans (hb.mono HWB.out.size)); clear hb H27 ho)
                  | (go_at_call 62; refine (H28.out _ _ _ HC5.out HL5.out).mono ?_; rintro e w6 ⟨rfl, hb⟩; have HB6 := Aside0.mk (HB5.out.trans (hb.mono HB5.out.size)); clear hb H28))
                go_ret2
                exact ⟨rfl, HB6.out⟩
              · have he' : ¬ ((s, e) : ByteArray × Int).2 = 0 := he
                rw [if_neg he'] at h'
                have hr : r1 = ⟨#[]⟩ ∧ r2 = e := ⟨(congrArg Prod.fst h').symm, (congrArg Prod.snd h').symm⟩
                obtain ⟨rfl, rfl⟩ := hr
                clear h'
                have b1 : (r2 != 0) = true := by simpa using he
                have b2 : (r2 == 0) = false := by simpa using he
                clear he he'
                go_wp2_with (first
                  | (go_at_call 61; refine H27.out.mono ?_; rintro e w5 ⟨v5, rfl, ho, hb⟩; obtain ⟨A5, c5, rfl⟩ := Kd.R_slice ho; have HC5 := Aside0.mk (Kd.R_reads' ho).2.2; have HL5 := Aside0.mk (Kd.R_reads' ho).2.1; have HB5 := Aside0.mk (HWB.out.trans (hb.mono HWB.out.size)); clear hb H27 ho)
                  | (go_at_call 62; refine (H28.out _ _ _ HC5.out HL5.out).mono ?_; rintro e w6 ⟨rfl, hb⟩; have HB6 := Aside0.mk (HB5.out.trans (hb.mono HB5.out.size)); clear hb H28))
                go_ret2
                exact ⟨rfl, HB6.out⟩
  · rw [if_neg hs] at h; cases h
end Go.Proofs.YthimblhfjfngiaaGreat.PText

namespace Go.Proofs.YthimblhfjfngiaaGreat.PText
open Go.RowKit Go.Lib Go.Proofs.YthimblhfjfngiaaGreatW.PrintWords Go.Proofs.YthimblhfjfngiaaGreatW.PrintLast Go.Proofs.YthimblhfjfngiaaGreatW.PrintMore
set_option linter.unusedVariables false
set_option linter.unusedSimpArgs false
end Go.Proofs.YthimblhfjfngiaaGreat.PText

namespace Go.Proofs.YthimblhfjfngiaaGreat.PText
open Go.RowKit Go.Lib Go.Proofs.YthimblhfjfngiaaGreatW.PrintWords Go.Proofs.YthimblhfjfngiaaGreatW.PrintLast Go.Proofs.YthimblhfjfngiaaGreatW.PrintMore
end Go.Proofs.YthimblhfjfngiaaGreat.PText

