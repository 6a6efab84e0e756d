/- PastCommits holds: for all steps and every number the statement answers true. Part 18 of 20. -/
import Derived.Test.YthimblhfjfngiaaGreatBCommitsQ
namespace Go.Proofs.YthimblhfjfngiaaGreat.PText
open Go.RowKit Go.Lib Go.Sort Go.Proofs.YthimblhfjfngiaaGreatW.PrintWords Go.Proofs.YthimblhfjfngiaaGreatW.PrintLast Go.Proofs.YthimblhfjfngiaaGreatW.PrintMore
set_option linter.unusedVariables false
set_option linter.unusedSimpArgs false
theorem keep2 {w w' : World} {p g : Nat} {u v : Value} (hb : Below w.heap.size w w') (h1 : w.cell? ⟨p, 0, none⟩ = some u) (h2 : w.cell? ⟨g, 0, none⟩ = some v) (l1 : p < w.heap.size) (l2 : g < w.heap.size) :
    w'.cell? ⟨p, 0, none⟩ = some u ∧ w'.cell? ⟨g, 0, none⟩ = some v ∧ Below w.heap.size w w' := ⟨(hb.cell (p := ⟨p, 0, none⟩) l1).trans h1, (hb.cell (p := ⟨g, 0, none⟩) l2).trans h2, hb⟩
/-- the row of a past of one commit -/
theorem past_one {w : World} {base p : Nat} {x : Com} (h : PastIs w base p [x]) : ∃ g cap c, p < w.heap.size ∧ g < w.heap.size ∧ w.cell? ⟨p, 0, none⟩ = some (.slice (some ⟨g, 0, none⟩) 1 cap) ∧ w.cell? ⟨g, 0, none⟩ = some (.pointer (some ⟨c, 0, none⟩)) ∧ ComAt w c x := by
  obtain ⟨A, cap, ps, h1, h2, h3, h4, h5⟩ := h
  obtain ⟨c, rfl⟩ : ∃ c, ps = [c] := List.length_eq_one_iff.1 h1
  obtain ⟨g, cap', hv, hb, -, cs, hc⟩ := Kd.R_form h4 (by simp)
  cases hv
  obtain ⟨q1, -⟩ := Kd.R_cell (enc := fun c : Nat => Value.pointer (some ⟨c, 0, none⟩)) (h1 := fun _ => rfl) 0 h4 0 (Int.le_refl _) (by simp)
  exact ⟨g, cap, c, (Array.getElem?_eq_some_iff.1 h3).1, (Array.getElem?_eq_some_iff.1 hc).1, by unfold World.cell?; rw [h3]; rfl, q1, h5 0 (by simp) (by simp)⟩
set_option maxRecDepth 100000 in
set_option maxHeartbeats 4000000 in
theorem blame_one (base p : Nat) (x : Com) (file t : ByteArray) (es : List S91) (w : World) (hP : PastIs w base p [x]) (hx : x.files.length ≤ 10000) (hf : findR x.files file = (t, true))
    (he : text_Edits.f 5000000 ⟨#[]⟩ t = some (es, 0)) (h0 : ∀ x ∈ es, x.f0 = 0 ∧ x.f1 = 0 ∧ x.f2.size ≤ 1000000000) (hlen : es.length ≤ 4000) (hD : (putL es 0).length ≤ 1000000) :
    Calls Tryz.prog 9 #[.pointer (some ⟨p, 0, none⟩), .string file] w fun e w' => ∃ v, e = .returned (.tuple #[v, .int .i64 0]) ∧ Kd.R (Kd.int .i64) 3 w' w.heap.size (fun _ => True) v (putL es 0) ∧ Below w.heap.size w w' := by
  obtain ⟨g, cap, c, l1, l2, hc1, hc2, hcom⟩ := past_one hP
  have HF : Aside0 (∀ wr, Below w.heap.size w wr → Calls Tryz.prog 28 #[.pointer (some ⟨c, 0, none⟩), .string file] wr fun e w' => e = .returned (.tuple #[.string t, .bool true]) ∧ Below wr.heap.size wr w') :=
    ⟨fun wr hb => by
      have q := find_calls c x file wr (hcom.keep (PKept.of_below hb)) hx
      rw [hf] at q
      exact q⟩
  have HBL := Aside0.mk (fun wr => blamed_new es 0 t wr he h0 hlen hD)
  clear hP hx hf he h0 hlen hD hcom
  have hw0 : wrap64 ((1 : Int) - 1) = 0 := by rw [w64 (by omega) (by omega)]; rfl
  have hw1 : wrap64 0 = 0 := by rw [w64 (by omega) (by omega)]
  have hw2 : IntKind.i64.wrap ((1 : Int) - 1) = 0 := (i64_w _).trans hw0
  have hw3 : IntKind.i64.wrap 0 = 0 := (i64_w _).trans hw1
  have HB0 := Aside0.mk (Below.refl w.heap.size w)
  go_enter Tryz.func9, Tryz.ntmps9
  go_wp2_with fail
  go_region_held3 (fun w' => w'.cell? ⟨p, 0, none⟩ = some (.slice (some ⟨g, 0, none⟩) 1 cap) ∧ w'.cell? ⟨g, 0, none⟩ = some (.pointer (some ⟨c, 0, none⟩)) ∧ Below w.heap.size w w')
    (first
      | exact keep2 (Below.refl _ _) hc1 hc2 l1 l2
      | exact keep2 (Below.refl _ _).drew hc1 hc2 l1 l2
      | (go_split_ands; exact keep2 (Below.drew (by assumption)) hc1 hc2 l1 l2)
      | (go_split_ands; exact keep2 (below_step (by assumption) hb) hc1 hc2 l1 l2)
      | (go_split_ands; exact keep2 (below_step (by assumption) hb).drew hc1 hc2 l1 l2))
    (first
      | (go_at_call 28; with_reducible refine (HF.out _ ?zb).mono ?_; (case zb => (go_split_ands; assumption)); rintro e w5 ⟨rfl, hb⟩))
  go_split_ands
  have HB5 : Aside0 (Below w.heap.size w w5) := ⟨by assumption⟩
  clear hb
  go_wp2_with fail
  go_loopg [48, 8, 9] 2 (fun kq v48 v8 v9 w' => Aside0 (Below w.heap.size w w') ∧ ((1 < kq ∧ v48 = .int .i64 0 ∧ v8 = .slice none 0 0 ∧ v9 = .string ⟨#[]⟩) ∨ (∃ A cc, 0 < kq ∧ v48 = .int .i64 1 ∧ v8 = .slice A (putL es 0).length cc ∧ v9 = .string t ∧ Aside0 (Kd.R (Kd.int .i64) 3 w' w.heap.size (fun _ => True) (.slice A (putL es 0).length cc) (putL es 0)))))
  case atStart => exact ⟨HB5, .inl ⟨by omega, rfl, rfl, rfl⟩⟩
  case round =>
    obtain ⟨HBe, hrel⟩ := hrel
    have hcr := (HBe.out.cell (p := ⟨g, 0, none⟩) l2).trans hc2
    rcases hrel with ⟨hk, rfl, rfl, rfl⟩ | ⟨A, cc, hk, rfl, rfl, rfl, HR⟩
    · obtain ⟨k1, rfl⟩ : ∃ k1, gk = k1 + 1 := ⟨gk - 1, by omega⟩
      go_wp2_with (first
        | (go_at_call 28; refine (HF.out _ HBe.out).mono ?_; rintro e w6 ⟨rfl, hb⟩; have HB6 := Aside0.mk (below_step HBe.out hb); clear hb)
        | (go_at_call 29; refine (HBL.out _).mono ?_; rintro e w7 ⟨v7, rfl, ho, hb⟩; obtain ⟨A7, c7, rfl⟩ := Kd.R_slice ho; have HO7 := Aside0.mk (Kd.R_lower ho HB6.out.size); have HB7 := Aside0.mk (below_step HB6.out hb); clear ho hb))
      go_roundg k1
      case measure => omega
      case rel => exact ⟨HB7, .inr ⟨A7, c7, by omega, by first | rfl | exact congrArg (Value.int .i64) (nx 0 (by omega)), rfl, rfl, HO7⟩⟩
    · go_wp2_with fail
      go_ret2
      exact ⟨_, rfl, HR.out, HBe.out⟩
end Go.Proofs.YthimblhfjfngiaaGreat.PText

