/- TextRefuses holds: for every two texts the statement answers true, where the seven listed package variables hold what the program's text lays. Part 20 of 21. -/
import Derived.Test.YtidlmkdoofcgnaaGreatDoorBRefusesS
import Derived.Test.YtidlmkdoofcgnaaGreatDoorCards
import Derived.Test.YtidlmkdoofcgnaaGreatDoorTie
import Derived.ProofKit
import Derived.OpenShut
import Derived.ShutString
import Derived.SizedLaws
import Derived.Deep.DeepHandedRow
import Derived.Deep.DeepWitnessRowRef
import Derived.Lib.LaidU8
import Derived.Stop.LaidErr
import Derived.ChangeOld
namespace Go.Proofs.YtidlmkdoofcgnaaGreatDoor.PText
open Go.RowKit Go.Lib Go.Sort Go.Proofs.YtidlmkdoofcgnaaGreatDoorW.PrintWords Go.Proofs.YtidlmkdoofcgnaaGreatDoorW.PrintLast Go.Proofs.YtidlmkdoofcgnaaGreatDoorW.PrintMore
set_option linter.unusedVariables false
set_option linter.unusedSimpArgs false
theorem hunk_cells {w1 : World} {b : Nat} (h : w1.heap[b]? = some (.cells #[.int .i64 0, .int .i64 0, .slice none 0 0] 64 (0, 0))) : w1.cell? ⟨b, 0, none⟩ = some (.int .i64 0) ∧ w1.cell? ⟨b, 1, none⟩ = some (.int .i64 0) ∧ w1.cell? ⟨b, 2, none⟩ = some (.slice none 0 0) ∧ w1.frozen? ⟨b, 0, none⟩ = false := by
  refine ⟨?_, ?_, ?_, ?_⟩
  · unfold World.cell?; rw [h]; rfl
  · unfold World.cell?; rw [h]; rfl
  · unfold World.cell?; rw [h]; rfl
  · simp [World.frozen?, h]
/-- an empty hunk, stored over an empty one -/
theorem hunk_store {W : World} {b : Nat} (h : W.heap[b]? = some (.cells #[.int .i64 0, .int .i64 0, .slice none 0 0] 64 (0, 0))) :
    (W.cell? ⟨b, 0, none⟩ = some (.int .i64 0) ∧ W.frozen? ⟨b, 0, none⟩ = false) ∧
    ((W.setCell ⟨b, 0, none⟩ (.int .i64 0)).cell? ⟨b, 1, none⟩ = some (.int .i64 0) ∧ (W.setCell ⟨b, 0, none⟩ (.int .i64 0)).frozen? ⟨b, 1, none⟩ = false) ∧
    (((W.setCell ⟨b, 0, none⟩ (.int .i64 0)).setCell ⟨b, 1, none⟩ (.int .i64 0)).cell? ⟨b, 2, none⟩ = some (.slice none 0 0) ∧ ((W.setCell ⟨b, 0, none⟩ (.int .i64 0)).setCell ⟨b, 1, none⟩ (.int .i64 0)).frozen? ⟨b, 2, none⟩ = false) ∧
    (((W.setCell ⟨b, 0, none⟩ (.int .i64 0)).setCell ⟨b, 1, none⟩ (.int .i64 0)).setCell ⟨b, 2, none⟩ (.slice none 0 0)).heap[b]? = some (.cells #[.int .i64 0, .int .i64 0, .slice none 0 0] 64 (0, 0)) := by
  have e1 := blk_set h 0 (.int .i64 0)
  have e2 := blk_set e1 1 (.int .i64 0)
  have e3 := blk_set e2 2 (.slice none 0 0)
  refine ⟨⟨?_, ?_⟩, ⟨?_, ?_⟩, ⟨?_, ?_⟩, e3⟩
  · unfold World.cell?; rw [h]; rfl
  · simp [World.frozen?, h]
  · unfold World.cell?; rw [e1]; rfl
  · simp [World.frozen?, e1]
  · unfold World.cell?; rw [e2]; rfl
  · simp [World.frozen?, e2]
set_option maxRecDepth 100000 in
set_option maxHeartbeats 4000000 in
theorem hunk_refuses (rb : Nat) (d : ByteArray) (w : World) (hG : Glob w) (hR : RdIs w rb d) (hd : d.size ≤ 1000000) (hne : d ≠ ⟨#[]⟩) (hno : ∀ r, d.data.toList ≠ 64 :: 64 :: 32 :: r) :
    Calls Tryz.prog 53 #[.pointer (some ⟨rb, 0, none⟩)] w fun e w' => e = .returned (.tuple #[.agg #[.int .i64 0, .int .i64 0, .slice none 0 0], .bool false]) ∧ Below w.heap.size w w' := by
  have HB0 := Aside0.mk ((Below.refl w.heap.size w).alloc (Nat.le_refl _) (.cells #[.int .i64 0, .int .i64 0, .slice none 0 0] 64))
  have H := Aside0.mk (head_refuses rb d _ (hG.below HB0.out) (hR.below HB0.out) hd hne hno)
  have HSZ : Aside0 (w.heap.size < (w.alloc (.cells #[.int .i64 0, .int .i64 0, .slice none 0 0] 64)).heap.size) := ⟨by simp⟩
  have hz : (w.alloc (.cells #[.int .i64 0, .int .i64 0, .slice none 0 0] 64)).heap[w.heap.size]? = some (.cells #[.int .i64 0, .int .i64 0, .slice none 0 0] 64 (0, 0)) := by
    show (w.heap.push _)[w.heap.size]? = _
    exact Array.getElem?_push_size
  have HZ := Aside0.mk hz
  clear hG hR hd hne hno hz
  go_enter Tryz.func53, Tryz.ntmps53
  go_wp2_with (go_at_call 81; go_loud (with_reducible refine H.out.mono ?_; rintro e w1 ⟨rfl, hb⟩; have HB1 := Aside0.mk (below_step HB0.out hb); have hz1 := (hb.block _ HSZ.out).trans HZ.out; have hal : (w1.alloc (.cells #[.int .i64 0, .int .i64 0, .slice none 0 0] 64)).heap[w.heap.size]? = some (.cells #[.int .i64 0, .int .i64 0, .slice none 0 0] 64 (0, 0)) := blk_alloc hz1 _; obtain ⟨⟨h0, hf0⟩, ⟨h1, hf1⟩, ⟨h2, hf2⟩, h3⟩ := hunk_store hal; obtain ⟨g0, g1, g2, -⟩ := hunk_cells h3; clear hal h3; clear hb H))
  (try simp only [Exit.inBlock, Exit.then])
  refine bodyPost_ret (v := .tuple #[.agg #[.int .i64 0, .int .i64 0, .slice none 0 0], .bool false]) ?_ rfl ⟨rfl, (((HB1.out.alloc HB1.out.size _).setCell (Nat.le_refl _) _).setCell (Nat.le_refl _) _).setCell (Nat.le_refl _) _⟩
  rw [results_cell_tmp rfl]
  go_simp
end Go.Proofs.YtidlmkdoofcgnaaGreatDoor.PText

namespace Go.Proofs.YtidlmkdoofcgnaaGreatDoor.PText
open Go.RowKit Go.Lib Go.Sort Go.Proofs.YtidlmkdoofcgnaaGreatDoorW.PrintWords Go.Proofs.YtidlmkdoofcgnaaGreatDoorW.PrintLast Go.Proofs.YtidlmkdoofcgnaaGreatDoorW.PrintMore
set_option linter.unusedVariables false
set_option linter.unusedSimpArgs false
theorem lines_any (t : ByteArray) (w : World) (h : t.size ≤ 1000000) : Calls Tryz.prog 32 #[.string t] w fun e w' => ∃ A c, e = .returned (.slice A (linesB t).length c) ∧ Kd.C Kd.string w' A (linesB t).length (linesB t) ∧ Below w.heap.size w w' := by
  refine (text_Lines.calls t (linesB t) w (by unfold text_Lines.f; rw [if_pos (by omega)])).mono ?_
  rintro e w' ⟨v, rfl, ho, hb⟩
  obtain ⟨A, c, rfl⟩ := Kd.R_slice ho
  exact ⟨A, c, rfl, (Kd.R_reads' ho).2.2, hb⟩
theorem rd_new {w1 : World} {d : ByteArray} {A : Option Addr} {c : Nat} (h : Kd.C Kd.string w1 A (linesB d).length (linesB d)) : RdIs (w1.alloc (.cells #[.slice A (linesB d).length c, .bool false, .bool false] 102)) w1.heap.size d := by
  refine ⟨A, c, ?_, Kd.C_below h ((Below.refl _ _).alloc (Nat.le_refl _) _)⟩
  show (w1.heap.push _)[w1.heap.size]? = _
  exact Array.getElem?_push_size
set_option maxRecDepth 100000 in
set_option maxHeartbeats 4000000 in
theorem read_refuses (d : ByteArray) (w : World) (hG : Glob w) (hd : d.size ≤ 1000000) (hne : d ≠ ⟨#[]⟩) (hno : ∀ r, d.data.toList ≠ 64 :: 64 :: 32 :: r) :
    Calls Tryz.prog 31 #[.string d] w fun e w' => e = .returned (.tuple #[.slice none 0 0, .bool false]) ∧ Below w.heap.size w w' := by
  have HL := Aside0.mk (lines_any d w hd)
  have HH : Aside0 (∀ rb wr, Below w.heap.size w wr → RdIs wr rb d → Calls Tryz.prog 53 #[.pointer (some ⟨rb, 0, none⟩)] wr fun e w' => e = .returned (.tuple #[.agg #[.int .i64 0, .int .i64 0, .slice none 0 0], .bool false]) ∧ Below wr.heap.size wr w') := ⟨fun rb wr hb hr => hunk_refuses rb d wr (hG.below hb) hr hd hne hno⟩
  have hpn : 0 < (linesB d).length := by
    obtain ⟨l0, rest, f1, -, -⟩ := first_line hne
    exact (List.getElem?_eq_some_iff.1 f1).1
  have hp0 : (0 : Int) < ((linesB d).length : Int) := by omega
  have hp1 : decide ((0 : Int) < ((linesB d).length : Int)) = true := decide_eq_true hp0
  have hp2 : decide (0 < (linesB d).length) = true := decide_eq_true hpn
  clear hG hd hne hno
  go_enter Tryz.func31, Tryz.ntmps31
  go_wp2_with (go_at_call 32; refine HL.out.mono ?_; rintro e w1 ⟨A, c, rfl, hC, hb⟩; have HB1 := Aside0.mk (hb.alloc hb.size (.cells #[.slice A (linesB d).length c, .bool false, .bool false] 102)); have HR1 := Aside0.mk (rd_new (c := c) hC); clear hb hC HL)
  go_loopg [6] 0 (fun _ v6 wr => v6 = .int .i64 0 ∧ Aside0 (Below w.heap.size w wr) ∧ Aside0 (RdIs wr w1.heap.size d))
  case atStart => exact ⟨rfl, HB1, HR1⟩
  case round =>
    obtain ⟨rfl, HBe, HRe⟩ := hrel
    obtain ⟨A', c', r1, -⟩ := HRe.out
    have hc1 : wr.cell? ⟨w1.heap.size, 0, none⟩ = some (.slice A' (linesB d).length c') := by unfold World.cell?; rw [r1]; rfl
    clear r1
    go_wp2_with (go_at_call 53; refine (HH.out _ _ HBe.out HRe.out).mono ?_; rintro e w3 ⟨rfl, hb⟩; have HB3 := Aside0.mk (below_step HBe.out hb); clear hb HH)
    go_ret2
    exact ⟨rfl, HB3.out.alloc HB3.out.size _⟩
set_option maxRecDepth 100000 in
set_option maxHeartbeats 4000000 in
theorem patch_refuses (s d : ByteArray) (w : World) (hG : Glob w) (hs : s.size ≤ 200000) (hd : d.size ≤ 200000) (hne : d ≠ ⟨#[]⟩) (hno : ∀ r, d.data.toList ≠ 64 :: 64 :: 32 :: r) :
    Calls Tryz.prog 16 #[.string s, .string d] w fun e w' => e = .returned (.tuple #[.string ⟨#[]⟩, .int .i64 3]) ∧ Below w.heap.size w w' := by
  have H := Aside0.mk (read_refuses d w hG (by omega) hne hno)
  have h1 : decide ((200000 : Int) < (s.size : Int)) = false := decide_eq_false (by omega)
  have h2 : decide ((200000 : Int) < (d.size : Int)) = false := decide_eq_false (by omega)
  have h3 : decide (200000 < s.size) = false := decide_eq_false (by omega)
  have h4 : decide (200000 < d.size) = false := decide_eq_false (by omega)
  clear hG hs hd hne hno
  go_enter Tryz.func16, Tryz.ntmps16
  go_wp2_with (go_at_call 31; refine H.out.mono ?_; rintro e w1 ⟨rfl, hb⟩; have HB1 := Aside0.mk hb; clear hb H)
  go_ret2
  exact ⟨rfl, HB1.out⟩
set_option maxRecDepth 100000 in
set_option maxHeartbeats 4000000 in
theorem reverse_refuses (d : ByteArray) (w : World) (hG : Glob w) (hd : d.size ≤ 200000) (hne : d ≠ ⟨#[]⟩) (hno : ∀ r, d.data.toList ≠ 64 :: 64 :: 32 :: r) :
    Calls Tryz.prog 19 #[.string d] w fun e w' => e = .returned (.tuple #[.string ⟨#[]⟩, .int .i64 3]) ∧ Below w.heap.size w w' := by
  have H := Aside0.mk (read_refuses d w hG (by omega) hne hno)
  clear hG hd hne hno
  go_enter Tryz.func19, Tryz.ntmps19
  go_wp2_with (go_at_call 31; refine H.out.mono ?_; rintro e w1 ⟨rfl, hb⟩; have HB1 := Aside0.mk hb; clear hb H)
  go_ret2
  exact ⟨rfl, HB1.out⟩
end Go.Proofs.YtidlmkdoofcgnaaGreatDoor.PText

namespace Go.Proofs.YtidlmkdoofcgnaaGreatDoor.PText
open Go.RowKit Go.Lib Go.Sort Go.Proofs.YtidlmkdoofcgnaaGreatDoorW.PrintWords Go.Proofs.YtidlmkdoofcgnaaGreatDoorW.PrintLast Go.Proofs.YtidlmkdoofcgnaaGreatDoorW.PrintMore
set_option linter.unusedVariables false
set_option linter.unusedSimpArgs false
theorem large2_f (a b : ByteArray) (k : Nat) (hk : 3 ≤ k) : smockinglaw01_large.f k [a, b] = some (decide (3000 < a.size ∨ 3000 < b.size)) := by
  obtain ⟨k, rfl⟩ : ∃ q, k = q + 1 + 1 + 1 := ⟨k - 3, by omega⟩
  unfold smockinglaw01_large.f
  have hl : (([a, b] : List ByteArray).length : Int) = 2 := rfl
  have n0 : wrap64 ((0 : Int) + 1) = 1 := by rw [w64 (by omega) (by omega)]; rfl
  have n1 : wrap64 ((1 : Int) + 1) = 2 := by rw [w64 (by omega) (by omega)]; rfl
  have e0 : rdOf ByteArray.empty [a, b] 0 = a := rfl
  have e1 : rdOf ByteArray.empty [a, b] 1 = b := rfl
  rw [smockinglaw01_large.l0, hl, if_pos (by omega), if_pos (by omega), e0, n0]
  by_cases h1 : 3000 < a.size
  · rw [if_pos (by omega), decide_eq_true (Or.inl h1)]
  · rw [if_neg (by omega), smockinglaw01_large.l0, hl, if_pos (by omega), if_pos (by omega), e1, n1]
    by_cases h2 : 3000 < b.size
    · rw [if_pos (by omega), decide_eq_true (Or.inr h2)]
    · rw [if_neg (by omega), smockinglaw01_large.l0, hl, if_neg (by omega), decide_eq_false (by omega)]
theorem two_row (w : World) (a b : ByteArray) : Kd.C Kd.string (w.alloc (.cells #[.string a, .string b] 9)) (some ⟨w.heap.size, 0, none⟩) [a, b].length [a, b] := by
  have hh : (w.alloc (.cells #[.string a, .string b] 9)).heap[w.heap.size]? = some (.cells #[.string a, .string b] 9 (0, 0)) := by
    show (w.heap.push _)[w.heap.size]? = _
    exact Array.getElem?_push_size
  refine ⟨rfl, by simp, fun _ => ⟨⟨w.heap.size, 0, none⟩, rfl, fun j p hj => ⟨[.string p], rfl, rfl, fun i u hu => ?_⟩⟩⟩
  match i, hu with
  | 0, hu =>
    have hu2 : u = .string p := (Option.some.inj hu).symm
    subst hu2
    rw [Addr.add_lit]
    unfold World.cell?
    rw [hh]
    match j, hj with
    | 0, hj => rw [← Option.some.inj hj]; rfl
    | 1, hj => rw [← Option.some.inj hj]; rfl
    | j + 2, hj => simp at hj
  | i + 1, hu => simp at hu
set_option maxRecDepth 100000 in
set_option maxHeartbeats 8000000 in
theorem trefuses_calls (s d : ByteArray) (w : World) (hG : Glob w) : Calls Tryz.prog 5 #[.string s, .string d] w fun e w' => e = .returned (.bool true) ∧ Below w.heap.size w w' := by
  have HL := Aside0.mk (smockinglaw01_large.calls 3 _ 2 [s, d] _ _ (two_row w s d) (Nat.le_refl _) (large2_f s d 3 (Nat.le_refl _)))
  have HB0 := Aside0.mk ((Below.refl w.heap.size w).alloc (Nat.le_refl _) (.cells #[.string s, .string d] 9))
  have HG := Aside0.mk hG
  clear hG
  by_cases hl : 3000 < s.size ∨ 3000 < d.size
  · rw [decide_eq_true hl] at HL
    clear hl
    go_enter Tryz.func5, Tryz.ntmps5
    go_wp2_with (first
      | (go_at_call 12; refine HL.out.mono ?_; rintro e w1 ⟨rfl, hd⟩; have HB1 := Aside0.mk (HB0.out.trans (hd.below.mono HB0.out.size)); clear hd HL)
      | fail)
    go_ret
    exact ⟨rfl, HB1.out⟩
  · rw [decide_eq_false hl] at HL
    have HSZ : Aside0 (s.size ≤ 3000 ∧ d.size ≤ 3000) := ⟨by omega⟩
    clear hl
    by_cases he : d.toList = []
    · have hq : (d.toList == []) = true := beq_iff_eq.2 he
      clear he
      go_enter Tryz.func5, Tryz.ntmps5
      go_wp2_with (first
        | (go_at_call 12; refine HL.out.mono ?_; rintro e w1 ⟨rfl, hd⟩; have HB1 := Aside0.mk (HB0.out.trans (hd.below.mono HB0.out.size)); clear hd HL)
        | fail)
      go_ret
      exact ⟨rfl, HB1.out⟩
    · have hq : (d.toList == []) = false := beq_eq_false_iff_ne.2 he
      have hne : d ≠ ⟨#[]⟩ := fun q => he (by rw [q, Lib.toList_data])
      clear he
      by_cases h3 : 3 ≤ d.size
      · have d3 : decide ((3 : Int) ≤ (d.size : Int)) = true := decide_eq_true (by omega)
        have d4 : decide (3 ≤ d.size) = true := decide_eq_true h3
        by_cases hx : (d.extract 0 3).toList = [64, 64, 32]
        · have hq3 : ((d.extract 0 3).toList == [64, 64, 32]) = true := beq_iff_eq.2 hx
          clear hx hne
          go_enter Tryz.func5, Tryz.ntmps5
          go_wp2_with (first
            | (go_at_call 12; refine HL.out.mono ?_; rintro e w1 ⟨rfl, hd⟩; have HB1 := Aside0.mk (HB0.out.trans (hd.below.mono HB0.out.size)); clear hd HL)
            | fail)
          go_ret
          exact ⟨rfl, HB1.out⟩
        · have hq3 : ((d.extract 0 3).toList == [64, 64, 32]) = false := beq_eq_false_iff_ne.2 hx
          have hno : ∀ r, d.data.toList ≠ 64 :: 64 :: 32 :: r := fun r q => hx (by
            rw [Lib.toList_data, Lib.extract_from_zero, q]; rfl)
          clear hx
          have HP := Aside0.mk (fun wr (hb : Below w.heap.size w wr) => patch_refuses s d wr (HG.out.below hb) (by have := HSZ.out; omega) (by have := HSZ.out; omega) hne hno)
          have HV := Aside0.mk (fun wr (hb : Below w.heap.size w wr) => reverse_refuses d wr (HG.out.below hb) (by have := HSZ.out; omega) hne hno)
          have HAW := Aside0.mk (fun wr (hb : Below w.heap.size w wr) => smockinglaw01_awake.calls true wr (HG.out.below hb) awake_f)
          clear hne hno HSZ HG
          go_enter Tryz.func5, Tryz.ntmps5
          go_wp2_with (first
            | (go_at_call 12; refine HL.out.mono ?_; rintro e w1 ⟨rfl, hd⟩; have HB1 := Aside0.mk (HB0.out.trans (hd.below.mono HB0.out.size)); clear hd HL)
            | (go_at_call 16; refine (HP.out _ HB1.out).mono ?_; rintro e w2 ⟨rfl, hb⟩; have HB2 := Aside0.mk (below_step HB1.out hb); clear hb HP)
            | (go_at_call 19; refine (HV.out _ HB2.out).mono ?_; rintro e w3 ⟨rfl, hb⟩; have HB3 := Aside0.mk (below_step HB2.out hb); clear hb HV)
            | (go_at_call 18; refine (HAW.out _ HB3.out).mono ?_; rintro e w4 ⟨rfl, hb⟩; have HB4 := Aside0.mk (below_step HB3.out hb); clear hb HAW)
            | fail)
          go_ret
          exact ⟨rfl, HB4.out⟩
      · have d3 : decide ((3 : Int) ≤ (d.size : Int)) = false := decide_eq_false (by omega)
        have d4 : decide (3 ≤ d.size) = false := decide_eq_false h3
        have hno : ∀ r, d.data.toList ≠ 64 :: 64 :: 32 :: r := fun r q => h3 (by
          have := Lib.size_eq d
          rw [q] at this
          simp at this
          omega)
        have HP := Aside0.mk (fun wr (hb : Below w.heap.size w wr) => patch_refuses s d wr (HG.out.below hb) (by have := HSZ.out; omega) (by have := HSZ.out; omega) hne hno)
        have HV := Aside0.mk (fun wr (hb : Below w.heap.size w wr) => reverse_refuses d wr (HG.out.below hb) (by have := HSZ.out; omega) hne hno)
        have HAW := Aside0.mk (fun wr (hb : Below w.heap.size w wr) => smockinglaw01_awake.calls true wr (HG.out.below hb) awake_f)
        clear hne hno HSZ HG
        go_enter Tryz.func5, Tryz.ntmps5
        go_wp2_with (first
          | (go_at_call 12; refine HL.out.mono ?_; rintro e w1 ⟨rfl, hd⟩; have HB1 := Aside0.mk (HB0.out.trans (hd.below.mono HB0.out.size)); clear hd HL)
          | (go_at_call 16; refine (HP.out _ HB1.out).mono ?_; rintro e w2 ⟨rfl, hb⟩; have HB2 := Aside0.mk (below_step HB1.out hb); clear hb HP)
          | (go_at_call 19; refine (HV.out _ HB2.out).mono ?_; rintro e w3 ⟨rfl, hb⟩; have HB3 := Aside0.mk (below_step HB2.out hb); clear hb HV)
          | (go_at_call 18; refine (HAW.out _ HB3.out).mono ?_; rintro e w4 ⟨rfl, hb⟩; have HB4 := Aside0.mk (below_step HB3.out hb); clear hb HAW)
          | fail)
        go_ret
        exact ⟨rfl, HB4.out⟩
end Go.Proofs.YtidlmkdoofcgnaaGreatDoor.PText

namespace Go.Proofs.YtidlmkdoofcgnaaGreatDoor.Row0
open Go.ChangeShapes Go.WideShapes Go.ChangeAt Go.RowKit
theorem own : ownKnob Tryz.prog.godebug = none := by kernel_rfl
abbrev laid : List (String × DataW Unit) := [("math/bits.deBruijn32tab", Rows.laid_math_bits_deBruijn32tab), ("math/bits.deBruijn64tab", Rows.laid_math_bits_deBruijn64tab), ("internal/strconv.uint64pow10", Rows.laid_internal_strconv_uint64pow10), ("unicode/utf8.acceptRanges", Rows.laid_unicode_utf8_acceptRanges), ("strconv.ErrRange", Rows.laid_strconv_ErrRange), ("strconv.ErrSyntax", Rows.laid_strconv_ErrSyntax), ("unicode/utf8.first", Rows.laid_unicode_utf8_first)]
/-- the integers that a table's datum tells, as cells -/
def cellsOfTab : DataW Unit → Array Value
  | .agg parts => (parts.map fun
    | .lit (.int k n) => Value.int k n
    | _ => Value.int .i64 0).toArray
  | _ => #[]
def cellsOfTab2 : DataW Unit → Array Value
  | .agg parts => (parts.flatMap fun
    | .agg q => q.map fun
      | .lit (.int k n) => Value.int k n
      | _ => Value.int .i64 0
    | _ => []).toArray
  | _ => #[]
/-- a start: the settled world with two errors' texts more, the seven variables holding what their initialisers lay -/
noncomputable def laidWorld (os : Os) : World :=
  let N := (World.settled Tryz.prog os).heap.size
  let w0 := World.holding Tryz.prog os ⟨#[.cells #[.string ⟨#[118, 97, 108, 117, 101, 32, 111, 117, 116, 32, 111, 102, 32, 114, 97, 110, 103, 101]⟩] 243, .cells #[.string ⟨#[105, 110, 118, 97, 108, 105, 100, 32, 115, 121, 110, 116, 97, 120]⟩] 243], #[], []⟩
  let put (h : Array Obj) (g : Nat) (cs : Array Value) : Array Obj := h.modify g fun
    | .cells _ t frozen => .cells cs t frozen
    | o => o
  let h1 := put w0.heap 3 (cellsOfTab Rows.laid_internal_strconv_uint64pow10)
  let h2 := put h1 8 (cellsOfTab Rows.laid_math_bits_deBruijn32tab)
  let h3 := put h2 9 (cellsOfTab Rows.laid_math_bits_deBruijn64tab)
  let h4 := put h3 4 (cellsOfTab Rows.laid_unicode_utf8_first)
  let h5 := put h4 5 (cellsOfTab2 Rows.laid_unicode_utf8_acceptRanges)
  let h6 := put h5 7 #[.iface 241 (.pointer (some ⟨N, 0, none⟩))]
  let h7 := put h6 6 #[.iface 241 (.pointer (some ⟨N + 1, 0, none⟩))]
  { w0 with heap := h7 }
theorem laid_met (os : Os) (args : Array Value) : laidMet Tryz.prog laid ((laidWorld os).forCall (fun _ _ => 0) ⟨#[], args, []⟩).memory :=
  laidMet_of_run' 10 (by kernel_rfl) (by kernel_rfl)
theorem gPowType : (Tryz.prog.globals[3]?).map (·.type) = some 217 := by kernel_rfl
theorem cells143 : Tryz.prog.cellsOf 217 = 20 := by kernel_rfl
theorem cells108 : Tryz.prog.cellsOf 164 = 1 := by kernel_rfl
set_option maxRecDepth 100000 in
theorem powData : Rows.laid_internal_strconv_uint64pow10 (H := Unit) = Lib.tabData .u64 Lib.pow10Tab := by kernel_rfl
theorem var_lt {P : Program} {W : World} {name : String} {g : Nat} {x : Array Value} (hg : P.globalNamed name = some g) (h : W.var? P name = some x) : g < W.heap.size := by
  unfold World.var? at h
  rw [hg] at h
  rcases Nat.lt_or_ge g W.heap.size with q | q
  · exact q
  · simp [Array.getElem?_eq_none q] at h
/-- what the walks need of the package variables -/
theorem glob {W : World} (hL : laidMetH Tryz.prog laid W) (hsh : W.ShapedOpen Tryz.prog) : Glob W := by
  have hL1 : laidMet Tryz.prog laid W := hL
  have h2 := laidMet.tail (laidMet.tail hL1)
  rw [powData] at h2
  have h3 := Lib.tabIs_of_head gPow gPowType Tryz.underlying217 Tryz.underlying164 cells108 cells143 h2
  exact ⟨var_lt gPow h3, h3, Tryz.laysM146.s1_3 W hsh⟩
end Go.Proofs.YtidlmkdoofcgnaaGreatDoor.Row0

