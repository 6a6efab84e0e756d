/- PastCommits holds: for all steps and every number the statement answers true. Part 13 of 20. -/
import Derived.Test.YthimblhfjfngiaaGreatBCommitsL
namespace Go.Proofs.YthimblhfjfngiaaGreat.PText
open Go.RowKit Go.Lib Go.Sort Go.Proofs.YthimblhfjfngiaaGreatW.PrintWords Go.Proofs.YthimblhfjfngiaaGreatW.PrintLast Go.Proofs.YthimblhfjfngiaaGreatW.PrintMore
set_option linter.unusedVariables false
set_option linter.unusedSimpArgs false
/-- a commit's pointer, in a row -/
def kP : Kd Nat := Kd.scalar (fun c : Nat => Value.pointer (some ⟨c, 0, none⟩)) (fun _ => rfl)
theorem info77 : (Tryz.prog.info? 63).map (fun i => (i.zero, i.size, i.bytes)) = some (some (.pointer none), 1, 8) := by kernel_rfl
/-- a past: its commits, in their order -/
def PastIs (w : World) (base p : Nat) (L : List Com) : Prop :=
  ∃ (A : Option Addr) (cap : Nat) (ps : List Nat), ps.length = L.length ∧ base ≤ p ∧ w.heap[p]? = some (.cells #[.slice A L.length cap] 61 (0, 0)) ∧ Kd.R kP 63 w base (fun _ => True) (.slice A L.length cap) ps ∧
    ∀ i, ∀ h : i < L.length, ∀ h' : i < ps.length, ComAt w ps[i] L[i]
theorem PastIs.below {w w' : World} {base p : Nat} {L : List Com} (h : PastIs w base p L) (hb : Below w.heap.size w w') : PastIs w' base p L := by
  obtain ⟨A, cap, ps, h1, h2, h3, h4, h5⟩ := h
  exact ⟨A, cap, ps, h1, h2, (hb.block p (Array.getElem?_eq_some_iff.1 h3).1).trans h3, Kd.R_below h4 hb, fun i a b => (h5 i a b).keep (PKept.of_below hb)⟩
theorem PastIs.lt {w : World} {base p : Nat} {L : List Com} (h : PastIs w base p L) : p < w.heap.size := by
  obtain ⟨A, cap, ps, h1, h2, h3, h4, h5⟩ := h
  exact (Array.getElem?_eq_some_iff.1 h3).1
theorem heap_nw (w : World) (o : Obj) : (w.alloc o).heap[w.heap.size]? = some o := by
  show (w.heap.push o)[w.heap.size]? = some o
  exact Array.getElem?_push_size
theorem rd53_at (l : List S41) (i : Nat) (h : i < l.length) : rd_T41 l (i : Int) = l[i] := by
  unfold rd_T41
  rw [Int.toNat_natCast, List.getD_eq_getElem?_getD, List.getElem?_eq_getElem h]; rfl
theorem new_calls (w : World) : Calls Tryz.prog 26 #[] w fun e w' => e = .returned (.pointer (some ⟨w.heap.size, 0, none⟩)) ∧ PastIs w' w.heap.size w.heap.size [] ∧ Below w.heap.size w w' ∧ PKept w w' := by
  go_enter Tryz.func26, Tryz.ntmps26
  go_wp2
  go_ret
  refine ⟨rfl, ⟨none, 0, [], rfl, Nat.le_refl _, heap_nw _ _, Kd.R_nil _ _ _ _ _, fun i h => absurd h (Nat.not_lt_zero _)⟩, (Below.refl _ w).alloc (Nat.le_refl _) _, PKept.of_below ((Below.refl _ w).alloc (Nat.le_refl _) _)⟩
theorem own_ne {w : World} {base p n cap : Nat} {A : Option Addr} {ps : List Nat} {cs : Array Value} {fz : Nat × Nat} (h : Kd.R kP 63 w base (fun _ => True) (.slice A n cap) ps) (hp : w.heap[p]? = some (.cells cs 61 fz)) : some p ≠ (Value.slice A n cap).ownBlock := fun e => by
  obtain ⟨inner, ho⟩ := Kd.R_own h
  obtain ⟨cells, hc⟩ := own_typed ho p e.symm
  rw [hp] at hc
  cases hc
theorem heap_pushed {wr w5 W : World} {p : Nat} {o o1 : Obj} {row : Option Nat} (hp : wr.heap[p]? = some o) (hW : W = wr.alloc o1) (hg : W.grownBy w5 row) (hne : some p ≠ row) : w5.heap[p]? = some o := by
  subst hW
  have hlt := (Array.getElem?_eq_some_iff.1 hp).1
  rw [hg.block p (by simp; omega) hne]
  show (wr.heap.push o1)[p]? = _
  rw [Array.getElem?_push, if_neg (by omega), hp]
/-- a past behind an append to its row and the store of the row -/
theorem past_pushed {wr w5 W : World} {base p cap cap' n5 c5 : Nat} {A A' A5 : Option Addr} {L : List Com} {ps : List Nat} {x : Com}
    (hps : ps.length = L.length) (hbp : base ≤ p) (hbw : base ≤ wr.heap.size) (h3 : wr.heap[p]? = some (.cells #[.slice A L.length cap] 61 (0, 0))) (h4 : Kd.R kP 63 wr base (fun _ => True) (.slice A ps.length cap) ps) (h5 : ∀ i, ∀ h : i < L.length, ∀ h' : i < ps.length, ComAt wr ps[i] L[i])
    (hW : W = wr.alloc (.cells #[.string x.name, .slice A' x.files.length cap'] 81)) (hF : FRow wr A' cap' x.files)
    (ho : Kd.R kP 63 w5 base (fun _ => True) (.slice A5 n5 c5) (ps ++ [wr.heap.size])) (hb : Below base wr w5) (hg : W.grownBy w5 (Value.slice A ps.length cap).ownBlock) :
    PastIs (w5.setCell ⟨p, 0, none⟩ (.slice A5 n5 c5)) base p (L ++ [x]) ∧ Below base wr (w5.setCell ⟨p, 0, none⟩ (.slice A5 n5 c5)) ∧ PKept wr (w5.setCell ⟨p, 0, none⟩ (.slice A5 n5 c5)) := by
  have hp5 := heap_pushed h3 hW hg (own_ne h4 h3)
  have hn5 : n5 = L.length + 1 := by
    have := (Kd.R_reads' ho).1
    rw [List.length_append, List.length_singleton, hps] at this
    exact this
  have hother : ∀ k, k ≠ p → (w5.setCell ⟨p, 0, none⟩ (.slice A5 n5 c5)).heap[k]? = w5.heap[k]? := fun k hk => Below.heap_setCell _ _ _ _ (fun e => hk e)
  have hself : (w5.setCell ⟨p, 0, none⟩ (.slice A5 n5 c5)).heap[p]? = some (.cells #[.slice A5 n5 c5] 61 (0, 0)) := by
    unfold World.setCell
    simp only
    rw [Array.getElem?_modify, if_pos rfl, hp5]
    rfl
  have hk : PKept wr (w5.setCell ⟨p, 0, none⟩ (.slice A5 n5 c5)) := by
    intro k o hko h76 h77
    have hkp : k ≠ p := by
      intro e; subst e
      rw [h3] at hko
      cases hko
      exact h76 _ _ rfl
    rw [hother k hkp]
    refine heap_pushed hko hW hg ?_
    intro e
    obtain ⟨inner, hown⟩ := Kd.R_own h4
    obtain ⟨cells, hc⟩ := own_typed hown k e.symm
    rw [hko] at hc
    cases hc
    exact h77 _ _ rfl
  have hbel : Below base wr (w5.setCell ⟨p, 0, none⟩ (.slice A5 n5 c5)) := by
    refine ⟨hb.os, hb.tape, hb.output, ?_, fun k hkb => ?_⟩
    · have : (w5.setCell ⟨p, 0, none⟩ (.slice A5 n5 c5)).heap.size = w5.heap.size := by unfold World.setCell; simp
      rw [this]; exact hb.size
    · rw [hother k (by omega)]; exact hb.block k hkb
  refine ⟨⟨A5, c5, ps ++ [wr.heap.size], by rw [List.length_append, List.length_append, hps]; rfl, hbp, ?_, ?_, ?_⟩, hbel, hk⟩
  · rw [hself, hn5, List.length_append]; rfl
  · rw [List.length_append, List.length_singleton, ← hn5]
    exact Kd.R_set ho hp5 (fun q hq => by rcases List.mem_cons.1 hq with h | h; subst h; decide; cases h) 0 _
  · intro i h h'
    by_cases hi : i < L.length
    · rw [List.getElem_append_left (by omega), List.getElem_append_left hi]
      exact (h5 i hi (by omega)).keep hk
    · have e1 : i = L.length := by rw [List.length_append, List.length_singleton] at h; omega
      subst e1
      rw [List.getElem_append_right (by omega), List.getElem_append_right (Nat.le_refl _)]
      simp only [hps, Nat.sub_self, List.getElem_cons_zero]
      refine ⟨A', cap', ?_, hF.keep hk⟩
      have hne : wr.heap.size ≠ p := by have := (Array.getElem?_eq_some_iff.1 h3).1; omega
      rw [hother _ hne]
      subst hW
      rw [hg.block wr.heap.size (by simp) ?_]
      · exact heap_nw _ _
      · intro e
        obtain ⟨inner, hown⟩ := Kd.R_own h4
        obtain ⟨cells, hc⟩ := own_typed hown _ e.symm
        have := (Array.getElem?_eq_some_iff.1 hc).1
        omega
/-- what a commit comes to: its number, the error, the commits behind it -/
def commitR (L : List Com) (name : ByteArray) (fs : List S41) : Int × Int × List Com :=
  if L.length = 200 ∨ 60 < fs.length then (0, 2, L) else if ¬ (fnames fs).Nodup then (0, 5, L) else if ∃ x ∈ fs, x.f0.toList = [] then (0, 3, L) else ((L.length : Int), 0, L ++ [⟨name, srtF fs⟩])
set_option maxHeartbeats 8000000 in
set_option maxRecDepth 100000 in
theorem commit_calls (base p : Nat) (L : List Com) (name : ByteArray) (A1 : Option Addr) (c1 : Nat) (fs : List S41) (w : World) (hP : PastIs w base p L) (hC : Kd.C k41 w A1 fs.length fs) (hc : fs.length ≤ c1) (hL : L.length ≤ 200) (hbase : base ≤ w.heap.size) :
    Calls Tryz.prog 25 #[.pointer (some ⟨p, 0, none⟩), .string name, .slice A1 fs.length c1] w fun e w' => e = .returned (.tuple #[.int .i64 (commitR L name fs).1, .int .i64 (commitR L name fs).2.1]) ∧ PastIs w' base p (commitR L name fs).2.2 ∧ Below base w w' ∧ PKept w w' := by
  have HP := Aside0.mk hP
  have HC := Aside0.mk hC
  have HCC := Aside0.mk hc
  have HBS := Aside0.mk hbase
  obtain ⟨A, cap, ps, hps, hbp, h3, h4, h5⟩ := hP
  have hx0 : w.cell? ⟨p, 0, none⟩ = some (.slice A L.length cap) := by unfold World.cell?; rw [h3]; rfl
  have HX0 := Aside0.mk hx0
  have HPL := Aside0.mk (HP.out.lt)
  have HLL := Aside0.mk hL
  clear hC hc hbase h4 h5 hps h3 hbp
  by_cases g1 : L.length = 200
  · have e : commitR L name fs = (0, 2, L) := by unfold commitR; rw [if_pos (Or.inl g1)]
    rw [e]
    rw [g1] at hx0
    go_enter Tryz.func25, Tryz.ntmps25
    go_wp2
    go_ret2
    exact ⟨rfl, HP.out, Below.refl _ _, PKept.refl _⟩
  · by_cases g2 : 60 < fs.length
    · have e : commitR L name fs = (0, 2, L) := by unfold commitR; rw [if_pos (Or.inr g2)]
      have d1 : ((L.length : Int) == 200) = false := beq_eq_false_iff_ne.mpr (by omega)
      have d2 : decide ((60 : Int) < (fs.length : Int)) = true := by simp; omega
      rw [e]
      go_enter Tryz.func25, Tryz.ntmps25
      go_wp2
      go_ret2
      exact ⟨rfl, HP.out, Below.refl _ _, PKept.refl _⟩
    · have d1 : ((L.length : Int) == 200) = false := beq_eq_false_iff_ne.mpr (by omega)
      have d2 : decide ((60 : Int) < (fs.length : Int)) = false := by simp; omega
      have H37 := Aside0.mk (clone53_calls A1 c1 fs w HC.out (by omega))
      have H38 := Aside0.mk (fun (A : Option Addr) (cap : Nat) (w2 : World) (h : Kd.R k41 41 w2 w.heap.size (fun _ => True) (.slice A fs.length cap) fs) => sort53_row A cap fs w2 w.heap.size h (by omega))
      have HG1 := Aside0.mk g1
      have HG2 := Aside0.mk g2
      clear g1 g2
      go_enter Tryz.func25, Tryz.ntmps25
      go_wp2_with (first
        | (go_at_call 40; refine H37.out.mono ?_; rintro e w1 ⟨v1, rfl, ho, hb⟩; obtain ⟨A2, c2, rfl⟩ := Kd.R_slice ho; have HO1 := Aside0.mk ho; have HB1 := Aside0.mk hb; clear ho hb H37)
        | (go_at_call 44; refine (H38.out _ _ _ HO1.out).mono ?_; rintro e w2 ⟨rfl, d, hdl, hdp, hds, ho, hb⟩; have HO := Aside0.mk ho; have HB := Aside0.mk (HB1.out.trans hb); have HDP := Aside0.mk hdp; have HDS := Aside0.mk hds; have HDL := Aside0.mk hdl; clear ho hb hdp hds hdl H38))
      have HB2 := Aside0.mk (Below.refl w2.heap.size w2)
      rw [← HDL.out]
      have HL60 := Aside0.mk (show d.length ≤ 60 by have := HG2.out; have := HDL.out; omega)
      go_loopg [30] (d.length + 1) (fun kq v30 w' => ∃ i : Nat, v30 = .int .i64 (i : Int) ∧ Aside0 (d.length - i < kq ∧ i ≤ d.length) ∧ Aside0 (Below w2.heap.size w2 w') ∧ Aside0 (∀ j, ∀ h : j + 1 < d.length, j + 1 < i → d[j + 1].f0.toList ≠ d[j].f0.toList))
      case atStart => exact ⟨0, rfl, ⟨by omega, by omega⟩, HB2, ⟨fun j h h0 => absurd h0 (by omega)⟩⟩
      case round =>
        obtain ⟨i, rfl, HI, HBe, HN⟩ := hrel
        obtain ⟨k1, rfl⟩ : ∃ k1, gk = k1 + 1 := ⟨gk - 1, by have := HI.out.1; omega⟩
        have HCd : Aside0 (Kd.C k41 wr A2 d.length d) := ⟨Kd.C_below (by have := (Kd.R_reads' HO.out); rw [← HDL.out] at this; exact this.2.2) HBe.out⟩
        by_cases hlt : i < d.length
        · have hb : decide ((i : Int) < (d.length : Int)) = true := by simp; omega
          have hb2 : decide ((0 : Int) ≤ (i : Int)) = true := by simp
          have p0 : (0 : Int) ≤ (i : Int) := by omega
          have q0 : (i : Int) < (d.length : Int) := by omega
          obtain ⟨ad, e0, hx, hy⟩ := at_T41 HCd.out (i : Int) p0 q0
          cases e0
          rw [Int.toNat_natCast, rd53_at d i hlt] at hx hy
          by_cases hi0 : i = 0
          · have hd0 : decide ((0 : Int) < (i : Int)) = false := by simp; omega
            have hd1 : (0 < i) = False := eq_false (by omega)
            have hd2 : decide (0 < i) = false := decide_eq_false (by omega)
            have HN0 : Aside0 (∀ j, ∀ h : j + 1 < d.length, j + 1 < i + 1 → d[j + 1].f0.toList ≠ d[j].f0.toList) := ⟨fun j h h0 => absurd h0 (by omega)⟩
            generalize d[i] = x at *
            clear hi0
            go_wp2_with fail
            go_big_quiet (fail)
            go_wp2_with fail
            go_roundg k1
            case measure => have := HI.out.1; omega
            case rel => exact ⟨i + 1, congrArg (Value.int .i64) (nx i (by have := HL60.out; omega)), ⟨by have := HI.out.1; omega, by omega⟩, ⟨pw_below_drewN (HBe.out.alloc HBe.out.size _) _⟩, HN0⟩
          · obtain ⟨j, hj⟩ : ∃ j : Nat, j + 1 = i := ⟨i - 1, by omega⟩
            have hd0 : decide ((0 : Int) < (i : Int)) = true := by simp; omega
            have hd1 : (0 < i) = True := eq_true (by omega)
            have hd2 : decide (0 < i) = true := decide_eq_true (by omega)
            have hjn : j < d.length := by omega
            have hi60 : i ≤ 60 := by have := HL60.out; omega
            have hw : wrap64 ((i : Int) - 1) = (j : Int) := by rw [w64 (by omega) (by omega)]; omega
            obtain ⟨ad', e0, hz, -⟩ := at_T41 HCd.out (j : Int) (by omega) (by omega)
            cases e0
            rw [Int.toNat_natCast, rd53_at d j hjn] at hz
            have HNS : Aside0 (d[i].f0.toList ≠ d[j].f0.toList → ∀ j, ∀ h : j + 1 < d.length, j + 1 < i + 1 → d[j + 1].f0.toList ≠ d[j].f0.toList) := ⟨fun q j' h h0 => by
              by_cases e : j' + 1 = i
              · subst e
                have e2 : j = j' := by omega
                subst e2
                exact q
              · exact HN.out j' h (by omega)⟩
            have HDU : Aside0 (d[i].f0.toList = d[j].f0.toList → ¬ NoNext d) := ⟨fun q hn => by subst hj; exact hn j (by omega) q⟩
            generalize d[i] = x at *
            generalize d[j] = y at *
            have hw2 : IntKind.i64.wrap ((i : Int) - 1) = (j : Int) := (i64_w _).trans hw
            have hz' : (wr.alloc (.cells #[.string x.f0, .string x.f1] 41)).cell? (ad.add (j * 2)) = some (.string y.f0) := (World.cell?_alloc_some wr _ _ (by rw [hz]; rfl)).trans hz
            have hj0 : (0 : Int) ≤ (j : Int) := by omega
            have hj1 : (j : Int) < (d.length : Int) := by omega
            by_cases heq : x.f0.toList = y.f0.toList
            · have hbq : (x.f0.toList == y.f0.toList) = true := beq_iff_eq.2 heq
              have hND : ¬ (fnames fs).Nodup := fun q => HDU.out heq (noNext_of ((perm_names HDP.out).nodup_iff.2 q))
              have e : commitR L name fs = (0, 5, L) := by unfold commitR; rw [if_neg (by have := HG1.out; have := HG2.out; omega), if_pos hND]
              have HE := Aside0.mk e
              clear heq hND e
              go_wp2_with fail
              go_big_quiet (fail)
              have HBZ := Aside0.mk (HB.out.trans ((pw_below_drewN (HBe.out.alloc HBe.out.size (.cells #[.string x.f0, .string x.f1] 41)) nq).mono HB.out.size))
              go_wp2_with fail
              go_ret2
              exact ⟨by rw [HE.out]; rfl, by rw [HE.out]; exact HP.out.below HBZ.out, HBZ.out.mono HBS.out, PKept.of_below HBZ.out⟩
            · have hbq : (x.f0.toList == y.f0.toList) = false := beq_eq_false_iff_ne.2 heq
              have HN2 := Aside0.mk (HNS.out heq)
              clear heq
              go_wp2_with fail
              go_big_quiet (fail)
              go_wp2_with fail
              go_roundg k1
              case measure => have := HI.out.1; omega
              case rel => exact ⟨i + 1, congrArg (Value.int .i64) (by first | exact nx i (by omega) | omega), ⟨by have := HI.out.1; omega, by omega⟩, ⟨pw_below_drewN (HBe.out.alloc HBe.out.size _) _⟩, HN2⟩
        · have hb : decide ((i : Int) < (d.length : Int)) = false := by simp; omega
          have HBZ := Aside0.mk (HB.out.trans (HBe.out.mono HB.out.size))
          have hND : (fnames fs).Nodup := (perm_names HDP.out).nodup_iff.1 (nodup_of HDS.out (fun j h => HN.out j h (by omega)))
          have HND := Aside0.mk hND
          have hsrt : d = srtF fs := srt_eq HDP.out HDS.out hND
          have hfe := first_empty HDP.out HDS.out
          have hx0' := (HBZ.out.cell (p := ⟨p, 0, none⟩) HPL.out).trans HX0.out
          have HSR := Aside0.mk hsrt
          clear hND hsrt HN
          by_cases hd0 : d.length = 0
          · have hd1 : decide ((0 : Int) < (d.length : Int)) = false := decide_eq_false (by omega)
            have hd2 : (0 < d.length) = False := eq_false (by omega)
            have hd3 : decide (0 < d.length) = false := decide_eq_false (by omega)
            have hne : ¬ ∃ hd : 0 < d.length, d[0].f0.toList = [] := fun ⟨q1, _⟩ => by omega
            have e : commitR L name fs = ((L.length : Int), 0, L ++ [⟨name, srtF fs⟩]) := by unfold commitR; rw [if_neg (by have := HG1.out; have := HG2.out; omega), if_neg (fun q => q HND.out), if_neg (fun q => hne (hfe.2 q))]
            have HE := Aside0.mk e
            have HD0 := Aside0.mk hd0
            clear e hfe hne hd0
            have HPR := Aside0.mk (HP.out.below HBZ.out)
            obtain ⟨A3, cap3, ps, q1, q2, q3, q4, q5⟩ := HPR.out
            have hA3 : Value.slice A3 L.length cap3 = Value.slice A L.length cap := by
              have := hx0'
              unfold World.cell? at this
              rw [q3] at this
              exact Option.some.inj this
            cases hA3
            have HQ1 := Aside0.mk q1
            have HQ4 := Aside0.mk q4
            have HQ := Aside0.mk (⟨q2, q3, q5⟩ : base ≤ p ∧ wr.heap[p]? = some (.cells #[.slice A L.length cap] 61 (0, 0)) ∧ ∀ i, ∀ h : i < L.length, ∀ h' : i < ps.length, ComAt wr ps[i] L[i])
            have hplt : p < wr.heap.size := by have := HBZ.out.size; have := HPL.out; omega
            have HPW := Aside0.mk hplt
            have HBR : Aside0 (Below base w wr) := ⟨HBZ.out.mono HBS.out⟩
            have HBW := Aside0.mk (show base ≤ wr.heap.size by have := HBZ.out.size; have := HBS.out; omega)
            rw [← q1] at hx0'
            clear q1 q2 q3 q4 q5
            go_wp2_with (at_builtin; go_loud (refine Kd.R_append kP (w0 := wr) base rfl (.tmp 63) (.tmp 68) 59 63 (.pointer none) 8 rfl Tryz.underlying59 info77 rfl (by decide) (by omega) _ ps wr.heap.size [.pointer (some ⟨wr.heap.size, 0, none⟩)] (fun _ => True) (fun _ => False) rfl (by first | rfl | (simp; done) | (go_simp; done)) rfl (fun _ hk => hk.elim) (fun _ _ => trivial) (Kd.R_alloc (by rw [HQ1.out]; exact HQ4.out) _) ((Below.refl base wr).alloc HBW.out _) (by have := HBW.out; simp; omega) (by have := HQ1.out; have := HLL.out; omega) ?_); intro v1 w5 ho hb hg hat; go_loud (obtain ⟨A5, c5, rfl⟩ := Kd.R_slice ho; have hg' : (wr.alloc (.cells #[.string name, .slice A2 d.length c2] 81)).grownBy w5 (Value.slice A ps.length cap).ownBlock := hg; have hp5 := heap_pushed HQ.out.2.1 rfl hg' (own_ne (by rw [HQ1.out]; exact HQ4.out) HQ.out.2.1); have hc5 : w5.cell? ⟨p, 0, none⟩ = some (.slice A L.length cap) := (by unfold World.cell?; rw [hp5]; rfl); have hf5 : w5.frozen? ⟨p, 0, none⟩ = false := (by simp [World.frozen?, hp5])); have HO5 := Aside0.mk ho; have HB5 := Aside0.mk hb; have HG5 := Aside0.mk hg'; clear ho hb hg hg' hat hp5)
            have HF : Aside0 (FRow wr A2 c2 (srtF fs)) := ⟨by rw [← HSR.out]; exact (FRow.of_R (by have := HO.out; rw [← HDL.out] at this; exact this)).keep (PKept.of_below HBe.out)⟩
            have HFIN := Aside0.mk (past_pushed (x := ⟨name, srtF fs⟩) (A' := A2) (cap' := c2) HQ1.out HQ.out.1 HBW.out HQ.out.2.1 (by rw [HQ1.out]; exact HQ4.out) HQ.out.2.2 (by rw [show (⟨name, srtF fs⟩ : Com).files.length = d.length by rw [HSR.out]]) HF.out HO5.out HB5.out HG5.out)
            have hlen5 : (ps ++ [wr.heap.size]).length = L.length + 1 := by rw [List.length_append, HQ1.out]; rfl
            go_ret2
            have HF2 := HFIN.out
            rw [show (ps ++ [wr.heap.size]).length = ps.length + 1 by rw [List.length_append]; rfl] at HF2
            refine ⟨?_, by rw [HE.out]; exact HF2.1, HBR.out.trans HF2.2.1, (PKept.of_below HBZ.out).trans HF2.2.2⟩
            rw [HE.out]
            have hw : wrap64 (ps.length : Int) = (L.length : Int) := by rw [HQ1.out, w64 (by omega) (by have := HLL.out; omega)]
            show Ending.returned (.tuple #[.int .i64 (wrap64 (ps.length : Int)), .int .i64 0]) = _
            rw [hw]
          · obtain ⟨bb, oo, e0, hbl, hcell⟩ := C_addr53 HCd.out (by omega)
            have hx : wr.cell? ⟨bb, oo, none⟩ = some (.string (d[0]'(by omega)).f0) := by
              have := hcell 0 (by omega) 0 (.string (d[0]'(by omega)).f0) (by rw [getElem!_pos d 0 (by omega)]; rfl)
              simpa using this
            clear hcell
            cases e0
            have hd1 : (0 : Int) < (d.length : Int) := by omega
            have hd2 : decide ((0 : Int) < (d.length : Int)) = true := decide_eq_true hd1
            by_cases hem : (d[0]'(by omega)).f0.toList = []
            · have e : commitR L name fs = (0, 3, L) := by unfold commitR; rw [if_neg (by have := HG1.out; have := HG2.out; omega), if_neg (fun q => q HND.out), if_pos (hfe.1 ⟨by omega, hem⟩)]
              have HE := Aside0.mk e
              have hbq : ((d[0]'(by omega)).f0.toList == []) = true := beq_iff_eq.2 hem
              generalize d[0]'(by omega) = x at *
              clear e hem hfe
              go_wp2_with fail
              go_ret2
              exact ⟨by rw [HE.out]; rfl, by rw [HE.out]; exact HP.out.below HBZ.out, HBZ.out.mono HBS.out, PKept.of_below HBZ.out⟩
            · have e : commitR L name fs = ((L.length : Int), 0, L ++ [⟨name, srtF fs⟩]) := by unfold commitR; rw [if_neg (by have := HG1.out; have := HG2.out; omega), if_neg (fun q => q HND.out), if_neg (fun q => hem (by obtain ⟨_, q2⟩ := hfe.2 q; exact q2))]
              have HE := Aside0.mk e
              have hbq : ((d[0]'(by omega)).f0.toList == []) = false := beq_eq_false_iff_ne.2 hem
              generalize d[0]'(by omega) = x at *
              clear e hem hfe
              have HPR := Aside0.mk (HP.out.below HBZ.out)
              obtain ⟨A3, cap3, ps, q1, q2, q3, q4, q5⟩ := HPR.out
              have hA3 : Value.slice A3 L.length cap3 = Value.slice A L.length cap := by
                have := hx0'
                unfold World.cell? at this
                rw [q3] at this
                exact Option.some.inj this
              cases hA3
              have HQ1 := Aside0.mk q1
              have HQ4 := Aside0.mk q4
              have HQ := Aside0.mk (⟨q2, q3, q5⟩ : base ≤ p ∧ wr.heap[p]? = some (.cells #[.slice A L.length cap] 61 (0, 0)) ∧ ∀ i, ∀ h : i < L.length, ∀ h' : i < ps.length, ComAt wr ps[i] L[i])
              have hplt : p < wr.heap.size := by have := HBZ.out.size; have := HPL.out; omega
              have HPW := Aside0.mk hplt
              have HBR : Aside0 (Below base w wr) := ⟨HBZ.out.mono HBS.out⟩
              have HBW := Aside0.mk (show base ≤ wr.heap.size by have := HBZ.out.size; have := HBS.out; omega)
              rw [← q1] at hx0'
              clear q1 q2 q3 q4 q5
              go_wp2_with (at_builtin; go_loud (refine Kd.R_append kP (w0 := wr) base rfl (.tmp 63) (.tmp 68) 59 63 (.pointer none) 8 rfl Tryz.underlying59 info77 rfl (by decide) (by omega) _ ps wr.heap.size [.pointer (some ⟨wr.heap.size, 0, none⟩)] (fun _ => True) (fun _ => False) rfl (by first | rfl | (simp; done) | (go_simp; done)) rfl (fun _ hk => hk.elim) (fun _ _ => trivial) (Kd.R_alloc (by rw [HQ1.out]; exact HQ4.out) _) ((Below.refl base wr).alloc HBW.out _) (by have := HBW.out; simp; omega) (by have := HQ1.out; have := HLL.out; omega) ?_); intro v1 w5 ho hb hg hat; go_loud (obtain ⟨A5, c5, rfl⟩ := Kd.R_slice ho; have hg' : (wr.alloc (.cells #[.string name, .slice (some ⟨bb, oo, none⟩) d.length c2] 81)).grownBy w5 (Value.slice A ps.length cap).ownBlock := hg; have hp5 := heap_pushed HQ.out.2.1 rfl hg' (own_ne (by rw [HQ1.out]; exact HQ4.out) HQ.out.2.1); have hc5 : w5.cell? ⟨p, 0, none⟩ = some (.slice A L.length cap) := (by unfold World.cell?; rw [hp5]; rfl); have hf5 : w5.frozen? ⟨p, 0, none⟩ = false := (by simp [World.frozen?, hp5])); have HO5 := Aside0.mk ho; have HB5 := Aside0.mk hb; have HG5 := Aside0.mk hg'; clear ho hb hg hg' hat hp5)
              have HF : Aside0 (FRow wr (some ⟨bb, oo, none⟩) c2 (srtF fs)) := ⟨by rw [← HSR.out]; exact (FRow.of_R (by have := HO.out; rw [← HDL.out] at this; exact this)).keep (PKept.of_below HBe.out)⟩
              have HFIN := Aside0.mk (past_pushed (x := ⟨name, srtF fs⟩) (A' := some ⟨bb, oo, none⟩) (cap' := c2) HQ1.out HQ.out.1 HBW.out HQ.out.2.1 (by rw [HQ1.out]; exact HQ4.out) HQ.out.2.2 (by rw [show (⟨name, srtF fs⟩ : Com).files.length = d.length by rw [HSR.out]]) HF.out HO5.out HB5.out HG5.out)
              have hlen5 : (ps ++ [wr.heap.size]).length = L.length + 1 := by rw [List.length_append, HQ1.out]; rfl
              go_ret2
              have HF2 := HFIN.out
              rw [show (ps ++ [wr.heap.size]).length = ps.length + 1 by rw [List.length_append]; rfl] at HF2
              refine ⟨?_, by rw [HE.out]; exact HF2.1, HBR.out.trans HF2.2.1, (PKept.of_below HBZ.out).trans HF2.2.2⟩
              rw [HE.out]
              have hw : wrap64 (ps.length : Int) = (L.length : Int) := by rw [HQ1.out, w64 (by omega) (by have := HLL.out; omega)]
              show Ending.returned (.tuple #[.int .i64 (wrap64 (ps.length : Int)), .int .i64 0]) = _
              rw [hw]
end Go.Proofs.YthimblhfjfngiaaGreat.PText

