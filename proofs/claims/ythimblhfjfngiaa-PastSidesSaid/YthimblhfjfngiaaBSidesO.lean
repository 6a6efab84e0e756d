/- PastSides holds: for every three texts the statement answers true. Part 15 of 20. -/
import Derived.Test.YthimblhfjfngiaaBSidesN
import Derived.BigCall
import Derived.Lib.Hide
namespace Go.Proofs.Ythimblhfjfngiaa.PText
open Go.RowKit Go.Lib Go.Sort Go.Proofs.YthimblhfjfngiaaW.PrintWords Go.Proofs.YthimblhfjfngiaaW.PrintLast Go.Proofs.YthimblhfjfngiaaW.PrintMore
set_option linter.unusedVariables false
set_option linter.unusedSimpArgs false
/-- a commit's pointer, in a row -/
def kP : Kd Nat := Kd.scalar (fun c : Nat => Value.pointer (some ⟨c, 0, none⟩)) (fun _ => rfl)
theorem info77 : (Try.prog.info? 77).map (fun i => (i.zero, i.size, i.bytes)) = some (some (.pointer none), 1, 8) := by kernel_rfl
/-- a past: its commits, in their order -/
def PastIs (w : World) (base p : Nat) (L : List Com) : Prop :=
  ∃ (A : Option Addr) (cap : Nat) (ps : List Nat), ps.length = L.length ∧ base ≤ p ∧ w.heap[p]? = some (.cells #[.slice A L.length cap] 76 (0, 0)) ∧ Kd.R kP 77 w base (fun _ => True) (.slice A L.length cap) ps ∧
    ∀ i, ∀ h : i < L.length, ∀ h' : i < ps.length, ComAt w ps[i] L[i]
theorem PastIs.below {w w' : World} {base p : Nat} {L : List Com} (h : PastIs w base p L) (hb : Below w.heap.size w w') : PastIs w' base p L := by
  obtain ⟨A, cap, ps, h1, h2, h3, h4, h5⟩ := h
  exact ⟨A, cap, ps, h1, h2, (hb.block p (Array.getElem?_eq_some_iff.1 h3).1).trans h3, Kd.R_below h4 hb, fun i a b => (h5 i a b).keep (PKept.of_below hb)⟩
theorem PastIs.lt {w : World} {base p : Nat} {L : List Com} (h : PastIs w base p L) : p < w.heap.size := by
  obtain ⟨A, cap, ps, h1, h2, h3, h4, h5⟩ := h
  exact (Array.getElem?_eq_some_iff.1 h3).1
theorem heap_nw (w : World) (o : Obj) : (w.alloc o).heap[w.heap.size]? = some o := by
  show (w.heap.push o)[w.heap.size]? = some o
  exact Array.getElem?_push_size
theorem rd53_at (l : List S53) (i : Nat) (h : i < l.length) : rd_T53 l (i : Int) = l[i] := by
  unfold rd_T53
  rw [Int.toNat_natCast, List.getD_eq_getElem?_getD, List.getElem?_eq_getElem h]; rfl
theorem new_calls (w : World) : Calls Try.prog 32 #[] w fun e w' => e = .returned (.pointer (some ⟨w.heap.size, 0, none⟩)) ∧ PastIs w' w.heap.size w.heap.size [] ∧ Below w.heap.size w w' ∧ PKept w w' := by
  go_enter Try.func32, Try.ntmps32
  go_wp2
  go_ret
  refine ⟨rfl, ⟨none, 0, [], rfl, Nat.le_refl _, heap_nw _ _, Kd.R_nil _ _ _ _ _, fun i h => absurd h (Nat.not_lt_zero _)⟩, (Below.refl _ w).alloc (Nat.le_refl _) _, PKept.of_below ((Below.refl _ w).alloc (Nat.le_refl _) _)⟩
theorem own_ne {w : World} {base p n cap : Nat} {A : Option Addr} {ps : List Nat} {cs : Array Value} {fz : Nat × Nat} (h : Kd.R kP 77 w base (fun _ => True) (.slice A n cap) ps) (hp : w.heap[p]? = some (.cells cs 76 fz)) : some p ≠ (Value.slice A n cap).ownBlock := fun e => by
  obtain ⟨inner, ho⟩ := Kd.R_own h
  obtain ⟨cells, hc⟩ := own_typed ho p e.symm
  rw [hp] at hc
  cases hc
theorem heap_pushed {wr w5 W : World} {p : Nat} {o o1 : Obj} {row : Option Nat} (hp : wr.heap[p]? = some o) (hW : W = wr.alloc o1) (hg : W.grownBy w5 row) (hne : some p ≠ row) : w5.heap[p]? = some o := by
  subst hW
  have hlt := (Array.getElem?_eq_some_iff.1 hp).1
  rw [hg.block p (by simp; omega) hne]
  show (wr.heap.push o1)[p]? = _
  rw [Array.getElem?_push, if_neg (by omega), hp]
/-- a past behind an append to its row and the store of the row -/
theorem past_pushed {wr w5 W : World} {base p cap cap' n5 c5 : Nat} {A A' A5 : Option Addr} {L : List Com} {ps : List Nat} {x : Com}
    (hps : ps.length = L.length) (hbp : base ≤ p) (hbw : base ≤ wr.heap.size) (h3 : wr.heap[p]? = some (.cells #[.slice A L.length cap] 76 (0, 0))) (h4 : Kd.R kP 77 wr base (fun _ => True) (.slice A ps.length cap) ps) (h5 : ∀ i, ∀ h : i < L.length, ∀ h' : i < ps.length, ComAt wr ps[i] L[i])
    (hW : W = wr.alloc (.cells #[.string x.name, .slice A' x.files.length cap'] 79)) (hF : FRow wr A' cap' x.files)
    (ho : Kd.R kP 77 w5 base (fun _ => True) (.slice A5 n5 c5) (ps ++ [wr.heap.size])) (hb : Below base wr w5) (hg : W.grownBy w5 (Value.slice A ps.length cap).ownBlock) :
    PastIs (w5.setCell ⟨p, 0, none⟩ (.slice A5 n5 c5)) base p (L ++ [x]) ∧ Below base wr (w5.setCell ⟨p, 0, none⟩ (.slice A5 n5 c5)) ∧ PKept wr (w5.setCell ⟨p, 0, none⟩ (.slice A5 n5 c5)) := by
  have hp5 := heap_pushed h3 hW hg (own_ne h4 h3)
  have hn5 : n5 = L.length + 1 := by
    have := (Kd.R_reads' ho).1
    rw [List.length_append, List.length_singleton, hps] at this
    exact this
  have hother : ∀ k, k ≠ p → (w5.setCell ⟨p, 0, none⟩ (.slice A5 n5 c5)).heap[k]? = w5.heap[k]? := fun k hk => Below.heap_setCell _ _ _ _ (fun e => hk e)
  have hself : (w5.setCell ⟨p, 0, none⟩ (.slice A5 n5 c5)).heap[p]? = some (.cells #[.slice A5 n5 c5] 76 (0, 0)) := by
    unfold World.setCell
    simp only
    rw [Array.getElem?_modify, if_pos rfl, hp5]
    rfl
  have hk : PKept wr (w5.setCell ⟨p, 0, none⟩ (.slice A5 n5 c5)) := by
    intro k o hko h76 h77
    have hkp : k ≠ p := by
      intro e; subst e
      rw [h3] at hko
      cases hko
      exact h76 _ _ rfl
    rw [hother k hkp]
    refine heap_pushed hko hW hg ?_
    intro e
    obtain ⟨inner, hown⟩ := Kd.R_own h4
    obtain ⟨cells, hc⟩ := own_typed hown k e.symm
    rw [hko] at hc
    cases hc
    exact h77 _ _ rfl
  have hbel : Below base wr (w5.setCell ⟨p, 0, none⟩ (.slice A5 n5 c5)) := by
    refine ⟨hb.os, hb.tape, hb.output, ?_, fun k hkb => ?_⟩
    · have : (w5.setCell ⟨p, 0, none⟩ (.slice A5 n5 c5)).heap.size = w5.heap.size := by unfold World.setCell; simp
      rw [this]; exact hb.size
    · rw [hother k (by omega)]; exact hb.block k hkb
  refine ⟨⟨A5, c5, ps ++ [wr.heap.size], by rw [List.length_append, List.length_append, hps]; rfl, hbp, ?_, ?_, ?_⟩, hbel, hk⟩
  · rw [hself, hn5, List.length_append]; rfl
  · rw [List.length_append, List.length_singleton, ← hn5]
    exact Kd.R_set ho hp5 (fun q hq => by rcases List.mem_cons.1 hq with h | h; subst h; decide; cases h) 0 _
  · intro i h h'
    by_cases hi : i < L.length
    · rw [List.getElem_append_left (by omega), List.getElem_append_left hi]
      exact (h5 i hi (by omega)).keep hk
    · have e1 : i = L.length := by rw [List.length_append, List.length_singleton] at h; omega
      subst e1
      rw [List.getElem_append_right (by omega), List.getElem_append_right (Nat.le_refl _)]
      simp only [hps, Nat.sub_self, List.getElem_cons_zero]
      refine ⟨A', cap', ?_, hF.keep hk⟩
      have hne : wr.heap.size ≠ p := by have := (Array.getElem?_eq_some_iff.1 h3).1; omega
      rw [hother _ hne]
      subst hW
      rw [hg.block wr.heap.size (by simp) ?_]
      · exact heap_nw _ _
      · intro e
        obtain ⟨inner, hown⟩ := Kd.R_own h4
        obtain ⟨cells, hc⟩ := own_typed hown _ e.symm
        have := (Array.getElem?_eq_some_iff.1 hc).1
        omega
/-- what a commit comes to: its number, the error, the commits behind it -/
def commitR (L : List Com) (name : ByteArray) (fs : List S53) : Int × Int × List Com :=
  if L.length = 200 ∨ 60 < fs.length then (0, 2, L) else if ¬ (fnames fs).Nodup then (0, 5, L) else if ∃ x ∈ fs, x.f0.toList = [] then (0, 3, L) else ((L.length : Int), 0, L ++ [⟨name, srtF fs⟩])
set_option maxHeartbeats 8000000 in
set_option maxRecDepth 100000 in
theorem commit_calls (base p : Nat) (L : List Com) (name : ByteArray) (A1 : Option Addr) (c1 : Nat) (fs : List S53) (w : World) (hP : PastIs w base p L) (hC : Kd.C k53 w A1 fs.length fs) (hc : fs.length ≤ c1) (hL : L.length ≤ 200) (hbase : base ≤ w.heap.size) :
    Calls Try.prog 21 #[.pointer (some ⟨p, 0, none⟩), .string name, .slice A1 fs.length c1] w fun e w' => e = .returned (.tuple #[.int .i64 (commitR L name fs).1, .int .i64 (commitR L name fs).2.1]) ∧ PastIs w' base p (commitR L name fs).2.2 ∧ Below base w w' ∧ PKept w w' := by
  have HP := Aside0.mk hP
  have HC := Aside0.mk hC
  have HCC := Aside0.mk hc
  have HBS := Aside0.mk hbase
  obtain ⟨A, cap, ps, hps, hbp, h3, h4, h5⟩ := hP
  have hx0 : w.cell? ⟨p, 0, none⟩ = some (.slice A L.length cap) := by unfold World.cell?; rw [h3]; rfl
  have HX0 := Aside0.mk hx0
  have HPL := Aside0.mk (HP.out.lt)
  have HLL := Aside0.mk hL
  clear hC hc hbase h4 h5 hps h3 hbp
  by_cases g1 : L.length = 200
  · have e : commitR L name fs = (0, 2, L) := by unfold commitR; rw [if_pos (Or.inl g1)]
    rw [e]
    rw [g1] at hx0
    go_enter Try.func21, Try.ntmps21
    go_wp2
    go_ret2
    exact ⟨rfl, HP.out, Below.refl _ _, PKept.refl _⟩
  · by_cases g2 : 60 < fs.length
    · have e : commitR L name fs = (0, 2, L) := by unfold commitR; rw [if_pos (Or.inr g2)]
      have d1 : ((L.length : Int) == 200) = false := beq_eq_false_iff_ne.mpr (by omega)
      have d2 : decide ((60 : Int) < (fs.length : Int)) = true := by simp; omega
      rw [e]
      go_enter Try.func21, Try.ntmps21
      go_wp2
      go_ret2
      exact ⟨rfl, HP.out, Below.refl _ _, PKept.refl _⟩
    · have d1 : ((L.length : Int) == 200) = false := beq_eq_false_iff_ne.mpr (by omega)
      have d2 : decide ((60 : Int) < (fs.length : Int)) = false := by simp; omega
      have H37 := Aside0.mk (clone53_calls A1 c1 fs w HC.out (by omega))
      have H38 := Aside0.mk (fun (A : Option Addr) (cap : Nat) (w2 : World) (h : Kd.R k53 53 w2 w.heap.size (fun _ => True) (.slice A fs.length cap) fs) => sort53_row A cap fs w2 w.heap.size h (by omega))
      have HG1 := Aside0.mk g1
      have HG2 := Aside0.mk g2
      clear g1 g2
      go_enter Try.func21, Try.ntmps21
      go_wp2_with (first
        | (go_at_call 37; refine H37.out.mono ?_; rintro e w1 ⟨v1, rfl, ho, hb⟩; obtain ⟨A2, c2, rfl⟩ := Kd.R_slice ho; have HO1 := Aside0.mk ho; have HB1 := Aside0.mk hb; clear ho hb H37)
        | (go_at_call 38; refine (H38.out _ _ _ HO1.out).mono ?_; rintro e w2 ⟨rfl, d, hdl, hdp, hds, ho, hb⟩; have HO := Aside0.mk ho; have HB := Aside0.mk (HB1.out.trans hb); have HDP := Aside0.mk hdp; have HDS := Aside0.mk hds; have HDL := Aside0.mk hdl; clear ho hb hdp hds hdl H38))
      have HB2 := Aside0.mk (Below.refl w2.heap.size w2)
      rw [← HDL.out]
      have HL60 := Aside0.mk (show d.length ≤ 60 by have := HG2.out; have := HDL.out; omega)
      go_loopg [30] (d.length + 1) (fun kq v30 w' => ∃ i : Nat, v30 = .int .i64 (i : Int) ∧ Aside0 (d.length - i < kq ∧ i ≤ d.length) ∧ Aside0 (Below w2.heap.size w2 w') ∧ Aside0 (∀ j, ∀ h : j + 1 < d.length, j + 1 < i → d[j + 1].f0.toList ≠ d[j].f0.toList))
      case atStart => exact ⟨0, rfl, ⟨by omega, by omega⟩, HB2, ⟨fun j h h0 => absurd h0 (by omega)⟩⟩
      case round =>
        obtain ⟨i, rfl, HI, HBe, HN⟩ := hrel
        obtain ⟨k1, rfl⟩ : ∃ k1, gk = k1 + 1 := ⟨gk - 1, by have := HI.out.1; omega⟩
        have HCd : Aside0 (Kd.C k53 wr A2 d.length d) := ⟨Kd.C_below (by have := (Kd.R_reads' HO.out); rw [← HDL.out] at this; exact this.2.2) HBe.out⟩
        by_cases hlt : i < d.length
        · have hb : decide ((i : Int) < (d.length : Int)) = true := by simp; omega
          have hb2 : decide ((0 : Int) ≤ (i : Int)) = true := by simp
          have p0 : (0 : Int) ≤ (i : Int) := by omega
          have q0 : (i : Int) < (d.length : Int) := by omega
          obtain ⟨ad, e0, hx, hy⟩ := at_T53 HCd.out (i : Int) p0 q0
          cases e0
          rw [Int.toNat_natCast, rd53_at d i hlt] at hx hy
          by_cases hi0 : i = 0
          · have hd0 : decide ((0 : Int) < (i : Int)) = false := by simp; omega
            have hd1 : (0 < i) = False := eq_false (by omega)
            have hd2 : decide (0 < i) = false := decide_eq_false (by omega)
            have HN0 : Aside0 (∀ j, ∀ h : j + 1 < d.length, j + 1 < i + 1 → d[j + 1].f0.toList ≠ d[j].f0.toList) := ⟨fun j h h0 => absurd h0 (by omega)⟩
            generalize d[i] = x at *
            clear hi0
            go_wp2_with fail
            go_big_quiet (fail)
            go_wp2_with fail
            go_roundg k1
            case measure => have := HI.out.1; omega
            case rel => exact ⟨i + 1, congrArg (Value.int .i64) (nx i (by have := HL60.out; omega)), ⟨by have := HI.out.1; omega, by omega⟩, ⟨pw_below_drewN (HBe.out.alloc HBe.out.size _) _⟩, HN0⟩
          · obtain ⟨j, hj⟩ : ∃ j : Nat, j + 1 = i := ⟨i - 1, by omega⟩
            have hd0 : decide ((0 : Int) < (i : Int)) = true := by simp; omega
            have hd1 : (0 < i) = True := eq_true (by omega)
            have hd2 : decide (0 < i) = true := decide_eq_true (by omega)
            have hjn : j < d.length := by omega
            have hi60 : i ≤ 60 := by have := HL60.out; omega
            have hw : wrap64 ((i : Int) - 1) = (j : Int) := by rw [w64 (by omega) (by omega)]; omega
            obtain ⟨ad', e0, hz, -⟩ := at_T53 HCd.out (j : Int) (by omega) (by omega)
            cases e0
            rw [Int.toNat_natCast, rd53_at d j hjn] at hz
            have HNS : Aside0 (d[i].f0.toList ≠ d[j].f0.toList → ∀ j, ∀ h : j + 1 < d.length, j + 1 < i + 1 → d[j + 1].f0.toList ≠ d[j].f0.toList) := ⟨fun q j' h h0 => by
              by_cases e : j' + 1 = i
              · subst e
                have e2 : j = j' := by omega
                subst e2
                exact q
              · exact HN.out j' h (by omega)⟩
            have HDU : Aside0 (d[i].f0.toList = d[j].f0.toList → ¬ NoNext d) := ⟨fun q hn => by subst hj; exact hn j (by omega) q⟩
            generalize d[i] = x at *
            generalize d[j] = y at *
            have hw2 : IntKind.i64.wrap ((i : Int) - 1) = (j : Int) := (i64_w _).trans hw
            have hz' : (wr.alloc (.cells #[.string x.f0, .string x.f1] 53)).cell? (ad.add (j * 2)) = some (.string y.f0) := (World.cell?_alloc_some wr _ _ (by rw [hz]; rfl)).trans hz
            have hj0 : (0 : Int) ≤ (j : Int) := by omega
            have hj1 : (j : Int) < (d.length : Int) := by omega
            by_cases heq : x.f0.toList = y.f0.toList
            · have hbq : (x.f0.toList == y.f0.toList) = true := beq_iff_eq.2 heq
              have hND : ¬ (fnames fs).Nodup := fun q => HDU.out heq (noNext_of ((perm_names HDP.out).nodup_iff.2 q))
              have e : commitR L name fs = (0, 5, L) := by unfold commitR; rw [if_neg (by have := HG1.out; have := HG2.out; omega), if_pos hND]
              have HE := Aside0.mk e
              clear heq hND e
              go_wp2_with fail
              go_big_quiet (fail)
              have HBZ := Aside0.mk (HB.out.trans ((pw_below_drewN (HBe.out.alloc HBe.out.size (.cells #[.string x.f0, .string x.f1] 53)) nq).mono HB.out.size))
              go_wp2_with fail
              go_ret2
              exact ⟨by rw [HE.out]; rfl, by rw [HE.out]; exact HP.out.below HBZ.out, HBZ.out.mono HBS.out, PKept.of_below HBZ.out⟩
            · have hbq : (x.f0.toList == y.f0.toList) = false := beq_eq_false_iff_ne.2 heq
              have HN2 := Aside0.mk (HNS.out heq)
              clear heq
              go_wp2_with fail
              go_big_quiet (fail)
              go_wp2_with fail
              go_roundg k1
              case measure => have := HI.out.1; omega
              case rel => exact ⟨i + 1, congrArg (Value.int .i64) (by first | exact nx i (by omega) | omega), ⟨by have := HI.out.1; omega, by omega⟩, ⟨pw_below_drewN (HBe.out.alloc HBe.out.size _) _⟩, HN2⟩
        · have hb : decide ((i : Int) < (d.length : Int)) = false := by simp; omega
          have HBZ := Aside0.mk (HB.out.trans (HBe.out.mono HB.out.size))
          have hND : (fnames fs).Nodup := (perm_names HDP.out).nodup_iff.1 (nodup_of HDS.out (fun j h => HN.out j h (by omega)))
          have HND := Aside0.mk hND
          have hsrt : d = srtF fs := srt_eq HDP.out HDS.out hND
          have hfe := first_empty HDP.out HDS.out
          have hx0' := (HBZ.out.cell (p := ⟨p, 0, none⟩) HPL.out).trans HX0.out
          have HSR := Aside0.mk hsrt
          clear hND hsrt HN
          by_cases hd0 : d.length = 0
          · have hd1 : decide ((0 : Int) < (d.length : Int)) = false := decide_eq_false (by omega)
            have hd2 : (0 < d.length) = False := eq_false (by omega)
            have hd3 : decide (0 < d.length) = false := decide_eq_false (by omega)
            have hne : ¬ ∃ hd : 0 < d.length, d[0].f0.toList = [] := fun ⟨q1, _⟩ => by omega
            have e : commitR L name fs = ((L.length : Int), 0, L ++ [⟨name, srtF fs⟩]) := by unfold commitR; rw [if_neg (by have := HG1.out; have := HG2.out; omega), if_neg (fun q => q HND.out), if_neg (fun q => hne (hfe.2 q))]
            have HE := Aside0.mk e
            have HD0 := Aside0.mk hd0
            clear e hfe hne hd0
            have HPR := Aside0.mk (HP.out.below HBZ.out)
            obtain ⟨A3, cap3, ps, q1, q2, q3, q4, q5⟩ := HPR.out
            have hA3 : Value.slice A3 L.length cap3 = Value.slice A L.length cap := by
              have := hx0'
              unfold World.cell? at this
              rw [q3] at this
              exact Option.some.inj this
            cases hA3
            have HQ1 := Aside0.mk q1
            have HQ4 := Aside0.mk q4
            have HQ := Aside0.mk (⟨q2, q3, q5⟩ : base ≤ p ∧ wr.heap[p]? = some (.cells #[.slice A L.length cap] 76 (0, 0)) ∧ ∀ i, ∀ h : i < L.length, ∀ h' : i < ps.length, ComAt wr ps[i] L[i])
            have hplt : p < wr.heap.size := by have := HBZ.out.size; have := HPL.out; omega
            have HPW := Aside0.mk hplt
            have HBR : Aside0 (Below base w wr) := ⟨HBZ.out.mono HBS.out⟩
            have HBW := Aside0.mk (show base ≤ wr.heap.size by have := HBZ.out.size; have := HBS.out; omega)
            rw [← q1] at hx0'
            clear q1 q2 q3 q4 q5
            go_wp2_with (at_builtin; go_loud (refine Kd.R_append kP (w0 := wr) base rfl (.tmp 63) (.tmp 68) 74 77 (.pointer none) 8 rfl Try.underlying74 info77 rfl (by decide) (by omega) _ ps wr.heap.size [.pointer (some ⟨wr.heap.size, 0, none⟩)] (fun _ => True) (fun _ => False) rfl (by first | rfl | (simp; done) | (go_simp; done)) rfl (fun _ hk => hk.elim) (fun _ _ => trivial) (Kd.R_alloc (by rw [HQ1.out]; exact HQ4.out) _) ((Below.refl base wr).alloc HBW.out _) (by have := HBW.out; simp; omega) (by have := HQ1.out; have := HLL.out; omega) ?_); intro v1 w5 ho hb hg hat; go_loud (obtain ⟨A5, c5, rfl⟩ := Kd.R_slice ho; have hg' : (wr.alloc (.cells #[.string name, .slice A2 d.length c2] 79)).grownBy w5 (Value.slice A ps.length cap).ownBlock := hg; have hp5 := heap_pushed HQ.out.2.1 rfl hg' (own_ne (by rw [HQ1.out]; exact HQ4.out) HQ.out.2.1); have hc5 : w5.cell? ⟨p, 0, none⟩ = some (.slice A L.length cap) := (by unfold World.cell?; rw [hp5]; rfl); have hf5 : w5.frozen? ⟨p, 0, none⟩ = false := (by simp [World.frozen?, hp5])); have HO5 := Aside0.mk ho; have HB5 := Aside0.mk hb; have HG5 := Aside0.mk hg'; clear ho hb hg hg' hat hp5)
            have HF : Aside0 (FRow wr A2 c2 (srtF fs)) := ⟨by rw [← HSR.out]; exact (FRow.of_R (by have := HO.out; rw [← HDL.out] at this; exact this)).keep (PKept.of_below HBe.out)⟩
            have HFIN := Aside0.mk (past_pushed (x := ⟨name, srtF fs⟩) (A' := A2) (cap' := c2) HQ1.out HQ.out.1 HBW.out HQ.out.2.1 (by rw [HQ1.out]; exact HQ4.out) HQ.out.2.2 (by rw [show (⟨name, srtF fs⟩ : Com).files.length = d.length by rw [HSR.out]]) HF.out HO5.out HB5.out HG5.out)
            have hlen5 : (ps ++ [wr.heap.size]).length = L.length + 1 := by rw [List.length_append, HQ1.out]; rfl
            go_ret2
            have HF2 := HFIN.out
            rw [show (ps ++ [wr.heap.size]).length = ps.length + 1 by rw [List.length_append]; rfl] at HF2
            refine ⟨?_, by rw [HE.out]; exact HF2.1, HBR.out.trans HF2.2.1, (PKept.of_below HBZ.out).trans HF2.2.2⟩
            rw [HE.out]
            have hw : wrap64 (ps.length : Int) = (L.length : Int) := by rw [HQ1.out, w64 (by omega) (by have := HLL.out; omega)]
            show Ending.returned (.tuple #[.int .i64 (wrap64 (ps.length : Int)), .int .i64 0]) = _
            rw [hw]
          · obtain ⟨bb, oo, e0, hbl, hcell⟩ := C_addr53 HCd.out (by omega)
            have hx : wr.cell? ⟨bb, oo, none⟩ = some (.string (d[0]'(by omega)).f0) := by
              have := hcell 0 (by omega) 0 (.string (d[0]'(by omega)).f0) (by rw [getElem!_pos d 0 (by omega)]; rfl)
              simpa using this
            clear hcell
            cases e0
            have hd1 : (0 : Int) < (d.length : Int) := by omega
            have hd2 : decide ((0 : Int) < (d.length : Int)) = true := decide_eq_true hd1
            by_cases hem : (d[0]'(by omega)).f0.toList = []
            · have e : commitR L name fs = (0, 3, L) := by unfold commitR; rw [if_neg (by have := HG1.out; have := HG2.out; omega), if_neg (fun q => q HND.out), if_pos (hfe.1 ⟨by omega, hem⟩)]
              have HE := Aside0.mk e
              have hbq : ((d[0]'(by omega)).f0.toList == []) = true := beq_iff_eq.2 hem
              generalize d[0]'(by omega) = x at *
              clear e hem hfe
              go_wp2_with fail
              go_ret2
              exact ⟨by rw [HE.out]; rfl, by rw [HE.out]; exact HP.out.below HBZ.out, HBZ.out.mono HBS.out, PKept.of_below HBZ.out⟩
            · have e : commitR L name fs = ((L.length : Int), 0, L ++ [⟨name, srtF fs⟩]) := by unfold commitR; rw [if_neg (by have := HG1.out; have := HG2.out; omega), if_neg (fun q => q HND.out), if_neg (fun q => hem (by obtain ⟨_, q2⟩ := hfe.2 q; exact q2))]
              have HE := Aside0.mk e
              have hbq : ((d[0]'(by omega)).f0.toList == []) = false := beq_eq_false_iff_ne.2 hem
              generalize d[0]'(by omega) = x at *
              clear e hem hfe
              have HPR := Aside0.mk (HP.out.below HBZ.out)
              obtain ⟨A3, cap3, ps, q1, q2, q3, q4, q5⟩ := HPR.out
              have hA3 : Value.slice A3 L.length cap3 = Value.slice A L.length cap := by
                have := hx0'
                unfold World.cell? at this
                rw [q3] at this
                exact Option.some.inj this
              cases hA3
              have HQ1 := Aside0.mk q1
              have HQ4 := Aside0.mk q4
              have HQ := Aside0.mk (⟨q2, q3, q5⟩ : base ≤ p ∧ wr.heap[p]? = some (.cells #[.slice A L.length cap] 76 (0, 0)) ∧ ∀ i, ∀ h : i < L.length, ∀ h' : i < ps.length, ComAt wr ps[i] L[i])
              have hplt : p < wr.heap.size := by have := HBZ.out.size; have := HPL.out; omega
              have HPW := Aside0.mk hplt
              have HBR : Aside0 (Below base w wr) := ⟨HBZ.out.mono HBS.out⟩
              have HBW := Aside0.mk (show base ≤ wr.heap.size by have := HBZ.out.size; have := HBS.out; omega)
              rw [← q1] at hx0'
              clear q1 q2 q3 q4 q5
              go_wp2_with (at_builtin; go_loud (refine Kd.R_append kP (w0 := wr) base rfl (.tmp 63) (.tmp 68) 74 77 (.pointer none) 8 rfl Try.underlying74 info77 rfl (by decide) (by omega) _ ps wr.heap.size [.pointer (some ⟨wr.heap.size, 0, none⟩)] (fun _ => True) (fun _ => False) rfl (by first | rfl | (simp; done) | (go_simp; done)) rfl (fun _ hk => hk.elim) (fun _ _ => trivial) (Kd.R_alloc (by rw [HQ1.out]; exact HQ4.out) _) ((Below.refl base wr).alloc HBW.out _) (by have := HBW.out; simp; omega) (by have := HQ1.out; have := HLL.out; omega) ?_); intro v1 w5 ho hb hg hat; go_loud (obtain ⟨A5, c5, rfl⟩ := Kd.R_slice ho; have hg' : (wr.alloc (.cells #[.string name, .slice (some ⟨bb, oo, none⟩) d.length c2] 79)).grownBy w5 (Value.slice A ps.length cap).ownBlock := hg; have hp5 := heap_pushed HQ.out.2.1 rfl hg' (own_ne (by rw [HQ1.out]; exact HQ4.out) HQ.out.2.1); have hc5 : w5.cell? ⟨p, 0, none⟩ = some (.slice A L.length cap) := (by unfold World.cell?; rw [hp5]; rfl); have hf5 : w5.frozen? ⟨p, 0, none⟩ = false := (by simp [World.frozen?, hp5])); have HO5 := Aside0.mk ho; have HB5 := Aside0.mk hb; have HG5 := Aside0.mk hg'; clear ho hb hg hg' hat hp5)
              have HF : Aside0 (FRow wr (some ⟨bb, oo, none⟩) c2 (srtF fs)) := ⟨by rw [← HSR.out]; exact (FRow.of_R (by have := HO.out; rw [← HDL.out] at this; exact this)).keep (PKept.of_below HBe.out)⟩
              have HFIN := Aside0.mk (past_pushed (x := ⟨name, srtF fs⟩) (A' := some ⟨bb, oo, none⟩) (cap' := c2) HQ1.out HQ.out.1 HBW.out HQ.out.2.1 (by rw [HQ1.out]; exact HQ4.out) HQ.out.2.2 (by rw [show (⟨name, srtF fs⟩ : Com).files.length = d.length by rw [HSR.out]]) HF.out HO5.out HB5.out HG5.out)
              have hlen5 : (ps ++ [wr.heap.size]).length = L.length + 1 := by rw [List.length_append, HQ1.out]; rfl
              go_ret2
              have HF2 := HFIN.out
              rw [show (ps ++ [wr.heap.size]).length = ps.length + 1 by rw [List.length_append]; rfl] at HF2
              refine ⟨?_, by rw [HE.out]; exact HF2.1, HBR.out.trans HF2.2.1, (PKept.of_below HBZ.out).trans HF2.2.2⟩
              rw [HE.out]
              have hw : wrap64 (ps.length : Int) = (L.length : Int) := by rw [HQ1.out, w64 (by omega) (by have := HLL.out; omega)]
              show Ending.returned (.tuple #[.int .i64 (wrap64 (ps.length : Int)), .int .i64 0]) = _
              rw [hw]
end Go.Proofs.Ythimblhfjfngiaa.PText

namespace Go.Proofs.Ythimblhfjfngiaa.PText
open Go.RowKit Go.Proofs.YthimblhfjfngiaaW.PrintWords Go.Proofs.YthimblhfjfngiaaW.PrintLast Go.Proofs.YthimblhfjfngiaaW.PrintMore
set_option linter.unusedVariables false
set_option linter.unusedSimpArgs false
/-- a builder stays where all that lay stays -/
theorem builder_kept {T e : TypeId} {B b : Nat} {bs : List Value} {W W' : World} (h : Lib.IsBuilderF T e B b bs W) (hb : Below W.heap.size W W') : Lib.IsBuilderF T e B b bs W' := by
  have one : ∀ p, Lib.BuilderAtF T e B b p bs W → Lib.BuilderAtF T e B b p bs W' := by
    rintro p ⟨hB, v, hv, hown, hne⟩
    have hlt : b < W.heap.size := (Array.getElem?_eq_some_iff.1 hv).1
    exact ⟨hB, v, (hb.block b hlt).trans hv, hown.kept (row := none) ⟨hb.os, hb.tape, hb.output, hb.size, fun k hk _ => hb.block k hk⟩ (Classical.em _), hne⟩
  rcases h with h | h
  · exact .inl (one _ h)
  · exact .inr (one _ h)
theorem heap_new (w : World) (o : Obj) : (w.alloc o).heap[w.heap.size]? = some o := by
  show (w.heap.push o)[w.heap.size]? = some o
  exact Array.getElem?_push_size
theorem heap_old {w : World} {k : Nat} {o : Obj} (h : w.heap[k]? = some o) (o' : Obj) : (w.alloc o').heap[k]? = some o := by
  have hk : k < w.heap.size := (Array.getElem?_eq_some_iff.1 h).1
  show (w.heap.push o')[k]? = some o
  rw [Array.getElem?_push, if_neg (by omega), h]
theorem add_block (a : Addr) (n : Nat) : (a.add n).block = a.block := by unfold Addr.add; split <;> rfl
theorem cell_same {w w' : World} {p : Addr} (h : w'.heap[p.block]? = w.heap[p.block]?) : w'.cell? p = w.cell? p := by unfold World.cell?; rw [h]
/-- where the row of some edits lies: a block of cells of their type, or there are none -/
theorem row_block {w : World} {B : Nat} {A : Option Addr} {c : Nat} {l : List S59} (h : Kd.R k59 59 w B (fun _ => True) (.slice A l.length c) l) :
    ∃ (g : Nat) (cs : Array Value), (l ≠ [] → A = some ⟨g, 0, none⟩) ∧ (l = [] ∨ (B ≤ g ∧ w.heap[g]? = some (.cells cs 59 (0, 0)))) := by
  by_cases hl : l = []
  · exact ⟨0, #[], fun q => absurd hl q, .inl hl⟩
  · obtain ⟨g, cap, hv, hb, _, cs, hc⟩ := Kd.R_form h (List.length_pos_iff.2 hl)
    cases hv
    exact ⟨g, cs, fun _ => rfl, .inr ⟨hb, hc⟩⟩
set_option maxHeartbeats 8000000 in
set_option maxRecDepth 100000 in
theorem text_Apply.calls (a0 : ByteArray) (A1 : Option Addr) (c1 : Nat) (l1 : List S59) (r1 : ByteArray) (r2 : Int) (w : World) (hr1 : Kd.C k59 w A1 l1.length l1) (hc1 : l1.length ≤ c1) (h : text_Apply.f a0 l1 = some (r1, r2)) :
    Calls Try.prog 28 #[.string a0, .slice A1 l1.length c1] w fun e w' => e = .returned (.tuple #[.string r1, .int .i64 r2]) ∧ Below w.heap.size w w' := by
  have H12 := Aside0.mk (text_Fine.calls a0 A1 c1 l1 (fineE a0.size l1) w hr1 hc1 rfl)
  have HC := Aside0.mk hr1
  have HL := Aside0.mk hc1
  clear hr1 hc1
  unfold text_Apply.f at h
  by_cases hf : fineE a0.size l1 = 0
  · rw [if_neg (by rw [hf]; decide)] at h
    rw [hf] at H12
    have CHN := Aside0.mk (fine_chain a0.size l1 hf)
    have HF := Aside0.mk hf
    clear hf
    have H32 := Aside0.mk (fun w2 (h2 : Kd.C k59 w2 A1 l1.length l1) => text_sorted.calls A1 c1 l1 (Tx.ord eltS l1) w2 h2 HL.out (by unfold text_sorted.f; rw [if_pos CHN.out.1]))
    have HH := Aside0.mk h
    clear h
    have HME := Aside0.mk (show madeE a0 l1 = Tx.ap a0.data.toList 0 ((Tx.ord eltS l1).map toE) from rfl)
    have CH := Aside0.mk CHN.out.2.2
    have HRL := Aside0.mk (Nat.le_trans (Tx.ord_len (lt := eltS) l1) CHN.out.1)
    clear CHN
    generalize Tx.ord eltS l1 = row at H32 CH HME HRL
    generalize madeE a0 l1 = M at HH HME
    have hu34 := Try.underlying59
    go_enter Try.func28, Try.ntmps28
    go_wp2_with (first
      | (go_at_call 44; refine H12.out.mono ?_; rintro e w2 ⟨rfl, hb⟩; have HB := Aside0.mk hb; clear hb H12)
      | (go_at_call 45; refine (H32.out _ (Kd.C_alloc (Kd.C_below HC.out HB.out) _)).mono ?_; rintro e w3 ⟨v3, rfl, ho, hb⟩; obtain ⟨A3, c3, rfl⟩ := Kd.R_slice ho; have HO := Aside0.mk ho; have HB3 := Aside0.mk hb; clear ho hb H32))
    have h0 : Lib.IsBuilderF 96 5 w2.heap.size w2.heap.size [] (w2.alloc (.cells #[.pointer none, .slice none 0 0] 96)) := Lib.IsBuilderF.of (Lib.fresh_isBuilder 96 5 w2)
    have hR := Kd.R_reads' HO.out
    obtain ⟨g, cs, hA, hg⟩ := row_block HO.out
    have hC := Aside0.mk hR.2.2
    have H1 := Aside0.mk (builder_kept h0 HB3.out)
    have HB4 : Aside0 (Below w.heap.size w w3) := ⟨((HB.out.alloc HB.out.size _).trans (HB3.out.mono (by have := HB.out.size; simp; omega)))⟩
    have HG : Aside0 (row = [] ∨ (w2.heap.size < g ∧ w3.heap[g]? = some (.cells cs 59 (0, 0)))) := ⟨hg.imp id (fun q => ⟨by have := q.1; simp at this; omega, q.2⟩)⟩
    have HA := Aside0.mk hA
    have HSZ := Aside0.mk HB3.out.size
    have HW := Aside0.mk HB.out.size
    clear h0 HB HB3 hR hg hA HO
    go_loopg [8, 20] (row.length + 1) (fun kq v8 v20 w' => ∃ (i : Nat) (p : Int) (P : List UInt8), v8 = .int .i64 p ∧ v20 = .int .i64 (i : Int) ∧ Aside0 (row.length - i < kq ∧ i ≤ row.length ∧ 0 ≤ p) ∧ Aside0 (Tx.Ch (a0.size : Int) p ((row.drop i).map toE)) ∧ Aside0 (P ++ Tx.ap a0.data.toList p ((row.drop i).map toE) = M) ∧ Aside0 (Lib.IsBuilderF 96 5 w2.heap.size w2.heap.size (Lib.byteCells P) w') ∧ Aside0 (Below w.heap.size w w') ∧ Aside0 (row = [] ∨ (w2.heap.size < g ∧ w'.heap[g]? = some (.cells cs 59 (0, 0)))) ∧ Aside0 (w2.heap.size < w'.heap.size))
    case atStart => exact ⟨0, 0, [], rfl, rfl, ⟨by omega, by omega, by omega⟩, CH, ⟨by rw [HME.out]; rfl⟩, H1, HB4, HG, ⟨by have := HSZ.out; simp at this; omega⟩⟩
    case round =>
      obtain ⟨i, p, P, rfl, rfl, HI, HC2, HP, HBu, HBe, HGe, HS⟩ := hrel
      obtain ⟨k1, rfl⟩ : ∃ k1, gk = k1 + 1 := ⟨gk - 1, by have := HI.out.1; omega⟩
      by_cases hlt : i < row.length
      · have hb : decide ((i : Int) < (row.length : Int)) = true := by simp; omega
        have hb2 : decide ((0 : Int) ≤ (i : Int)) = true := by simp
        have p0 : (0 : Int) ≤ (i : Int) := by omega
        have q0 : (i : Int) < (row.length : Int) := by omega
        obtain ⟨ad, e0, hx0, hx1, hx2⟩ := at_T59 hC.out (i : Int) p0 q0
        have hblk : ad.block = g := by
          have := HA.out (fun e => by rw [e] at hlt; cases hlt)
          rw [e0] at this; cases this; rfl
        have hgw : wr.heap[g]? = w3.heap[g]? := by
          rcases HG.out with q | q
          · rw [q] at hlt; cases hlt
          · rcases HGe.out with q2 | q2
            · rw [q2] at hlt; cases hlt
            · rw [q.2, q2.2]
        cases e0
        replace hx0 := (cell_same (w' := wr) (p := ad.add ((i : Int).toNat * 3)) (by simp only [add_block]; rw [hblk, hgw])).trans hx0
        replace hx1 := (cell_same (w' := wr) (p := ⟨(ad.add ((i : Int).toNat * 3)).block, (ad.add ((i : Int).toNat * 3)).off + 1, none⟩) (by simp only [add_block]; rw [hblk, hgw])).trans hx1
        replace hx2 := (cell_same (w' := wr) (p := ⟨(ad.add ((i : Int).toNat * 3)).block, (ad.add ((i : Int).toNat * 3)).off + 2, none⟩) (by simp only [add_block]; rw [hblk, hgw])).trans hx2
        rw [Int.toNat_natCast] at hx0 hx1 hx2
        rw [rd34_at row i hlt] at hx0 hx1 hx2
        have hd : row.drop i = row[i] :: row.drop (i + 1) := List.drop_eq_getElem_cons hlt
        have HD := Aside0.mk hd
        clear hd hgw
        generalize row[i] = x at *
        have hc := HC2.out
        rw [HD.out] at hc
        obtain ⟨hc1, hc2, hc3⟩ := hc
        replace hc1 : p ≤ x.f0 := hc1
        replace hc2 : x.f0 ≤ x.f1 := hc2
        have hc4 : x.f1 ≤ (a0.size : Int) := Tx.ch_le hc3
        have HC3 := Aside0.mk hc3
        clear hc3
        have hp0 : 0 ≤ p := HI.out.2.2
        have hf0 : x.f0 ≤ (a0.size : Int) := by omega
        have hap : P ++ (Tx.sl a0.data.toList p x.f0 ++ (toE x).x ++ Tx.ap a0.data.toList x.f1 ((row.drop (i + 1)).map toE)) = M := by
          have := HP.out
          rw [HD.out] at this
          exact this
        have HP2 := Aside0.mk hap
        have hML : M.length ≤ 140737488351232 := by
          have := HH.out
          by_cases q : M.length ≤ 140737488351232
          · exact q
          · rw [if_neg q] at this; cases this
        have hsz : P.length + ((a0.extract p.toNat x.f0.toNat).size + x.f2.size) ≤ 140737488351232 := by
          have h1 := congrArg List.length hap
          rw [List.length_append, List.length_append, List.length_append, ← ext_sl, ← size_list, toE_x, ← size_list] at h1
          omega
        have HML := Aside0.mk hML
        obtain ⟨E, hE⟩ : ∃ E, a0.extract p.toNat x.f0.toNat = E := ⟨_, rfl⟩
        rw [hE] at hsz
        have hcat : (E.size + x.f2.size ≤ 9223372036854775807) = True := eq_true (by omega)
        have hcat2 : decide (E.size + x.f2.size ≤ 9223372036854775807) = true := decide_eq_true (by omega)
        have hcat3 : (9223372036854775807 < E.size + x.f2.size) = False := eq_false (by omega)
        have HSZ2 := Aside0.mk hsz
        clear hap hsz hML hblk
        go_wp2_with fail
        go_region_held3 (fun w' => w'.cell? ⟨wr.heap.size, 0, none⟩ = some (.int .i64 x.f0) ∧ w'.cell? ⟨wr.heap.size, 1, none⟩ = some (.int .i64 x.f1) ∧ w'.cell? ⟨wr.heap.size, 2, none⟩ = some (.string x.f2))
          (first
            | go_keep
            | (refine ⟨?_, ?_, ?_⟩ <;> simp [World.cell?, HK]))
          (first | (go_at_call 46; refine (Try.Builder_WriteString_k w2.heap.size w2.heap.size (Lib.byteCells P) (E ++ x.f2) _ ?zb ?zl ?zs).mono ?_; (case zb => exact HBu.out.alloc _); (case zl => (rw [Lib.byteCells_length, ByteArray.size_append]; have := HSZ2.out; omega)); (case zs => (have := HS.out; simp; omega)); rintro e w4 ⟨rfl, hbu, hbel, hok⟩; have HK := hok wr.heap.size (.cells #[.int .i64 x.f0, .int .i64 x.f1, .string x.f2] 59 (0, 0)) (heap_new wr _) (by have := HS.out; intro e; have := Option.some.inj e; omega) (by intro c fz e; cases e)))
        have HB5 : Aside0 (Below w.heap.size w w4) := ⟨(HBe.out.alloc HBe.out.size _).drew.trans (hbel.mono HW.out)⟩
        have HS5 : Aside0 (w2.heap.size < w4.heap.size) := ⟨by have := hbel.size; have := HS.out; simp at *; omega⟩
        have HG5 : Aside0 (row = [] ∨ (w2.heap.size < g ∧ w4.heap[g]? = some (.cells cs 59 (0, 0)))) := ⟨HGe.out.imp id (fun q => ⟨q.1, hok g _ (heap_old q.2 _) (by intro e; have := Option.some.inj e; have := q.1; omega) (by intro c fz e; cases e)⟩)⟩
        have HBu5 : Aside0 (Lib.IsBuilderF 96 5 w2.heap.size w2.heap.size (Lib.byteCells (P ++ (E ++ x.f2).data.toList)) w4) := ⟨by
          rw [Lib.byteCells_append, ← Lib.strCells_eq]
          exact Or.inr hbu⟩
        have HP5 : Aside0 ((P ++ (E ++ x.f2).data.toList) ++ Tx.ap a0.data.toList x.f1 ((row.drop (i + 1)).map toE) = M) := ⟨by
          rw [ByteArray.data_append, Array.toList_append, ← hE, ext_sl, ← toE_x, List.append_assoc, HP2.out]⟩
        have hc1 := cell_same (w' := w4) (w := w4) (p := ⟨wr.heap.size, 1, none⟩) rfl
        have hx1' : w4.cell? ⟨wr.heap.size, 1, none⟩ = some (.int .i64 x.f1) := by simp [World.cell?, HK]
        clear hbu hbel hok HK hc1
        go_wp2_with fail
        go_roundg k1
        case measure => have := HI.out.1; omega
        case rel => exact ⟨i + 1, x.f1, P ++ (E ++ x.f2).data.toList, rfl, congrArg (Value.int .i64) (nx i (by have := HRL.out; omega)), ⟨by have := HI.out.1; omega, by omega, by omega⟩, HC3, HP5, HBu5, HB5, HG5, HS5⟩
      · have hb : decide ((i : Int) < (row.length : Int)) = false := by simp; omega
        have hp0 : 0 ≤ p := HI.out.2.2
        have hd : row.drop i = [] := List.drop_of_length_le (by omega)
        have hc := HC2.out
        rw [hd] at hc
        have hp1 : p ≤ (a0.size : Int) := hc
        have hPM : P ++ a0.data.toList.drop p.toNat = M := by
          have := HP.out
          rw [hd] at this
          exact this
        have HPM := Aside0.mk hPM
        clear hd hc hPM
        have hML : M.length ≤ 140737488351232 := by
          have := HH.out
          by_cases q : M.length ≤ 140737488351232
          · exact q
          · rw [if_neg q] at this; cases this
        have HML := Aside0.mk hML
        clear hML
        go_wp2_with fail
        refine (Try.Builder_WriteString_k w2.heap.size w2.heap.size (Lib.byteCells P) (a0.extract p.toNat a0.size) _ HBu.out ?_ (Nat.le_of_lt HS.out)).mono ?_
        · rw [Lib.byteCells_length, size_list, ext_end]
          have h1 := congrArg List.length HPM.out
          rw [List.length_append] at h1
          have := HML.out
          omega
        rintro e w4 ⟨rfl, hbu, hbel, -⟩
        have HB5 : Aside0 (Below w.heap.size w w4) := ⟨HBe.out.trans (hbel.mono HW.out)⟩
        have HS5 : Aside0 (w2.heap.size < w4.heap.size) := ⟨by have := hbel.size; have := HS.out; omega⟩
        have HBu5 : Aside0 (Lib.IsBuilderF 96 5 w2.heap.size w2.heap.size (Lib.byteCells M) w4) := ⟨by
          rw [← HPM.out, Lib.byteCells_append, ← ext_end, ← Lib.strCells_eq]
          exact Or.inr hbu⟩
        have HF := HH.out
        rw [if_pos HML.out] at HF
        clear hbu hbel HBu HBe
        have hlenB : (Lib.byteCells M).length = M.length := Lib.byteCells_length M
        by_cases hbig : 200000 < M.length
        · rw [if_pos hbig] at HF
          have h' := Option.some.inj HF
          have e1 : r1 = ⟨#[]⟩ := (congrArg Prod.fst h').symm
          have e2 : r2 = 2 := (congrArg Prod.snd h').symm
          clear HF h' HH
          subst e1 e2
          have hbg : decide (200000 < (M.length : Int)) = true := by simp; omega
          go_wp2_with (go_at_call 47; refine (Try.Builder_Len_f _ _ _ _ HBu5.out).mono ?_; rintro e w5 ⟨rfl, rfl⟩; rw [hlenB])
          go_ret2
          exact ⟨rfl, HB5.out⟩
        · rw [if_neg hbig] at HF
          have h' := Option.some.inj HF
          have e1 : r1 = ⟨M.toArray⟩ := (congrArg Prod.fst h').symm
          have e2 : r2 = 0 := (congrArg Prod.snd h').symm
          clear HF h' HH
          subst e1 e2
          have hbg : decide (200000 < (M.length : Int)) = false := by simp; omega
          go_wp2_with (first
            | (go_at_call 47; refine (Try.Builder_Len_f _ _ _ _ HBu5.out).mono ?_; rintro e w5 ⟨rfl, rfl⟩; rw [hlenB])
            | (go_at_call 48; refine (Try.Builder_String_any_k w2.heap.size w2.heap.size M _ HBu5.out (Nat.le_of_lt HS5.out)).mono ?_; rintro e w5 ⟨rfl, -, hbel, -⟩; have HB6 := Aside0.mk (HB5.out.trans (hbel.mono HW.out)); clear hbel))
          go_ret2
          exact ⟨rfl, HB6.out⟩
  · rw [if_pos hf] at h
    have h' := Option.some.inj h
    have hr : r1 = ⟨#[]⟩ ∧ r2 = fineE a0.size l1 := ⟨(congrArg Prod.fst h').symm, (congrArg Prod.snd h').symm⟩
    clear h h'
    obtain ⟨rfl, rfl⟩ := hr
    have b1 : (fineE a0.size l1 != 0) = true := by simpa using hf
    have b2 : (fineE a0.size l1 == 0) = false := by simpa using hf
    generalize fineE a0.size l1 = fe at *
    clear hf
    go_enter Try.func28, Try.ntmps28
    go_wp2_with (go_at_call 44; refine H12.out.mono ?_; rintro e w2 ⟨rfl, hb⟩; have HB := Aside0.mk hb; clear hb H12)
    go_ret2
    exact ⟨rfl, HB.out⟩
end Go.Proofs.Ythimblhfjfngiaa.PText

