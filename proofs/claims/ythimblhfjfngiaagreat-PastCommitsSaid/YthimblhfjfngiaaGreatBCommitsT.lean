/- PastCommits holds: for all steps and every number the statement answers true. Part 20 of 20. -/
import Derived.Test.YthimblhfjfngiaaGreatBCommitsS
import Derived.Sort.EncStr
import Derived.Deep.Slices
import Derived.ChangeArms
import Derived.ChangeOld
import Derived.Test.YthimblhfjfngiaaGreatRows
import Derived.ProofKit
import Derived.OpenShut
import Derived.ShutString
import Derived.SizedLaws
import Derived.Deep.DeepHandedRow
import Derived.Deep.DeepWitnessRowRef
namespace Go.Proofs.YthimblhfjfngiaaGreat.PText
open Go.RowKit Go.Lib Go.Sort Go.Proofs.YthimblhfjfngiaaGreatW.PrintWords Go.Proofs.YthimblhfjfngiaaGreatW.PrintLast Go.Proofs.YthimblhfjfngiaaGreatW.PrintMore
set_option linter.unusedVariables false
set_option linter.unusedSimpArgs false
/-- no two of the first files have one name -/
def NoDupTo (fs : List S41) (i : Nat) : Prop := ∀ a b, a < b → b < i → ∀ hb : b < fs.length, ∀ ha : a < fs.length, fs[b].f0.toList ≠ fs[a].f0.toList
theorem noDup_all {fs : List S41} (h : NoDupTo fs fs.length) : (fnames fs).Nodup := by
  unfold fnames
  rw [List.nodup_iff_pairwise_ne, List.pairwise_iff_getElem]
  intro i j hi hj hij
  rw [List.getElem_map, List.getElem_map]
  rw [List.length_map] at hi hj
  exact fun e => h i j hij hj hj hi e.symm
theorem dup_not {fs : List S41} {a b : Nat} (hab : a < b) (hb : b < fs.length) (h : fs[b].f0.toList = fs[a].f0.toList) : ¬ (fnames fs).Nodup := fun q => by
  unfold fnames at q
  rw [List.nodup_iff_pairwise_ne, List.pairwise_iff_getElem] at q
  have := q a b (by rw [List.length_map]; omega) (by rw [List.length_map]; omega) hab
  rw [List.getElem_map, List.getElem_map] at this
  exact this h.symm
/-- what is read below a place, and is read still -/
theorem below_setq {base : Nat} {a w : World} {q i : Nat} {x : Value} (h : Below base a w) (hq : base ≤ q) : Below base a (w.setCell ⟨q, i, none⟩ x) := h.setCell (p := ⟨q, i, none⟩) hq x
/-- behind the names' append and its store -/
theorem ref_named {w w5 : World} {base q : Nat} {L : List Com} {A1 A2 A5 : Option Addr} {c1 c2 c5 : Nat} {ps : List (Option Addr × Nat × Nat)} {name : ByteArray}
    (h1 : ps.length = L.length) (h2 : base ≤ q) (h3 : w.heap[q]? = some (.cells #[.slice A1 L.length c1, .slice A2 L.length c2] 58 (0, 0))) (h4 : Kd.R Kd.string 9 w base (fun _ => True) (.slice A1 L.length c1) (L.map (·.name))) (h5 : Kd.R kL 37 w base (fun _ => True) (.slice A2 L.length c2) ps)
    (h6 : ∀ i, ∀ h : i < L.length, ∀ h' : i < ps.length, ps[i].2.1 = L[i].files.length ∧ FRow w ps[i].1 ps[i].2.2 L[i].files) (hbw : base ≤ w.heap.size)
    (ho : Kd.R Kd.string 9 w5 base (fun _ => True) (.slice A5 (L.length + 1) c5) (L.map (·.name) ++ [name])) (hb : Below base w w5) (hg : w.grownBy w5 (Value.slice A1 L.length c1).ownBlock) :
    Below base w (w5.setCell ⟨q, 0, none⟩ (.slice A5 (L.length + 1) c5)) ∧ RKept w (w5.setCell ⟨q, 0, none⟩ (.slice A5 (L.length + 1) c5)) ∧ w5.heap[q]? = some (.cells #[.slice A1 L.length c1, .slice A2 L.length c2] 58 (0, 0)) ∧
    (w5.setCell ⟨q, 0, none⟩ (.slice A5 (L.length + 1) c5)).heap[q]? = some (.cells #[.slice A5 (L.length + 1) c5, .slice A2 L.length c2] 58 (0, 0)) ∧ Kd.R Kd.string 9 (w5.setCell ⟨q, 0, none⟩ (.slice A5 (L.length + 1) c5)) base (fun _ => True) (.slice A5 (L.length + 1) c5) (L.map (·.name) ++ [name]) ∧
    Kd.R kL 37 (w5.setCell ⟨q, 0, none⟩ (.slice A5 (L.length + 1) c5)) base (fun _ => True) (.slice A2 L.length c2) ps ∧ (∀ i, ∀ h : i < L.length, ∀ h' : i < ps.length, ps[i].2.1 = L[i].files.length ∧ FRow (w5.setCell ⟨q, 0, none⟩ (.slice A5 (L.length + 1) c5)) ps[i].1 ps[i].2.2 L[i].files) := by
  have hqlt := (Array.getElem?_eq_some_iff.1 h3).1
  obtain ⟨inner, hown⟩ := Kd.R_own h4
  have hne : some q ≠ (Value.slice A1 L.length c1).ownBlock := fun e => by
    obtain ⟨i0, ho0⟩ := Kd.R_own h4
    obtain ⟨cells, hc⟩ := own_typed ho0 q e.symm
    rw [h3] at hc; cases hc
  have hq5 : w5.heap[q]? = some (.cells #[.slice A1 L.length c1, .slice A2 L.length c2] 58 (0, 0)) := (hg.block q hqlt hne).trans h3
  have hK : RKept w w5 := RKept.grown hg hown (.inr (.inl rfl))
  have hK2 : RKept w (w5.setCell ⟨q, 0, none⟩ (.slice A5 (L.length + 1) c5)) := hK.trans (RKept.set hq5)
  have hself : (w5.setCell ⟨q, 0, none⟩ (.slice A5 (L.length + 1) c5)).heap[q]? = some (.cells #[.slice A5 (L.length + 1) c5, .slice A2 L.length c2] 58 (0, 0)) := by
    unfold World.setCell
    simp only
    rw [Array.getElem?_modify, if_pos rfl, hq5]
    rfl
  refine ⟨below_setq hb h2, hK2, hq5, hself, Kd.R_set ho hq5 (fun z hz => by rcases List.mem_cons.1 hz with h | h; subst h; decide; cases h) 0 _, ?_, fun i a b => ⟨(h6 i a b).1, (h6 i a b).2.rkeep hK2⟩⟩
  refine Kd.R_set ?_ hq5 (fun z hz => by rcases List.mem_cons.1 hz with h | h; subst h; decide; cases h) 0 _
  refine R_types' h5 (fun k t cs ht hc => ?_)
  have e : t = 37 := by rcases List.mem_cons.1 ht with h | h; exact h; cases h
  subst e
  rw [hg.block k (Array.getElem?_eq_some_iff.1 hc).1 ?_, hc]
  intro e
  obtain ⟨cells, hc'⟩ := own_typed hown k e.symm
  rw [hc] at hc'; cases hc'
/-- behind the files' append and its store -/
theorem ref_filed {w w5 : World} {base q : Nat} {L : List Com} {A1 A2 A5 A' : Option Addr} {c1 c2 c5 c' : Nat} {ps : List (Option Addr × Nat × Nat)} {x : Com}
    (h1 : ps.length = L.length) (h2 : base ≤ q) (h3 : w.heap[q]? = some (.cells #[.slice A1 (L.length + 1) c1, .slice A2 L.length c2] 58 (0, 0))) (h4 : Kd.R Kd.string 9 w base (fun _ => True) (.slice A1 (L.length + 1) c1) (L.map (·.name) ++ [x.name])) (h5 : Kd.R kL 37 w base (fun _ => True) (.slice A2 ps.length c2) ps)
    (h6 : ∀ i, ∀ h : i < L.length, ∀ h' : i < ps.length, ps[i].2.1 = L[i].files.length ∧ FRow w ps[i].1 ps[i].2.2 L[i].files) (hbw : base ≤ w.heap.size) (hF : FRow w A' c' x.files)
    (ho : Kd.R kL 37 w5 base (fun _ => True) (.slice A5 (ps.length + 1) c5) (ps ++ [(A', x.files.length, c')])) (hb : Below base w w5) (hg : w.grownBy w5 (Value.slice A2 ps.length c2).ownBlock) :
    Below base w (w5.setCell ⟨q, 1, none⟩ (.slice A5 (ps.length + 1) c5)) ∧ RKept w (w5.setCell ⟨q, 1, none⟩ (.slice A5 (ps.length + 1) c5)) ∧ w5.heap[q]? = some (.cells #[.slice A1 (L.length + 1) c1, .slice A2 L.length c2] 58 (0, 0)) ∧
    RefIs (w5.setCell ⟨q, 1, none⟩ (.slice A5 (ps.length + 1) c5)) base q (L ++ [x]) := by
  have hqlt := (Array.getElem?_eq_some_iff.1 h3).1
  obtain ⟨inner, hown⟩ := Kd.R_own h5
  have hne : some q ≠ (Value.slice A2 ps.length c2).ownBlock := fun e => by
    obtain ⟨i0, ho0⟩ := Kd.R_own h5
    obtain ⟨cells, hc⟩ := own_typed ho0 q e.symm
    rw [h3] at hc; cases hc
  have hq5 : w5.heap[q]? = some (.cells #[.slice A1 (L.length + 1) c1, .slice A2 L.length c2] 58 (0, 0)) := (hg.block q hqlt hne).trans h3
  have hK : RKept w w5 := RKept.grown hg hown (.inr (.inr rfl))
  have hK2 : RKept w (w5.setCell ⟨q, 1, none⟩ (.slice A5 (ps.length + 1) c5)) := hK.trans (RKept.set hq5)
  have hself : (w5.setCell ⟨q, 1, none⟩ (.slice A5 (ps.length + 1) c5)).heap[q]? = some (.cells #[.slice A1 (L.length + 1) c1, .slice A5 (ps.length + 1) c5] 58 (0, 0)) := by
    unfold World.setCell
    simp only
    rw [Array.getElem?_modify, if_pos rfl, hq5]
    rfl
  refine ⟨below_setq hb h2, hK2, hq5, A1, A5, c1, c5, ps ++ [(A', x.files.length, c')], by rw [List.length_append, List.length_append, h1]; rfl, h2, ?_, ?_, ?_, ?_⟩
  · rw [hself, h1, List.length_append]; rfl
  · rw [List.map_append, List.length_append]
    refine Kd.R_set ?_ hq5 (fun z hz => by rcases List.mem_cons.1 hz with h | h; subst h; decide; cases h) 1 _
    refine R_types' h4 (fun k t cs ht hc => ?_)
    have e : t = 9 := by rcases List.mem_cons.1 ht with h | h; exact h; cases h
    subst e
    rw [hg.block k (Array.getElem?_eq_some_iff.1 hc).1 ?_, hc]
    intro e
    obtain ⟨cells, hc'⟩ := own_typed hown k e.symm
    rw [hc] at hc'; cases hc'
  · rw [h1, List.length_append] at *
    exact Kd.R_set (by rw [h1] at ho; exact ho) hq5 (fun z hz => by rcases List.mem_cons.1 hz with h | h; subst h; decide; cases h) 1 _
  · intro i h h'
    by_cases hi : i < L.length
    · rw [List.getElem_append_left (by omega), List.getElem_append_left hi]
      exact ⟨(h6 i hi (by omega)).1, (h6 i hi (by omega)).2.rkeep hK2⟩
    · have e1 : i = L.length := by rw [List.length_append, List.length_singleton] at h; omega
      subst e1
      rw [List.getElem_append_right (by omega), List.getElem_append_right (Nat.le_refl _)]
      simp only [h1, Nat.sub_self, List.getElem_cons_zero]
      exact ⟨trivial, by rw [h1] at hK2; exact hF.rkeep hK2⟩
/-- to append a commit's files, in a region that draws its order -/
theorem append_file {ops : Array Oper} {o : Oper} {a : Act} {Q : Exit → Act → World → Prop} {Kc : Act → World → Prop} {w W : World} (base q : Nat) {L : List Com} {A1 A2 A' : Option Addr} {c1 c2 c' : Nat} {ps : List (Option Addr × Nat × Nat)} {x : Com} (hw : Region.wanted o (yielded ops a.tmps) = true)
    (ho : o.op = .call { callee := .builtin .append, args := #[.tmp 70, .tmp 73], argTypes := #[56, 56] }) (hs : a.eval (.tmp 70) = .slice A2 L.length c2) (hx : a.eval (.tmp 73) = .slice (some ⟨w.heap.size, 0, none⟩) 1 1) (hW : W = w.alloc (.cells #[.slice A' x.files.length c'] 37))
    (h1 : ps.length = L.length) (h2 : base ≤ q) (h3 : w.heap[q]? = some (.cells #[.slice A1 (L.length + 1) c1, .slice A2 L.length c2] 58 (0, 0))) (h4 : Kd.R Kd.string 9 w base (fun _ => True) (.slice A1 (L.length + 1) c1) (L.map (·.name) ++ [x.name])) (h5 : Kd.R kL 37 w base (fun _ => True) (.slice A2 ps.length c2) ps)
    (h6 : ∀ i, ∀ h : i < L.length, ∀ h' : i < ps.length, ps[i].2.1 = L[i].files.length ∧ FRow w ps[i].1 ps[i].2.2 L[i].files) (hbw : base ≤ w.heap.size) (hF : FRow w A' c' x.files) (hL : L.length ≤ 1000)
    (h : ∀ A5 c5 w5, Below base w w5 → (Below base w (w5.setCell ⟨q, 1, none⟩ (.slice A5 (L.length + 1) c5)) ∧ RKept w (w5.setCell ⟨q, 1, none⟩ (.slice A5 (L.length + 1) c5)) ∧ RefIs (w5.setCell ⟨q, 1, none⟩ (.slice A5 (L.length + 1) c5)) base q (L ++ [x])) → w5.cell? ⟨q, 1, none⟩ = some (.slice A2 L.length c2) → w5.frozen? ⟨q, 1, none⟩ = false → (w5.setCell ⟨q, 1, none⟩ (.slice A5 (L.length + 1) c5)).cell? ⟨q, 0, none⟩ = some (.slice A1 (L.length + 1) c1) →
      Kc (a.put o.dst (.slice A5 (L.length + 1) c5)) w5) :
    if Region.wanted o (yielded ops a.tmps) = true then Oper.wp Tryz.prog o a W Kc Q else Kc (a.put o.dst undef) W := by
  subst hW
  have hs' : a.eval (.tmp 70) = .slice A2 ps.length c2 := by rw [h1]; exact hs
  refine Kd.R_append_step kL (w0 := w) base hw (.tmp 70) (.tmp 73) 56 37 (.slice none 0 0) 24 ho Tryz.underlying56 info46 rfl (by decide) (by omega) (.slice A2 ps.length c2) ps (A', x.files.length, c') [.slice A' x.files.length c'] (fun _ => True) (fun _ => False) hs' hx rfl (fun _ hk => hk.elim) (fun _ _ => trivial) h5 (Below.refl base w) hbw (by omega) ?_
  intro v1 w5 ho hb hg hat
  obtain ⟨A5, c5, rfl⟩ := Kd.R_slice ho
  have e : (ps ++ [(A', x.files.length, c')]).length = L.length + 1 := by rw [List.length_append, h1]; rfl
  have e2 : (ps ++ [(A', x.files.length, c')]).length = ps.length + 1 := by rw [List.length_append]; rfl
  rw [e2] at ho
  obtain ⟨q1, q2, q3, q4⟩ := ref_filed (A5 := A5) (c5 := c5) h1 h2 h3 h4 h5 h6 hbw hF ho hb hg
  rw [h1] at q1 q2 q4
  rw [e]
  exact h A5 c5 w5 hb ⟨q1, q2, q4⟩ (by unfold World.cell?; rw [q3]; rfl) (by simp [World.frozen?, q3]) (by unfold World.cell? World.setCell; simp only; rw [Array.getElem?_modify, if_pos rfl, q3]; rfl)
end Go.Proofs.YthimblhfjfngiaaGreat.PText

namespace Go.Proofs.YthimblhfjfngiaaGreat.PText
open Go.RowKit Go.Lib Go.Sort Go.Proofs.YthimblhfjfngiaaGreatW.PrintWords Go.Proofs.YthimblhfjfngiaaGreatW.PrintLast Go.Proofs.YthimblhfjfngiaaGreatW.PrintMore
set_option linter.unusedVariables false
set_option linter.unusedSimpArgs false
set_option maxRecDepth 100000 in
set_option maxHeartbeats 8000000 in
theorem rcommit_calls (base q : Nat) (L : List Com) (name : ByteArray) (A0 : Option Addr) (c0 : Nat) (fs : List S41) (w : World) (hR : RefIs w base q L) (hC : ∀ w', Below base w w' → Kd.C k41 w' A0 fs.length fs) (hc : fs.length ≤ c0) (hL : L.length ≤ 200) (hbase : base ≤ w.heap.size) :
    Calls Tryz.prog 27 #[.pointer (some ⟨q, 0, none⟩), .string name, .slice A0 fs.length c0] w fun e w' => e = .returned (.tuple #[.int .i64 (commitR L name fs).1, .int .i64 (commitR L name fs).2.1]) ∧ RefIs w' base q (commitR L name fs).2.2 ∧ Below base w w' ∧ RKept w w' := by
  have HR := Aside0.mk hR
  obtain ⟨A1, A2, c1, c2, ps, h1, h2, h3, h4, h5, h6⟩ := hR
  have hx0 : w.cell? ⟨q, 0, none⟩ = some (.slice A1 L.length c1) := by unfold World.cell?; rw [h3]; rfl
  have hx1 : w.cell? ⟨q, 1, none⟩ = some (.slice A2 L.length c2) := by unfold World.cell?; rw [h3]; rfl
  have HX0 := Aside0.mk hx0
  have HX1 := Aside0.mk hx1
  have HQL := Aside0.mk (Array.getElem?_eq_some_iff.1 h3).1
  have HLL := Aside0.mk hL
  have HCC := Aside0.mk hC
  have HBS := Aside0.mk hbase
  have HCP := Aside0.mk hc
  clear h1 h2 h3 h4 h5 h6 hC hL hbase hc hx1
  by_cases g1 : L.length = 200
  · have e : commitR L name fs = (0, 2, L) := by unfold commitR; rw [if_pos (Or.inl g1)]
    have d1 : decide ((L.length : Int) ≥ 200) = true := decide_eq_true (by omega)
    have d1' : decide ((200 : Int) ≤ (L.length : Int)) = true := decide_eq_true (by omega)
    rw [e]
    go_enter Tryz.func27, Tryz.ntmps27
    go_wp2_with fail
    go_ret2
    exact ⟨rfl, HR.out, Below.refl _ _, RKept.refl _⟩
  · have d1 : decide ((L.length : Int) ≥ 200) = false := decide_eq_false (by have := HLL.out; omega)
    have d1' : decide ((200 : Int) ≤ (L.length : Int)) = false := decide_eq_false (by have := HLL.out; omega)
    by_cases g2 : 60 < fs.length
    · have e : commitR L name fs = (0, 2, L) := by unfold commitR; rw [if_pos (Or.inr g2)]
      have d2 : decide ((60 : Int) < (fs.length : Int)) = true := decide_eq_true (by omega)
      have d3 : ¬ ((200 : Int) ≤ (L.length : Int)) := by have := HLL.out; omega
      rw [e]
      go_enter Tryz.func27, Tryz.ntmps27
      go_wp2_with fail
      go_ret2
      exact ⟨rfl, HR.out, Below.refl _ _, RKept.refl _⟩
    · have d2 : decide ((60 : Int) < (fs.length : Int)) = false := decide_eq_false (by omega)
      have d3 : ¬ ((200 : Int) ≤ (L.length : Int)) := by have := HLL.out; omega
      have HG1 := Aside0.mk g1
      have HG2 := Aside0.mk g2
      have HB0 := Aside0.mk (Below.refl w.heap.size w)
      clear g1 g2
      go_enter Tryz.func27, Tryz.ntmps27
      go_wp2_with fail
      go_loopg [8] (fs.length + 1) (fun kq v8 w' => ∃ i : Nat, v8 = .int .i64 (i : Int) ∧ Aside0 (fs.length - i < kq ∧ i ≤ fs.length) ∧ Aside0 (Below w.heap.size w w') ∧ Aside0 (NoDupTo fs i))
      case atStart => exact ⟨0, rfl, ⟨by omega, by omega⟩, HB0, ⟨fun a b _ hb => absurd hb (Nat.not_lt_zero _)⟩⟩
      case round =>
        obtain ⟨i, rfl, HI, HBe, HN⟩ := hrel
        obtain ⟨k1, rfl⟩ : ∃ k1, gk = k1 + 1 := ⟨gk - 1, by have := HI.out.1; omega⟩
        by_cases hlt : i < fs.length
        · have hb : decide ((i : Int) < (fs.length : Int)) = true := by simp; omega
          have HLT := Aside0.mk hlt
          go_wp2_with fail
          go_loopg [9] (i + 1) (fun kq v9 w' => ∃ k : Nat, v9 = .int .i64 (k : Int) ∧ Aside0 (i - k < kq ∧ k ≤ i) ∧ Aside0 (Below w.heap.size w w') ∧ Aside0 (∀ a, a < k → ∀ ha : a < fs.length, fs[i].f0.toList ≠ fs[a].f0.toList))
          case atStart => exact ⟨0, rfl, ⟨by omega, by omega⟩, HBe, ⟨fun a ha => absurd ha (Nat.not_lt_zero _)⟩⟩
          case round =>
            obtain ⟨k, rfl, HK, HBk, HNk⟩ := hrel
            obtain ⟨k2, rfl⟩ : ∃ k2, gk = k2 + 1 := ⟨gk - 1, by have := HK.out.1; omega⟩
            have HCk : Aside0 (Kd.C k41 wr A0 fs.length fs) := ⟨HCC.out wr (HBk.out.mono HBS.out)⟩
            by_cases hkl : k < i
            · have hb3 : decide ((k : Int) < (i : Int)) = true := by simp; omega
              have hkn : k < fs.length := by omega
              have hi0 : decide ((0 : Int) ≤ (i : Int)) = true := by simp
              have hk0 : decide ((0 : Int) ≤ (k : Int)) = true := by simp
              have hk1 : decide ((k : Int) < (fs.length : Int)) = true := by simp; omega
              have pi0 : (0 : Int) ≤ (i : Int) := by omega
              have pi1 : (i : Int) < (fs.length : Int) := by omega
              have pk0 : (0 : Int) ≤ (k : Int) := by omega
              have pk1 : (k : Int) < (fs.length : Int) := by omega
              obtain ⟨ad, e0, hx, -⟩ := at_T41 HCk.out (i : Int) pi0 pi1
              cases e0
              obtain ⟨ad', e0, hz, -⟩ := at_T41 HCk.out (k : Int) pk0 pk1
              cases e0
              rw [Int.toNat_natCast, rd53_at fs i hlt] at hx
              rw [Int.toNat_natCast, rd53_at fs k hkn] at hz
              have HDU : Aside0 (fs[i].f0.toList = fs[k].f0.toList → ¬ (fnames fs).Nodup) := ⟨fun e => dup_not hkl hlt e⟩
              have HNS : Aside0 (fs[i].f0.toList ≠ fs[k].f0.toList → ∀ a, a < k + 1 → ∀ ha : a < fs.length, fs[i].f0.toList ≠ fs[a].f0.toList) := ⟨fun z a ha ha' => by
                by_cases e : a = k
                · subst e; exact z
                · exact HNk.out a (by omega) ha'⟩
              generalize fs[i] = x at *
              generalize fs[k] = y at *
              by_cases heq : x.f0.toList = y.f0.toList
              · have hbq : (x.f0.toList == y.f0.toList) = true := beq_iff_eq.2 heq
                have e : commitR L name fs = (0, 5, L) := by unfold commitR; rw [if_neg (by have := HG1.out; have := HG2.out; omega), if_pos (HDU.out heq)]
                have HE := Aside0.mk e
                clear heq e
                go_wp2_with fail
                go_big_quiet (fail)
                have HBZ := Aside0.mk (HBk.out.trans ((pw_below_drewN (Below.refl wr.heap.size wr) nq).mono HBk.out.size))
                go_wp2_with fail
                go_ret2
                exact ⟨by rw [HE.out]; rfl, by rw [HE.out]; exact HR.out.below HBZ.out, HBZ.out.mono HBS.out, RKept.of_below HBZ.out⟩
              · have hbq : (x.f0.toList == y.f0.toList) = false := beq_eq_false_iff_ne.2 heq
                have HN2 := Aside0.mk (HNS.out heq)
                clear heq
                go_wp2_with fail
                go_big_quiet (fail)
                have HBZ := Aside0.mk (HBk.out.trans ((pw_below_drewN (Below.refl wr.heap.size wr) nq).mono HBk.out.size))
                go_wp2_with fail
                go_roundg k2
                case measure => have := HK.out.1; omega
                case rel => exact ⟨k + 1, congrArg (Value.int .i64) (by first | exact nx k (by have := HG2.out; have := HLT.out; omega) | (have := HG2.out; have := HLT.out; omega)), ⟨by have := HK.out.1; omega, by omega⟩, HBZ, HN2⟩
            · have hb3 : decide ((k : Int) < (i : Int)) = false := by simp; omega
              have hki : k = i := by have := HK.out.2; omega
              subst hki
              have HN3 : Aside0 (NoDupTo fs (k + 1)) := ⟨fun a b hab hbi hb ha => by
                by_cases e : b = k
                · subst e; exact HNk.out a hab ha
                · exact HN.out a b hab (by omega) hb ha⟩
              go_wp2_with fail
              go_roundg k1
              case measure => have := HI.out.1; omega
              case rel => exact ⟨k + 1, congrArg (Value.int .i64) (by first | exact nx k (by have := HG2.out; have := HLT.out; omega) | (have := HG2.out; have := HLT.out; omega)), ⟨by have := HI.out.1; omega, by have := HLT.out; omega⟩, HBk, HN3⟩
        · have hb : decide ((i : Int) < (fs.length : Int)) = false := by simp; omega
          have hie : i = fs.length := by have := HI.out.2; omega
          subst hie
          have HND := Aside0.mk (noDup_all HN.out)
          clear HN
          go_wp2_with fail
          go_loopg [10] (fs.length + 1) (fun kq v10 w' => ∃ i : Nat, v10 = .int .i64 (i : Int) ∧ Aside0 (fs.length - i < kq ∧ i ≤ fs.length) ∧ Aside0 (Below w.heap.size w w') ∧ Aside0 (∀ a, a < i → ∀ ha : a < fs.length, fs[a].f0.toList ≠ []))
          case atStart => exact ⟨0, rfl, ⟨by omega, by omega⟩, HBe, ⟨fun a ha => absurd ha (Nat.not_lt_zero _)⟩⟩
          case round =>
            clear hx0 HBe HI
            obtain ⟨i, rfl, HI, HBe, HN⟩ := hrel
            obtain ⟨k2, rfl⟩ : ∃ k2, gk = k2 + 1 := ⟨gk - 1, by have := HI.out.1; omega⟩
            have HCk : Aside0 (Kd.C k41 wr A0 fs.length fs) := ⟨HCC.out wr (HBe.out.mono HBS.out)⟩
            by_cases hlt : i < fs.length
            · have hb : decide ((i : Int) < (fs.length : Int)) = true := by simp; omega
              have hi0 : decide ((0 : Int) ≤ (i : Int)) = true := by simp
              have pi0 : (0 : Int) ≤ (i : Int) := by omega
              have pi1 : (i : Int) < (fs.length : Int) := by omega
              have HLT := Aside0.mk hlt
              obtain ⟨ad, e0, hx, -⟩ := at_T41 HCk.out (i : Int) pi0 pi1
              cases e0
              rw [Int.toNat_natCast, rd53_at fs i hlt] at hx
              have HEM : Aside0 (fs[i].f0.toList = [] → ∃ x ∈ fs, x.f0.toList = []) := ⟨fun e => ⟨fs[i], List.getElem_mem hlt, e⟩⟩
              have HNS : Aside0 (fs[i].f0.toList ≠ [] → ∀ a, a < i + 1 → ∀ ha : a < fs.length, fs[a].f0.toList ≠ []) := ⟨fun z a ha ha' => by
                by_cases e : a = i
                · subst e; exact z
                · exact HN.out a (by omega) ha'⟩
              generalize fs[i] = x at *
              by_cases hem : x.f0.toList = []
              · have hbq : (x.f0.toList == []) = true := beq_iff_eq.2 hem
                have e : commitR L name fs = (0, 3, L) := by unfold commitR; rw [if_neg (by have := HG1.out; have := HG2.out; omega), if_neg (fun q => q HND.out), if_pos (HEM.out hem)]
                have HE := Aside0.mk e
                clear hem e
                go_wp2_with fail
                go_ret2
                exact ⟨by rw [HE.out]; rfl, by rw [HE.out]; exact HR.out.below HBe.out, HBe.out.mono HBS.out, RKept.of_below HBe.out⟩
              · have hbq : (x.f0.toList == []) = false := beq_eq_false_iff_ne.2 hem
                have HN2 := Aside0.mk (HNS.out hem)
                clear hem
                go_wp2_with fail
                go_roundg k2
                case measure => have := HI.out.1; omega
                case rel => exact ⟨i + 1, congrArg (Value.int .i64) (by first | exact nx i (by have := HG2.out; have := HLT.out; omega) | (have := HG2.out; have := HLT.out; omega)), ⟨by have := HI.out.1; omega, by have := HLT.out; omega⟩, HBe, HN2⟩
            · have hb : decide ((i : Int) < (fs.length : Int)) = false := by simp; omega
              have hno : ¬ ∃ x ∈ fs, x.f0.toList = [] := by
                rintro ⟨x, hx, e⟩
                obtain ⟨j, hj, rfl⟩ := List.mem_iff_getElem.1 hx
                exact HN.out j (by have := HI.out.2; omega) hj e
              have e : commitR L name fs = ((L.length : Int), 0, L ++ [⟨name, srtF fs⟩]) := by unfold commitR; rw [if_neg (by have := HG1.out; have := HG2.out; omega), if_neg (fun q => q HND.out), if_neg hno]
              have HE := Aside0.mk e
              have HSF := Aside0.mk (rsorted_f fs (by have := HG2.out; omega) HND.out 4000 (by have h1 := HG2.out; have h2 : fs.length * (fs.length + 3) ≤ 60 * 63 := Nat.mul_le_mul (by omega) (by omega); omega))
              have hsl : (srtF fs).length ≤ fs.length := Tx.ord_len fs
              have HSL := Aside0.mk hsl
              clear e hno HN hsl
              obtain ⟨A1', A2', c1', c2', ps, h1, h2, h3, h4, h5, h6⟩ := HR.out.below HBe.out
              have hx0 : wr.cell? ⟨q, 0, none⟩ = some (.slice A1' L.length c1') := by unfold World.cell?; rw [h3]; rfl
              have HBW := Aside0.mk (show base ≤ wr.heap.size by have := HBe.out.size; have := HBS.out; omega)
              have HQ1 := Aside0.mk h1
              have HQ2 := Aside0.mk h2
              have HQ3 := Aside0.mk h3
              have HQ4 := Aside0.mk h4
              have HQ5 := Aside0.mk h5
              have HQ6 := Aside0.mk h6
              have hml : (L.map (·.name)).length = L.length := List.length_map _
              have HML := Aside0.mk hml
              clear h1 h2 h3 h4 h5 h6 hml
              go_wp2_with (at_builtin; go_loud (refine Kd.R_append Kd.string (w0 := wr) base rfl (.tmp 60) (.tmp 62) 47 9 (.string ⟨#[]⟩) 16 rfl Tryz.underlying47 info9 rfl (by decide) (by omega) _ (L.map (fun x : Com => x.name)) name [.string name] (fun _ => True) (fun _ => False) rfl (by first | rfl | (simp; done) | (go_simp; done)) rfl (fun _ hk => hk.elim) (fun _ _ => trivial) HQ4.out (Below.refl base wr) HBW.out (by have := HML.out; have := HLL.out; omega) ?_); intro v1 w5 ho hb5 hg hat; go_loud (obtain ⟨A5, c5, rfl⟩ := Kd.R_slice ho; rw [show (L.map (fun x : Com => x.name) ++ [name]).length = L.length + 1 by rw [List.length_append, HML.out]; rfl] at ho; obtain ⟨n1, n2, n3, n4, n5, n6, n7⟩ := ref_named HQ1.out HQ2.out HQ3.out HQ4.out HQ5.out HQ6.out HBW.out ho hb5 hg; have HN1 := Aside0.mk n1; have HN2 := Aside0.mk n2; have HN4 := Aside0.mk n4; have HN5 := Aside0.mk n5; have HN6 := Aside0.mk n6; have HN7 := Aside0.mk n7; have hc5 : w5.cell? ⟨q, 0, none⟩ = some (.slice A1' L.length c1') := (by unfold World.cell?; rw [n3]; rfl); have hf5 : w5.frozen? ⟨q, 0, none⟩ = false := (by simp [World.frozen?, n3]); clear ho hb5 hg hat n1 n2 n3 n4 n5 n6 n7))
              have hps : ps.length = L.length := HQ1.out
              have hq0 : (w5.setCell ⟨q, 0, none⟩ (.slice A5 (L.length + 1) c5)).cell? ⟨q, 0, none⟩ = some (.slice A5 (L.length + 1) c5) := by unfold World.cell?; rw [HN4.out]; rfl
              have hq1 : (w5.setCell ⟨q, 0, none⟩ (.slice A5 (L.length + 1) c5)).cell? ⟨q, 1, none⟩ = some (.slice A2' L.length c2') := by unfold World.cell?; rw [HN4.out]; rfl
              clear hc5 hf5 hx0
              generalize w5.setCell ⟨q, 0, none⟩ (.slice A5 (L.length + 1) c5) = W6 at *
              have HQ0 := Aside0.mk hq0
              have HQQ := Aside0.mk hq1
              have HB6 : Aside0 (Below base w W6 ∧ RKept w W6) := ⟨(HBe.out.mono HBS.out).trans HN1.out, (RKept.of_below HBe.out).trans HN2.out⟩
              have HW6 : Aside0 (base ≤ W6.heap.size) := ⟨by have h1 := HN1.out.size; have h2 := HBW.out; omega⟩
              have hqw : q < W6.heap.size := (Array.getElem?_eq_some_iff.1 HN4.out).1
              have HSO : Aside0 (∀ wr, Below W6.heap.size W6 wr → Calls Tryz.prog 47 #[.slice A0 fs.length c0] wr fun e w' => ∃ A c, e = .returned (.slice A (srtF fs).length c) ∧ FRow w' A c (srtF fs) ∧ Below W6.heap.size W6 w' ∧ w'.cell? ⟨q, 1, none⟩ = some (.slice A2' L.length c2')) :=
                ⟨fun wr hb => (smockingref25_sorted.calls 4000 A0 c0 fs (srtF fs) wr (HCC.out wr (HB6.out.1.trans (hb.mono HW6.out))) HCP.out HSF.out).mono fun e w' ⟨v, he, ho, hb2⟩ => by
                  obtain ⟨A, c, rfl⟩ := Kd.R_slice ho
                  have hb3 := hb.trans (hb2.mono hb.size)
                  exact ⟨A, c, he, FRow.of_R ho, hb3, (hb3.cell (p := ⟨q, 1, none⟩) hqw).trans HQQ.out⟩⟩
              have HQW := Aside0.mk hqw
              have HPS : Aside0 (ps.length = L.length) := HQ1
              clear hps hqw
              go_wp2_with fail
              refine start_ (n := 12) (S := fun w' => w'.cell? ⟨q, 1, none⟩ = some (.slice A2' L.length c2')) (ds := [11]) #[false, false, false, false, false, false, false, false, false, false, false, false] (by kernel_rfl) rfl rfl HQQ.out (fun hHeld => ?_)
              refine pure_ (i := 0) (N := some 66) (v := ?_) (a' := ?_) #[true, false, false, false, false, false, false, false, false, false, false, false] rfl rfl (by kernel_rfl) (fun _ _ _ h => h) (Or.inl ⟨by rfl, ?_⟩) ?_ ?_
              rotate_left
              · intro w'
                go_simp
                with_reducible rfl
              rotate_left
              · simp only [Act.put, List.setIfInBounds_toArray, List.set_cons_zero, List.set_cons_succ, i64_w, i32_w]
                rfl
              refine pure_ (i := 1) (N := some 67) (v := ?_) (a' := ?_) #[true, true, false, false, false, false, false, false, false, false, false, false] rfl rfl (by kernel_rfl) (fun _ _ _ h => h) (Or.inl ⟨by rfl, ?_⟩) ?_ ?_
              rotate_left
              · intro w'
                go_simp
                with_reducible rfl
              rotate_left
              · simp only [Act.put, List.setIfInBounds_toArray, List.set_cons_zero, List.set_cons_succ, i64_w, i32_w]
                rfl
              refine pure_ (i := 2) (N := some 68) (v := ?_) (a' := ?_) #[true, true, true, false, false, false, false, false, false, false, false, false] rfl rfl (by kernel_rfl) (fun _ _ _ h => h) (Or.inl ⟨by rfl, ?_⟩) ?_ ?_
              rotate_left
              · intro w'
                go_simp
                with_reducible rfl
              rotate_left
              · simp only [Act.put, List.setIfInBounds_toArray, List.set_cons_zero, List.set_cons_succ, i64_w, i32_w]
                rfl
              refine pure_ (i := 3) (N := some 69) (v := ?_) (a' := ?_) #[true, true, true, true, false, false, false, false, false, false, false, false] rfl rfl (by kernel_rfl) (fun _ _ _ h => h) (Or.inl ⟨by rfl, ?_⟩) ?_ ?_
              rotate_left
              · intro w'
                go_simp
                with_reducible rfl
              rotate_left
              · simp only [Act.put, List.setIfInBounds_toArray, List.set_cons_zero, List.set_cons_succ, i64_w, i32_w]
                rfl
              refine pure_ (i := 5) (N := some 71) (v := ?_) (a' := ?_) #[true, true, true, true, false, true, false, false, false, false, false, false] rfl rfl (by kernel_rfl) (fun _ _ _ h => h) (Or.inl ⟨by rfl, ?_⟩) ?_ ?_
              rotate_left
              · intro w'
                go_simp
                with_reducible rfl
              rotate_left
              · simp only [Act.put, List.setIfInBounds_toArray, List.set_cons_zero, List.set_cons_succ, i64_w, i32_w]
                rfl
              refine take_ (i := 4) (N := some 70) (v := ?_) (a' := ?_) #[true, true, true, true, true, true, false, false, false, false, false, false] rfl rfl (by kernel_rfl) (fun _ _ _ h => h) (Or.inl ⟨by rfl, ?_⟩) hHeld ?_ ?_
              rotate_left
              · intro w' s0
                go_simp
                with_reducible rfl
              rotate_left
              · simp only [Act.put, List.setIfInBounds_toArray, List.set_cons_zero, List.set_cons_succ, i64_w, i32_w]
                rfl
              refine one_ (i := 6) (N := some 72) #[true, true, true, true, true, true, true, false, false, false, false, false] rfl rfl (by kernel_rfl) (by decide) (fun K hK => ?_)
              refine goes_ Tryz.func47 (by kernel_rfl) rfl #[.slice A0 fs.length c0] (by rfl) rfl rfl (by (try simp only [List.map_toArray, List.map_cons, List.map_nil]); first | done | rfl) ?_
              refine (HSO.out _ ((Below.refl _ _).drew)).mono ?_
              rintro e w7 ⟨A7, c7, rfl, hf7, hb7, hq7⟩
              have HF7 := Aside0.mk hf7
              have HB7 := Aside0.mk hb7
              have hq7b : (w7.alloc (.cells #[.slice A7 (srtF fs).length c7] 37)).cell? ⟨q, 1, none⟩ = some (.slice A2' L.length c2') := (World.cell?_alloc_some w7 _ _ (by rw [hq7, Option.isSome_some])).trans hq7
              clear hf7 hb7
              refine ⟨_, rfl, ?_⟩
              refine hK.out _ _ (hq7) (fun hHeld => ?_)
              clear hK K
              refine norm_ (a' := ?_) ?_ ?_
              rotate_left
              · show Act.put _ (some 72) _ = _
                simp only [Act.put, List.setIfInBounds_toArray, List.set_cons_zero, List.set_cons_succ, i64_w, i32_w]
                rfl
              refine one_ (i := 7) (N := some 73) #[true, true, true, true, true, true, true, true, false, false, false, false] rfl rfl (by kernel_rfl) (by decide) (fun K hK => ?_)
              go_simp
              refine hK.out _ _ (hq7b) (fun hHeld => ?_)
              clear hK K
              try simp only [Act.put, List.setIfInBounds_toArray, List.set_cons_zero, List.set_cons_succ, i64_w, i32_w]
              refine one_ (i := 8) (N := some 74) #[true, true, true, true, true, true, true, true, true, false, false, false] rfl rfl (by kernel_rfl) (by decide) (fun K hK => ?_)
              refine append_file (x := ⟨name, srtF fs⟩) (w := w7) base q (A1 := A5) (c1 := c5) (c' := c7) (A' := A7) (L := L) (A2 := A2') (c2 := c2') (ps := ps) ?hw1 ?hg1 ?hs1 ?hx1 ?hW1 HPS.out HQ2.out ((HB7.out.block q HQW.out).trans HN4.out) (Kd.R_below HN5.out HB7.out) (by rw [HPS.out]; exact Kd.R_below HN6.out HB7.out) (fun i a b => ⟨(HN7.out i a b).1, (HN7.out i a b).2.rkeep (RKept.of_below HB7.out)⟩) (Nat.le_trans HW6.out HB7.out.size) HF7.out (by have := HLL.out; omega) (fun A8 c8 w8 h0 h1 h2 h3 h4 => ?_)
              (case hw1 => rfl)
              (case hg1 => rfl)
              (case hs1 => rfl)
              (case hx1 => rfl)
              (case hW1 => rfl)
              have HB8 := Aside0.mk h0
              have HF8 := Aside0.mk h1
              have hc8 := h2
              have hf8 := h3
              have hd8 := h4
              clear h0 h1 h2 h3 h4
              refine hK.out _ _ (hc8) (fun hHeld => ?_)
              clear hK K
              refine norm_ (a' := ?_) ?_ ?_
              rotate_left
              · show Act.put _ (some 74) _ = _
                simp only [Act.put, List.setIfInBounds_toArray, List.set_cons_zero, List.set_cons_succ, i64_w, i32_w]
                rfl
              refine pure_ (i := 9) (N := some 75) (v := ?_) (a' := ?_) #[true, true, true, true, true, true, true, true, true, true, false, false] rfl rfl (by kernel_rfl) (fun _ _ _ h => h) (Or.inl ⟨by rfl, ?_⟩) ?_ ?_
              rotate_left
              · intro w'
                go_simp
                with_reducible rfl
              rotate_left
              · simp only [Act.put, List.setIfInBounds_toArray, List.set_cons_zero, List.set_cons_succ, i64_w, i32_w]
                rfl
              refine pure_ (i := 10) (N := some 76) (v := ?_) (a' := ?_) #[true, true, true, true, true, true, true, true, true, true, true, false] rfl rfl (by kernel_rfl) (fun _ _ _ h => h) (Or.inl ⟨by rfl, ?_⟩) ?_ ?_
              rotate_left
              · intro w'
                go_simp
                with_reducible rfl
              rotate_left
              · simp only [Act.put, List.setIfInBounds_toArray, List.set_cons_zero, List.set_cons_succ, i64_w, i32_w]
                rfl
              refine last_ (i := 11) (N := none) #[true, true, true, true, true, true, true, true, true, true, true, true] rfl rfl (by kernel_rfl) (by decide) (fun K hK => ?_)
              refine skip_ (w1 := ?_) (by rfl) rfl ?_ ?_
              rotate_left
              · go_simp
                rfl
              refine hK.out _ _ ?_
              clear hK K
              refine done_ (by kernel_rfl) ?_
              all_goals (
                have HFN : Aside0 (RefIs (w8.setCell ⟨q, 1, none⟩ (.slice A8 (L.length + 1) c8)) base q (L ++ [⟨name, srtF fs⟩]) ∧ Below base w (w8.setCell ⟨q, 1, none⟩ (.slice A8 (L.length + 1) c8)) ∧ RKept w (w8.setCell ⟨q, 1, none⟩ (.slice A8 (L.length + 1) c8))) := ⟨HF8.out.2.2, (HB6.out.1.trans (HB7.out.mono HW6.out)).trans HF8.out.1, (HB6.out.2.trans (RKept.of_below HB7.out)).trans HF8.out.2.1⟩
                have hw0 : wrap64 (((L.length + 1 : Nat) : Int) - 1) = (L.length : Int) := by rw [w64 (by omega) (by have := HLL.out; omega)]; omega
                have hw1 : IntKind.i64.wrap (((L.length + 1 : Nat) : Int) - 1) = (L.length : Int) := (i64_w _).trans hw0
                generalize w8.setCell ⟨q, 1, none⟩ (.slice A8 (L.length + 1) c8) = W9 at *
                go_wp2_with fail
                go_ret2
                rw [HE.out]
                exact ⟨by first | rfl | (simp; done) | (simp [*]; done), HFN.out⟩)
end Go.Proofs.YthimblhfjfngiaaGreat.PText

namespace Go.Proofs.YthimblhfjfngiaaGreat.PText
open Go.RowKit Go.Lib Go.Sort Go.Proofs.YthimblhfjfngiaaGreatW.PrintWords Go.Proofs.YthimblhfjfngiaaGreatW.PrintLast Go.Proofs.YthimblhfjfngiaaGreatW.PrintMore
set_option linter.unusedVariables false
set_option linter.unusedSimpArgs false
/-- what commits come to -/
def bothL (l : List S39) : List Com := l.foldl (fun L s => (commitR L s.f0 s.f1).2.2) []
theorem commitR_len (L : List Com) (name : ByteArray) (fs : List S41) : (commitR L name fs).2.2.length ≤ L.length + 1 := by
  unfold commitR
  split
  · simp
  · split
    · simp
    · split
      · simp
      · simp
theorem bothL_succ (l : List S39) (i : Nat) (h : i < l.length) : bothL (l.take (i + 1)) = (commitR (bothL (l.take i)) l[i].f0 l[i].f1).2.2 := by
  unfold bothL
  rw [List.take_succ_eq_append_getElem h, List.foldl_append]
  rfl
theorem bothL_len (l : List S39) : ∀ i, i ≤ l.length → (bothL (l.take i)).length ≤ i
  | 0, _ => by rw [List.take_zero]; exact Nat.le_refl _
  | i + 1, h => by
    rw [bothL_succ l i (by omega)]
    have := bothL_len l i (by omega)
    have := commitR_len (bothL (l.take i)) l[i].f0 l[i].f1
    omega
theorem keepS {w w' : World} {p q : Addr} {u v : Value} (hb : Below w.heap.size w w') (h1 : w.cell? p = some u) (h2 : w.cell? q = some v) :
    w'.cell? p = some u ∧ w'.cell? q = some v ∧ Below w.heap.size w w' := ⟨(hb.cell (World.block_lt_of_cell? w _ h1)).trans h1, (hb.cell (World.block_lt_of_cell? w _ h2)).trans h2, hb⟩
theorem ref_new {w : World} {base : Nat} (hb : base ≤ w.heap.size) : RefIs (w.alloc (.cells #[.slice none 0 0, .slice none 0 0] 58)) base w.heap.size [] :=
  ⟨none, none, 0, 0, [], rfl, hb, heap_nw _ _, Kd.R_nil _ _ _ _ _, Kd.R_nil _ _ _ _ _, fun i h => absurd h (Nat.not_lt_zero _)⟩
theorem rd70_at (l : List S39) (i : Nat) (h : i < l.length) : rd_T39 l (i : Int) = l[i] := by
  unfold rd_T39
  rw [Int.toNat_natCast, List.getD_eq_getElem?_getD, List.getElem?_eq_getElem h]; rfl
set_option maxRecDepth 100000 in
set_option maxHeartbeats 4000000 in
theorem both_calls (A0 : Option Addr) (c0 : Nat) (l : List S39) (w : World) (hC : Kd.C k39 w A0 l.length l) (hc : l.length ≤ c0) (hl : l.length ≤ 100) :
    Calls Tryz.prog 8 #[.slice A0 l.length c0] w fun e w' => ∃ p q : Nat, e = .returned (.tuple #[.pointer (some ⟨p, 0, none⟩), .pointer (some ⟨q, 0, none⟩), .bool true]) ∧ PastIs w' w.heap.size p (bothL l) ∧ RefIs w' w.heap.size q (bothL l) ∧ Below w.heap.size w w' := by
  have HC := Aside0.mk hC
  have HL := Aside0.mk hl
  have HCC := Aside0.mk hc
  clear hC hl hc
  go_enter Tryz.func8, Tryz.ntmps8
  go_wp2_with (go_at_call 26; refine (new_calls _).mono ?_; rintro e w1 ⟨rfl, hp, hb, hk⟩; have HP1 := Aside0.mk hp; have HB1 := Aside0.mk hb; clear hp hb hk)
  have HR2 := Aside0.mk (ref_new (w := w1) HB1.out.size)
  have HP2 : Aside0 (PastIs (w1.alloc (.cells #[.slice none 0 0, .slice none 0 0] 58)) w.heap.size w.heap.size []) := ⟨HP1.out.below ((Below.refl _ w1).alloc (Nat.le_refl _) _)⟩
  have HB2 : Aside0 (Below w.heap.size w (w1.alloc (.cells #[.slice none 0 0, .slice none 0 0] 58))) := ⟨HB1.out.alloc HB1.out.size _⟩
  generalize w1.alloc (.cells #[.slice none 0 0, .slice none 0 0] 58) = W2 at *
  generalize w1.heap.size = q at *
  clear HP1 HB1
  go_loopg [7] (l.length + 1) (fun kq v7 w' => ∃ i : Nat, v7 = .int .i64 (i : Int) ∧ Aside0 (l.length - i < kq ∧ i ≤ l.length) ∧ Aside0 (PastIs w' w.heap.size w.heap.size (bothL (l.take i))) ∧ Aside0 (RefIs w' w.heap.size q (bothL (l.take i))) ∧ Aside0 (Below w.heap.size w w'))
  case atStart => exact ⟨0, rfl, ⟨by omega, by omega⟩, ⟨by rw [List.take_zero]; exact HP2.out⟩, ⟨by rw [List.take_zero]; exact HR2.out⟩, HB2⟩
  case round =>
    obtain ⟨i, rfl, HI, HPi, HRi, HBi⟩ := hrel
    obtain ⟨k1, rfl⟩ : ∃ k1, gk = k1 + 1 := ⟨gk - 1, by have := HI.out.1; omega⟩
    by_cases hlt : i < l.length
    · have hb : decide ((i : Int) < (l.length : Int)) = true := by simp; omega
      have hb2 : decide ((0 : Int) ≤ (i : Int)) = true := by simp
      have pi0 : (0 : Int) ≤ (i : Int) := by omega
      have pi1 : (i : Int) < (l.length : Int) := by omega
      obtain ⟨ad, A1, c1, e0, hx, hy, hf1, hf2⟩ := at_T39 HC.out (i : Int) pi0 pi1
      cases e0
      rw [Int.toNat_natCast] at hx hy
      rw [rd70_at l i hlt] at hx hy hf1 hf2
      have HSU := Aside0.mk (bothL_succ l i hlt)
      have HLN : Aside0 ((bothL (l.take i)).length ≤ 200) := ⟨by have := bothL_len l i (by omega); have := HL.out; omega⟩
      have HLT := Aside0.mk hlt
      generalize bothL (l.take i) = L at *
      generalize hL' : bothL (l.take (i + 1)) = L' at *
      have HL' := Aside0.mk hL'
      clear hL'
      generalize l[i] = x at *
      have HX := Aside0.mk hx
      have HY := Aside0.mk hy
      have HF := Aside0.mk hf2
      have HF1 := Aside0.mk hf1
      have HCM : Aside0 (∀ wr, Below w.heap.size w wr → PastIs wr w.heap.size w.heap.size L → Calls Tryz.prog 25 #[.pointer (some ⟨w.heap.size, 0, none⟩), .string x.f0, .slice A1 x.f1.length c1] wr fun e w' => e = .returned (.tuple #[.int .i64 (commitR L x.f0 x.f1).1, .int .i64 (commitR L x.f0 x.f1).2.1]) ∧ PastIs w' w.heap.size w.heap.size (commitR L x.f0 x.f1).2.2 ∧ Below w.heap.size wr w' ∧ PKept wr w') :=
        ⟨fun wr hb hp => commit_calls w.heap.size w.heap.size L x.f0 A1 c1 x.f1 wr hp (Kd.C_below HF.out hb) HF1.out HLN.out hb.size⟩
      have HRM : Aside0 (∀ wr, Below w.heap.size w wr → RefIs wr w.heap.size q L → Calls Tryz.prog 27 #[.pointer (some ⟨q, 0, none⟩), .string x.f0, .slice A1 x.f1.length c1] wr fun e w' => e = .returned (.tuple #[.int .i64 (commitR L x.f0 x.f1).1, .int .i64 (commitR L x.f0 x.f1).2.1]) ∧ RefIs w' w.heap.size q (commitR L x.f0 x.f1).2.2 ∧ Below w.heap.size wr w' ∧ RKept wr w') :=
        ⟨fun wr hb hr => rcommit_calls w.heap.size q L x.f0 A1 c1 x.f1 wr hr (fun w' hb' => Kd.C_below HF.out (hb.trans hb')) HF1.out HLN.out hb.size⟩
      rw [← HSU.out] at HCM HRM
      generalize (commitR L x.f0 x.f1).1 = r1 at *
      generalize (commitR L x.f0 x.f1).2.1 = r2 at *
      clear hx hy hf1 hf2 HSU
      have hx' := (keepS HBi.out HX.out HY.out).1
      go_wp2_with fail
      go_region_held3 (fun w' => w'.cell? (ad.add (i * 2)) = some (.string x.f0) ∧ w'.cell? ⟨(ad.add (i * 2)).block, (ad.add (i * 2)).off + 1, none⟩ = some (.slice A1 x.f1.length c1) ∧ Below w.heap.size w w')
        (first
          | exact keepS HBi.out HX.out HY.out
          | exact keepS HBi.out.drew HX.out HY.out
          | exact keepS HB6.out HX.out HY.out
          | exact keepS HB6.out.drew HX.out HY.out
          | fail)
        (first
          | (go_at_call 25; with_reducible refine (HCM.out _ ?zb ?zc).mono ?_; (case zb => first | exact HBi.out | exact HBi.out.drew); (case zc => first | exact HPi.out | exact HPi.out.below (Below.refl _ _).drew); rintro e w6 ⟨rfl, hp6, hb6, hk6⟩; have HP6 := Aside0.mk hp6; have HB6 := Aside0.mk (HBi.out.trans (Below.trans (by first | exact Below.refl _ _ | exact (Below.refl _ _).drew) hb6)); have HR6 := Aside0.mk ((HRi.out.below (by first | exact Below.refl _ _ | exact (Below.refl _ _).drew)).keep hk6); clear hp6 hb6 hk6)
          | fail)
      go_split_ands
      go_wp2_with fail
      go_region_held3 (fun w' => w'.cell? (ad.add (i * 2)) = some (.string x.f0) ∧ w'.cell? ⟨(ad.add (i * 2)).block, (ad.add (i * 2)).off + 1, none⟩ = some (.slice A1 x.f1.length c1) ∧ Below w.heap.size w w')
        (first
          | exact keepS HB6.out HX.out HY.out
          | exact keepS HB6.out.drew HX.out HY.out
          | exact keepS HB8.out HX.out HY.out
          | exact keepS HB8.out.drew HX.out HY.out
          | fail)
        (first
          | (go_at_call 27; with_reducible refine (HRM.out _ ?zb ?zc).mono ?_; (case zb => first | exact HB6.out | exact HB6.out.drew); (case zc => first | exact HR6.out | exact HR6.out.below (Below.refl _ _).drew); rintro e w8 ⟨rfl, hr8, hb8, hk8⟩; have HR8 := Aside0.mk hr8; have HB8 := Aside0.mk (HB6.out.trans (Below.trans (by first | exact Below.refl _ _ | exact (Below.refl _ _).drew) hb8)); have HP8 := Aside0.mk ((HP6.out.below (by first | exact Below.refl _ _ | exact (Below.refl _ _).drew)).rkeep hk8); clear hr8 hb8 hk8)
          | fail)
      go_split_ands
      go_wp2_with fail
      go_roundg k1
      case measure => have := HI.out.1; have := HLT.out; omega
      case rel => exact ⟨i + 1, congrArg (Value.int .i64) (by first | exact nx i (by have := HL.out; have := HLT.out; omega) | (have := HL.out; have := HLT.out; omega)), ⟨by have := HI.out.1; have := HLT.out; omega, by have := HLT.out; omega⟩, ⟨by rw [HL'.out]; exact HP8.out⟩, ⟨by rw [HL'.out]; exact HR8.out⟩, HB8⟩
    · have hb : decide ((i : Int) < (l.length : Int)) = false := by simp; omega
      have hi : l.take i = l := List.take_of_length_le (by omega)
      rw [hi] at HPi HRi
      clear hi
      go_wp2_with fail
      go_ret3
      exact ⟨_, _, rfl, HPi.out, HRi.out, HBi.out⟩
end Go.Proofs.YthimblhfjfngiaaGreat.PText

namespace Go.Proofs.YthimblhfjfngiaaGreat.PText
open Go.RowKit Go.Lib Go.Sort Go.Proofs.YthimblhfjfngiaaGreatW.PrintWords Go.Proofs.YthimblhfjfngiaaGreatW.PrintLast Go.Proofs.YthimblhfjfngiaaGreatW.PrintMore
set_option linter.unusedVariables false
set_option linter.unusedSimpArgs false
def ltB (x y : ByteArray) : Bool := decide (x.toList < y.toList)
theorem ltB_lin : Tx.Lin ltB where
  irr a := decide_eq_false (List.lt_irrefl _)
  tr := by
    intro a b c h1 h2
    exact decide_eq_true (List.lt_trans (of_decide_eq_true h1) (of_decide_eq_true h2))
  tri := by
    intro a b h1 h2
    have e : a.toList = b.toList := List.le_antisymm (List.not_lt.1 (of_decide_eq_false h2)) (List.not_lt.1 (of_decide_eq_false h1))
    exact bL_ext (bL_inj.1 e)
/-- a text put among others -/
def bubB (x : ByteArray) : List ByteArray → List ByteArray → List ByteArray
  | [], S => x :: S
  | p :: Pr, S => if ltB x p = true then bubB x Pr (p :: S) else (p :: Pr).reverse ++ x :: S
theorem bubB_perm (x : ByteArray) : ∀ (Pr S : List ByteArray), (bubB x Pr S).Perm (x :: (Pr.reverse ++ S))
  | [], S => List.Perm.refl _
  | p :: Pr, S => by
    unfold bubB
    have e : (p :: Pr).reverse ++ S = Pr.reverse ++ p :: S := by simp
    split
    · rw [e]; exact bubB_perm x Pr (p :: S)
    · exact List.perm_middle
theorem bubB_asc (x : ByteArray) : ∀ (Pr S : List ByteArray), Tx.Asc ltB (Pr.reverse ++ S) → (∀ s ∈ S, ltB x s = true) → x ∉ Pr → Tx.Asc ltB (bubB x Pr S)
  | [], S, h, hs, _ => Tx.asc_cons.2 ⟨hs, h⟩
  | p :: Pr, S, h, hs, hx => by
    have e : (p :: Pr).reverse ++ S = Pr.reverse ++ p :: S := by simp
    unfold bubB
    by_cases c : ltB x p = true
    · rw [if_pos c]
      rw [e] at h
      exact bubB_asc x Pr (p :: S) h (fun s m => by
        rcases List.mem_cons.1 m with rfl | m
        · exact c
        · exact hs s m) (fun m => hx (List.mem_cons_of_mem _ m))
    · rw [if_neg c]
      obtain ⟨h1, h2, h3⟩ := Tx.asc_append.1 h
      have hpx : ltB p x = true := by
        cases q : ltB p x with
        | true => rfl
        | false => exact absurd (ltB_lin.tri (by simpa using c) q) (fun e => hx (by rw [e]; exact List.mem_cons_self))
      refine Tx.asc_append.2 ⟨h1, Tx.asc_cons.2 ⟨hs, h2⟩, fun a ha b hb => ?_⟩
      rcases List.mem_cons.1 hb with rfl | hb
      · rw [List.reverse_cons, List.mem_append, List.mem_singleton] at ha
        rcases ha with ha | rfl
        · rw [e] at h
          exact ltB_lin.tr ((Tx.asc_append.1 h).2.2 a ha p List.mem_cons_self) hpx
        · exact hpx
      · exact h3 a ha b hb
theorem srt_l1 (fs : List ByteArray) (i : Nat) (x : ByteArray) : ∀ (Pr S : List ByteArray) (k : Nat), Pr.length + S.length ≤ 100000 → Pr.length + 1 ≤ k → ∃ k', k ≤ k' + Pr.length + 1 ∧ rf0_Sorted.l1 k fs (Pr.reverse ++ x :: S) (i : Int) (Pr.length : Int) = rf0_Sorted.l0 k' fs (bubB x Pr S) (wrap64 ((i : Int) + 1))
  | [], S, k, hl, hk => by
    obtain ⟨k, rfl⟩ : ∃ q, k = q + 1 := ⟨k - 1, by omega⟩
    refine ⟨k, by simp, ?_⟩
    rw [rf0_Sorted.l1, if_neg (by simp)]
    rfl
  | p :: Pr, S, k, hl, hk => by
    obtain ⟨k, rfl⟩ : ∃ q, k = q + 1 := ⟨k - 1, by omega⟩
    have e : (p :: Pr).reverse ++ x :: S = Pr.reverse ++ p :: x :: S := by simp
    have hw : wrap64 ((((p :: Pr).length : Nat) : Int) - 1) = (Pr.length : Int) := by
      rw [List.length_cons] at hl ⊢
      rw [w64 (by omega) (by omega)]; omega
    have hr1 : rdOf ByteArray.empty ((p :: Pr).reverse ++ x :: S) ((p :: Pr).length : Int) = x := by
      unfold rdOf
      rw [Int.toNat_natCast, List.getD_eq_getElem?_getD, List.getElem?_append_right (by simp)]
      simp
    have hr2 : rdOf ByteArray.empty ((p :: Pr).reverse ++ x :: S) (Pr.length : Int) = p := by
      rw [e]
      unfold rdOf
      rw [Int.toNat_natCast, List.getD_eq_getElem?_getD, List.getElem?_append_right (by simp)]
      simp
    have hset : (((p :: Pr).reverse ++ x :: S).set (((p :: Pr).length : Nat) : Int).toNat p).set ((Pr.length : Nat) : Int).toNat x = Pr.reverse ++ x :: p :: S := by
      rw [e, Int.toNat_natCast, Int.toNat_natCast, List.set_append_right _ _ (by simp), List.length_cons, List.length_reverse, show Pr.length + 1 - Pr.length = 0 + 1 by omega, List.set_cons_succ, List.set_cons_zero, List.set_append_right _ _ (by simp), List.length_reverse, Nat.sub_self, List.set_cons_zero]
    have hlen : (((p :: Pr).reverse ++ x :: S).length : Int) = (Pr.length : Int) + (S.length : Int) + 2 := by simp; omega
    rw [rf0_Sorted.l1, if_pos (by rw [List.length_cons]; omega), if_pos (by omega), if_pos (by rw [hlen, List.length_cons]; omega), hw, if_pos (by omega), if_pos (by rw [hlen]; omega), hr1, hr2, bl_lt]
    unfold bubB
    by_cases c : ltB x p = true
    · rw [if_pos c, if_pos (show decide (x.toList < p.toList) = true from c), hset]
      rw [List.length_cons] at hl hk
      obtain ⟨k', h1, h2⟩ := srt_l1 fs i x Pr (p :: S) k (by rw [List.length_cons]; omega) (by omega)
      exact ⟨k', by rw [List.length_cons]; omega, h2⟩
    · rw [if_neg c, if_neg (show ¬ decide (x.toList < p.toList) = true from c)]
      exact ⟨k, by rw [List.length_cons]; omega, rfl⟩
theorem srt_l0 (fs : List ByteArray) (hf : fs.length ≤ 10000) (B : Nat) (hB : fs.length + 3 ≤ B) : ∀ (m i k : Nat) (out : List ByteArray), fs.length - i = m → i ≤ fs.length → m * B + B + 1 ≤ k → (∀ y, y ∈ out ↔ y ∈ fs.take i) → Tx.Asc ltB out → out.length ≤ i → ∃ d, rf0_Sorted.l0 k fs out (i : Int) = some d ∧ (∀ y, y ∈ d ↔ y ∈ fs) ∧ Tx.Asc ltB d
  | 0, i, k, out, hm, hi, hk, hp, hq, hl => by
    obtain ⟨k, rfl⟩ : ∃ q, k = q + 1 := ⟨k - 1, by omega⟩
    rw [rf0_Sorted.l0, if_neg (by omega)]
    rw [List.take_of_length_le (by omega)] at hp
    exact ⟨out, rfl, hp, hq⟩
  | m + 1, i, k, out, hm, hi, hk, hp, hq, hl => by
    obtain ⟨k, rfl⟩ : ∃ q, k = q + 1 := ⟨k - 1, by omega⟩
    have hmm : (m + 1) * B = m * B + B := Nat.succ_mul _ _
    have hil : i < fs.length := by omega
    obtain ⟨r, h1, h2⟩ := rhas_l0 out fs[i] (by omega) out.length 0 k (by omega) (Nat.zero_le _) (by omega)
    rw [List.drop_zero] at h2
    have htk : ∀ y, y ∈ fs.take (i + 1) ↔ y ∈ fs.take i ∨ y = fs[i] := fun y => by
      rw [List.take_succ_eq_append_getElem hil, List.mem_append, List.mem_singleton]
    rw [rf0_Sorted.l0, if_pos (by omega), if_pos (by omega), rdB fs i hil, show rf0_Has.f k out fs[i] = some r from h1, Option.bind_some]
    by_cases c : r ≥ 0
    · rw [if_pos c, nx i (by omega)]
      have hin := h2.1 c
      exact srt_l0 fs hf B hB m (i + 1) k out (by omega) (by omega) (by omega) (fun y => by
        rw [htk, hp]
        exact ⟨fun q => .inl q, fun q => q.elim id (fun e => by rw [e]; exact (hp _).1 hin)⟩) hq (by omega)
    · have hnin : fs[i] ∉ out := fun q => c (h2.2 q)
      have hw : wrap64 (((out ++ [fs[i]]).length : Int) - 1) = (out.reverse.length : Int) := by
        rw [List.length_append, List.length_singleton, List.length_reverse, w64 (by omega) (by omega)]; omega
      obtain ⟨k', h3, h4⟩ := srt_l1 fs i fs[i] out.reverse [] k (by rw [List.length_reverse]; simp; omega) (by rw [List.length_reverse]; omega)
      rw [List.reverse_reverse] at h4
      rw [if_neg c, if_pos (by omega), Option.bind_some, hw, h4, nx i (by omega)]
      rw [List.length_reverse] at h3
      have hperm := bubB_perm fs[i] out.reverse []
      rw [List.reverse_reverse, List.append_nil] at hperm
      refine srt_l0 fs hf B hB m (i + 1) k' _ (by omega) (by omega) (by omega) (fun y => ?_) (bubB_asc _ _ _ (by rw [List.reverse_reverse, List.append_nil]; exact hq) (fun s m => by cases m) (by rwa [List.mem_reverse])) (by rw [hperm.length_eq, List.length_cons]; omega)
      rw [hperm.mem_iff, List.mem_cons, htk, hp]
      exact ⟨fun q => q.elim .inr .inl, fun q => q.elim .inr .inl⟩
theorem rsortB_f (fs : List ByteArray) (hf : fs.length ≤ 10000) (k : Nat) (hk : 200000000 ≤ k) : rf0_Sorted.f k fs = some (Tx.ord ltB fs) := by
  obtain ⟨B, hB⟩ : ∃ B : Nat, B = 10003 := ⟨_, rfl⟩
  have q1 := Nat.mul_le_mul_right B hf
  obtain ⟨d, h1, h2, h3⟩ := srt_l0 fs hf B (by omega) fs.length 0 k [] (by omega) (by omega) (by omega) (fun y => by rw [List.take_zero]) Tx.Asc.nil (Nat.zero_le _)
  rw [← Tx.ord_of_asc ltB_lin h3 h2]
  exact h1
/-- a row of texts of one's own, out of its cells -/
theorem row9 {W : World} {base g cap : Nat} {cur : Array Value} {r : List ByteArray} (hh : W.heap[g]? = some (.cells cur 9 (0, 0))) (hb : base ≤ g) (hl : r.length ≤ cap) (hm : cap ≤ maxLen) (hs : cur.size = cap * 1)
    (hc : ∀ t, ∀ h : t < r.length, cur[t]? = some (.string r[t])) : Kd.R Kd.string 9 W base (fun _ => True) (.slice (some ⟨g, 0, none⟩) r.length cap) r := by
  have hle : r.length * 1 ≤ cur.size := by omega
  refine ⟨fun _ _ => trivial, cur.toList.take (r.length * 1), ⟨by rw [List.length_take, Nat.min_eq_left (by rw [Array.length_toList]; exact hle)]; rfl, Or.inr ⟨g, cap, cur, rfl, hb, hh, hl, hm, hs, rfl⟩⟩, by rw [List.length_take, Nat.min_eq_left (by rw [Array.length_toList]; exact hle)]; rfl, fun j p hp => ?_⟩
  obtain ⟨hj, rfl⟩ := List.getElem?_eq_some_iff.1 hp
  have key : ((cur.toList.take (r.length * 1)).drop (j * 1)).take 1 = [.string r[j]] := by
    have z0 := hc j hj
    apply List.ext_getElem?
    intro c
    rw [List.getElem?_take]
    by_cases h3 : c < 1
    · rw [if_pos h3, List.getElem?_drop, List.getElem?_take, if_pos (by omega), Array.getElem?_toList]
      obtain rfl : c = 0 := by omega
      rw [show j * 1 + 0 = j by omega, z0]; rfl
    · rw [if_neg h3, List.getElem?_eq_none (by simp; omega)]
  show Kd.string.M W base _ r[j] (((cur.toList.take (r.length * 1)).drop (j * 1)).take 1)
  rw [key]
  rfl
theorem holds_of_row9 {W : World} {base g cap : Nat} {ok : Nat → Prop} {l : List ByteArray} (h : Kd.R Kd.string 9 W base ok (.slice (some ⟨g, 0, none⟩) l.length cap) l) (hg : ∃ cur, W.heap[g]? = some (.cells cur 9 (0, 0))) : Sort.Holds encStr W g 0 (l.map bL).toArray := by
  intro t ht
  rw [List.size_toArray, List.length_map] at ht
  obtain ⟨q1, q2, q3⟩ := (Kd.R_reads' h).2.2
  obtain ⟨ad, e, q4⟩ := q3 (by omega)
  cases e
  obtain ⟨cs, e1, e2, e3⟩ := q4 t l[t] (List.getElem?_eq_getElem ht)
  have e2' : cs = [.string l[t]] := e2
  subst e2'
  have h0 := e3 0 _ rfl
  obtain ⟨cur, hcur⟩ := hg
  refine ⟨?_, by simp [World.frozen?, hcur]⟩
  have hx : (l.map bL).toArray[t]! = bL l[t] := by
    rw [getElem!_pos _ t (by rw [List.size_toArray, List.length_map]; exact ht), List.getElem_toArray, List.getElem_map]
  rw [hx]
  have ha : (Addr.add ⟨g, 0, none⟩ (t * Kd.string.sz + 0)) = ⟨g, 0 + t, none⟩ := by
    rw [Addr.add_lit]
    congr 1
    show 0 + (t * 1 + 0) = 0 + t
    omega
  rw [ha] at h0
  rw [h0]
  show some (Value.string l[t]) = some (Value.string ⟨(bL l[t]).toArray⟩)
  rw [bL_eta]
/-- what slices.Sort makes of texts -/
def msB (l : List ByteArray) : List ByteArray := ((l.map bL).mergeSort fun x y => decide (x ≤ y)).map fun x => ⟨x.toArray⟩
theorem msB_len (l : List ByteArray) : (msB l).length = l.length := by
  unfold msB
  rw [List.length_map, List.length_mergeSort, List.length_map]
theorem msB_ord (l : List ByteArray) (hn : l.Nodup) : msB l = Tx.ord ltB l := by
  have hp := List.mergeSort_perm (l.map bL) (fun x y => decide (x ≤ y))
  have hperm : (msB l).Perm l := by
    have h := hp.map (fun x : List UInt8 => (⟨x.toArray⟩ : ByteArray))
    have e : (l.map bL).map (fun x : List UInt8 => (⟨x.toArray⟩ : ByteArray)) = l := by
      rw [List.map_map]
      have : ((fun x : List UInt8 => (⟨x.toArray⟩ : ByteArray)) ∘ bL) = id := funext fun x => bL_eta x
      rw [this, List.map_id]
    rw [e] at h
    exact h
  have hnd : (msB l).Nodup := hperm.nodup_iff.2 hn
  refine Tx.ord_of_asc ltB_lin ?_ (fun a => hperm.mem_iff)
  have hs := List.pairwise_mergeSort (le := fun x y : List UInt8 => decide (x ≤ y)) (fun a b c h1 h2 => decide_eq_true (List.le_trans (of_decide_eq_true h1) (of_decide_eq_true h2))) (fun a b => by
    rcases List.le_total a b with q | q
    · rw [decide_eq_true q]; rfl
    · rw [decide_eq_true q, Bool.or_true]) (l.map bL)
  have h2 : (msB l).Pairwise fun a b => bL a ≤ bL b := by
    unfold msB
    rw [List.pairwise_map]
    exact hs.imp fun {a b} h => of_decide_eq_true h
  rw [List.nodup_iff_pairwise_ne] at hnd
  refine (h2.and hnd).imp fun {a b} h => ?_
  refine decide_eq_true ?_
  rw [Lib.toList_data, Lib.toList_data]
  rcases List.le_iff_lt_or_eq.1 h.1 with q | q
  · exact q
  · exact absurd (bL_ext q) h.2
/-- a row of texts of one's own, sorted -/
theorem sortB_row (A : Option Addr) (cap : Nat) (l : List ByteArray) (w : World) (base : Nat) (h : Kd.R Kd.string 9 w base (fun _ => True) (.slice A l.length cap) l) (hl : l.length ≤ 10000) :
    Calls Tryz.prog 42 #[.slice A l.length cap] w fun e w' => e = .returned (.tuple #[]) ∧ Kd.R Kd.string 9 w' base (fun _ => True) (.slice A l.length cap) (msB l) ∧ Below base w w' := by
  by_cases h0 : l = []
  · subst h0
    refine (Tryz.slices_Sort_string_none A cap w).mono ?_
    rintro e w' ⟨rfl, rfl⟩
    refine ⟨rfl, ?_, Below.refl _ _⟩
    rw [show msB [] = [] by unfold msB; simp]
    exact h
  · obtain ⟨inner, hlen, hz | ⟨g, cap', cur, e, g1, g2, g3, g4, g5, _⟩⟩ := Kd.R_own h
    · exact absurd (List.eq_nil_of_length_eq_zero hz.2) h0
    · cases e
      replace g5 : cur.size = cap * 1 := g5
      have hg := (Array.getElem?_eq_some_iff.1 g2).1
      have hH := holds_of_row9 h ⟨cur, g2⟩
      have hq := Tryz.slices_Sort_string g 0 cap (l.map bL) w hH hg (by rw [List.length_map]; omega)
      rw [List.length_map] at hq
      refine hq.mono ?_
      rintro e w' ⟨he, n, os, rfl⟩
      have hsz : ((l.map bL).mergeSort fun x y => decide (x ≤ y)).toArray.size = (l.map bL).toArray.size := by rw [List.size_toArray, List.size_toArray, List.length_mergeSort]
      generalize hd : ((l.map bL).mergeSort fun x y => decide (x ≤ y)) = d at hsz ⊢
      have hmd : msB l = d.map fun x => ⟨x.toArray⟩ := by unfold msB; rw [hd]
      have hdl : d.length = l.length := by rw [← hd, List.length_mergeSort, List.length_map]
      have hh0 : (Sort.ahead w n).heap[g]? = some (.cells cur 9 (0, 0)) := g2
      obtain ⟨cur1, hh1, s1⟩ := putRow_heap encStr (off := 0) (F := d.toArray) hh0
      have H1 := Sort.holds_putRow encStr (Sort.ahead w n) g 0 (l.map bL).toArray d.toArray (Sort.holds_ahead encStr w n g 0 _ hH) hsz
      have hh2 : (Sort.grow (Sort.putRow encStr (Sort.ahead w n) g 0 d.toArray) os).heap[g]? = some (.cells cur1 9 (0, 0)) := grow_heap os hh1
      have H2 := Sort.holds_grow encStr (Sort.putRow encStr (Sort.ahead w n) g 0 d.toArray) os g 0 d.toArray (Array.getElem?_eq_some_iff.1 hh1).1 H1
      refine ⟨he, ?_, ?_⟩
      · have hml : (msB l).length = l.length := msB_len l
        have := row9 (W := Sort.grow (Sort.putRow encStr (Sort.ahead w n) g 0 d.toArray) os) (base := base) (g := g) (cap := cap) (cur := cur1) (r := msB l) hh2 g1 (by omega) g4 (by rw [s1, g5]) (fun t ht => by
          have htd : t < d.length := by omega
          have h4 := (H2 t (by rw [List.size_toArray]; exact htd)).1
          simp only [World.cell?, hh2, Nat.zero_add] at h4
          have h5 : cur1[t]? = some (encStr d.toArray[t]!) := h4
          rw [h5, getElem!_pos _ t (by rw [List.size_toArray]; exact htd), List.getElem_toArray]
          simp only [hmd, List.getElem_map])
        rw [hml] at this
        exact this
      · refine ((below_ahead _ w n).trans ((below_putRow encStr _ 0 d.toArray g1).trans ?_))
        refine below_grow ?_ os
        have := (Array.getElem?_eq_some_iff.1 hh1).1
        omega
end Go.Proofs.YthimblhfjfngiaaGreat.PText

namespace Go.Proofs.YthimblhfjfngiaaGreat.PText
open Go.RowKit Go.Lib Go.Sort Go.Proofs.YthimblhfjfngiaaGreatW.PrintWords Go.Proofs.YthimblhfjfngiaaGreatW.PrintLast Go.Proofs.YthimblhfjfngiaaGreatW.PrintMore
set_option linter.unusedVariables false
set_option linter.unusedSimpArgs false
def hitP (old : List S41) (f : S41) : Bool := !(findR old f.f0).2 || !((findR old f.f0).1.toList == f.f1.toList)
def lostP (now : List S41) (f : S41) : Bool := !(findR now f.f0).2
/-- the names of those that a question takes -/
def pick1 (g : S41 → Bool) (l : List S41) (i : Nat) : List ByteArray := ((l.take i).filter g).map (·.f0)
theorem pick_succ (g : S41 → Bool) (l : List S41) (i : Nat) (h : i < l.length) : pick1 g l (i + 1) = if g l[i] = true then pick1 g l i ++ [l[i].f0] else pick1 g l i := by
  unfold pick1
  rw [List.take_succ_eq_append_getElem h, List.filter_append, List.map_append]
  by_cases c : g l[i] = true
  · rw [if_pos c]; simp [List.filter_cons, c]
  · rw [if_neg c]; simp [List.filter_cons, c]
theorem pick_len (g : S41 → Bool) (l : List S41) (i : Nat) : (pick1 g l i).length ≤ i := by
  unfold pick1
  rw [List.length_map]
  exact Nat.le_trans (List.length_filter_le _ _) (by rw [List.length_take]; omega)
theorem keepK {w w' : World} {p g k : Nat} {u v : Value} (hb : Below w.heap.size w w') (h1 : w.cell? ⟨p, 0, none⟩ = some u) (h2 : w.cell? ⟨g, k, none⟩ = some v) (l1 : p < w.heap.size) (l2 : g < w.heap.size) :
    w'.cell? ⟨p, 0, none⟩ = some u ∧ w'.cell? ⟨g, k, none⟩ = some v ∧ Below w.heap.size w w' := ⟨(hb.cell (p := ⟨p, 0, none⟩) l1).trans h1, (hb.cell (p := ⟨g, k, none⟩) l2).trans h2, hb⟩
/-- what a commit changes -/
def chgP (now old : List S41) : List ByteArray := pick1 (hitP old) now now.length ++ pick1 (lostP now) old old.length
set_option maxRecDepth 100000 in
set_option maxHeartbeats 2000000 in
theorem pchanged_out (base p : Nat) (L : List Com) (k : Int) (w : World) (hP : PastIs w base p L) (hk : ¬ (0 ≤ k ∧ k < (L.length : Int))) :
    Calls Tryz.prog 23 #[.pointer (some ⟨p, 0, none⟩), .int .i64 k] w fun e w' => e = .returned (.tuple #[.slice none 0 0, .int .i64 1]) ∧ Below w.heap.size w w' := by
  have H := Aside0.mk (has_calls base p L k w hP)
  rw [decide_eq_false hk] at H
  clear hP hk
  go_enter Tryz.func23, Tryz.ntmps23
  go_wp2_with (go_at_call 39; with_reducible refine H.out.mono ?_; rintro e w1 ⟨rfl, hb⟩; have HB := Aside0.mk hb; clear hb H)
  go_ret2
  exact ⟨rfl, HB.out⟩
set_option maxRecDepth 100000 in
set_option maxHeartbeats 4000000 in
theorem pchanged_in (base p : Nat) (L : List Com) (k : Nat) (w : World) (hP : PastIs w base p L) (hk : k < L.length) (hL : L.length ≤ 1000) (hS : ∀ c ∈ L, c.files.length ≤ 1000) :
    Calls Tryz.prog 23 #[.pointer (some ⟨p, 0, none⟩), .int .i64 (k : Int)] w fun e w' => ∃ v, e = .returned (.tuple #[v, .int .i64 0]) ∧ Kd.R Kd.string 9 w' w.heap.size (fun _ => True) v (msB (chgP L[k].files (prevC L k).files)) ∧ Below w.heap.size w w' := by
  have H := Aside0.mk (has_calls base p L (k : Int) w hP)
  rw [decide_eq_true (show 0 ≤ (k : Int) ∧ (k : Int) < (L.length : Int) by omega)] at H
  obtain ⟨g, cap, cs, l1, l2, b1, b2, hcap, hc1, hat⟩ := past_at hP (by omega)
  obtain ⟨cn, hc2, An, cpn, hc3, hFn⟩ := hat k hk
  have l3 : cn < w.heap.size := (Array.getElem?_eq_some_iff.1 hc3).1
  have hlx := hS L[k] (List.getElem_mem hk)
  have hly : (prevC L k).files.length ≤ 1000 := by
    unfold prevC
    split
    · exact Nat.zero_le _
    · rw [List.getD_eq_getElem?_getD, List.getElem?_eq_getElem (by omega)]
      exact hS _ (List.getElem_mem _)
  have HBF : Aside0 (∀ wr, Below w.heap.size w wr → Calls Tryz.prog 34 #[.pointer (some ⟨p, 0, none⟩), .int .i64 (k : Int)] wr fun e w' => ∃ c, e = .returned (.pointer (some ⟨c, 0, none⟩)) ∧ ComAt w' c (prevC L k) ∧ Below wr.heap.size wr w') :=
    ⟨fun wr hb => before_calls base p L k wr (hP.below hb) hk hL⟩
  have HFN : Aside0 (∀ nm wr, ComAt wr cn L[k] → Calls Tryz.prog 28 #[.pointer (some ⟨cn, 0, none⟩), .string nm] wr fun e w' => e = .returned (.tuple #[.string (findR L[k].files nm).1, .bool (findR L[k].files nm).2]) ∧ Below wr.heap.size wr w') :=
    ⟨fun nm wr h => find_calls cn L[k] nm wr h (by omega)⟩
  have HFO : Aside0 (∀ c nm wr, ComAt wr c (prevC L k) → Calls Tryz.prog 28 #[.pointer (some ⟨c, 0, none⟩), .string nm] wr fun e w' => e = .returned (.tuple #[.string (findR (prevC L k).files nm).1, .bool (findR (prevC L k).files nm).2]) ∧ Below wr.heap.size wr w') :=
    ⟨fun c nm wr h => find_calls c (prevC L k) nm wr h (by omega)⟩
  have HC1 := Aside0.mk hc1
  have HC2 := Aside0.mk hc2
  have HN : Aside0 (ComAt w cn L[k]) := ⟨An, cpn, hc3, hFn⟩
  have hn4 : w.cell? ⟨cn, 1, none⟩ = some (.slice An L[k].files.length cpn) := by unfold World.cell?; rw [hc3]; rfl
  have HN4 := Aside0.mk hn4
  have HFR := Aside0.mk hFn
  have HLT : Aside0 (p < w.heap.size ∧ g < w.heap.size ∧ cn < w.heap.size) := ⟨l1, l2, l3⟩
  have HLX := Aside0.mk hlx
  have HLY := Aside0.mk hly
  have hk0 : (0 : Int) ≤ (k : Int) := by omega
  have hk1 : (k : Int) < (L.length : Int) := by omega
  have hk2 : decide ((0 : Int) ≤ (k : Int)) = true := by simp
  have hk3 : decide ((k : Int) < (L.length : Int)) = true := decide_eq_true hk1
  clear hP hat hc1 hc2 hc3 hn4 hFn hlx hly hcap b1 b2 l1 l2 l3 hS hL
  generalize L[k] = x at *
  generalize prevC L k = y at *
  have tok : True := trivial
  go_enter Tryz.func23, Tryz.ntmps23
  go_wp2_with (first
    | (go_at_call 39; with_reducible refine H.out.mono ?_; rintro e w1 ⟨rfl, hb⟩; have HB1 := Aside0.mk hb; have hd1 := (hb.cell (p := ⟨p, 0, none⟩) HLT.out.1).trans HC1.out; have hd2 := (hb.cell (p := ⟨g, k, none⟩) HLT.out.2.1).trans HC2.out; have HL1 : Aside0 (p < w1.heap.size ∧ g < w1.heap.size) := ⟨Nat.lt_of_lt_of_le HLT.out.1 hb.size, Nat.lt_of_lt_of_le HLT.out.2.1 hb.size⟩; clear hb H)
    | fail)
  go_region_held3 (fun w' => w'.cell? ⟨p, 0, none⟩ = some (.slice (some ⟨g, 0, none⟩) L.length cap) ∧ w'.cell? ⟨g, k, none⟩ = some (.pointer (some ⟨cn, 0, none⟩)) ∧ Below w1.heap.size w1 w')
    (first
      | exact keepK (Below.refl _ _) hd1 hd2 HL1.out.1 HL1.out.2
      | exact keepK (Below.refl _ _).drew hd1 hd2 HL1.out.1 HL1.out.2
      | (go_split_ands; exact keepK (Below.drew (by assumption)) hd1 hd2 HL1.out.1 HL1.out.2)
      | (go_split_ands; exact keepK (below_step (by assumption) hb) hd1 hd2 HL1.out.1 HL1.out.2)
      | (go_split_ands; exact keepK (below_step (by assumption) hb).drew hd1 hd2 HL1.out.1 HL1.out.2))
    (first
      | (go_at_call 34; with_reducible refine (HBF.out _ ?zb).mono ?_; (case zb => (go_split_ands; exact below_step HB1.out (by assumption))); rintro e w2 ⟨co, rfl, hcom, hb⟩))
  go_split_ands
  have HBX : Aside0 (Below w1.heap.size w1 w2) := ⟨by assumption⟩
  clear hb
  have HB2 := Aside0.mk (below_step HB1.out HBX.out)
  have HO := Aside0.mk hcom
  obtain ⟨Ao, cpo, ho3, hFo⟩ := hcom
  have ho4 : w2.cell? ⟨co, 1, none⟩ = some (.slice Ao y.files.length cpo) := by unfold World.cell?; rw [ho3]; rfl
  have HO4 := Aside0.mk ho4
  have HOR := Aside0.mk hFo
  have hn5 := (HB2.out.cell (p := ⟨cn, 1, none⟩) HLT.out.2.2).trans HN4.out
  have HOL := Aside0.mk (World.block_lt_of_cell? _ _ ho4)
  have HN2 : Aside0 (ComAt w2 cn x) := Aside0.mk (HN.out.keep (PKept.of_below HB2.out))
  have HNR := Aside0.mk (Kd.C_below HFR.out.reads HB2.out)
  clear ho3 hFo ho4 HBF HN HFR HBX
  go_wp2_with fail
  have HB0 := Aside0.mk (Below.refl w2.heap.size w2)
  go_loopg [38, 6] (x.files.length + 1) (fun kq v38 v6 w' => ∃ (i : Nat) (A : Option Addr) (n cc : Nat), v38 = .int .i64 (i : Int) ∧ v6 = .slice A n cc ∧ Aside0 (x.files.length - i < kq ∧ i ≤ x.files.length) ∧ Aside0 (Below w2.heap.size w2 w') ∧ Aside0 (Kd.R Kd.string 9 w' w2.heap.size (fun _ => True) (.slice A n cc) (pick1 (hitP y.files) x.files i)))
  case atStart => exact ⟨0, none, 0, 0, rfl, rfl, ⟨by omega, by omega⟩, HB0, ⟨Kd.R_nil _ _ _ _ _⟩⟩
  case round =>
    obtain ⟨i, A, n, cc, rfl, rfl, HI, HBe, HR⟩ := hrel
    obtain ⟨k1, rfl⟩ : ∃ k1, gk = k1 + 1 := ⟨gk - 1, by have := HI.out.1; omega⟩
    have hnl : n = (pick1 (hitP y.files) x.files i).length := (Kd.R_reads' HR.out).1
    by_cases hlt : i < x.files.length
    · have hb : decide ((i : Int) < (x.files.length : Int)) = true := by simp; omega
      have hb2 : decide ((0 : Int) ≤ (i : Int)) = true := by simp
      have hi0 : (0 : Int) ≤ (i : Int) := by omega
      have hi1 : (i : Int) < (x.files.length : Int) := by omega
      obtain ⟨ad, e0, hx, hy⟩ := at_T41 (Kd.C_below HNR.out HBe.out) (i : Int) hi0 hi1
      cases e0
      rw [Int.toNat_natCast, rd53_at x.files i hlt] at hx hy
      have HSU := Aside0.mk (pick_succ (hitP y.files) x.files i hlt)
      have HPL := Aside0.mk (pick_len (hitP y.files) x.files i)
      have HLT2 := Aside0.mk hlt
      generalize x.files[i] = f at *
      have HCO : Aside0 (∀ wr, ComAt wr co y → Calls Tryz.prog 28 #[.pointer (some ⟨co, 0, none⟩), .string f.f0] wr fun e w' => e = .returned (.tuple #[.string (findR y.files f.f0).1, .bool (findR y.files f.f0).2]) ∧ Below wr.heap.size wr w') := ⟨fun wr h => HFO.out co f.f0 wr h⟩
      have HOW := Aside0.mk (HO.out.keep (PKept.of_below (HBe.out.alloc HBe.out.size (.cells #[.string f.f0, .string f.f1] 41))))
      have hq : hitP y.files f = (!(findR y.files f.f0).2 || !((findR y.files f.f0).1.toList == f.f1.toList)) := rfl
      rw [hq] at HSU
      clear hq
      generalize (findR y.files f.f0).1 = s at *
      generalize (findR y.files f.f0).2 = b at *
      generalize hX : pick1 (hitP y.files) x.files i = X at *
      subst hnl
      have HRX := Aside0.mk (Kd.R_alloc HR.out (o := .cells #[.string f.f0, .string f.f1] 41))
      have HBA := Aside0.mk (HBe.out.alloc HBe.out.size (.cells #[.string f.f0, .string f.f1] 41))
      have hg0 : (wr.alloc (.cells #[.string f.f0, .string f.f1] 41)).cell? ⟨wr.heap.size, 0, none⟩ = some (.string f.f0) := by unfold World.cell?; rw [heap_nw]; rfl
      have hg1 : (wr.alloc (.cells #[.string f.f0, .string f.f1] 41)).cell? ⟨wr.heap.size, 1, none⟩ = some (.string f.f1) := by unfold World.cell?; rw [heap_nw]; rfl
      have HG := Aside0.mk (And.intro hg0 hg1)
      have hsz : wr.heap.size < (wr.alloc (.cells #[.string f.f0, .string f.f1] 41)).heap.size := by simp
      have HSZ := Aside0.mk hsz
      clear hX hg0 hg1 hsz HR
      have tok3 : True := trivial
      cases b
      · have HSN : Aside0 (pick1 (hitP y.files) x.files (i + 1) = X ++ [f.f0]) := ⟨by rw [HSU.out]; rfl⟩
        clear HSU
        go_wp2_with (first
          | (go_at_call 28; with_reducible refine (HCO.out _ HOW.out).mono ?_; rintro e w6 ⟨rfl, hb6⟩; have HB6 := Aside0.mk (below_step HBA.out hb6); have hz0 := (hb6.cell (p := ⟨wr.heap.size, 0, none⟩) HSZ.out).trans HG.out.1; have hz1 := (hb6.cell (p := ⟨wr.heap.size, 1, none⟩) HSZ.out).trans HG.out.2; have HRY := Aside0.mk (Kd.R_below HRX.out hb6); clear hb6 HCO)
          | (at_builtin; go_loud (refine Kd.R_append Kd.string (w0 := w6) w2.heap.size rfl (.tmp 57) (.tmp 60) 47 9 (.string ⟨#[]⟩) 16 rfl Tryz.underlying47 info9 rfl (by decide) (by omega) _ X f.f0 [.string f.f0] (fun _ => True) (fun _ => False) (by first | rfl | (simp; done) | (go_simp; done)) (by first | rfl | (simp; done) | (go_simp; done)) rfl (fun _ hk => hk.elim) (fun _ _ => trivial) HRY.out (Below.refl _ w6) HB6.out.size (by have := HPL.out; have := HLT2.out; have := HLX.out; omega) ?_); intro v1 w7 ho hb hg hat; go_loud (obtain ⟨A8, c8, rfl⟩ := Kd.R_slice ho; have HB7 := Aside0.mk (HB6.out.trans hb); rw [show (X ++ [f.f0]).length = X.length + 1 by rw [List.length_append]; rfl] at ho; have HO7 := Aside0.mk ho; clear ho hb hg hat))
          | fail)
        go_roundg k1
        case measure => have := HI.out.1; have := HLT2.out; omega
        case rel => exact ⟨i + 1, A8, _, c8, congrArg (Value.int .i64) (by first | exact nx i (by have := HLX.out; have := HLT2.out; omega) | (have := HLX.out; have := HLT2.out; omega)), rfl, ⟨by have := HI.out.1; have := HLT2.out; omega, by have := HLT2.out; omega⟩, HB7, ⟨by rw [HSN.out]; exact HO7.out⟩⟩
      · by_cases e : s.toList = f.f1.toList
        · have hq : (s.toList == f.f1.toList) = true := beq_iff_eq.2 e
          have HSN : Aside0 (pick1 (hitP y.files) x.files (i + 1) = X) := ⟨by rw [HSU.out, hq]; rfl⟩
          clear HSU e
          go_wp2_with (first
            | (go_at_call 28; with_reducible refine (HCO.out _ HOW.out).mono ?_; rintro e w6 ⟨rfl, hb6⟩; have HB6 := Aside0.mk (below_step HBA.out hb6); have hz0 := (hb6.cell (p := ⟨wr.heap.size, 0, none⟩) HSZ.out).trans HG.out.1; have hz1 := (hb6.cell (p := ⟨wr.heap.size, 1, none⟩) HSZ.out).trans HG.out.2; have HRY := Aside0.mk (Kd.R_below HRX.out hb6); clear hb6 HCO)
            | fail)
          go_roundg k1
          case measure => have := HI.out.1; have := HLT2.out; omega
          case rel => exact ⟨i + 1, A, _, cc, congrArg (Value.int .i64) (by first | exact nx i (by have := HLX.out; have := HLT2.out; omega) | (have := HLX.out; have := HLT2.out; omega)), rfl, ⟨by have := HI.out.1; have := HLT2.out; omega, by have := HLT2.out; omega⟩, HB6, ⟨by rw [HSN.out]; exact HRY.out⟩⟩
        · have hq : (s.toList == f.f1.toList) = false := beq_eq_false_iff_ne.2 e
          have HSN : Aside0 (pick1 (hitP y.files) x.files (i + 1) = X ++ [f.f0]) := ⟨by rw [HSU.out, hq]; rfl⟩
          clear HSU e
          go_wp2_with (first
            | (go_at_call 28; with_reducible refine (HCO.out _ HOW.out).mono ?_; rintro e w6 ⟨rfl, hb6⟩; have HB6 := Aside0.mk (below_step HBA.out hb6); have hz0 := (hb6.cell (p := ⟨wr.heap.size, 0, none⟩) HSZ.out).trans HG.out.1; have hz1 := (hb6.cell (p := ⟨wr.heap.size, 1, none⟩) HSZ.out).trans HG.out.2; have HRY := Aside0.mk (Kd.R_below HRX.out hb6); clear hb6 HCO)
            | (at_builtin; go_loud (refine Kd.R_append Kd.string (w0 := w6) w2.heap.size rfl (.tmp 57) (.tmp 60) 47 9 (.string ⟨#[]⟩) 16 rfl Tryz.underlying47 info9 rfl (by decide) (by omega) _ X f.f0 [.string f.f0] (fun _ => True) (fun _ => False) (by first | rfl | (simp; done) | (go_simp; done)) (by first | rfl | (simp; done) | (go_simp; done)) rfl (fun _ hk => hk.elim) (fun _ _ => trivial) HRY.out (Below.refl _ w6) HB6.out.size (by have := HPL.out; have := HLT2.out; have := HLX.out; omega) ?_); intro v1 w7 ho hb hg hat; go_loud (obtain ⟨A8, c8, rfl⟩ := Kd.R_slice ho; have HB7 := Aside0.mk (HB6.out.trans hb); rw [show (X ++ [f.f0]).length = X.length + 1 by rw [List.length_append]; rfl] at ho; have HO7 := Aside0.mk ho; clear ho hb hg hat))
            | fail)
          go_roundg k1
          case measure => have := HI.out.1; have := HLT2.out; omega
          case rel => exact ⟨i + 1, A8, _, c8, congrArg (Value.int .i64) (by first | exact nx i (by have := HLX.out; have := HLT2.out; omega) | (have := HLX.out; have := HLT2.out; omega)), rfl, ⟨by have := HI.out.1; have := HLT2.out; omega, by have := HLT2.out; omega⟩, HB7, ⟨by rw [HSN.out]; exact HO7.out⟩⟩
    · have hb : decide ((i : Int) < (x.files.length : Int)) = false := by simp; omega
      have hi : i = x.files.length := by have := HI.out.2; omega
      subst hi
      have HPL := Aside0.mk (pick_len (hitP y.files) x.files x.files.length)
      have ho5 := (HBe.out.cell (p := ⟨co, 1, none⟩) HOL.out).trans HO4.out
      generalize hX : pick1 (hitP y.files) x.files x.files.length = X at *
      have HXX := Aside0.mk hX
      clear hX HI hlt
      go_wp2_with fail
      go_loopg [68, 6] (y.files.length + 1) (fun kq v68 v6 w' => ∃ (i : Nat) (A : Option Addr) (n cc : Nat), v68 = .int .i64 (i : Int) ∧ v6 = .slice A n cc ∧ Aside0 (y.files.length - i < kq ∧ i ≤ y.files.length) ∧ Aside0 (Below w2.heap.size w2 w') ∧ Aside0 (Kd.R Kd.string 9 w' w2.heap.size (fun _ => True) (.slice A n cc) (X ++ pick1 (lostP x.files) y.files i)))
      case atStart => exact ⟨0, A, n, cc, rfl, rfl, ⟨by omega, by omega⟩, HBe, ⟨by rw [show pick1 (lostP x.files) y.files 0 = [] from rfl, List.append_nil]; exact HR.out⟩⟩
      case round =>
        clear HR HBe ho5 hnl
        obtain ⟨i, A, n, cc, rfl, rfl, HI, HBe, HR⟩ := hrel
        obtain ⟨k1, rfl⟩ : ∃ k1, gk = k1 + 1 := ⟨gk - 1, by have := HI.out.1; omega⟩
        have hnl : n = (X ++ pick1 (lostP x.files) y.files i).length := (Kd.R_reads' HR.out).1
        by_cases hlt : i < y.files.length
        · have hb : decide ((i : Int) < (y.files.length : Int)) = true := by simp; omega
          have hb2 : decide ((0 : Int) ≤ (i : Int)) = true := by simp
          have hi0 : (0 : Int) ≤ (i : Int) := by omega
          have hi1 : (i : Int) < (y.files.length : Int) := by omega
          obtain ⟨ad, e0, hx, hy⟩ := at_T41 (Kd.C_below HOR.out.reads HBe.out) (i : Int) hi0 hi1
          cases e0
          rw [Int.toNat_natCast, rd53_at y.files i hlt] at hx hy
          have HSU := Aside0.mk (pick_succ (lostP x.files) y.files i hlt)
          have HPM : Aside0 ((X ++ pick1 (lostP x.files) y.files i).length ≤ x.files.length + i) := ⟨by have := pick_len (lostP x.files) y.files i; have := HPL.out; rw [List.length_append]; omega⟩
          have HLT2 := Aside0.mk hlt
          generalize y.files[i] = f at *
          have HCO : Aside0 (∀ wr, ComAt wr cn x → Calls Tryz.prog 28 #[.pointer (some ⟨cn, 0, none⟩), .string f.f0] wr fun e w' => e = .returned (.tuple #[.string (findR x.files f.f0).1, .bool (findR x.files f.f0).2]) ∧ Below wr.heap.size wr w') := ⟨fun wr h => HFN.out f.f0 wr h⟩
          have HOW := Aside0.mk (HN2.out.keep (PKept.of_below (HBe.out.alloc HBe.out.size (.cells #[.string f.f0, .string f.f1] 41))))
          have hq : lostP x.files f = !(findR x.files f.f0).2 := rfl
          rw [hq] at HSU
          clear hq
          generalize (findR x.files f.f0).1 = s at *
          generalize (findR x.files f.f0).2 = b at *
          have HSU2 : Aside0 (X ++ pick1 (lostP x.files) y.files (i + 1) = if (!b) = true then (X ++ pick1 (lostP x.files) y.files i) ++ [f.f0] else X ++ pick1 (lostP x.files) y.files i) := ⟨by
            rw [HSU.out]
            cases b
            · exact (List.append_assoc X _ _).symm
            · rfl⟩
          generalize hX : X ++ pick1 (lostP x.files) y.files i = Y at *
          subst hnl
          have HRX := Aside0.mk (Kd.R_alloc HR.out (o := .cells #[.string f.f0, .string f.f1] 41))
          have HBA := Aside0.mk (HBe.out.alloc HBe.out.size (.cells #[.string f.f0, .string f.f1] 41))
          have hg0 : (wr.alloc (.cells #[.string f.f0, .string f.f1] 41)).cell? ⟨wr.heap.size, 0, none⟩ = some (.string f.f0) := by unfold World.cell?; rw [heap_nw]; rfl
          have hsz : wr.heap.size < (wr.alloc (.cells #[.string f.f0, .string f.f1] 41)).heap.size := by simp
          have HG := Aside0.mk hg0
          have HSZ := Aside0.mk hsz
          clear hX hg0 hsz HR HSU
          cases b
          · have HSN : Aside0 (X ++ pick1 (lostP x.files) y.files (i + 1) = Y ++ [f.f0]) := ⟨by rw [HSU2.out]; rfl⟩
            clear HSU2
            go_wp2_with (first
              | (go_at_call 28; with_reducible refine (HCO.out _ HOW.out).mono ?_; rintro e w6 ⟨rfl, hb6⟩; have HB6 := Aside0.mk (below_step HBA.out hb6); have hz0 := (hb6.cell (p := ⟨wr.heap.size, 0, none⟩) HSZ.out).trans HG.out; have HRY := Aside0.mk (Kd.R_below HRX.out hb6); clear hb6 HCO)
              | (at_builtin; go_loud (refine Kd.R_append Kd.string (w0 := w6) w2.heap.size rfl (.tmp 81) (.tmp 84) 47 9 (.string ⟨#[]⟩) 16 rfl Tryz.underlying47 info9 rfl (by decide) (by omega) _ Y f.f0 [.string f.f0] (fun _ => True) (fun _ => False) (by first | rfl | (simp; done) | (go_simp; done)) (by first | rfl | (simp; done) | (go_simp; done)) rfl (fun _ hk => hk.elim) (fun _ _ => trivial) HRY.out (Below.refl _ w6) HB6.out.size (by have := HPM.out; have := HLT2.out; have := HLX.out; have := HLY.out; omega) ?_); intro v1 w7 ho hb hg hat; go_loud (obtain ⟨A8, c8, rfl⟩ := Kd.R_slice ho; have HB7 := Aside0.mk (HB6.out.trans hb); rw [show (Y ++ [f.f0]).length = Y.length + 1 by rw [List.length_append]; rfl] at ho; have HO7 := Aside0.mk ho; clear ho hb hg hat))
              | fail)
            go_roundg k1
            case measure => have := HI.out.1; have := HLT2.out; omega
            case rel => exact ⟨i + 1, A8, _, c8, congrArg (Value.int .i64) (by first | exact nx i (by have := HLY.out; have := HLT2.out; omega) | (have := HLY.out; have := HLT2.out; omega)), rfl, ⟨by have := HI.out.1; have := HLT2.out; omega, by have := HLT2.out; omega⟩, HB7, ⟨by rw [HSN.out]; exact HO7.out⟩⟩
          · have HSN : Aside0 (X ++ pick1 (lostP x.files) y.files (i + 1) = Y) := ⟨by rw [HSU2.out]; rfl⟩
            clear HSU2
            go_wp2_with (first
              | (go_at_call 28; with_reducible refine (HCO.out _ HOW.out).mono ?_; rintro e w6 ⟨rfl, hb6⟩; have HB6 := Aside0.mk (below_step HBA.out hb6); have hz0 := (hb6.cell (p := ⟨wr.heap.size, 0, none⟩) HSZ.out).trans HG.out; have HRY := Aside0.mk (Kd.R_below HRX.out hb6); clear hb6 HCO)
              | fail)
            go_roundg k1
            case measure => have := HI.out.1; have := HLT2.out; omega
            case rel => exact ⟨i + 1, A, _, cc, congrArg (Value.int .i64) (by first | exact nx i (by have := HLY.out; have := HLT2.out; omega) | (have := HLY.out; have := HLT2.out; omega)), rfl, ⟨by have := HI.out.1; have := HLT2.out; omega, by have := HLT2.out; omega⟩, HB6, ⟨by rw [HSN.out]; exact HRY.out⟩⟩
        · have hb : decide ((i : Int) < (y.files.length : Int)) = false := by simp; omega
          have hi : i = y.files.length := by have := HI.out.2; omega
          subst hi
          have hch : X ++ pick1 (lostP x.files) y.files y.files.length = chgP x.files y.files := by rw [← HXX.out]; rfl
          have hcl : (chgP x.files y.files).length ≤ 10000 := by
            rw [← hch, List.length_append]
            have := pick_len (lostP x.files) y.files y.files.length
            have := HPL.out
            have := HLX.out
            have := HLY.out
            omega
          rw [hch] at HR hnl
          subst hnl
          have HSO := Aside0.mk (sortB_row A cc _ wr w2.heap.size HR.out hcl)
          clear hch hcl HR HI hlt
          generalize hZ : chgP x.files y.files = Z at *
          have HZ := Aside0.mk hZ
          clear hZ
          go_wp2_with (go_at_call 42; with_reducible refine HSO.out.mono ?_; rintro e w9 ⟨rfl, ho9, hb9⟩; have HO9 := Aside0.mk (Kd.R_lower ho9 HB2.out.size); have HB9 := Aside0.mk (below_step HB2.out (HBe.out.trans hb9)); clear ho9 hb9 HSO)
          go_ret2
          exact ⟨.slice A Z.length cc, rfl, by rw [HZ.out]; exact HO9.out, HB9.out⟩
end Go.Proofs.YthimblhfjfngiaaGreat.PText

namespace Go.Proofs.YthimblhfjfngiaaGreat.PText
open Go.RowKit Go.Lib Go.Sort Go.Proofs.YthimblhfjfngiaaGreatW.PrintWords Go.Proofs.YthimblhfjfngiaaGreatW.PrintLast Go.Proofs.YthimblhfjfngiaaGreatW.PrintMore
set_option linter.unusedVariables false
set_option linter.unusedSimpArgs false
def diffP (now old : List S41) (f : S41) : Bool := !((findR old f.f0).1.toList == (findR now f.f0).1.toList) || !((findR old f.f0).2 == (findR now f.f0).2)
def chgR (now old : List S41) : List ByteArray := pick1 (diffP now old) (old ++ now) (old ++ now).length
set_option maxRecDepth 100000 in
set_option maxHeartbeats 1000000 in
theorem rchanged_out (base q : Nat) (L : List Com) (k : Int) (w : World) (hR : RefIs w base q L) (hk : ¬ (0 ≤ k ∧ k < (L.length : Int))) :
    Calls Tryz.prog 24 #[.pointer (some ⟨q, 0, none⟩), .int .i64 k] w fun e w' => e = .returned (.tuple #[.slice none 0 0, .int .i64 1]) ∧ Below w.heap.size w w' := by
  obtain ⟨A, c, hc1, hC⟩ := s58_cell (refIs_S hR)
  clear hR hC
  by_cases h0 : k < 0
  · have d0 : decide (k < 0) = true := decide_eq_true h0
    clear hk h0
    go_enter Tryz.func24, Tryz.ntmps24
    go_wp2_with fail
    go_ret2
    exact ⟨rfl, Below.refl _ _⟩
  · have d0 : decide (k < 0) = false := decide_eq_false h0
    have d1 : decide ((L.length : Int) ≤ k) = true := decide_eq_true (by omega)
    clear hk h0
    go_enter Tryz.func24, Tryz.ntmps24
    go_wp2_with fail
    go_ret2
    exact ⟨rfl, Below.refl _ _⟩
theorem keep3 {w w' : World} {q : Nat} {a b : Addr} {u v x : Value} (hb : Below w.heap.size w w') (h1 : w.cell? ⟨q, 1, none⟩ = some u) (h2 : w.cell? a = some v) (h3 : w.cell? b = some x) :
    w'.cell? ⟨q, 1, none⟩ = some u ∧ w'.cell? a = some v ∧ w'.cell? b = some x ∧ Below w.heap.size w w' :=
  ⟨(hb.cell (World.block_lt_of_cell? _ _ h1)).trans h1, (hb.cell (World.block_lt_of_cell? _ _ h2)).trans h2, (hb.cell (World.block_lt_of_cell? _ _ h3)).trans h3, hb⟩
set_option maxRecDepth 100000 in
set_option maxHeartbeats 4000000 in
theorem rchanged_in (base q : Nat) (L : List Com) (k : Nat) (w : World) (hR : RefIs w base q L) (hk : k < L.length) (hL : L.length ≤ 1000) (hS : ∀ c ∈ L, c.files.length ≤ 1000) :
    Calls Tryz.prog 24 #[.pointer (some ⟨q, 0, none⟩), .int .i64 (k : Int)] w fun e w' => ∃ v, e = .returned (.tuple #[v, .int .i64 0]) ∧ Kd.R Kd.string 9 w' w.heap.size (fun _ => True) v (Tx.ord ltB (chgR L[k].files (prevC L k).files)) ∧ Below w.heap.size w w' := by
  obtain ⟨A, c, hc1, hC⟩ := s58_cell (refIs_S hR)
  obtain ⟨ad, A0, c0, e0, hx0, hxc, hCL⟩ := at_L2 hC (k : Int) (by omega) (by omega)
  rw [rdL2_at L k hk] at hx0 hxc hCL
  cases e0
  have hcase : ∃ Ab cb, (prevC L k).files.length ≤ cb ∧ Kd.C k41 w Ab (prevC L k).files.length (prevC L k).files ∧ ((k = 0 ∧ Value.slice Ab (prevC L k).files.length cb = .slice none 0 0) ∨ (∃ m, k = m + 1 ∧ w.cell? (ad.add (m : Int).toNat) = some (.slice Ab (prevC L k).files.length cb))) := by
    by_cases h0 : k = 0
    · subst h0
      exact ⟨none, 0, Nat.le_refl _, ⟨rfl, Nat.zero_le _, fun q => absurd q (Nat.lt_irrefl 0)⟩, .inl ⟨rfl, rfl⟩⟩
    · obtain ⟨m, rfl⟩ : ∃ m, k = m + 1 := ⟨k - 1, by omega⟩
      obtain ⟨ad2, A2, c2, e2, hx2, hxc2, hCL2⟩ := at_L2 hC (m : Int) (by omega) (by omega)
      cases e2
      have hpr : prevC L (m + 1) = L[m]'(by omega) := by
        unfold prevC
        rw [if_neg (by omega), List.getD_eq_getElem?_getD, Nat.add_sub_cancel, List.getElem?_eq_getElem (by omega)]; rfl
      rw [rdL2_at L m (by omega)] at hx2 hxc2 hCL2
      rw [hpr]
      exact ⟨A2, c2, hxc2, hCL2, .inr ⟨m, rfl, hx2⟩⟩
  obtain ⟨Ab, cb, hbc, hCB, hway⟩ := hcase
  have hlx := hS L[k] (List.getElem_mem hk)
  have hly : (prevC L k).files.length ≤ 1000 := by
    unfold prevC
    split
    · exact Nat.zero_le _
    · rw [List.getD_eq_getElem?_getD, List.getElem?_eq_getElem (by omega)]
      exact hS _ (List.getElem_mem _)
  have HLX := Aside0.mk hlx
  have HLY := Aside0.mk hly
  have HCN := Aside0.mk hCL
  have HCB := Aside0.mk hCB
  have HXC : Aside0 (L[k].files.length ≤ c0 ∧ (prevC L k).files.length ≤ cb) := ⟨hxc, hbc⟩
  have H1 := Aside0.mk hc1
  have HX := Aside0.mk hx0
  have HLT : Aside0 (q < w.heap.size ∧ (ad.add (k : Int).toNat).block < w.heap.size) := ⟨World.block_lt_of_cell? _ _ hc1, World.block_lt_of_cell? _ _ hx0⟩
  have hk0 : (0 : Int) ≤ (k : Int) := by omega
  have hk1 : (k : Int) < (L.length : Int) := by omega
  have d0 : decide ((k : Int) < 0) = false := decide_eq_false (by omega)
  have d1 : decide ((L.length : Int) ≤ (k : Int)) = false := decide_eq_false (by omega)
  have hkL := hk
  have hk2 : decide ((0 : Int) ≤ (k : Int)) = true := decide_eq_true hk0
  have hk3 : decide ((k : Int) < (L.length : Int)) = true := decide_eq_true hk1
  clear hR hC hCL hCB hxc hbc hlx hly hS
  generalize L[k].files = now at *
  generalize (prevC L k).files = old at *
  rcases hway with ⟨h0, hz⟩ | ⟨m, hm, hxm⟩
  have d2 : decide ((0 : Int) < (k : Int)) = false := decide_eq_false (by omega)
  have hz' : Value.slice none 0 0 = Value.slice Ab old.length cb := hz.symm
  clear hz h0 hk hkL
  generalize (k : Int) = K at *
  go_enter Tryz.func24, Tryz.ntmps24
  go_wp2_with fail
  rw [hz']
  rotate_left
  have d2 : decide ((0 : Int) < (k : Int)) = true := decide_eq_true (by omega)
  have hw0 : wrap64 ((k : Int) - 1) = (m : Int) := by rw [w64 (by omega) (by omega)]; omega
  have hw1 : IntKind.i64.wrap ((k : Int) - 1) = (m : Int) := (i64_w _).trans hw0
  have hm0 : (0 : Int) ≤ (m : Int) := by omega
  have hm1 : (m : Int) < (L.length : Int) := by omega
  have hm2 : decide ((0 : Int) ≤ (m : Int)) = true := decide_eq_true hm0
  have hm3 : decide ((m : Int) < (L.length : Int)) = true := decide_eq_true hm1
  clear hm hk hkL
  generalize (k : Int) = K at *
  generalize (m : Int) = M at *
  go_enter Tryz.func24, Tryz.ntmps24
  go_wp2_with fail
  all_goals (
    refine start_ (n := 12) (S := fun w' => w'.cell? ⟨q, 1, none⟩ = some (.slice (some ad) L.length c) ∧ w'.cell? (ad.add K.toNat) = some (.slice A0 now.length c0)) (ds := []) #[false, false, false, false, false, false, false, false, false, false, false, false] (by kernel_rfl) rfl rfl ⟨H1.out, HX.out⟩ (fun hHeld => ?_)
    refine pure_ (i := 1) (N := some 36) (v := ?_) (a' := ?_) #[false, true, false, false, false, false, false, false, false, false, false, false] rfl rfl (by kernel_rfl) (fun _ _ _ h => h) (Or.inl ⟨by rfl, ?_⟩) ?_ ?_
    rotate_left
    · intro w'
      go_simp
      with_reducible rfl
    rotate_left
    · simp only [Act.put, List.setIfInBounds_toArray, List.set_cons_zero, List.set_cons_succ, i64_w, i32_w]
      rfl
    refine pure_ (i := 3) (N := some 38) (v := ?_) (a' := ?_) #[false, true, false, true, false, false, false, false, false, false, false, false] rfl rfl (by kernel_rfl) (fun _ _ _ h => h) (Or.inl ⟨by rfl, ?_⟩) ?_ ?_
    rotate_left
    · intro w'
      go_simp
      with_reducible rfl
    rotate_left
    · simp only [Act.put, List.setIfInBounds_toArray, List.set_cons_zero, List.set_cons_succ, i64_w, i32_w]
      rfl
    refine pure_ (i := 4) (N := some 39) (v := ?_) (a' := ?_) #[false, true, false, true, true, false, false, false, false, false, false, false] rfl rfl (by kernel_rfl) (fun _ _ _ h => h) (Or.inl ⟨by rfl, ?_⟩) ?_ ?_
    rotate_left
    · intro w'
      go_simp
      with_reducible rfl
    rotate_left
    · simp only [Act.put, List.setIfInBounds_toArray, List.set_cons_zero, List.set_cons_succ, i64_w, i32_w]
      rfl
    refine pure_ (i := 5) (N := some 40) (v := ?_) (a' := ?_) #[false, true, false, true, true, true, false, false, false, false, false, false] rfl rfl (by kernel_rfl) (fun _ _ _ h => h) (Or.inl ⟨by rfl, ?_⟩) ?_ ?_
    rotate_left
    · intro w'
      go_simp
      with_reducible rfl
    rotate_left
    · simp only [Act.put, List.setIfInBounds_toArray, List.set_cons_zero, List.set_cons_succ, i64_w, i32_w]
      rfl
    refine pure_ (i := 7) (N := some 42) (v := ?_) (a' := ?_) #[false, true, false, true, true, true, false, true, false, false, false, false] rfl rfl (by kernel_rfl) (fun _ _ _ h => h) (Or.inl ⟨by rfl, ?_⟩) ?_ ?_
    rotate_left
    · intro w'
      go_simp
      with_reducible rfl
    rotate_left
    · simp only [Act.put, List.setIfInBounds_toArray, List.set_cons_zero, List.set_cons_succ, i64_w, i32_w]
      rfl
    refine take_ (i := 6) (N := some 41) (v := ?_) (a' := ?_) #[false, true, false, true, true, true, true, true, false, false, false, false] rfl rfl (by kernel_rfl) (fun _ _ _ h => h) (Or.inl ⟨by rfl, ?_⟩) hHeld ?_ ?_
    rotate_left
    · rintro w' ⟨s0, s1⟩
      go_simp
      with_reducible rfl
    rotate_left
    · simp only [Act.put, List.setIfInBounds_toArray, List.set_cons_zero, List.set_cons_succ, i64_w, i32_w]
      rfl
    refine pure_ (i := 8) (N := some 43) (v := ?_) (a' := ?_) #[false, true, false, true, true, true, true, true, true, false, false, false] rfl rfl (by kernel_rfl) (fun _ _ _ h => h) (Or.inl ⟨by rfl, ?_⟩) ?_ ?_
    rotate_left
    · intro w'
      go_simp
      with_reducible rfl
    rotate_left
    · simp only [Act.put, List.setIfInBounds_toArray, List.set_cons_zero, List.set_cons_succ, i64_w, i32_w]
      rfl
    refine take_ (i := 9) (N := some 44) (v := ?_) (a' := ?_) #[false, true, false, true, true, true, true, true, true, true, false, false] rfl rfl (by kernel_rfl) (fun _ _ _ h => h) (Or.inl ⟨by rfl, ?_⟩) hHeld ?_ ?_
    rotate_left
    · rintro w' ⟨s0, s1⟩
      go_simp
      with_reducible rfl
    rotate_left
    · simp only [Act.put, List.setIfInBounds_toArray, List.set_cons_zero, List.set_cons_succ, i64_w, i32_w]
      rfl
    refine one_ (i := 0) (N := some 35) #[true, true, false, true, true, true, true, true, true, true, false, false] rfl rfl (by kernel_rfl) (by decide) (fun K hK => ?_)
    refine Kd.R_lit_step k41 w.heap.size 41 ?hg (N := 35) ?hd (xs := ([] : List S41)) (inner := []) (ok := fun _ => True) (okp := fun _ => True) ?hr ?hp (fun _ hk => hk) trivial (Below.refl _ _) (Nat.le_refl _) (by simp) ?_; (case hd => rfl); (case hg => rfl); (case hr => first | (go_simp; done) | (go_simp; rfl)); (case hp => exact (Reps.none _ _))
    intro v1 w1 ho hb hg_ hnew_
    have HO1 := Aside0.mk ho
    have HB1 := Aside0.mk ((Below.refl w.heap.size w).drew.trans hb)
    clear ho hb hg_ hnew_
    refine hK.out _ _ ⟨(HB1.out.cell HLT.out.1).trans H1.out, (HB1.out.cell HLT.out.2).trans HX.out⟩ (fun hHeld => ?_)
    clear hK K
    refine norm_ (a' := ?_) ?_ ?_
    rotate_left
    · show Act.put _ (some 35) _ = _
      simp only [Act.put, List.setIfInBounds_toArray, List.set_cons_zero, List.set_cons_succ, i64_w, i32_w]
      rfl
    refine one_ (i := 2) (N := some 37) #[true, true, true, true, true, true, true, true, true, true, false, false] rfl rfl (by kernel_rfl) (by decide) (fun K hK => ?_)
    refine Kd.R_append_rows_step k41 (w0 := w1) w.heap.size rfl (.tmp 35) (.tmp 36) 37 41 (.agg #[(.string ⟨#[]⟩), (.string ⟨#[]⟩)]) 32 rfl Tryz.underlying37 info41 rfl (by decide) (by omega) v1 [] old _ _ _ (fun _ => True) (fun _ => False) rfl rfl HO1.out (Kd.C_below HCB.out HB1.out) (fun _ _ h => h) (fun _ h => h.elim) (fun _ _ => trivial) (Below.refl _ _) HB1.out.size (by have := HLY.out; simp only [List.length_nil]; omega) ?_
    intro v2 w2 ho hb hg hat
    have HO2 := Aside0.mk ho
    have HB2 := Aside0.mk (HB1.out.trans hb)
    clear ho hb hg hat
    refine hK.out _ _ ⟨(HB2.out.cell HLT.out.1).trans H1.out, (HB2.out.cell HLT.out.2).trans HX.out⟩ (fun hHeld => ?_)
    clear hK K
    refine norm_ (a' := ?_) ?_ ?_
    rotate_left
    · show Act.put _ (some 37) _ = _
      simp only [Act.put, List.setIfInBounds_toArray, List.set_cons_zero, List.set_cons_succ, i64_w, i32_w]
      rfl
    refine one_ (i := 10) (N := some 45) #[true, true, true, true, true, true, true, true, true, true, true, false] rfl rfl (by kernel_rfl) (by decide) (fun K hK => ?_)
    refine Kd.R_append_rows_step k41 (w0 := w2) w.heap.size rfl (.tmp 37) (.tmp 44) 37 41 (.agg #[(.string ⟨#[]⟩), (.string ⟨#[]⟩)]) 32 rfl Tryz.underlying37 info41 rfl (by decide) (by omega) v2 old now _ _ _ (fun _ => True) (fun _ => False) rfl rfl HO2.out (Kd.C_below HCN.out HB2.out) (fun _ _ h => h) (fun _ h => h.elim) (fun _ _ => trivial) (Below.refl _ _) HB2.out.size (by have := HLY.out; have := HLX.out; omega) ?_
    intro v3 w3 ho hb hg hat
    generalize hal : old ++ now = al at ho
    obtain ⟨A8, c8, rfl⟩ := Kd.R_slice ho
    have HO3 := Aside0.mk ho
    have HB3 := Aside0.mk (HB2.out.trans hb)
    clear ho hb hg hat
    refine hK.out _ _ ⟨(HB3.out.cell HLT.out.1).trans H1.out, (HB3.out.cell HLT.out.2).trans HX.out⟩ (fun hHeld => ?_)
    clear hK K
    refine norm_ (a' := ?_) ?_ ?_
    rotate_left
    · show Act.put _ (some 45) _ = _
      simp only [Act.put, List.setIfInBounds_toArray, List.set_cons_zero, List.set_cons_succ, i64_w, i32_w]
      rfl
    refine pure_ (i := 11) (N := some 8) (v := ?_) (a' := ?_) #[true, true, true, true, true, true, true, true, true, true, true, true] rfl rfl (by kernel_rfl) (fun _ _ _ h => h) (Or.inl ⟨by rfl, ?_⟩) ?_ ?_
    rotate_left
    · intro w'
      go_simp
      with_reducible rfl
    rotate_left
    · simp only [Act.put, List.setIfInBounds_toArray, List.set_cons_zero, List.set_cons_succ, i64_w, i32_w]
      rfl
    refine done_ (by kernel_rfl) ?_
    have HCA := Aside0.mk (Kd.R_reads' HO3.out).2.2
    have HAL : Aside0 (al.length ≤ 2000) := ⟨by rw [← hal, List.length_append]; have := HLX.out; have := HLY.out; omega⟩
    have h31 := (HB3.out.cell HLT.out.1).trans H1.out
    have h3x := (HB3.out.cell HLT.out.2).trans HX.out
    have H3 := Aside0.mk (And.intro h31 h3x)
    have HFO : Aside0 (∀ nm wr, Below w3.heap.size w3 wr → Calls Tryz.prog 30 #[.slice Ab old.length cb, .string nm] wr fun e w' => e = .returned (.tuple #[.string (findR old nm).1, .bool (findR old nm).2]) ∧ Below wr.heap.size wr w') :=
      ⟨fun nm wr hb => (smockingref25_find.calls 20000 Ab cb old nm _ _ wr (Kd.C_below (Kd.C_below HCB.out HB3.out) hb) HXC.out.2 (rfind_f old nm (by have := HLY.out; omega) 20000 (by have := HLY.out; omega))).mono fun e w' h => ⟨h.1, h.2.below⟩⟩
    have HFN : Aside0 (∀ nm wr, Below w3.heap.size w3 wr → Calls Tryz.prog 30 #[.slice A0 now.length c0, .string nm] wr fun e w' => e = .returned (.tuple #[.string (findR now nm).1, .bool (findR now nm).2]) ∧ Below wr.heap.size wr w') :=
      ⟨fun nm wr hb => (smockingref25_find.calls 20000 A0 c0 now nm _ _ wr (Kd.C_below (Kd.C_below HCN.out HB3.out) hb) HXC.out.1 (rfind_f now nm (by have := HLX.out; omega) 20000 (by have := HLX.out; omega))).mono fun e w' h => ⟨h.1, h.2.below⟩⟩
    clear HO3 HO2 HO1 HB2 HB1 hHeld h31 h3x hx0 hc1 HCB HCN HXC
    have HALE := Aside0.mk hal
    clear hal
    have HB0 := Aside0.mk (Below.refl w3.heap.size w3)
    go_wp2_with fail
    go_loopg [9, 7] (al.length + 1) (fun kq v9 v7 w' => ∃ (i : Nat) (A : Option Addr) (n cc : Nat), v9 = .int .i64 (i : Int) ∧ v7 = .slice A n cc ∧ Aside0 (al.length - i < kq ∧ i ≤ al.length) ∧ Aside0 (Below w3.heap.size w3 w') ∧ Aside0 (Kd.R Kd.string 9 w' w3.heap.size (fun _ => True) (.slice A n cc) (pick1 (diffP now old) al i)))
    case atStart => exact ⟨0, none, 0, 0, rfl, (by first | rfl | exact hz'.symm), ⟨by omega, by omega⟩, HB0, ⟨Kd.R_nil _ _ _ _ _⟩⟩
    case round =>
      obtain ⟨i, A, n, cc, rfl, rfl, HI, HBe, HR⟩ := hrel
      obtain ⟨k1, rfl⟩ : ∃ k1, gk = k1 + 1 := ⟨gk - 1, by have := HI.out.1; omega⟩
      have hnl : n = (pick1 (diffP now old) al i).length := (Kd.R_reads' HR.out).1
      by_cases hlt : i < al.length
      · have hb : decide ((i : Int) < (al.length : Int)) = true := by simp; omega
        have hb2 : decide ((0 : Int) ≤ (i : Int)) = true := by simp
        have hi0 : (0 : Int) ≤ (i : Int) := by omega
        have hi1 : (i : Int) < (al.length : Int) := by omega
        obtain ⟨ad3, e3, hx, hy⟩ := at_T41 (Kd.C_below HCA.out HBe.out) (i : Int) hi0 hi1
        cases e3
        rw [Int.toNat_natCast, rd53_at al i hlt] at hx
        have HSU := Aside0.mk (pick_succ (diffP now old) al i hlt)
        have HPL := Aside0.mk (pick_len (diffP now old) al i)
        have HLT2 := Aside0.mk hlt
        clear hy
        generalize al[i] = f at *
        have HCO : Aside0 (∀ wr, Below w3.heap.size w3 wr → Calls Tryz.prog 30 #[.slice Ab old.length cb, .string f.f0] wr fun e w' => e = .returned (.tuple #[.string (findR old f.f0).1, .bool (findR old f.f0).2]) ∧ Below wr.heap.size wr w') := ⟨HFO.out f.f0⟩
        have HCN : Aside0 (∀ wr, Below w3.heap.size w3 wr → Calls Tryz.prog 30 #[.slice A0 now.length c0, .string f.f0] wr fun e w' => e = .returned (.tuple #[.string (findR now f.f0).1, .bool (findR now f.f0).2]) ∧ Below wr.heap.size wr w') := ⟨HFN.out f.f0⟩
        have hq : diffP now old f = (!((findR old f.f0).1.toList == (findR now f.f0).1.toList) || !((findR old f.f0).2 == (findR now f.f0).2)) := rfl
        rw [hq] at HSU
        clear hq
        generalize (findR old f.f0).1 = s1 at *
        generalize (findR old f.f0).2 = b1 at *
        generalize (findR now f.f0).1 = s2 at *
        generalize (findR now f.f0).2 = b2 at *
        generalize hX : pick1 (diffP now old) al i = X at *
        subst hnl
        clear hX
        have HXF := Aside0.mk hx
        go_wp2_with (go_at_call 30; with_reducible refine (HCO.out _ HBe.out).mono ?_; rintro e w4 ⟨rfl, hb4⟩; have HB4 := Aside0.mk (below_step HBe.out hb4); have HRW := Aside0.mk (Kd.R_below HR.out hb4); have h4f := (hb4.cell (World.block_lt_of_cell? _ _ HXF.out)).trans HXF.out; have h41 := (HB4.out.cell (World.block_lt_of_cell? _ _ H3.out.1)).trans H3.out.1; have h4x := (HB4.out.cell (World.block_lt_of_cell? _ _ H3.out.2)).trans H3.out.2; clear hb4 HCO hx HR)
        go_region_held3 (fun w' => w'.cell? ⟨q, 1, none⟩ = some (.slice (some ad) L.length c) ∧ w'.cell? (ad.add K.toNat) = some (.slice A0 now.length c0) ∧ w'.cell? (ad3.add (i * 2)) = some (.string f.f0) ∧ Below w4.heap.size w4 w')
          (first
            | exact keep3 (Below.refl _ _) h41 h4x h4f
            | exact keep3 (Below.refl _ _).drew h41 h4x h4f
            | (go_split_ands; exact keep3 (Below.drew (by assumption)) h41 h4x h4f)
            | (go_split_ands; exact keep3 (below_step (by assumption) hb) h41 h4x h4f)
            | (go_split_ands; exact keep3 (below_step (by assumption) hb).drew h41 h4x h4f))
          (first
            | (go_at_call 30; with_reducible refine (HCN.out _ ?zb).mono ?_; (case zb => (go_split_ands; exact below_step HB4.out (by assumption))); rintro e w5 ⟨rfl, hb⟩))
        go_split_ands
        have HBX : Aside0 (Below w4.heap.size w4 w5) := ⟨by assumption⟩
        clear hb
        have HB5 := Aside0.mk (below_step HB4.out HBX.out)
        have HRY := Aside0.mk (Kd.R_below HRW.out HBX.out)
        have h5f := (HBX.out.cell (World.block_lt_of_cell? _ _ h4f)).trans h4f
        clear HBX HRW HCN
        by_cases e : s1.toList = s2.toList
        · have hq : (s1.toList == s2.toList) = true := beq_iff_eq.2 e
          clear e
          cases b1
          · cases b2
            ·
              have HSN : Aside0 (pick1 (diffP now old) al (i + 1) = X) := ⟨by rw [HSU.out, hq]; rfl⟩
              clear HSU
              go_wp2_with fail
              go_roundg k1
              case measure => have := HI.out.1; have := HLT2.out; omega
              case rel => exact ⟨i + 1, A, _, cc, congrArg (Value.int .i64) (by first | exact nx i (by have := HAL.out; have := HLT2.out; omega) | (have := HAL.out; have := HLT2.out; omega)), rfl, ⟨by have := HI.out.1; have := HLT2.out; omega, by have := HLT2.out; omega⟩, HB5, ⟨by rw [HSN.out]; exact HRY.out⟩⟩
            ·
              have HSN : Aside0 (pick1 (diffP now old) al (i + 1) = X ++ [f.f0]) := ⟨by rw [HSU.out, hq]; rfl⟩
              clear HSU
              go_wp2_with (at_builtin; go_loud (refine Kd.R_append Kd.string (w0 := w5) w3.heap.size rfl (.tmp 86) (.tmp 92) 47 9 (.string ⟨#[]⟩) 16 rfl Tryz.underlying47 info9 rfl (by decide) (by omega) _ X f.f0 [.string f.f0] (fun _ => True) (fun _ => False) (by first | rfl | (simp; done) | (go_simp; done)) (by first | rfl | (simp; done) | (go_simp; done)) rfl (fun _ hk => hk.elim) (fun _ _ => trivial) HRY.out (Below.refl _ w5) HB5.out.size (by have := HPL.out; have := HLT2.out; have := HAL.out; omega) ?_); intro v1 w7 ho hb hg hat; go_loud (obtain ⟨A9, c9, rfl⟩ := Kd.R_slice ho; have HB7 := Aside0.mk (HB5.out.trans hb); rw [show (X ++ [f.f0]).length = X.length + 1 by rw [List.length_append]; rfl] at ho; have HO7 := Aside0.mk ho; clear ho hb hg hat))
              go_roundg k1
              case measure => have := HI.out.1; have := HLT2.out; omega
              case rel => exact ⟨i + 1, A9, _, c9, congrArg (Value.int .i64) (by first | exact nx i (by have := HAL.out; have := HLT2.out; omega) | (have := HAL.out; have := HLT2.out; omega)), rfl, ⟨by have := HI.out.1; have := HLT2.out; omega, by have := HLT2.out; omega⟩, HB7, ⟨by rw [HSN.out]; exact HO7.out⟩⟩
          · cases b2
            ·
              have HSN : Aside0 (pick1 (diffP now old) al (i + 1) = X ++ [f.f0]) := ⟨by rw [HSU.out, hq]; rfl⟩
              clear HSU
              go_wp2_with (at_builtin; go_loud (refine Kd.R_append Kd.string (w0 := w5) w3.heap.size rfl (.tmp 86) (.tmp 92) 47 9 (.string ⟨#[]⟩) 16 rfl Tryz.underlying47 info9 rfl (by decide) (by omega) _ X f.f0 [.string f.f0] (fun _ => True) (fun _ => False) (by first | rfl | (simp; done) | (go_simp; done)) (by first | rfl | (simp; done) | (go_simp; done)) rfl (fun _ hk => hk.elim) (fun _ _ => trivial) HRY.out (Below.refl _ w5) HB5.out.size (by have := HPL.out; have := HLT2.out; have := HAL.out; omega) ?_); intro v1 w7 ho hb hg hat; go_loud (obtain ⟨A9, c9, rfl⟩ := Kd.R_slice ho; have HB7 := Aside0.mk (HB5.out.trans hb); rw [show (X ++ [f.f0]).length = X.length + 1 by rw [List.length_append]; rfl] at ho; have HO7 := Aside0.mk ho; clear ho hb hg hat))
              go_roundg k1
              case measure => have := HI.out.1; have := HLT2.out; omega
              case rel => exact ⟨i + 1, A9, _, c9, congrArg (Value.int .i64) (by first | exact nx i (by have := HAL.out; have := HLT2.out; omega) | (have := HAL.out; have := HLT2.out; omega)), rfl, ⟨by have := HI.out.1; have := HLT2.out; omega, by have := HLT2.out; omega⟩, HB7, ⟨by rw [HSN.out]; exact HO7.out⟩⟩
            ·
              have HSN : Aside0 (pick1 (diffP now old) al (i + 1) = X) := ⟨by rw [HSU.out, hq]; rfl⟩
              clear HSU
              go_wp2_with fail
              go_roundg k1
              case measure => have := HI.out.1; have := HLT2.out; omega
              case rel => exact ⟨i + 1, A, _, cc, congrArg (Value.int .i64) (by first | exact nx i (by have := HAL.out; have := HLT2.out; omega) | (have := HAL.out; have := HLT2.out; omega)), rfl, ⟨by have := HI.out.1; have := HLT2.out; omega, by have := HLT2.out; omega⟩, HB5, ⟨by rw [HSN.out]; exact HRY.out⟩⟩
        · have hq : (s1.toList == s2.toList) = false := beq_eq_false_iff_ne.2 e
          clear e
          have HSN : Aside0 (pick1 (diffP now old) al (i + 1) = X ++ [f.f0]) := ⟨by rw [HSU.out, hq]; rfl⟩
          clear HSU
          go_wp2_with (at_builtin; go_loud (refine Kd.R_append Kd.string (w0 := w5) w3.heap.size rfl (.tmp 86) (.tmp 92) 47 9 (.string ⟨#[]⟩) 16 rfl Tryz.underlying47 info9 rfl (by decide) (by omega) _ X f.f0 [.string f.f0] (fun _ => True) (fun _ => False) (by first | rfl | (simp; done) | (go_simp; done)) (by first | rfl | (simp; done) | (go_simp; done)) rfl (fun _ hk => hk.elim) (fun _ _ => trivial) HRY.out (Below.refl _ w5) HB5.out.size (by have := HPL.out; have := HLT2.out; have := HAL.out; omega) ?_); intro v1 w7 ho hb hg hat; go_loud (obtain ⟨A9, c9, rfl⟩ := Kd.R_slice ho; have HB7 := Aside0.mk (HB5.out.trans hb); rw [show (X ++ [f.f0]).length = X.length + 1 by rw [List.length_append]; rfl] at ho; have HO7 := Aside0.mk ho; clear ho hb hg hat))
          go_roundg k1
          case measure => have := HI.out.1; have := HLT2.out; omega
          case rel => exact ⟨i + 1, A9, _, c9, congrArg (Value.int .i64) (by first | exact nx i (by have := HAL.out; have := HLT2.out; omega) | (have := HAL.out; have := HLT2.out; omega)), rfl, ⟨by have := HI.out.1; have := HLT2.out; omega, by have := HLT2.out; omega⟩, HB7, ⟨by rw [HSN.out]; exact HO7.out⟩⟩
      · have hb : decide ((i : Int) < (al.length : Int)) = false := by simp; omega
        have hi : i = al.length := by have := HI.out.2; omega
        subst hi
        have hch : pick1 (diffP now old) al al.length = chgR now old := by rw [← HALE.out]; rfl
        have hcl : (chgR now old).length ≤ 10000 := by
          rw [← hch]
          have := pick_len (diffP now old) al al.length
          have := HAL.out
          omega
        rw [hch] at HR hnl
        subst hnl
        have HSO := Aside0.mk (rf0_Sorted.calls 200000000 A cc (chgR now old) _ wr (Kd.R_reads' HR.out).2.2 (Kd.R_reads' HR.out).2.1 (rsortB_f _ hcl 200000000 (Nat.le_refl _)))
        clear hch hcl HR HI hlt
        generalize hZ : chgR now old = Z at *
        have HZ := Aside0.mk hZ
        clear hZ
        go_wp2_with (go_at_call 43; with_reducible refine HSO.out.mono ?_; rintro e w9 ⟨v9, rfl, ho9, hb9⟩; have HO9 := Aside0.mk (Kd.R_lower ho9 (Nat.le_trans HB3.out.size HBe.out.size)); have HB9 := Aside0.mk (below_step HB3.out (below_step HBe.out hb9)); clear ho9 hb9 HSO)
        go_ret2
        exact ⟨v9, rfl, by rw [HZ.out]; exact HO9.out, HB9.out⟩)
end Go.Proofs.YthimblhfjfngiaaGreat.PText

namespace Go.Proofs.YthimblhfjfngiaaGreat.PText
open Go.RowKit Go.Lib Go.Sort Go.Proofs.YthimblhfjfngiaaGreatW.PrintWords Go.Proofs.YthimblhfjfngiaaGreatW.PrintLast Go.Proofs.YthimblhfjfngiaaGreatW.PrintMore
set_option linter.unusedVariables false
set_option linter.unusedSimpArgs false
/-- the files of a commit, as a commit leaves them -/
structure Neat (fs : List S41) : Prop where
  few : fs.length ≤ 60
  names : (fnames fs).Nodup
  full : ¬ ∃ x ∈ fs, x.f0.toList = []
  srt : srtF fs = fs
theorem srt_perm (fs : List S41) (hf : fs.length ≤ 10000) (h : (fnames fs).Nodup) : (srtF fs).Perm fs := by
  obtain ⟨d, -, h2, h3⟩ := sorted_l0 fs hf (fs.length + 3) (Nat.le_refl _) fs.length 0 _ [] (by omega) (by omega) (Nat.le_refl _) (by rw [List.take_zero]) List.Pairwise.nil
  rw [← srt_eq h2 (sortedF_of h3) h]; exact h2
theorem neat_srt (fs : List S41) (h1 : fs.length ≤ 60) (h2 : (fnames fs).Nodup) (h3 : ¬ ∃ x ∈ fs, x.f0.toList = []) : Neat (srtF fs) := by
  have hp := srt_perm fs (by omega) h2
  refine ⟨by rw [hp.length_eq]; exact h1, (perm_names hp).nodup_iff.2 h2, ?_, Tx.ord_ord ltFL_lin (Tx.asc_ord ltFL_lin)⟩
  rintro ⟨x, hx, e⟩
  exact h3 ⟨x, hp.mem_iff.1 hx, e⟩
/-- what a commit leaves -/
theorem commit_cases (L : List Com) (name : ByteArray) (fs : List S41) : (commitR L name fs).2.2 = L ∨ ((commitR L name fs).2.2 = L ++ [⟨name, srtF fs⟩] ∧ fs.length ≤ 60 ∧ (fnames fs).Nodup ∧ ¬ ∃ x ∈ fs, x.f0.toList = []) := by
  unfold commitR
  by_cases h1 : L.length = 200 ∨ 60 < fs.length
  · rw [if_pos h1]; exact .inl rfl
  · rw [if_neg h1]
    by_cases h2 : ¬ (fnames fs).Nodup
    · rw [if_pos h2]; exact .inl rfl
    · rw [if_neg h2]
      by_cases h3 : ∃ x ∈ fs, x.f0.toList = []
      · rw [if_pos h3]; exact .inl rfl
      · rw [if_neg h3]
        exact .inr ⟨rfl, by omega, Decidable.of_not_not h2, h3⟩
/-- the commits of steps that are not large -/
structure Fair (B : Nat) (L : List Com) : Prop where
  neat : ∀ c ∈ L, Neat c.files
  small : ∀ c ∈ L, ∀ x ∈ c.files, x.f1.size ≤ B
theorem fair_both (B : Nat) (l : List S39) (h : ∀ s ∈ l, ∀ x ∈ s.f1, x.f1.size ≤ B) : ∀ i, i ≤ l.length → Fair B (bothL (l.take i))
  | 0, _ => by rw [List.take_zero]; exact ⟨fun c m => (by cases m), fun c m => (by cases m)⟩
  | i + 1, hi => by
    have ih := fair_both B l h i (by omega)
    rw [bothL_succ l i (by omega)]
    rcases commit_cases (bothL (l.take i)) l[i].f0 l[i].f1 with e | ⟨e, h1, h2, h3⟩
    · rw [e]; exact ih
    · rw [e]
      refine ⟨fun c m => ?_, fun c m x hx => ?_⟩
      · rcases List.mem_append.1 m with m | m
        · exact ih.neat c m
        · rw [List.mem_singleton.1 m]; exact neat_srt _ h1 h2 h3
      · rcases List.mem_append.1 m with m | m
        · exact ih.small c m x hx
        · rw [List.mem_singleton.1 m] at hx
          exact h l[i] (List.getElem_mem _) x ((srt_perm l[i].f1 (by omega) h2).mem_iff.1 hx)
/-- with names unlike one another, a file that has the name is the one that is found -/
theorem findR_at {fs : List S41} {file : ByteArray} (h : (fnames fs).Nodup) (i : Nat) (hi : i < fs.length) (he : fs[i].f0.toList = file.toList) : (findR fs file).1 = fs[i].f1 := by
  rcases find_split file fs with ⟨k, hk, q1, -, q3⟩ | ⟨q1, -⟩
  · have e1 : fs[k].f0.toList = file.toList := by unfold nameP at q1; exact of_decide_eq_true (by simpa using q1)
    have : k = i := by
      rcases Nat.lt_trichotomy k i with c | c | c
      · exact absurd h (dup_not c hi (by rw [he, e1]))
      · exact c
      · exact absurd h (dup_not c hk (by rw [he, e1]))
    subst this
    rw [q3]
  · have := q1 i hi
    unfold nameP at this
    rw [he] at this
    simp at this
end Go.Proofs.YthimblhfjfngiaaGreat.PText

namespace Go.Proofs.YthimblhfjfngiaaGreat.PText
open Go.RowKit Go.Lib Go.Sort Go.Proofs.YthimblhfjfngiaaGreatW.PrintWords Go.Proofs.YthimblhfjfngiaaGreatW.PrintLast Go.Proofs.YthimblhfjfngiaaGreatW.PrintMore
set_option linter.unusedVariables false
set_option linter.unusedSimpArgs false
/-- steps of an argument: no text is longer than memory -/
def Held (l : List S39) : Prop := l.length ≤ 140737488355328 ∧ ∀ s ∈ l, s.f1.length ≤ 140737488355328 ∧ ∀ x ∈ s.f1, x.f0.size ≤ 140737488355328 ∧ x.f1.size ≤ 140737488355328
theorem w4 (n a b : Int) (h0 : 0 ≤ n) (h1 : n ≤ 6000) (ha : 0 ≤ a) (ha2 : a ≤ 140737488355328) (hb : 0 ≤ b) (hb2 : b ≤ 140737488355328) : wrap64 (wrap64 (wrap64 (n + 1) + a) + b) = n + 1 + a + b := by
  rw [w64 (x := n + 1) (by omega) (by omega), w64 (x := n + 1 + a) (by omega) (by omega), w64 (by omega) (by omega)]
theorem nx48 (j : Nat) (h : j ≤ 140737488355328) : wrap64 ((j : Int) + 1) = ((j + 1 : Nat) : Int) := by rw [w64 (by omega) (by omega)]; omega
theorem heavy_step (l : List S39) (h : Held l) (i : Nat) (hi : i < l.length) (j k : Nat) (n : Int) (h0 : 0 ≤ n) (h1 : n ≤ 6000) (hj : j < l[i].f1.length) :
    smockinglaw25_heavy.l1 (k + 1) l n (i : Int) (j : Int) = smockinglaw25_heavy.l1 k l (n + 1 + (l[i].f1[j].f0.size : Int) + (l[i].f1[j].f1.size : Int)) (i : Int) ((j + 1 : Nat) : Int) := by
  have hr : rd_T39 l (i : Int) = l[i] := rd70_at l i hi
  have hs := (h.2 l[i] (List.getElem_mem hi))
  have hx := hs.2 l[i].f1[j] (List.getElem_mem hj)
  rw [smockinglaw25_heavy.l1, if_pos (by omega), if_pos (by omega), hr, if_pos (by omega), if_pos h1, if_pos (by omega), rd53_at _ j hj, w4 n _ _ h0 h1 (by omega) (by have := hx.1; omega) (by omega) (by have := hx.2; omega), nx48 j (by have := hs.1; omega)]
theorem heavy_stop (l : List S39) (i : Nat) (hi : i < l.length) (j k : Nat) (n : Int) (h : ¬ (n ≤ 6000 ∧ j < l[i].f1.length)) :
    smockinglaw25_heavy.l1 (k + 1) l n (i : Int) (j : Int) = smockinglaw25_heavy.l0 k l n (wrap64 ((i : Int) + 1)) := by
  have hr : rd_T39 l (i : Int) = l[i] := rd70_at l i hi
  rw [smockinglaw25_heavy.l1, if_pos (by omega), if_pos (by omega), hr]
  by_cases c1 : (j : Int) < (l[i].f1.length : Int)
  · rw [if_pos c1, if_neg (by omega)]
  · rw [if_neg c1]
theorem heavy_l1 (l : List S39) (h : Held l) (i : Nat) (hi : i < l.length) : ∀ (M j k : Nat) (n : Int), 6001 - n ≤ (M : Int) → 0 ≤ n → j ≤ l[i].f1.length → M + 3 ≤ k →
    ∃ (n' : Int) (k' : Nat), k ≤ k' + M + 2 ∧ 0 ≤ n' ∧ n ≤ n' ∧ (n' ≤ 6000 → ∀ x ∈ l[i].f1.drop j, x.f1.size ≤ 6000) ∧ smockinglaw25_heavy.l1 k l n (i : Int) (j : Int) = smockinglaw25_heavy.l0 k' l n' (wrap64 ((i : Int) + 1))
  | M, j, 0, n, hM, h0, hj, hk => absurd hk (by omega)
  | M, j, k + 1, n, hM, h0, hj, hk => by
    by_cases c : n ≤ 6000 ∧ j < l[i].f1.length
    · obtain ⟨c1, c2⟩ := c
      have hM0 : M ≠ 0 := by intro e; subst e; omega
      obtain ⟨M', rfl⟩ : ∃ M', M = M' + 1 := Nat.exists_eq_succ_of_ne_zero hM0
      rw [heavy_step l h i hi j k n h0 c1 c2]
      obtain ⟨n', k', q1, q2, q4, q5, q6⟩ := heavy_l1 l h i hi M' (j + 1) k (n + 1 + (l[i].f1[j].f0.size : Int) + (l[i].f1[j].f1.size : Int)) (by omega) (by omega) (by omega) (by omega)
      refine ⟨n', k', by omega, q2, by omega, fun hn x hx' => ?_, q6⟩
      rw [List.drop_eq_getElem_cons c2] at hx'
      rcases List.mem_cons.1 hx' with rfl | hx'
      · omega
      · exact q5 hn x hx'
    · rw [heavy_stop l i hi j k n c]
      refine ⟨n, k, by omega, h0, Int.le_refl _, fun hn x hx => ?_, rfl⟩
      rw [List.drop_eq_nil_of_le (by omega)] at hx; cases hx
theorem heavy_l0 (l : List S39) (h : Held l) (F : Nat) (hF : 6006 ≤ F) : ∀ (m i k : Nat) (n : Int), l.length - i = m → i ≤ l.length → 0 ≤ n → m * F + 10 ≤ k → ∃ r, smockinglaw25_heavy.l0 k l n (i : Int) = some r ∧ (r = false → n ≤ 6000 ∧ l.length ≤ 30 ∧ ∀ s ∈ l.drop i, ∀ x ∈ s.f1, x.f1.size ≤ 6000)
  | 0, i, k, n, hm, hi, h0, hk => by
    obtain ⟨k, rfl⟩ : ∃ q, k = q + 1 + 1 := ⟨k - 2, by omega⟩
    rw [smockinglaw25_heavy.l0, if_neg (by omega), smockinglaw25_heavy.j1, if_neg (by decide)]
    by_cases c : n > 6000
    · rw [if_pos c]; exact ⟨true, rfl, fun q => by cases q⟩
    · rw [if_neg c]
      refine ⟨_, rfl, fun q => ⟨by omega, by have := of_decide_eq_false q; omega, fun s hs => ?_⟩⟩
      rw [List.drop_eq_nil_of_le (by omega)] at hs; cases hs
  | m + 1, i, k, n, hm, hi, h0, hk => by
    have hil : i < l.length := by omega
    rw [Nat.succ_mul] at hk
    obtain ⟨k, rfl⟩ : ∃ q, k = q + 1 + 1 := ⟨k - 2, by omega⟩
    rw [smockinglaw25_heavy.l0, if_pos (by omega), smockinglaw25_heavy.j1]
    by_cases c : n ≤ 6000
    · obtain ⟨n', k', q1, q2, q4, q5, q6⟩ := heavy_l1 l h i hil 6001 0 k n (by omega) h0 (Nat.zero_le _) (by omega)
      rw [if_pos (by simpa using c)]
      rw [show ((0 : Nat) : Int) = 0 from rfl] at q6
      rw [q6, nx48 i (by have := h.1; omega)]
      obtain ⟨r, r1, r2⟩ := heavy_l0 l h F hF m (i + 1) k' n' (by omega) (by omega) q2 (by omega)
      refine ⟨r, r1, fun e => ?_⟩
      obtain ⟨z1, z2, z3⟩ := r2 e
      refine ⟨c, z2, fun s hs x hx => ?_⟩
      rw [List.drop_eq_getElem_cons hil] at hs
      rcases List.mem_cons.1 hs with rfl | hs
      · exact q5 z1 x (by rwa [List.drop_zero])
      · exact z3 s hs x hx
    · rw [if_neg (by simpa using c)]
      by_cases c2 : n > 6000
      · rw [if_pos c2]; exact ⟨true, rfl, fun q => by cases q⟩
      · omega
theorem heavy_f (l : List S39) (h : Held l) (F : Nat) (hF : 6006 ≤ F) : ∃ r, smockinglaw25_heavy.f (l.length * F + 10) l = some r ∧ (r = false → l.length ≤ 30 ∧ ∀ s ∈ l, ∀ x ∈ s.f1, x.f1.size ≤ 6000) := by
  obtain ⟨r, r1, r2⟩ := heavy_l0 l h F hF l.length 0 _ 0 (by omega) (by omega) (by omega) (Nat.le_refl _)
  refine ⟨r, r1, fun e => ?_⟩
  have := r2 e
  rw [List.drop_zero] at this
  exact this.2
end Go.Proofs.YthimblhfjfngiaaGreat.PText

namespace Go.Proofs.YthimblhfjfngiaaGreat.PText
open Go.RowKit Go.Lib Go.Sort Go.Proofs.YthimblhfjfngiaaGreatW.PrintWords Go.Proofs.YthimblhfjfngiaaGreatW.PrintLast Go.Proofs.YthimblhfjfngiaaGreatW.PrintMore
set_option linter.unusedVariables false
set_option linter.unusedSimpArgs false
theorem Fair.toTiny {L : List Com} (h : Fair 6000 L) : Tiny L := fun c m => ⟨by have := (h.neat c m).few; omega, fun x hx => by have := h.small c m x hx; omega⟩
end Go.Proofs.YthimblhfjfngiaaGreat.PText

namespace Go.Proofs.YthimblhfjfngiaaGreat.PText
open Go.RowKit Go.Lib Go.Sort Go.Proofs.YthimblhfjfngiaaGreatW.PrintWords Go.Proofs.YthimblhfjfngiaaGreatW.PrintLast Go.Proofs.YthimblhfjfngiaaGreatW.PrintMore
set_option linter.unusedVariables false
set_option linter.unusedSimpArgs false
theorem findR_in {fs : List S41} (h : (fnames fs).Nodup) {f : S41} (hf : f ∈ fs) : findR fs f.f0 = (f.f1, true) := by
  obtain ⟨i, hi, rfl⟩ := List.getElem_of_mem hf
  have h1 := findR_at h i hi rfl
  rcases find_split fs[i].f0 fs with ⟨k, hk, -, -, q3⟩ | ⟨q1, -⟩
  · rw [q3] at h1 ⊢
    exact Prod.ext h1 rfl
  · have := q1 i hi
    unfold nameP at this
    simp at this
theorem findR_out {fs : List S41} {nm : ByteArray} (h : (findR fs nm).2 = false) : ∀ f ∈ fs, f.f0 ≠ nm := by
  intro f hf e
  obtain ⟨i, hi, rfl⟩ := List.getElem_of_mem hf
  rcases find_split nm fs with ⟨k, hk, -, -, q3⟩ | ⟨q1, -⟩
  · rw [q3] at h; cases h
  · have := q1 i hi
    unfold nameP at this
    rw [e] at this
    simp at this
theorem findR_get {fs : List S41} {nm : ByteArray} (h : (findR fs nm).2 = true) : ∃ f ∈ fs, f.f0 = nm := by
  rcases find_split nm fs with ⟨k, hk, q1, -, -⟩ | ⟨-, q2⟩
  · refine ⟨fs[k], List.getElem_mem hk, bL_ext (bL_inj.1 ?_)⟩
    unfold nameP at q1
    simpa using q1
  · rw [q2] at h; cases h
theorem mem_pick (g : S41 → Bool) (l : List S41) (x : ByteArray) : x ∈ pick1 g l l.length ↔ ∃ f ∈ l, g f = true ∧ f.f0 = x := by
  unfold pick1
  rw [List.take_length, List.mem_map]
  constructor
  · rintro ⟨f, hf, e⟩
    obtain ⟨h1, h2⟩ := List.mem_filter.1 hf
    exact ⟨f, h1, h2, e⟩
  · rintro ⟨f, hf, h, e⟩
    exact ⟨f, List.mem_filter.2 ⟨hf, h⟩, e⟩
theorem diff_name (now old : List S41) {f g : S41} (h : f.f0 = g.f0) : diffP now old f = diffP now old g := by unfold diffP; rw [h]
theorem hit_diff {now old : List S41} (hn : (fnames now).Nodup) {f : S41} (hf : f ∈ now) : hitP old f = diffP now old f := by
  unfold hitP diffP
  rw [findR_in hn hf]
  cases (findR old f.f0).2 <;> cases ((findR old f.f0).1.toList == f.f1.toList) <;> rfl
theorem lost_diff {now old : List S41} (ho : (fnames old).Nodup) {f : S41} (hf : f ∈ old) (h : lostP now f = true) : diffP now old f = true := by
  unfold lostP at h
  unfold diffP
  rw [findR_in ho hf]
  cases e : (findR now f.f0).2 with
  | true => rw [e] at h; cases h
  | false => exact Bool.or_true _
theorem mem_chg {now old : List S41} (hn : (fnames now).Nodup) (ho : (fnames old).Nodup) (x : ByteArray) : x ∈ chgP now old ↔ x ∈ chgR now old := by
  unfold chgP chgR
  rw [List.mem_append, mem_pick, mem_pick, mem_pick]
  constructor
  · rintro (⟨f, hf, h, e⟩ | ⟨f, hf, h, e⟩)
    · exact ⟨f, List.mem_append_right _ hf, by rw [← hit_diff hn hf]; exact h, e⟩
    · exact ⟨f, List.mem_append_left _ hf, lost_diff ho hf h, e⟩
  · rintro ⟨f, hf, h, e⟩
    rcases List.mem_append.1 hf with hf | hf
    · cases q : (findR now f.f0).2 with
      | false => exact .inr ⟨f, hf, by unfold lostP; rw [q]; rfl, e⟩
      | true =>
        obtain ⟨g, hg, e2⟩ := findR_get q
        exact .inl ⟨g, hg, by rw [hit_diff hn hg, diff_name now old e2]; exact h, by rw [e2]; exact e⟩
    · exact .inl ⟨f, hf, by rw [hit_diff hn hf]; exact h, e⟩
theorem names_nodup {l : List S41} (h : (fnames l).Nodup) : (l.map (·.f0)).Nodup := by
  have e : fnames l = (l.map (·.f0)).map ByteArray.toList := by unfold fnames; rw [List.map_map]; rfl
  rw [e] at h
  rw [List.nodup_iff_pairwise_ne] at h ⊢
  exact (List.pairwise_map.1 h).imp fun {a b} q e => q (by rw [e])
theorem pick_nodup (g : S41 → Bool) {l : List S41} (h : (fnames l).Nodup) : (pick1 g l l.length).Nodup := by
  unfold pick1
  rw [List.take_length]
  exact (names_nodup h).sublist (List.Sublist.map _ List.filter_sublist)
theorem chg_nodup {now old : List S41} (hn : (fnames now).Nodup) (ho : (fnames old).Nodup) : (chgP now old).Nodup := by
  unfold chgP
  refine List.nodup_append.2 ⟨pick_nodup _ hn, pick_nodup _ ho, fun a ha b hb e => ?_⟩
  obtain ⟨f, hf, -, e1⟩ := (mem_pick _ _ _).1 ha
  obtain ⟨g, hg, h, e2⟩ := (mem_pick _ _ _).1 hb
  unfold lostP at h
  exact findR_out (by cases q : (findR now g.f0).2 with | true => rw [q] at h; cases h | false => rfl) f hf (by rw [e1, e2, e])
theorem chg_eq {now old : List S41} (hn : (fnames now).Nodup) (ho : (fnames old).Nodup) : msB (chgP now old) = Tx.ord ltB (chgR now old) := by
  rw [msB_ord _ (chg_nodup hn ho)]
  exact Tx.ord_congr ltB_lin (mem_chg hn ho)
theorem eqStrings_l0 (l : List ByteArray) (hl : l.length ≤ 1000000) : ∀ (m i k : Nat), l.length - i = m → i ≤ l.length → m + 1 ≤ k → rf0_EqStrings.l0 k l l (i : Int) = some true
  | 0, i, k, hm, hi, hk => by
    obtain ⟨k, rfl⟩ : ∃ q, k = q + 1 := ⟨k - 1, by omega⟩
    rw [rf0_EqStrings.l0, if_neg (by omega)]
  | m + 1, i, k, hm, hi, hk => by
    obtain ⟨k, rfl⟩ : ∃ q, k = q + 1 := ⟨k - 1, by omega⟩
    rw [rf0_EqStrings.l0, if_pos (by omega), if_pos (by omega), if_pos (by omega), if_pos rfl, nx i (by omega)]
    exact eqStrings_l0 l hl m (i + 1) k (by omega) (by omega) (by omega)
theorem eqStrings_f (l : List ByteArray) (hl : l.length ≤ 1000000) (k : Nat) (hk : l.length + 1 ≤ k) : rf0_EqStrings.f k l l = some true := by
  unfold rf0_EqStrings.f
  rw [if_pos rfl]
  exact eqStrings_l0 l hl l.length 0 k (by omega) (Nat.zero_le _) hk
theorem eqFiles_l0 (l : List S41) (hl : l.length ≤ 1000000) : ∀ (m i k : Nat), l.length - i = m → i ≤ l.length → m + 1 ≤ k → rf0_EqFiles.l0 k l l (i : Int) = some true
  | 0, i, k, hm, hi, hk => by
    obtain ⟨k, rfl⟩ : ∃ q, k = q + 1 := ⟨k - 1, by omega⟩
    rw [rf0_EqFiles.l0, if_neg (by omega)]
  | m + 1, i, k, hm, hi, hk => by
    obtain ⟨k, rfl⟩ : ∃ q, k = q + 1 := ⟨k - 1, by omega⟩
    rw [rf0_EqFiles.l0, if_pos (by omega), if_pos (by omega), if_pos (by omega), if_neg (by simp), nx i (by omega)]
    exact eqFiles_l0 l hl m (i + 1) k (by omega) (by omega) (by omega)
theorem eqFiles_f (l : List S41) (hl : l.length ≤ 1000000) (k : Nat) (hk : l.length + 1 ≤ k) : rf0_EqFiles.f k l l = some true := by
  unfold rf0_EqFiles.f
  rw [if_pos rfl]
  exact eqFiles_l0 l hl l.length 0 k (by omega) (Nat.zero_le _) hk
end Go.Proofs.YthimblhfjfngiaaGreat.PText

namespace Go.Proofs.YthimblhfjfngiaaGreat.PText
open Go.RowKit Go.Lib Go.Sort Go.Proofs.YthimblhfjfngiaaGreatW.PrintWords Go.Proofs.YthimblhfjfngiaaGreatW.PrintLast Go.Proofs.YthimblhfjfngiaaGreatW.PrintMore
set_option linter.unusedVariables false
set_option linter.unusedSimpArgs false
/-- At, in both ways -/
def atA (L : List Com) (k : Int) : List S41 × Int := if 0 ≤ k ∧ k < (L.length : Int) then ((L.getD k.toNat noCom).files, 0) else ([], 1)
/-- Changed, in both ways -/
def chA (L : List Com) (k : Int) : List ByteArray × Int := if 0 ≤ k ∧ k < (L.length : Int) then (Tx.ord ltB (chgR (L.getD k.toNat noCom).files (prevC L k.toNat).files), 0) else ([], 1)
theorem getD_at (L : List Com) (i : Nat) (h : i < L.length) : L.getD i noCom = L[i] := by rw [List.getD_eq_getElem?_getD, List.getElem?_eq_getElem h]; rfl
theorem prevC_nodup {L : List Com} (h : ∀ c ∈ L, (fnames c.files).Nodup) (k : Nat) : (fnames (prevC L k).files).Nodup := by
  unfold prevC
  split
  · exact List.nodup_nil
  · rw [List.getD_eq_getElem?_getD]
    cases e : L[k - 1]? with
    | none => exact List.nodup_nil
    | some c => exact h c (List.mem_of_getElem? e)
theorem patA_calls (base p : Nat) (L : List Com) (k : Int) (w : World) (hP : PastIs w base p L) (hT : Tiny L) :
    Calls Tryz.prog 21 #[.pointer (some ⟨p, 0, none⟩), .int .i64 k] w fun e w' => ∃ v, e = .returned (.tuple #[v, .int .i64 (atA L k).2]) ∧ Kd.R k41 41 w' w.heap.size (fun _ => True) v (atA L k).1 ∧ Below w.heap.size w w' := by
  unfold atA
  by_cases h : 0 ≤ k ∧ k < (L.length : Int)
  · obtain ⟨n, rfl⟩ : ∃ n : Nat, k = n := ⟨k.toNat, by omega⟩
    have hn : n < L.length := by omega
    rw [if_pos h, Int.toNat_natCast, getD_at L n hn]
    exact at_in base p L n w hP hn (hT _ (List.getElem_mem hn)).1
  · rw [if_neg h]
    exact (at_out base p L k w hP h).mono fun e w' q => ⟨_, q.1, Kd.R_nil _ _ _ _ _, q.2⟩
theorem ratA_calls (base q : Nat) (L : List Com) (k : Int) (w : World) (hR : RefIs w base q L) (hT : Tiny L) :
    Calls Tryz.prog 22 #[.pointer (some ⟨q, 0, none⟩), .int .i64 k] w fun e w' => ∃ v, e = .returned (.tuple #[v, .int .i64 (atA L k).2]) ∧ Kd.R k41 41 w' w.heap.size (fun _ => True) v (atA L k).1 ∧ Below w.heap.size w w' := by
  unfold atA
  by_cases h : 0 ≤ k ∧ k < (L.length : Int)
  · obtain ⟨n, rfl⟩ : ∃ n : Nat, k = n := ⟨k.toNat, by omega⟩
    have hn : n < L.length := by omega
    rw [if_pos h, Int.toNat_natCast, getD_at L n hn]
    exact rat_in base q L n w hR hn (hT _ (List.getElem_mem hn)).1
  · rw [if_neg h]
    exact (rat_out base q L k w hR h).mono fun e w' q => ⟨_, q.1, Kd.R_nil _ _ _ _ _, q.2⟩
theorem pchA_calls (base p : Nat) (L : List Com) (k : Int) (w : World) (hP : PastIs w base p L) (hL : L.length ≤ 1000) (hS : ∀ c ∈ L, c.files.length ≤ 1000) (hN : ∀ c ∈ L, (fnames c.files).Nodup) :
    Calls Tryz.prog 23 #[.pointer (some ⟨p, 0, none⟩), .int .i64 k] w fun e w' => ∃ v, e = .returned (.tuple #[v, .int .i64 (chA L k).2]) ∧ Kd.R Kd.string 9 w' w.heap.size (fun _ => True) v (chA L k).1 ∧ Below w.heap.size w w' := by
  unfold chA
  by_cases h : 0 ≤ k ∧ k < (L.length : Int)
  · obtain ⟨n, rfl⟩ : ∃ n : Nat, k = n := ⟨k.toNat, by omega⟩
    have hn : n < L.length := by omega
    rw [if_pos h, Int.toNat_natCast, getD_at L n hn, ← chg_eq (hN _ (List.getElem_mem hn)) (prevC_nodup hN n)]
    exact pchanged_in base p L n w hP hn hL hS
  · rw [if_neg h]
    exact (pchanged_out base p L k w hP h).mono fun e w' q => ⟨_, q.1, Kd.R_nil _ _ _ _ _, q.2⟩
theorem rchA_calls (base q : Nat) (L : List Com) (k : Int) (w : World) (hR : RefIs w base q L) (hL : L.length ≤ 1000) (hS : ∀ c ∈ L, c.files.length ≤ 1000) :
    Calls Tryz.prog 24 #[.pointer (some ⟨q, 0, none⟩), .int .i64 k] w fun e w' => ∃ v, e = .returned (.tuple #[v, .int .i64 (chA L k).2]) ∧ Kd.R Kd.string 9 w' w.heap.size (fun _ => True) v (chA L k).1 ∧ Below w.heap.size w w' := by
  unfold chA
  by_cases h : 0 ≤ k ∧ k < (L.length : Int)
  · obtain ⟨n, rfl⟩ : ∃ n : Nat, k = n := ⟨k.toNat, by omega⟩
    have hn : n < L.length := by omega
    rw [if_pos h, Int.toNat_natCast, getD_at L n hn]
    exact rchanged_in base q L n w hR hn hL hS
  · rw [if_neg h]
    exact (rchanged_out base q L k w hR h).mono fun e w' q => ⟨_, q.1, Kd.R_nil _ _ _ _ _, q.2⟩
theorem atA_len {L : List Com} (hT : Tiny L) (k : Int) : (atA L k).1.length ≤ 10000 := by
  unfold atA
  split
  · rw [List.getD_eq_getElem?_getD]
    cases e : L[k.toNat]? with
    | none => exact Nat.zero_le _
    | some c => exact (hT c (List.mem_of_getElem? e)).1
  · exact Nat.zero_le _
theorem chA_len {L : List Com} (hT : Tiny L) (k : Int) : (chA L k).1.length ≤ 20000 := by
  unfold chA
  split
  · have h1 := Tx.ord_len (lt := ltB) (chgR (L.getD k.toNat noCom).files (prevC L k.toNat).files)
    have h2 : (L.getD k.toNat noCom).files.length ≤ 10000 := by
      rw [List.getD_eq_getElem?_getD]
      cases e : L[k.toNat]? with
      | none => exact Nat.zero_le _
      | some c => exact (hT c (List.mem_of_getElem? e)).1
    have h3 := (prevC_tiny hT k.toNat).1
    have h4 := pick_len (diffP (L.getD k.toNat noCom).files (prevC L k.toNat).files) ((prevC L k.toNat).files ++ (L.getD k.toNat noCom).files) ((prevC L k.toNat).files ++ (L.getD k.toNat noCom).files).length
    have h5 : (chgR (L.getD k.toNat noCom).files (prevC L k.toNat).files).length ≤ ((prevC L k.toNat).files ++ (L.getD k.toNat noCom).files).length := h4
    rw [List.length_append] at h5
    show (Tx.ord ltB (chgR (L.getD k.toNat noCom).files (prevC L k.toNat).files)).length ≤ 20000
    omega
  · exact Nat.zero_le _
set_option maxRecDepth 100000 in
set_option maxHeartbeats 8000000 in
theorem pcommits_calls (A0 : Option Addr) (c0 : Nat) (l : List S39) (k : Int) (w : World) (hC : Kd.C k39 w A0 l.length l) (hc : l.length ≤ c0) (hH : Held l) :
    Calls Tryz.prog 5 #[.slice A0 l.length c0, .int .i64 k] w fun e w' => e = .returned (.bool true) ∧ Below w.heap.size w w' := by
  obtain ⟨r, hr1, hr2⟩ := heavy_f l hH 6006 (Nat.le_refl _)
  have HV := Aside0.mk (smockinglaw25_heavy.calls _ A0 c0 l r w hC hc hr1)
  have HAW : Aside0 (∀ w, Calls Tryz.prog 14 #[] w fun e w' => e = .returned (.bool true) ∧ Below w.heap.size w w') := ⟨fun w => smockinglaw25_awake.calls true w rfl⟩
  clear hr1 hH
  cases r
  · obtain ⟨hl, hsz⟩ := hr2 rfl
    have HFA := Aside0.mk (fair_both 6000 l hsz l.length (Nat.le_refl _))
    rw [List.take_length] at HFA
    have HBL : Aside0 ((bothL l).length ≤ l.length) := ⟨by have := bothL_len l l.length (Nat.le_refl _); rwa [List.take_length] at this⟩
    have HL := Aside0.mk hl
    have HBO : Aside0 (∀ w1, Below w.heap.size w w1 → Calls Tryz.prog 8 #[.slice A0 l.length c0] w1 fun e w' => ∃ p q : Nat, e = .returned (.tuple #[.pointer (some ⟨p, 0, none⟩), .pointer (some ⟨q, 0, none⟩), .bool true]) ∧ PastIs w' w1.heap.size p (bothL l) ∧ RefIs w' w1.heap.size q (bothL l) ∧ Below w1.heap.size w1 w') :=
      ⟨fun w1 hb => both_calls A0 c0 l w1 (Kd.C_below hC hb) hc (by omega)⟩
    clear hC hc hr2 hl hsz
    generalize bothL l = L at *
    have HL3 : Aside0 (L.length ≤ 1000) := ⟨by have := HL.out; have := HBL.out; omega⟩
    have HT : Aside0 (Tiny L) := ⟨HFA.out.toTiny⟩
    have HS : Aside0 (∀ c ∈ L, c.files.length ≤ 1000) := ⟨fun c m => by have := (HFA.out.neat c m).few; omega⟩
    have HND : Aside0 (∀ c ∈ L, (fnames c.files).Nodup) := ⟨fun c m => (HFA.out.neat c m).names⟩
    have HPN : Aside0 (∀ b p wr, PastIs wr b p L → Calls Tryz.prog 19 #[.pointer (some ⟨p, 0, none⟩)] wr fun e w' => ∃ v, e = .returned v ∧ Kd.R Kd.string 9 w' wr.heap.size (fun _ => True) v (L.map (·.name)) ∧ Below wr.heap.size wr w') := ⟨fun b p wr h => names_calls b p L wr h HL3.out⟩
    have HRN : Aside0 (∀ b q wr, RefIs wr b q L → Calls Tryz.prog 20 #[.pointer (some ⟨q, 0, none⟩)] wr fun e w' => ∃ v, e = .returned v ∧ Kd.R Kd.string 9 w' wr.heap.size (fun _ => True) v (L.map (·.name)) ∧ Below wr.heap.size wr w') := ⟨fun b q wr h => rnames_calls b q L wr h HL3.out⟩
    have HPA : Aside0 (∀ b p wr, PastIs wr b p L → Calls Tryz.prog 21 #[.pointer (some ⟨p, 0, none⟩), .int .i64 k] wr fun e w' => ∃ v, e = .returned (.tuple #[v, .int .i64 (atA L k).2]) ∧ Kd.R k41 41 w' wr.heap.size (fun _ => True) v (atA L k).1 ∧ Below wr.heap.size wr w') := ⟨fun b p wr h => patA_calls b p L k wr h HT.out⟩
    have HRA : Aside0 (∀ b q wr, RefIs wr b q L → Calls Tryz.prog 22 #[.pointer (some ⟨q, 0, none⟩), .int .i64 k] wr fun e w' => ∃ v, e = .returned (.tuple #[v, .int .i64 (atA L k).2]) ∧ Kd.R k41 41 w' wr.heap.size (fun _ => True) v (atA L k).1 ∧ Below wr.heap.size wr w') := ⟨fun b q wr h => ratA_calls b q L k wr h HT.out⟩
    have HPC : Aside0 (∀ b p wr, PastIs wr b p L → Calls Tryz.prog 23 #[.pointer (some ⟨p, 0, none⟩), .int .i64 k] wr fun e w' => ∃ v, e = .returned (.tuple #[v, .int .i64 (chA L k).2]) ∧ Kd.R Kd.string 9 w' wr.heap.size (fun _ => True) v (chA L k).1 ∧ Below wr.heap.size wr w') := ⟨fun b p wr h => pchA_calls b p L k wr h HL3.out HS.out HND.out⟩
    have HRC : Aside0 (∀ b q wr, RefIs wr b q L → Calls Tryz.prog 24 #[.pointer (some ⟨q, 0, none⟩), .int .i64 k] wr fun e w' => ∃ v, e = .returned (.tuple #[v, .int .i64 (chA L k).2]) ∧ Kd.R Kd.string 9 w' wr.heap.size (fun _ => True) v (chA L k).1 ∧ Below wr.heap.size wr w') := ⟨fun b q wr h => rchA_calls b q L k wr h HL3.out HS.out⟩
    have HE1 := Aside0.mk (eqStrings_f (L.map (·.name)) (by rw [List.length_map]; have := HL3.out; omega) 30000 (by rw [List.length_map]; have := HL3.out; omega))
    have HE2 := Aside0.mk (eqFiles_f (atA L k).1 (by have := atA_len HT.out k; omega) 30000 (by have := atA_len HT.out k; omega))
    have HE3 := Aside0.mk (eqStrings_f (chA L k).1 (by have := chA_len HT.out k; omega) 30000 (by have := chA_len HT.out k; omega))
    clear HFA HS HND HT
    generalize (atA L k).1 = fa at *
    generalize (atA L k).2 = e1 at *
    generalize (chA L k).1 = ch at *
    generalize (chA L k).2 = e2 at *
    generalize L.map (·.name) = nms at *
    have tok : True := trivial
    go_enter Tryz.func5, Tryz.ntmps5
    go_wp2_with (first
      | (go_at_call 7; refine HV.out.mono ?_; rintro e w1 ⟨rfl, hd⟩; have HB1 := Aside0.mk hd.below; clear hd HV)
      | (go_at_call 8; with_reducible refine (HBO.out _ HB1.out).mono ?_; rintro e w2 ⟨p, q, rfl, hp, hq, hb⟩; have HP2 := Aside0.mk hp; have HQ2 := Aside0.mk hq; have HB2 := Aside0.mk (HB1.out.trans (hb.mono HB1.out.size)); clear hp hq hb HBO)
      | (go_at_call 19; with_reducible refine (HPN.out _ _ _ HP2.out).mono ?_; rintro e w3 ⟨v3, rfl, ho, hb⟩; obtain ⟨A3, c3, rfl⟩ := Kd.R_slice ho; have HO3 := Aside0.mk ho; have HB3 := Aside0.mk (below_step HB2.out hb); have HP3 := Aside0.mk (HP2.out.below hb); have HQ3 := Aside0.mk (HQ2.out.below hb); clear ho hb HPN)
      | (go_at_call 20; with_reducible refine (HRN.out _ _ _ HQ3.out).mono ?_; rintro e w4 ⟨v4, rfl, ho, hb⟩; obtain ⟨A4, c4, rfl⟩ := Kd.R_slice ho; have HO4 := Aside0.mk (Kd.R_reads' ho); have HO34 := Aside0.mk (Kd.R_reads' (Kd.R_below HO3.out hb)); have HB4 := Aside0.mk (below_step HB3.out hb); have HP4 := Aside0.mk (HP3.out.below hb); have HQ4 := Aside0.mk (HQ3.out.below hb); clear ho hb HRN)
      | (go_at_call 18; have _t := tok; with_reducible refine (rf0_EqStrings.calls 30000 A3 c3 nms A4 c4 nms true _ HO34.out.2.2 HO34.out.2.1 HO4.out.2.2 HO4.out.2.1 HE1.out).mono ?_; rintro e w5 ⟨rfl, hd⟩; have HB5 := Aside0.mk (below_step HB4.out hd.below); have HP5 := Aside0.mk (HP4.out.below hd.below); have HQ5 := Aside0.mk (HQ4.out.below hd.below); clear hd tok)
      | (go_at_call 21; with_reducible refine (HPA.out _ _ _ HP5.out).mono ?_; rintro e w6 ⟨v6, rfl, ho, hb⟩; obtain ⟨A6, c6, rfl⟩ := Kd.R_slice ho; have HO6 := Aside0.mk ho; have HB6 := Aside0.mk (below_step HB5.out hb); have HP6 := Aside0.mk (HP5.out.below hb); have HQ6 := Aside0.mk (HQ5.out.below hb); clear ho hb HPA)
      | (go_at_call 22; with_reducible refine (HRA.out _ _ _ HQ6.out).mono ?_; rintro e w7 ⟨v7, rfl, ho, hb⟩; obtain ⟨A7, c7, rfl⟩ := Kd.R_slice ho; have HO7 := Aside0.mk ho; have HO67 := Aside0.mk (Kd.R_below HO6.out hb); have HB7 := Aside0.mk (below_step HB6.out hb); have HP7 := Aside0.mk (HP6.out.below hb); have HQ7 := Aside0.mk (HQ6.out.below hb); clear ho hb HRA)
      | (go_at_call 23; with_reducible refine (HPC.out _ _ _ HP7.out).mono ?_; rintro e w8 ⟨v8, rfl, ho, hb⟩; obtain ⟨A8, c8, rfl⟩ := Kd.R_slice ho; have HO8 := Aside0.mk ho; have HO68 := Aside0.mk (Kd.R_below HO67.out hb); have HO78 := Aside0.mk (Kd.R_below HO7.out hb); have HB8 := Aside0.mk (below_step HB7.out hb); have HQ8 := Aside0.mk (HQ7.out.below hb); clear ho hb HPC)
      | (go_at_call 24; with_reducible refine (HRC.out _ _ _ HQ8.out).mono ?_; rintro e w9 ⟨v9, rfl, ho, hb⟩; obtain ⟨A9, c9, rfl⟩ := Kd.R_slice ho; have HO9 := Aside0.mk ho; have HO89 := Aside0.mk (Kd.R_below HO8.out hb); have HO69 := Aside0.mk (Kd.R_reads' (Kd.R_below HO68.out hb)); have HO79 := Aside0.mk (Kd.R_reads' (Kd.R_below HO78.out hb)); have HB9 := Aside0.mk (below_step HB8.out hb); clear ho hb HRC)
      | (go_at_call 17; with_reducible refine (rf0_EqFiles.calls 30000 A6 c6 fa A7 c7 fa true _ HO69.out.2.2 HO69.out.2.1 HO79.out.2.2 HO79.out.2.1 HE2.out).mono ?_; rintro e w10 ⟨rfl, hd⟩; have HB10 := Aside0.mk (below_step HB9.out hd.below); have HR8 := Aside0.mk (Kd.R_reads' (Kd.R_below HO89.out hd.below)); have HR9 := Aside0.mk (Kd.R_reads' (Kd.R_below HO9.out hd.below)); clear hd)
      | (go_at_call 18; with_reducible refine (rf0_EqStrings.calls 30000 A8 c8 ch A9 c9 ch true _ HR8.out.2.2 HR8.out.2.1 HR9.out.2.2 HR9.out.2.1 HE3.out).mono ?_; rintro e w11 ⟨rfl, hd⟩; have HB11 := Aside0.mk (below_step HB10.out hd.below); clear hd)
      | (go_at_call 14; refine (HAW.out _).mono ?_; rintro e w20 ⟨rfl, hb⟩; have HB20 := Aside0.mk hb; clear hb)
      | fail)
    go_ret
    exact ⟨rfl, below_step HB11.out HB20.out⟩
  · clear hr2
    go_enter Tryz.func5, Tryz.ntmps5
    go_wp2_with (first
      | (go_at_call 7; refine HV.out.mono ?_; rintro e w1 ⟨rfl, hd⟩; have HB1 := Aside0.mk hd.below; clear hd HV)
      | fail)
    go_ret
    exact ⟨rfl, HB1.out⟩
end Go.Proofs.YthimblhfjfngiaaGreat.PText

namespace Go.Proofs.YthimblhfjfngiaaGreat.PText
open Go.RowKit Go.ChangeShapes Go.WideShapes Go.Proofs.YthimblhfjfngiaaGreatW.PrintWords Go.Proofs.YthimblhfjfngiaaGreatW.PrintLast Go.Proofs.YthimblhfjfngiaaGreatW.PrintMore
/-- a file as data -/
def fiD {H : Type} (x : S41) : DataW H := .agg [.lit (.string x.f0.data.toList), .lit (.string x.f1.data.toList)]
theorem p_cells53 : Tryz.prog.cellsOf 41 = 2 := by kernel_rfl
theorem p_cells46 : Tryz.prog.cellsOf 37 = 1 := by kernel_rfl
theorem p_cells9 : Tryz.prog.cellsOf 9 = 1 := by kernel_rfl
theorem p_cells70 : Tryz.prog.cellsOf 39 = 2 := by kernel_rfl
theorem p_bytes53 : Tryz.prog.bytesOf 41 = 32 := by kernel_rfl
theorem p_bytes70 : Tryz.prog.bytesOf 39 = 40 := by kernel_rfl
theorem p_one_cell {α : Type} {l : List α} {n : Nat} (i : Nat) (h : l.length = n) (hi : i < n) : ∃ v, l[i]? = some v ∧ (l.drop i).take 1 = [v] := by
  refine ⟨l[i], List.getElem?_eq_getElem (by omega), ?_⟩
  rw [List.drop_eq_getElem_cons (by omega)]
  rfl
theorem open_file {H : Type} {enc : TypeId × Value → H} {W : World} {base : Nat} {sp : Nat → Bool} {held : Bool} {n : Nat} {a : Addr} {cs : List Value} {x : DataW H × List MemPlace}
    (h1 : W.cells? base a 2 = some cs) (h2 : DataW.trod enc Tryz.prog W base sp held n 41 cs = some x) :
    ∃ t : S41, x.1 = fiD t ∧ ∀ i u, [Value.string t.f0, .string t.f1][i]? = some u → W.cell? (a.add i) = some u := by
  obtain ⟨_, hlen, hcell⟩ := World.cells?_some h1
  obtain ⟨xs, k, -, rfl, -, hxl, hf⟩ := DataW.trod_struct Tryz.underlying41 h2
  obtain ⟨v0, e0, d0⟩ := p_one_cell 0 hlen (by omega)
  obtain ⟨v1, e1, d1⟩ := p_one_cell 1 hlen (by omega)
  match xs, hxl with
  | [y0, y1], _ =>
    have g0 : DataW.trod enc Tryz.prog W base sp held k 9 ((cs.drop 0).take (Tryz.prog.cellsOf 9)) = some y0 := hf 0 _ rfl
    have g1 : DataW.trod enc Tryz.prog W base sp held k 9 ((cs.drop 1).take (Tryz.prog.cellsOf 9)) = some y1 := hf 1 _ rfl
    rw [p_cells9, d0] at g0
    rw [p_cells9, d1] at g1
    obtain ⟨m0, q0, z0, -⟩ := DataW.trod_string Tryz.underlying9 g0
    obtain ⟨m1, q1, z1, -⟩ := DataW.trod_string Tryz.underlying9 g1
    obtain rfl : v0 = .string m0 := by simpa using q0
    obtain rfl : v1 = .string m1 := by simpa using q1
    refine ⟨⟨m0, m1⟩, by rw [z0, z1]; rfl, ?_⟩
    intro i u hu
    match i, hu with
    | 0, hu => rw [hcell 0 (by omega), e0]; exact hu
    | 1, hu => rw [hcell 1 (by omega), e1]; exact hu
    | (i + 2), hu => simp at hu
theorem pweight_all {H : Type} {P : Program} {e : TypeId} {n : Nat} : ∀ {l : List (DataW H)} {d : DataW H}, d ∈ l → n ∈ d.weights P e → n ∈ DataW.weightsAll P e l
  | x :: l, d, h, hn => by
    simp only [DataW.weightsAll, List.mem_append]
    rcases List.mem_cons.1 h with h | h
    · subst h; exact .inl hn
    · exact .inr (pweight_all h hn)
/-- files that are read -/
theorem open_files {H : Type} {enc : TypeId × Value → H} {W : World} {base : Nat} {sp : Nat → Bool} {held : Bool} {fuel : Nat} {v : Value} {x : DataW H × List MemPlace} (hf : DataW.trod enc Tryz.prog W base sp held fuel 37 [v] = some x) :
    ∃ (A : Option Addr) (cap : Nat) (l : List S41), v = .slice A l.length cap ∧ l.length ≤ cap ∧ Kd.C k41 W A l.length l ∧ ∀ B : Nat, (∀ n ∈ x.1.weights Tryz.prog 37, n ≤ B) → l.length ≤ B ∧ ∀ y ∈ l, y.f0.size ≤ B ∧ y.f1.size ≤ B := by
  have hinh : Inhabited S41 := ⟨z41⟩
  rcases Deep.open_slice Tryz.underlying37 hf with ⟨hcs, hx⟩ | ⟨a, len, cap, m, n, D, Pl, hcs, hb, hl, hm, hmm, hx, hel⟩
  · obtain rfl : v = .slice none 0 0 := by simpa using hcs
    exact ⟨none, 0, [], rfl, Nat.le_refl _, ⟨rfl, by simp, fun h => absurd h (by simp)⟩, fun B _ => ⟨Nat.zero_le _, fun y hy => by cases hy⟩⟩
  · obtain rfl : v = .slice (some a) len cap := by simpa using hcs
    have hlm : len ≤ m := by rw [hmm]; split <;> omega
    obtain ⟨q, hq⟩ := Deep.choose_lt (α := S41) (n := len) (p := fun i t => D i = fiD t ∧ ∀ j u, [Value.string t.f0, .string t.f1][j]? = some u → W.cell? ((a.add (i * 2)).add j) = some u) (fun i hi => by
      obtain ⟨cs', h1, h2⟩ := hel i (by omega)
      rw [p_cells53] at h1
      obtain ⟨t, t1, t2⟩ := open_file h1 h2
      exact ⟨t, t1, t2⟩)
    have hlen : ((List.range len).map q).length = len := by simp
    refine ⟨some a, cap, (List.range len).map q, by rw [hlen], by rw [hlen]; exact hl, ⟨rfl, by rw [hlen]; unfold maxLen at hm; omega, fun _ => ⟨a, rfl, fun j t hj => ?_⟩⟩, ?_⟩
    · have hj2 : j < len := by
        rcases Nat.lt_or_ge j len with h | h
        · exact h
        · rw [List.getElem?_eq_none (by rw [hlen]; exact h)] at hj; cases hj
      have ht : t = q j := by
        rw [List.getElem?_map, List.getElem?_range hj2] at hj
        exact (Option.some.inj hj).symm
      subst ht
      refine ⟨_, rfl, k41_mk W (q j), fun i u hu => ?_⟩
      have := (hq j hj2).2 i u hu
      rw [Deep.add_add] at this
      exact this
    · intro B hB
      have hd : x.1 = .slice ((List.range len).map D) ((List.range (m - len)).map fun j => D (len + j)) := congrArg Prod.fst hx
      rw [hd] at hB
      simp only [DataW.weights, Tryz.underlying37] at hB
      constructor
      · have := hB _ List.mem_cons_self
        rw [p_bytes53, List.length_map, List.length_range] at this
        rw [hlen]
        omega
      · intro y hy
        obtain ⟨i, hi, rfl⟩ := List.mem_map.1 hy
        have hi' := List.mem_range.1 hi
        have key : ∀ z, z ∈ (fiD (H := H) (q i)).weights Tryz.prog 41 → z ≤ B := fun z hz => hB z (List.mem_cons_of_mem _ (List.mem_append_left _ (pweight_all (List.mem_map.2 ⟨i, hi, rfl⟩) (by rw [(hq i hi').1]; exact hz))))
        have e0 : (q i).f0.size = (q i).f0.data.toList.length := by rw [Array.length_toList]; rfl
        have e1 : (q i).f1.size = (q i).f1.data.toList.length := by rw [Array.length_toList]; rfl
        constructor
        · refine key _ ?_
          rw [e0]
          simp only [fiD, DataW.weights, Tryz.underlying41]
          simp [DataW.weightsEach, DataW.weights]
        · refine key _ ?_
          rw [e1]
          simp only [fiD, DataW.weights, Tryz.underlying41]
          simp [DataW.weightsEach, DataW.weights]
theorem open_step {H : Type} {enc : TypeId × Value → H} {W : World} {base : Nat} {sp : Nat → Bool} {held : Bool} {n : Nat} {a : Addr} {cs : List Value} {x : DataW H × List MemPlace}
    (h1 : W.cells? base a 2 = some cs) (h2 : DataW.trod enc Tryz.prog W base sp held n 39 cs = some x) :
    ∃ (t : S39) (A : Option Addr) (cap : Nat), t.f1.length ≤ cap ∧ Kd.C k41 W A t.f1.length t.f1 ∧ (∀ i u, [Value.string t.f0, .slice A t.f1.length cap][i]? = some u → W.cell? (a.add i) = some u) ∧
      ∀ B : Nat, (∀ n ∈ x.1.weights Tryz.prog 39, n ≤ B) → t.f1.length ≤ B ∧ ∀ y ∈ t.f1, y.f0.size ≤ B ∧ y.f1.size ≤ B := by
  obtain ⟨_, hlen, hcell⟩ := World.cells?_some h1
  obtain ⟨xs, k, -, rfl, -, hxl, hf⟩ := DataW.trod_struct Tryz.underlying39 h2
  obtain ⟨v0, e0, d0⟩ := p_one_cell 0 hlen (by omega)
  obtain ⟨v1, e1, d1⟩ := p_one_cell 1 hlen (by omega)
  match xs, hxl with
  | [y0, y1], _ =>
    have g0 : DataW.trod enc Tryz.prog W base sp held k 9 ((cs.drop 0).take (Tryz.prog.cellsOf 9)) = some y0 := hf 0 _ rfl
    have g1 : DataW.trod enc Tryz.prog W base sp held k 37 ((cs.drop 1).take (Tryz.prog.cellsOf 37)) = some y1 := hf 1 _ rfl
    rw [p_cells9, d0] at g0
    rw [p_cells46, d1] at g1
    obtain ⟨m0, q0, z0, -⟩ := DataW.trod_string Tryz.underlying9 g0
    obtain ⟨A, cap, l, rfl, l1, l2, l3⟩ := open_files g1
    obtain rfl : v0 = .string m0 := by simpa using q0
    refine ⟨⟨m0, l⟩, A, cap, l1, l2, ?_, fun B hB => l3 B fun z hz => hB z ?_⟩
    · intro i u hu
      match i, hu with
      | 0, hu => rw [hcell 0 (by omega), e0]; exact hu
      | 1, hu => rw [hcell 1 (by omega), e1]; exact hu
      | (i + 2), hu => simp at hu
    · simp only [DataW.weights, Tryz.underlying39]
      simp only [List.map_cons, List.map_nil]
      simp [DataW.weightsEach]
      exact .inr hz
/-- a slice of steps that is read -/
theorem open_steps {H : Type} {enc : TypeId × Value → H} {W : World} {base : Nat} {sp : Nat → Bool} {held : Bool} {A : Option Addr} {len cap : Nat} {d : DataW H} {p : List MemPlace}
    (h : DataW.Trod enc Tryz.prog W base sp held 22 (.slice A len cap) d p) :
    ∃ l : List S39, l.length = len ∧ len ≤ cap ∧ Kd.C k39 W A len l ∧ ∀ B : Nat, (∀ n ∈ d.weights Tryz.prog 22, n ≤ B) → l.length ≤ B ∧ ∀ s ∈ l, s.f1.length ≤ B ∧ ∀ y ∈ s.f1, y.f0.size ≤ B ∧ y.f1.size ≤ B := by
  have hinh : Inhabited S39 := ⟨z39⟩
  obtain ⟨fuel, hf⟩ := h
  rcases Deep.open_slice Tryz.underlying22 hf with ⟨hcs, hx⟩ | ⟨a, len', cap', m, n, D, Pl, hcs, hb, hl, hm, hmm, hx, hel⟩
  · simp [Value.cells] at hcs
    obtain ⟨rfl, rfl, rfl⟩ := hcs
    exact ⟨[], rfl, Nat.le_refl _, ⟨rfl, by omega, fun h => absurd h (by omega)⟩, fun B _ => ⟨Nat.zero_le _, fun x hx => by cases hx⟩⟩
  · simp [Value.cells] at hcs
    obtain ⟨rfl, rfl, rfl⟩ := hcs
    have hlm : len ≤ m := by rw [hmm]; split <;> omega
    obtain ⟨q, hq⟩ := Deep.choose_lt (α := S39) (n := len) (p := fun i t => ∃ (A : Option Addr) (cap : Nat), t.f1.length ≤ cap ∧ Kd.C k41 W A t.f1.length t.f1 ∧ (∀ j u, [Value.string t.f0, .slice A t.f1.length cap][j]? = some u → W.cell? ((a.add (i * 2)).add j) = some u) ∧
        ∀ B : Nat, (∀ n ∈ (D i).weights Tryz.prog 39, n ≤ B) → t.f1.length ≤ B ∧ ∀ y ∈ t.f1, y.f0.size ≤ B ∧ y.f1.size ≤ B) (fun i hi => by
      obtain ⟨cs', h1, h2⟩ := hel i (by omega)
      rw [p_cells70] at h1
      exact open_step h1 h2)
    have hlen : ((List.range len).map q).length = len := by simp
    refine ⟨(List.range len).map q, hlen, hl, ⟨hlen, by unfold maxLen at hm; omega, fun _ => ⟨a, rfl, fun j t hj => ?_⟩⟩, ?_⟩
    · have hj2 : j < len := by
        rcases Nat.lt_or_ge j len with h | h
        · exact h
        · rw [List.getElem?_eq_none (by rw [hlen]; exact h)] at hj; cases hj
      have ht : t = q j := by
        rw [List.getElem?_map, List.getElem?_range hj2] at hj
        exact (Option.some.inj hj).symm
      subst ht
      obtain ⟨A1, cap1, q1, q2, q3, -⟩ := hq j hj2
      refine ⟨_, rfl, k39_mk W (q j) q1 q2, fun i u hu => ?_⟩
      have := q3 i u hu
      rw [Deep.add_add] at this
      exact this
    · intro B hB
      have hd : d = .slice ((List.range len).map D) ((List.range (m - len)).map fun j => D (len + j)) := congrArg Prod.fst hx
      rw [hd] at hB
      simp only [DataW.weights, Tryz.underlying22] at hB
      constructor
      · have := hB _ List.mem_cons_self
        rw [p_bytes70, List.length_map, List.length_range] at this
        rw [hlen]
        omega
      · intro y hy
        obtain ⟨i, hi, rfl⟩ := List.mem_map.1 hy
        have hi' := List.mem_range.1 hi
        obtain ⟨A1, cap1, -, -, -, q4⟩ := hq i hi'
        exact q4 B fun z hz => hB z (List.mem_cons_of_mem _ (List.mem_append_left _ (pweight_all (List.mem_map.2 ⟨i, hi, rfl⟩) hz)))
end Go.Proofs.YthimblhfjfngiaaGreat.PText

namespace Go.Proofs.YthimblhfjfngiaaGreat.pastCommits
open Go.ChangeShapes Go.WideShapes Go.ChangeAt Go.RowKit
open Go.ChangeMaps (open_string shut_string)
theorem own : ownKnob Tryz.prog.godebug = none := by kernel_rfl
theorem no_laid (P : Program) (w : World) : laidMet P [] w := ⟨[], rfl, List.nodup_nil, fun _ _ h => by cases h⟩
theorem laidOut : laidOutB Tryz.prog = true := by kernel_rfl
set_option maxRecDepth 100000 in
theorem contract (H : Type) (enc : TypeId × Value → H) (W : World) (base : Nat) (args : Array Value) (ds gs : List (DataW H)) (before : List MemPlace)
    (hval : ∀ (j : Nat) t v, Tryz.f5.params[j]? = some t → args[j]? = some v → Value.okWide Tryz.prog W .any base t v)
    (hW : DataW.Whole enc Tryz.prog Tryz.f5.params.toList Rows.pastCommitsSpec.vars false W args.toList ds gs before)
    (hsz : (DataW.weightsEach Tryz.prog (Tryz.f5.params.toList ++ Rows.pastCommitsSpec.plain.varTypes Tryz.prog) (ds ++ gs)).all (· ≤ reachBytes) = true) :
    Calls Tryz.prog 5 args W fun e W' => ∃ v, e = .returned v ∧ Rows.pastCommitsSpec.post enc Tryz.prog Tryz.f5 false true false false W args v W' := by
  have hW' := hW
  obtain ⟨p, q, hA0, hV, rfl, hfz, hnd⟩ := hW
  have hA : DataW.TrodAll enc Tryz.prog W 0 (fun _ => true) true Tryz.f5.params.toList args.toList ds p := hA0
  rw [Tryz.params5] at hA hval hsz
  obtain ⟨v0, vs0, d0, ds0, p0, q0, hargs, rfl, rfl, h0, r0⟩ := trodAll_cons hA
  obtain ⟨v1, vs1, d1, ds1, p1, q1, rfl, rfl, rfl, h1, r1⟩ := trodAll_cons r0
  obtain ⟨rfl, rfl, rfl⟩ := trodAll_nil r1
  obtain rfl : args = #[v0, v1] := by cases args; simp_all
  obtain ⟨rfl, rfl⟩ := trodVars_none hV
  obtain ⟨a0, len0, cap0, rfl⟩ := okWide_slice Tryz.underlying22 (hval 0 22 v0 rfl rfl)
  have k0 := h0
  have lt0 : ∀ x ∈ p0, x.block < W.heap.size := by
    obtain ⟨m, hm⟩ := k0
    exact DataW.trod_lt m _ _ _ hm
  obtain ⟨l0, rfl, c0, hC0, hb0⟩ := PText.open_steps h0
  have z0 := hb0 reachBytes (fun n hn => of_decide_eq_true (List.all_eq_true.1 hsz n (DataW.weights_mem_each (j := 0) (t := 22) rfl rfl n hn)))
  obtain ⟨a1, rfl, rfl, rfl, y1⟩ := open_int Tryz.underlying3 (hval 1 3 v1 rfl rfl) h1
  have hr : reachBytes = 140737488351232 := rfl
  clear hA0 hsz
  have hH : PText.Held l0 := ⟨by have := z0.1; omega, fun s hs => ⟨by have := (z0.2 s hs).1; omega, fun x hx => ⟨by have := ((z0.2 s hs).2 x hx).1; omega, by have := ((z0.2 s hs).2 x hx).2; omega⟩⟩⟩
  refine (PText.pcommits_calls a0 cap0 l0 a1 W hC0 c0 hH).mono fun e W' ⟨he, bel⟩ => ?_
  subst he
  exact ⟨_, rfl, _, _, _, [], _, [], hW', trodAll_mk1 (shut_bool Tryz.underlying4 _), (trodAll_cons_mk (Below.trod laidOut (by kernel_rfl) (of_decide_eq_true (by kernel_rfl)) k0 bel lt0) (trodAll_cons_mk (shut_int Tryz.underlying3 y1) trodAll_mk0)), rfl, bel.frame _, fun h => by cases h⟩
theorem reads (os : Os) {H : Type} (enc : TypeId × Value → H) : ∃ places, DataW.whole enc Tryz.prog ((World.holding Tryz.prog os ⟨#[], #[], []⟩).forCall (fun _ _ => 0) ⟨#[], #[.slice none 0 0, .int .i64 0], []⟩).memory Tryz.f5.params.toList Rows.pastCommitsSpec.vars false #[Value.slice none 0 0, Value.int .i64 0].toList 8 = some ([.nil, .lit (.int .i64 0)], [], places) :=
  ⟨[], by kernel_rfl⟩
set_option maxRecDepth 100000 in
theorem lifted (os : Os) (started : os.Started) (H : Type) (enc : TypeId × Value → H) (F : Stop.Interp) :
    ReturnsInHanded {} Tryz.checked os 5 .any ((OpenSpec.ofChange Rows.pastCommitsSpec).preRow enc Tryz.prog Tryz.f5 Rows.pastCommitsRow.domain false Rows.pastCommitsRow.laid) (((OpenSpec.ofChange Rows.pastCommitsSpec).at F).post enc Tryz.prog Tryz.f5 false true false false) := by
  obtain ⟨places, hx⟩ := reads os enc
  refine returnsInHanded_of_row (C := Tryz.checked) (s := OpenSpec.ofChange Rows.pastCommitsSpec) own started (by kernel_rfl) Tryz.func5
    (witness_row_atRef (enc := enc) (C := Tryz.checked) false (World.holding Tryz.prog os ⟨#[], #[], []⟩) #[.slice none 0 0, .int .i64 0] rfl (by kernel_rfl) (by kernel_rfl) (by kernel_rfl)
      (OpenSpec.preRow_of_cond 8 hx (by kernel_rfl) (fun k hk => by cases hk) (by kernel_rfl) (no_laid _ _))) ?_
  intro W base args ds gs before hval hW _ _ hsz _ _ _
  exact contract H enc W base args ds gs before hval hW hsz
theorem said : Rows.PastCommitsSaid :=
  OpenClaim.holds_of_cond 5 Tryz.f5 rfl rfl rfl rfl rfl rfl rfl ⟨rfl, rfl, rfl, rfl, rfl⟩ rfl rfl rfl rfl rfl (by kernel_rfl) Tryz.func5 (by kernel_rfl)
    (of_decide_eq_true (by kernel_rfl)) (by unfold Func.isWrapper; first | (rw [if_pos (by decide +kernel)]; kernel_rfl) | (rw [if_neg (by decide +kernel)]; exact ⟨rfl, rfl⟩))
    (fun os started H enc _ F => by rw [OpenClaim.pre_eq_preRow]; exact lifted os started H enc F)
end Go.Proofs.YthimblhfjfngiaaGreat.pastCommits
namespace Go.Proofs.YthimblhfjfngiaaGreat
theorem pastCommits_said : Rows.PastCommitsSaid := pastCommits.said
end Go.Proofs.YthimblhfjfngiaaGreat

namespace Go.Proofs.YthimblhfjfngiaaGreat
#print axioms pastCommits_said
end Go.Proofs.YthimblhfjfngiaaGreat
