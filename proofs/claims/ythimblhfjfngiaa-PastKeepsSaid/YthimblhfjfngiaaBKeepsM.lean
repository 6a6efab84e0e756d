/- PastKeeps holds: for all steps and every file's name the statement answers true. Part 13 of 20. -/
import Derived.Test.YthimblhfjfngiaaBKeepsL
import Derived.Lib.OthersKept
namespace Go.Proofs.Ythimblhfjfngiaa.PText
open Go.RowKit Go.Proofs.YthimblhfjfngiaaW.PrintWords Go.Proofs.YthimblhfjfngiaaW.PrintLast Go.Proofs.YthimblhfjfngiaaW.PrintMore
set_option linter.unusedVariables false
set_option linter.unusedSimpArgs false
theorem heap_newM (w : World) (o : Obj) : (w.alloc o).drew.heap[w.heap.size]? = some o := by
  show (w.heap.push o)[w.heap.size]? = some o
  exact Array.getElem?_push_size
set_option maxHeartbeats 4000000 in
set_option maxRecDepth 100000 in
theorem grow_calls (n : Nat) (w : World) (hn : n ≤ 20000) :
    Calls Try.prog 61 #[.slice none 0 0, .int .i64 (n : Int)] w fun e w' => ∃ v, e = .returned v ∧ w'.ownsRow w.heap.size 59 3 v 0 [] ∧ Below w.heap.size w w' := by
  by_cases h0 : n = 0
  · subst h0
    go_enter Try.func61, Try.ntmps61
    go_wp2
    go_ret
    exact ⟨_, rfl, World.ownsRow_nil _ _ _ _, Below.refl _ _⟩
  · have hp : (0 : Int) < (n : Int) := by omega
    have hb : decide ((n : Int) < 0) = false := decide_eq_false (by omega)
    have hb2 : decide ((0 : Int) < (n : Int)) = true := decide_eq_true hp
    have hby : Try.t59.bytes = 32 := by kernel_rfl
    have hnx : Builtin.nextslicecap n 0 = n := by unfold Builtin.nextslicecap; rw [if_pos (by omega)]
    go_enter Try.func61, Try.ntmps61
    go_wp2
    all_goals (try (exfalso; simp only [hby, hnx] at *; omega))
    go_ret
    refine ⟨_, rfl, ⟨rfl, .inr ⟨w.heap.size, _, _, rfl, Nat.le_refl _, heap_newM w _, Nat.zero_le _, ?_, ?_, by simp⟩⟩, ((Below.refl _ w).alloc (Nat.le_refl _) _).drew⟩
    · show n + _ % (2 ^ 63 - n) ≤ maxLen
      have := Nat.mod_lt (w.tape w.drawn (Question.appendCap n 0 59)) (show 0 < 2 ^ 63 - n by omega)
      unfold maxLen
      omega
    · rw [Array.size_append, size_zeroCells, size_zeroCells]
      show n * 3 + (n + _ % (2 ^ 63 - n) - n) * 3 = (n + _ % (2 ^ 63 - n)) * 3
      omega
theorem grow_two (a b : Nat) (w : World) (hn : a + b ≤ 20000) :
    Calls Try.prog 61 #[.slice none 0 0, .int .i64 ((a : Int) + (b : Int))] w fun e w' => ∃ v, e = .returned v ∧ w'.ownsRow w.heap.size 59 3 v 0 [] ∧ Below w.heap.size w w' := by
  have h : ((a : Int) + (b : Int)) = ((a + b : Nat) : Int) := by omega
  rw [h]
  exact grow_calls (a + b) w hn
set_option maxHeartbeats 4000000 in
set_option maxRecDepth 100000 in
theorem concat_calls (B : Nat) (A1 : Option Addr) (c1 : Nat) (l1 : List S59) (A2 : Option Addr) (c2 : Nat) (l2 : List S59) (w : World) (hlen : l1.length + l2.length ≤ 20000)
    (hC1 : Kd.C k59 w A1 l1.length l1) (hC2 : Kd.C k59 w A2 l2.length l2) (h0 : w.cell? ⟨B, 0, none⟩ = some (.slice A1 l1.length c1)) (h1 : w.cell? ⟨B, 1, none⟩ = some (.slice A2 l2.length c2)) :
    Calls Try.prog 43 #[.slice (some ⟨B, 0, none⟩) 2 2] w fun e w' => ∃ v, e = .returned v ∧ Kd.R k59 59 w' w.heap.size (fun _ => True) v (l1 ++ l2) ∧ Below w.heap.size w w' := by
  have HC1 := Aside0.mk hC1
  have HC2 := Aside0.mk hC2
  have HL := Aside0.mk hlen
  have hBlt : B < w.heap.size := World.block_lt_of_cell? w _ h0
  have s1 : IntKind.i64.wrap ((l1.length : Int)) = (l1.length : Int) := (i64_w _).trans (w64 (by omega) (by omega))
  have s2 : IntKind.i64.wrap ((l1.length : Int) + (l2.length : Int)) = (l1.length : Int) + (l2.length : Int) := (i64_w _).trans (w64 (by omega) (by omega))
  have s3 : wrap64 ((l1.length : Int) + (l2.length : Int)) = (l1.length : Int) + (l2.length : Int) := w64 (by omega) (by omega)
  have b1 : decide ((l1.length : Int) < 0) = false := decide_eq_false (by omega)
  have b2 : decide ((l1.length : Int) + (l2.length : Int) < 0) = false := decide_eq_false (by omega)
  clear hC1 hC2 hlen
  go_enter Try.func43, Try.ntmps43
  go_wp2_with fail
  go_loopg [3, 11] 3 (fun kq v3 v11 wq => (v3 = .int .i64 0 ∧ v11 = .int .i64 0 ∧ wq = w ∧ Aside0 (kq = 3)) ∨ (v3 = .int .i64 (l1.length : Int) ∧ v11 = .int .i64 1 ∧ wq = w ∧ Aside0 (kq = 2)) ∨ (v3 = .int .i64 ((l1.length : Int) + (l2.length : Int)) ∧ v11 = .int .i64 2 ∧ wq = w))
  case atStart => exact Or.inl ⟨rfl, rfl, rfl, ⟨rfl⟩⟩
  case round =>
    rcases hrel with ⟨rfl, rfl, rfl, hk⟩ | ⟨rfl, rfl, rfl, hk⟩ | ⟨rfl, rfl, hw⟩
    · obtain ⟨k1, rfl⟩ : ∃ k1, gk = k1 + 1 := ⟨2, hk.out⟩
      go_wp2_with fail
      go_roundg k1
      case measure => have := hk.out; omega
      case rel => exact Or.inr (Or.inl ⟨rfl, rfl, rfl, ⟨by have := hk.out; omega⟩⟩)
    · obtain ⟨k1, rfl⟩ : ∃ k1, gk = k1 + 1 := ⟨1, hk.out⟩
      go_wp2_with fail
      go_roundg k1
      case measure => have := hk.out; omega
      case rel => exact Or.inr (Or.inr ⟨rfl, rfl, rfl⟩)
    · have hw' := hw.symm
      subst hw'
      go_wp2_with (go_at_call 61; refine (grow_two l1.length l2.length _ HL.out).mono ?_; rintro e w2 ⟨v, rfl, hown, hb⟩; have HO : Aside0 (Kd.R k59 59 w2 w.heap.size (fun _ => True) v []) := ⟨⟨fun _ _ => trivial, [], hown, Reps.none _ _⟩⟩; have HB := Aside0.mk hb; clear hown hb)
      go_loopg [6, 27] 3 (fun kq v6 v27 wq => (v27 = .int .i64 0 ∧ Aside0 (kq = 3) ∧ Aside0 (Kd.R k59 59 wq w.heap.size (fun _ => True) v6 []) ∧ Aside0 (Below w.heap.size w wq)) ∨ (v27 = .int .i64 1 ∧ Aside0 (kq = 2) ∧ Aside0 (Kd.R k59 59 wq w.heap.size (fun _ => True) v6 l1) ∧ Aside0 (Below w.heap.size w wq)) ∨ (v27 = .int .i64 2 ∧ Aside0 (Kd.R k59 59 wq w.heap.size (fun _ => True) v6 (l1 ++ l2)) ∧ Aside0 (Below w.heap.size w wq)))
      case atStart => exact Or.inl ⟨rfl, ⟨rfl⟩, HO, HB⟩
      case round =>
        rcases hrel with ⟨rfl, hk2, HO2, HB2⟩ | ⟨rfl, hk2, HO2, HB2⟩ | ⟨rfl, HO2, HB2⟩
        · obtain ⟨k2, rfl⟩ : ∃ k2, gk = k2 + 1 := ⟨2, hk2.out⟩
          have g0 := (HB2.out.cell (p := ⟨B, 0, none⟩) hBlt).trans h0
          go_wp2_with (at_builtin; refine Kd.R_append_rows k59 (w0 := w) w.heap.size rfl (.tmp 31) (.tmp 32) 55 59 (.agg #[(.int .i64 0), (.int .i64 0), (.string ⟨#[]⟩)]) 32 rfl Try.underlying55 info59 rfl (by decide) (by omega) _ ([] : List S59) l1 _ _ _ (fun _ => True) (fun _ => False) rfl rfl HO2.out (Kd.C_below HC1.out HB2.out) (fun _ _ h => h) (fun _ h => h.elim) (fun _ _ => trivial) HB2.out HB2.out.size (by have := HL.out; simp; omega) ?_; intro v1 w3 ho hb hg hat; have HO3 := Aside0.mk ho; have HB3 := Aside0.mk hb; clear ho hb hg hat)
          go_roundg k2
          case measure => have := hk2.out; omega
          case rel => exact Or.inr (Or.inl ⟨rfl, ⟨by have := hk2.out; omega⟩, HO3, HB3⟩)
        · obtain ⟨k2, rfl⟩ : ∃ k2, gk = k2 + 1 := ⟨1, hk2.out⟩
          have g1 := (HB2.out.cell (p := ⟨B, 1, none⟩) hBlt).trans h1
          go_wp2_with (at_builtin; refine Kd.R_append_rows k59 (w0 := w) w.heap.size rfl (.tmp 31) (.tmp 32) 55 59 (.agg #[(.int .i64 0), (.int .i64 0), (.string ⟨#[]⟩)]) 32 rfl Try.underlying55 info59 rfl (by decide) (by omega) _ l1 l2 _ _ _ (fun _ => True) (fun _ => False) rfl rfl HO2.out (Kd.C_below HC2.out HB2.out) (fun _ _ h => h) (fun _ h => h.elim) (fun _ _ => trivial) HB2.out HB2.out.size (by have := HL.out; simp; omega) ?_; intro v1 w3 ho hb hg hat; have HO3 := Aside0.mk ho; have HB3 := Aside0.mk hb; clear ho hb hg hat)
          go_roundg k2
          case measure => have := hk2.out; omega
          case rel => exact Or.inr (Or.inr ⟨rfl, HO3, HB3⟩)
        · go_wp2_with fail
          go_ret
          exact ⟨_, rfl, HO2.out, HB2.out⟩
/-- what text.Merge answers -/
def mergeR (n : Nat) (l1 l2 : List S59) : List S59 × Int :=
  if fineE n l1 ≠ 0 then ([], fineE n l1) else if fineE n l2 ≠ 0 then ([], fineE n l2) else if fineE n (l1 ++ l2) ≠ 0 then ([], fineE n (l1 ++ l2)) else (Tx.ord eltS (l1 ++ l2), 0)
def text_Merge.f (a0 : ByteArray) (l1 l2 : List S59) : Option (List S59 × Int) := if l1.length + l2.length ≤ 20000 then some (mergeR a0.size l1 l2) else none
theorem concat_la (B : Nat) (A1 : Option Addr) (c1 : Nat) (l1 : List S59) (A2 : Option Addr) (c2 : Nat) (l2 la : List S59) (hla : la = l1 ++ l2) (w : World) (hlen : l1.length + l2.length ≤ 20000)
    (hC1 : Kd.C k59 w A1 l1.length l1) (hC2 : Kd.C k59 w A2 l2.length l2) (h0 : w.cell? ⟨B, 0, none⟩ = some (.slice A1 l1.length c1)) (h1 : w.cell? ⟨B, 1, none⟩ = some (.slice A2 l2.length c2)) :
    Calls Try.prog 43 #[.slice (some ⟨B, 0, none⟩) 2 2] w fun e w' => ∃ v, e = .returned v ∧ Kd.R k59 59 w' w.heap.size (fun _ => True) v la ∧ Below w.heap.size w w' := by
  subst hla
  exact concat_calls B A1 c1 l1 A2 c2 l2 w hlen hC1 hC2 h0 h1
set_option maxHeartbeats 8000000 in
set_option maxRecDepth 100000 in
theorem text_Merge.calls (a0 : ByteArray) (A1 : Option Addr) (c1 : Nat) (l1 : List S59) (A2 : Option Addr) (c2 : Nat) (l2 : List S59) (r1 : List S59) (r2 : Int) (w : World) (hr1 : Kd.C k59 w A1 l1.length l1) (hc1 : l1.length ≤ c1) (hr2 : Kd.C k59 w A2 l2.length l2) (hc2 : l2.length ≤ c2) (h : text_Merge.f a0 l1 l2 = some (r1, r2)) :
    Calls Try.prog 27 #[.string a0, .slice A1 l1.length c1, .slice A2 l2.length c2] w fun e w' => ∃ v0_ : Value, e = .returned (.tuple #[v0_, .int .i64 r2]) ∧ Kd.R k59 59 w' w.heap.size (fun _ => True) v0_ r1 ∧ Below w.heap.size w w' := by
  unfold text_Merge.f at h
  by_cases hlen : l1.length + l2.length ≤ 20000
  · rw [if_pos hlen] at h
    have h' := Option.some.inj h
    have HR := Aside0.mk h'
    have HC1 := Aside0.mk hr1
    have HC2 := Aside0.mk hr2
    have HL1 := Aside0.mk hc1
    have HL2 := Aside0.mk hc2
    have HL := Aside0.mk hlen
    clear h h' hr1 hr2 hc1 hc2 hlen
    obtain ⟨la, hla⟩ : ∃ la, la = l1 ++ l2 := ⟨_, rfl⟩
    have HLA := Aside0.mk hla
    have hR0 := HR.out
    unfold mergeR at hR0
    rw [← hla] at hR0
    clear HR
    have HR := Aside0.mk hR0
    clear hR0 hla
    go_enter Try.func27, Try.ntmps27
    go_wp2_with (go_at_call 43; refine (concat_la w.heap.size A1 c1 l1 A2 c2 l2 la HLA.out _ HL.out (Kd.C_alloc HC1.out _) (Kd.C_alloc HC2.out _) (by simp) (by simp)).mono ?_; rintro e w2 ⟨v, rfl, ho, hb⟩; obtain ⟨A3, c3, rfl⟩ := Kd.R_slice ho; have HO := Aside0.mk ho; have HB := Aside0.mk hb; clear ho hb)
    have HBW : Aside0 (Below w.heap.size w w2) := ⟨((Below.refl _ w).alloc (Nat.le_refl _) _).trans (HB.out.mono (by simp))⟩
    have hR3 := Kd.R_reads' HO.out
    have HC3 : Aside0 (Kd.C k59 (w2.alloc (.cells #[.slice A1 l1.length c1, .slice A2 l2.length c2, .slice A3 la.length c3] 55)) A3 la.length la) := ⟨Kd.C_alloc hR3.2.2 _⟩
    have HL3 : Aside0 (la.length ≤ c3) := ⟨hR3.2.1⟩
    have HD1 : Aside0 (Kd.C k59 (w2.alloc (.cells #[.slice A1 l1.length c1, .slice A2 l2.length c2, .slice A3 la.length c3] 55)) A1 l1.length l1) := ⟨Kd.C_alloc (Kd.C_below HC1.out HBW.out) _⟩
    have HD2 : Aside0 (Kd.C k59 (w2.alloc (.cells #[.slice A1 l1.length c1, .slice A2 l2.length c2, .slice A3 la.length c3] 55)) A2 l2.length l2) := ⟨Kd.C_alloc (Kd.C_below HC2.out HBW.out) _⟩
    clear HO HB hR3 HC1 HC2
    go_loopg [21] 4 (fun kq v21 wq => (v21 = .int .i64 0 ∧ Aside0 (kq = 4) ∧ Aside0 (Below (w2.alloc (.cells #[.slice A1 l1.length c1, .slice A2 l2.length c2, .slice A3 la.length c3] 55)).heap.size (w2.alloc (.cells #[.slice A1 l1.length c1, .slice A2 l2.length c2, .slice A3 la.length c3] 55)) wq)) ∨ (v21 = .int .i64 1 ∧ Aside0 (kq = 3) ∧ Aside0 (fineE a0.size l1 = 0) ∧ Aside0 (Below (w2.alloc (.cells #[.slice A1 l1.length c1, .slice A2 l2.length c2, .slice A3 la.length c3] 55)).heap.size (w2.alloc (.cells #[.slice A1 l1.length c1, .slice A2 l2.length c2, .slice A3 la.length c3] 55)) wq)) ∨ (v21 = .int .i64 2 ∧ Aside0 (kq = 2) ∧ Aside0 (fineE a0.size l1 = 0) ∧ Aside0 (fineE a0.size l2 = 0) ∧ Aside0 (Below (w2.alloc (.cells #[.slice A1 l1.length c1, .slice A2 l2.length c2, .slice A3 la.length c3] 55)).heap.size (w2.alloc (.cells #[.slice A1 l1.length c1, .slice A2 l2.length c2, .slice A3 la.length c3] 55)) wq)) ∨ (v21 = .int .i64 3 ∧ Aside0 (fineE a0.size l1 = 0) ∧ Aside0 (fineE a0.size l2 = 0) ∧ Aside0 (fineE a0.size la = 0) ∧ Aside0 (Below (w2.alloc (.cells #[.slice A1 l1.length c1, .slice A2 l2.length c2, .slice A3 la.length c3] 55)).heap.size (w2.alloc (.cells #[.slice A1 l1.length c1, .slice A2 l2.length c2, .slice A3 la.length c3] 55)) wq)))
    case atStart => exact Or.inl ⟨rfl, ⟨rfl⟩, ⟨Below.refl _ _⟩⟩
    case round =>
      rcases hrel with ⟨rfl, hk, HBL⟩ | ⟨rfl, hk, HF0, HBL⟩ | ⟨rfl, hk, HF0, HF1, HBL⟩ | ⟨rfl, HF0, HF1, HF2, HBL⟩
      · obtain ⟨k1, rfl⟩ : ∃ k1, gk = k1 + 1 := ⟨3, hk.out⟩
        have g0 : wr.cell? ⟨w2.heap.size, 0, none⟩ = some (.slice A1 l1.length c1) := (HBL.out.cell (p := ⟨w2.heap.size, 0, none⟩) (by simp)).trans (by simp)
        have HX := Aside0.mk (Kd.C_below HD1.out HBL.out)
        by_cases hf : fineE a0.size (l1) = 0
        · have H12 := Aside0.mk (text_Fine.calls a0 A1 c1 (l1) 0 wr HX.out HL1.out (by unfold text_Fine.f; rw [hf]))
          go_wp2_with (go_at_call 44; refine H12.out.mono ?_; rintro e w5 ⟨rfl, hb⟩; have HB5 : Aside0 (Below (w2.alloc (.cells #[.slice A1 l1.length c1, .slice A2 l2.length c2, .slice A3 la.length c3] 55)).heap.size (w2.alloc (.cells #[.slice A1 l1.length c1, .slice A2 l2.length c2, .slice A3 la.length c3] 55)) w5) := ⟨HBL.out.trans (hb.mono HBL.out.size)⟩; clear hb H12)
          go_roundg k1
          case measure => have := hk.out; omega
          case rel => exact Or.inr (Or.inl ⟨rfl, ⟨by have := hk.out; omega⟩, ⟨hf⟩, HB5⟩)
        · have b1 : (fineE a0.size (l1) != 0) = true := by simpa using hf
          have b2 : (fineE a0.size (l1) == 0) = false := by simpa using hf
          have hR := HR.out
          rw [if_pos (show fineE a0.size (l1) ≠ 0 from hf)] at hR
          have e1 : r1 = [] := (congrArg Prod.fst hR).symm
          have e2 : r2 = fineE a0.size (l1) := (congrArg Prod.snd hR).symm
          clear HR hR
          have H12 := Aside0.mk (text_Fine.calls a0 A1 c1 (l1) (fineE a0.size (l1)) wr HX.out HL1.out rfl)
          generalize fineE a0.size (l1) = fe at *
          subst e1 e2
          go_wp2_with (go_at_call 44; refine H12.out.mono ?_; rintro e w5 ⟨rfl, hb⟩; have HB5 : Aside0 (Below (w2.alloc (.cells #[.slice A1 l1.length c1, .slice A2 l2.length c2, .slice A3 la.length c3] 55)).heap.size (w2.alloc (.cells #[.slice A1 l1.length c1, .slice A2 l2.length c2, .slice A3 la.length c3] 55)) w5) := ⟨HBL.out.trans (hb.mono HBL.out.size)⟩; clear hb H12)
          go_ret2
          exact ⟨_, rfl, Kd.R_nil _ _ _ _ _, (HBW.out.alloc HBW.out.size _).trans (HB5.out.mono (by have := HBW.out.size; simp; omega))⟩
      · obtain ⟨k1, rfl⟩ : ∃ k1, gk = k1 + 1 := ⟨2, hk.out⟩
        have g0 : wr.cell? ⟨w2.heap.size, 1, none⟩ = some (.slice A2 l2.length c2) := (HBL.out.cell (p := ⟨w2.heap.size, 1, none⟩) (by simp)).trans (by simp)
        have HX := Aside0.mk (Kd.C_below HD2.out HBL.out)
        by_cases hf : fineE a0.size (l2) = 0
        · have H12 := Aside0.mk (text_Fine.calls a0 A2 c2 (l2) 0 wr HX.out HL2.out (by unfold text_Fine.f; rw [hf]))
          go_wp2_with (go_at_call 44; refine H12.out.mono ?_; rintro e w5 ⟨rfl, hb⟩; have HB5 : Aside0 (Below (w2.alloc (.cells #[.slice A1 l1.length c1, .slice A2 l2.length c2, .slice A3 la.length c3] 55)).heap.size (w2.alloc (.cells #[.slice A1 l1.length c1, .slice A2 l2.length c2, .slice A3 la.length c3] 55)) w5) := ⟨HBL.out.trans (hb.mono HBL.out.size)⟩; clear hb H12)
          go_roundg k1
          case measure => have := hk.out; omega
          case rel => exact Or.inr (Or.inr (Or.inl ⟨rfl, ⟨by have := hk.out; omega⟩, HF0, ⟨hf⟩, HB5⟩))
        · have b1 : (fineE a0.size (l2) != 0) = true := by simpa using hf
          have b2 : (fineE a0.size (l2) == 0) = false := by simpa using hf
          have hR := HR.out
          rw [if_neg (show ¬ (fineE a0.size l1 ≠ 0) from fun q => q HF0.out), if_pos (show fineE a0.size (l2) ≠ 0 from hf)] at hR
          have e1 : r1 = [] := (congrArg Prod.fst hR).symm
          have e2 : r2 = fineE a0.size (l2) := (congrArg Prod.snd hR).symm
          clear HR hR
          have H12 := Aside0.mk (text_Fine.calls a0 A2 c2 (l2) (fineE a0.size (l2)) wr HX.out HL2.out rfl)
          generalize fineE a0.size (l2) = fe at *
          subst e1 e2
          go_wp2_with (go_at_call 44; refine H12.out.mono ?_; rintro e w5 ⟨rfl, hb⟩; have HB5 : Aside0 (Below (w2.alloc (.cells #[.slice A1 l1.length c1, .slice A2 l2.length c2, .slice A3 la.length c3] 55)).heap.size (w2.alloc (.cells #[.slice A1 l1.length c1, .slice A2 l2.length c2, .slice A3 la.length c3] 55)) w5) := ⟨HBL.out.trans (hb.mono HBL.out.size)⟩; clear hb H12)
          go_ret2
          exact ⟨_, rfl, Kd.R_nil _ _ _ _ _, (HBW.out.alloc HBW.out.size _).trans (HB5.out.mono (by have := HBW.out.size; simp; omega))⟩
      · obtain ⟨k1, rfl⟩ : ∃ k1, gk = k1 + 1 := ⟨1, hk.out⟩
        have g0 : wr.cell? ⟨w2.heap.size, 2, none⟩ = some (.slice A3 la.length c3) := (HBL.out.cell (p := ⟨w2.heap.size, 2, none⟩) (by simp)).trans (by simp)
        have HX := Aside0.mk (Kd.C_below HC3.out HBL.out)
        by_cases hf : fineE a0.size la = 0
        · have H12 := Aside0.mk (text_Fine.calls a0 A3 c3 la 0 wr HX.out HL3.out (by unfold text_Fine.f; rw [hf]))
          go_wp2_with (go_at_call 44; refine H12.out.mono ?_; rintro e w5 ⟨rfl, hb⟩; have HB5 : Aside0 (Below (w2.alloc (.cells #[.slice A1 l1.length c1, .slice A2 l2.length c2, .slice A3 la.length c3] 55)).heap.size (w2.alloc (.cells #[.slice A1 l1.length c1, .slice A2 l2.length c2, .slice A3 la.length c3] 55)) w5) := ⟨HBL.out.trans (hb.mono HBL.out.size)⟩; clear hb H12)
          go_roundg k1
          case measure => have := hk.out; omega
          case rel => exact Or.inr (Or.inr (Or.inr ⟨rfl, HF0, HF1, ⟨hf⟩, HB5⟩))
        · have b1 : (fineE a0.size la != 0) = true := by simpa using hf
          have b2 : (fineE a0.size la == 0) = false := by simpa using hf
          have hR := HR.out
          rw [if_neg (show ¬ (fineE a0.size l1 ≠ 0) from fun q => q HF0.out), if_neg (show ¬ (fineE a0.size l2 ≠ 0) from fun q => q HF1.out), if_pos (show fineE a0.size la ≠ 0 from hf)] at hR
          have e1 : r1 = [] := (congrArg Prod.fst hR).symm
          have e2 : r2 = fineE a0.size la := (congrArg Prod.snd hR).symm
          clear HR hR
          have H12 := Aside0.mk (text_Fine.calls a0 A3 c3 la (fineE a0.size la) wr HX.out HL3.out rfl)
          generalize fineE a0.size la = fe at *
          subst e1 e2
          go_wp2_with (go_at_call 44; refine H12.out.mono ?_; rintro e w5 ⟨rfl, hb⟩; have HB5 : Aside0 (Below (w2.alloc (.cells #[.slice A1 l1.length c1, .slice A2 l2.length c2, .slice A3 la.length c3] 55)).heap.size (w2.alloc (.cells #[.slice A1 l1.length c1, .slice A2 l2.length c2, .slice A3 la.length c3] 55)) w5) := ⟨HBL.out.trans (hb.mono HBL.out.size)⟩; clear hb H12)
          go_ret2
          exact ⟨_, rfl, Kd.R_nil _ _ _ _ _, (HBW.out.alloc HBW.out.size _).trans (HB5.out.mono (by have := HBW.out.size; simp; omega))⟩
      · have hR := HR.out
        rw [if_neg (show ¬ (fineE a0.size l1 ≠ 0) from fun q => q HF0.out), if_neg (show ¬ (fineE a0.size l2 ≠ 0) from fun q => q HF1.out), if_neg (show ¬ (fineE a0.size la ≠ 0) from fun q => q HF2.out)] at hR
        have e1 : r1 = Tx.ord eltS la := (congrArg Prod.fst hR).symm
        have e2 : r2 = 0 := (congrArg Prod.snd hR).symm
        clear HR hR
        subst e1 e2
        have H32 := Aside0.mk (text_sorted.calls A3 c3 la (Tx.ord eltS la) wr (Kd.C_below HC3.out HBL.out) HL3.out (by unfold text_sorted.f; rw [if_pos (by
          have := HF2.out
          unfold fineE at this
          by_cases q : 200000 < a0.size ∨ 10000 < la.length
          · rw [if_pos q] at this; cases this
          · omega)]))
        go_wp2_with (go_at_call 45; refine H32.out.mono ?_; rintro e w5 ⟨v5, rfl, ho, hb⟩; have HO5 := Aside0.mk ho; have HB5 := Aside0.mk hb; clear ho hb H32)
        go_ret2
        have hsz : w.heap.size ≤ wr.heap.size := by have := HBW.out.size; have := HBL.out.size; simp at this; omega
        exact ⟨_, rfl, Kd.R_lower HO5.out hsz, ((HBW.out.alloc HBW.out.size _).trans (HBL.out.mono (by have := HBW.out.size; simp; omega))).trans (HB5.out.mono hsz)⟩
  · rw [if_neg hlen] at h; cases h
end Go.Proofs.Ythimblhfjfngiaa.PText

namespace Go.Proofs.Ythimblhfjfngiaa.PText
open Go.RowKit Go.Lib Go.Proofs.YthimblhfjfngiaaW.PrintWords Go.Proofs.YthimblhfjfngiaaW.PrintLast Go.Proofs.YthimblhfjfngiaaW.PrintMore
/-- the text that edits make, told to a bound that no machine reaches -/
def madeE (s : ByteArray) (l : List S59) : List UInt8 := Tx.ap s.data.toList 0 ((Tx.ord eltS l).map toE)
def text_Apply.f (a0 : ByteArray) (l1 : List S59) : Option (ByteArray × Int) :=
  if fineE a0.size l1 ≠ 0 then some ((⟨#[]⟩ : ByteArray), fineE a0.size l1)
  else if (madeE a0 l1).length ≤ 140737488351232 then (if 200000 < (madeE a0 l1).length then some ((⟨#[]⟩ : ByteArray), 2) else some (⟨(madeE a0 l1).toArray⟩, 0)) else none
/-- fine edits are one behind the other -/
theorem fine_chain (n : Nat) (l : List S59) (h : fineE n l = 0) : l.length ≤ 10000 ∧ n ≤ 200000 ∧ Tx.Ch n 0 ((Tx.ord eltS l).map toE) := by
  unfold fineE at h
  by_cases h1 : 200000 < n ∨ 10000 < l.length
  · rw [if_pos h1] at h; cases h
  · rw [if_neg h1] at h
    by_cases h2 : l.any (badE n) = true
    · rw [if_pos h2] at h; cases h
    · rw [if_neg h2] at h
      by_cases h3 : Tx.clash 0 (-1) ((Tx.ord eltS l).map toE) = true
      · rw [if_pos h3] at h; cases h
      · refine ⟨by omega, by omega, Tx.clash_ch _ 0 (-1) ?_ (by omega) (by simpa using h3)⟩
        intro e he
        obtain ⟨x, hx, rfl⟩ := List.mem_map.1 he
        have hx' := (Tx.mem_ord eltS_lin).1 hx
        have hb : badE n x = false := by
          cases q : badE n x with
          | false => rfl
          | true => exact absurd (List.any_eq_true.2 ⟨x, hx', q⟩) h2
        unfold badE at hb
        simp only [Bool.or_eq_false_iff, decide_eq_false_iff_not] at hb
        show 0 ≤ x.f0 ∧ x.f0 ≤ x.f1 ∧ x.f1 ≤ (n : Int)
        omega
end Go.Proofs.Ythimblhfjfngiaa.PText

namespace Go.Proofs.Ythimblhfjfngiaa.PText
open Go.RowKit Go.Lib Go.Proofs.YthimblhfjfngiaaW.PrintWords Go.Proofs.YthimblhfjfngiaaW.PrintLast Go.Proofs.YthimblhfjfngiaaW.PrintMore
theorem size_list (s : ByteArray) : s.size = s.data.toList.length := by rw [Array.length_toList]; rfl
theorem ext_sl (s : ByteArray) (a b : Int) : (s.extract a.toNat b.toNat).data.toList = Tx.sl s.data.toList a b := by
  rw [ByteArray.data_extract, Array.toList_extract, List.extract_eq_take_drop]; rfl
theorem ext_end (s : ByteArray) (a : Int) : (s.extract a.toNat s.size).data.toList = s.data.toList.drop a.toNat := by
  rw [ByteArray.data_extract, Array.toList_extract, List.extract_eq_take_drop]
  exact List.take_of_length_le (by rw [List.length_drop, size_list]; exact Nat.le_refl _)
def sumS (l : List S59) : Nat := (l.map fun x => x.f2.size).sum
theorem sumS_cons (x : S59) (l : List S59) : sumS (x :: l) = x.f2.size + sumS l := by simp [sumS]
theorem toE_x (x : S59) : (toE x).x = x.f2.data.toList := Lib.toList_data x.f2
end Go.Proofs.Ythimblhfjfngiaa.PText

namespace Go.Proofs.Ythimblhfjfngiaa.PText
open Go.RowKit Go.Lib Go.Proofs.YthimblhfjfngiaaW.PrintWords Go.Proofs.YthimblhfjfngiaaW.PrintLast Go.Proofs.YthimblhfjfngiaaW.PrintMore
end Go.Proofs.Ythimblhfjfngiaa.PText

namespace Go.Proofs.Ythimblhfjfngiaa.PText
open Go.RowKit Go.Lib Go.Sort Go.Proofs.YthimblhfjfngiaaW.PrintWords Go.Proofs.YthimblhfjfngiaaW.PrintLast Go.Proofs.YthimblhfjfngiaaW.PrintMore
set_option linter.unusedVariables false
set_option linter.unusedSimpArgs false
/-- whatever lies in blocks of other types than the past's own two (the past itself, its row of commits) stands -/
def PKept (w w' : World) : Prop := ∀ (k : Nat) (o : Obj), w.heap[k]? = some o → (∀ c fz, o ≠ .cells c 76 fz) → (∀ c fz, o ≠ .cells c 77 fz) → w'.heap[k]? = some o
theorem PKept.refl (w : World) : PKept w w := fun _ _ h _ _ => h
theorem PKept.trans {a b c : World} (h : PKept a b) (k : PKept b c) : PKept a c := fun i o hi h1 h2 => k i o (h i o hi h1 h2) h1 h2
theorem PKept.of_below {w w' : World} (h : Below w.heap.size w w') : PKept w w' := fun k o hk _ _ => (h.block k (Array.getElem?_eq_some_iff.1 hk).1).trans hk
/-- a row of files that stands: it lies in a block of files' cells, or there are none -/
structure FRow (w : World) (A : Option Addr) (cap : Nat) (l : List S53) : Prop where
  cap : l.length ≤ cap
  reads : Kd.C k53 w A l.length l
  lies : l = [] ∨ ∃ b cs, A = some ⟨b, 0, none⟩ ∧ w.heap[b]? = some (.cells cs 53 (0, 0))
theorem C_kept53 {w w' : World} {A : Option Addr} {l : List S53} {b : Nat} (h : Kd.C k53 w A l.length l) (hA : A = some ⟨b, 0, none⟩) (hk : w'.heap[b]? = w.heap[b]?) : Kd.C k53 w' A l.length l := by
  obtain ⟨h1, h2, h3⟩ := h
  refine ⟨h1, h2, fun hl => ?_⟩
  obtain ⟨ad, e, h4⟩ := h3 hl
  refine ⟨ad, e, fun j t hj => ?_⟩
  obtain ⟨cs, e1, e2, e3⟩ := h4 j t hj
  rw [hA] at e; cases e
  refine ⟨cs, e1, ?_, fun i u hu => ?_⟩
  · obtain rfl := k53_open e2; exact k53_mk _ _
  · have := e3 i u hu
    rw [← this]
    unfold World.cell?
    have : (Addr.add (⟨b, 0, none⟩ : Addr) (j * k53.sz + i)).block = b := by unfold Addr.add; split <;> rfl
    simp only [this, hk]
theorem FRow.keep {w w' : World} {A : Option Addr} {cap : Nat} {l : List S53} (h : FRow w A cap l) (hk : PKept w w') : FRow w' A cap l := by
  rcases h.lies with e | ⟨b, cs, e, hb⟩
  · subst e
    exact ⟨h.cap, ⟨rfl, by simp, fun q => absurd q (by simp)⟩, .inl rfl⟩
  · have hb' := hk b _ hb (fun c fz q => by cases q) (fun c fz q => by cases q)
    exact ⟨h.cap, C_kept53 h.reads e (by rw [hb, hb']), .inr ⟨b, cs, e, hb'⟩⟩
theorem FRow.of_R {w : World} {base : Nat} {A : Option Addr} {cap : Nat} {l : List S53} (h : Kd.R k53 53 w base (fun _ => True) (.slice A l.length cap) l) : FRow w A cap l := by
  have hR := Kd.R_reads' h
  refine ⟨hR.2.1, hR.2.2, ?_⟩
  by_cases hl : l = []
  · exact .inl hl
  · obtain ⟨g, cap', hv, hb, _, cs, hc⟩ := Kd.R_form h (List.length_pos_iff.2 hl)
    cases hv
    exact .inr ⟨g, cs, rfl, hc⟩
/-- a commit -/
structure Com where
  name : ByteArray
  files : List S53
/-- a commit in a block -/
def ComAt (w : World) (c : Nat) (x : Com) : Prop := ∃ A cap, w.heap[c]? = some (.cells #[.string x.name, .slice A x.files.length cap] 79 (0, 0)) ∧ FRow w A cap x.files
theorem ComAt.keep {w w' : World} {c : Nat} {x : Com} (h : ComAt w c x) (hk : PKept w w') : ComAt w' c x := by
  obtain ⟨A, cap, h1, h2⟩ := h
  exact ⟨A, cap, hk c _ h1 (fun c fz q => by cases q) (fun c fz q => by cases q), h2.keep hk⟩
def nameP (name : ByteArray) (x : S53) : Bool := x.f0.toList == name.toList
/-- a file's text, and whether it is there -/
def findR (l : List S53) (name : ByteArray) : ByteArray × Bool := match l.find? (nameP name) with
  | some x => (x.f1, true)
  | none => (⟨#[]⟩, false)
theorem find_split (name : ByteArray) : ∀ l : List S53, (∃ k, ∃ hk : k < l.length, nameP name l[k] = true ∧ (∀ j, ∀ hj : j < l.length, j < k → nameP name l[j] = false) ∧ findR l name = (l[k].f1, true)) ∨ ((∀ j, ∀ hj : j < l.length, nameP name l[j] = false) ∧ findR l name = (⟨#[]⟩, false))
  | [] => .inr ⟨fun j hj => absurd hj (Nat.not_lt_zero _), rfl⟩
  | x :: l => by
    cases q : nameP name x with
    | true =>
      refine .inl ⟨0, by simp, q, fun j _ h0 => absurd h0 (Nat.not_lt_zero _), ?_⟩
      unfold findR
      rw [List.find?_cons, q]; rfl
    | false =>
      have e : findR (x :: l) name = findR l name := by unfold findR; rw [List.find?_cons, q]
      rw [e]
      rcases find_split name l with ⟨k, hk, h1, h2, h3⟩ | ⟨h1, h2⟩
      · refine .inl ⟨k + 1, by simp; omega, h1, fun j hj h0 => ?_, h3⟩
        cases j with
        | zero => exact q
        | succ j => exact h2 j (by simp at hj; omega) (by omega)
      · refine .inr ⟨fun j hj => ?_, h2⟩
        cases j with
        | zero => exact q
        | succ j => exact h1 j (by simp at hj; omega)
set_option maxRecDepth 100000 in
set_option maxHeartbeats 1000000 in
theorem find_pred (name : ByteArray) (B : Nat) (w : World) (hB : B < w.heap.size) (hcell : w.cell? ⟨B, 0, none⟩ = some (.string name)) :
    PredBelow Try.prog 54 #[.pointer (some ⟨B, 0, none⟩)] (fun x => .agg (enc53 x).toArray) (nameP name) w := fun W x hb => by
  have hc : W.cell? ⟨B, 0, none⟩ = some (.string name) := (hb.cell (p := ⟨B, 0, none⟩) hB).trans hcell
  have hBW : B < W.heap.size := Nat.lt_of_lt_of_le hB hb.size
  have hne : B ≠ W.heap.size := by omega
  have hu := Try.underlying53
  show Calls Try.prog 54 #[.agg #[.string x.f0, .string x.f1], .pointer (some ⟨B, 0, none⟩)] W _
  go_enter Try.func54, Try.ntmps54
  go_wp2
  go_ret
  exact ⟨rfl, hb.alloc hb.size _⟩
theorem C_addr53 {w : World} {A : Option Addr} {l : List S53} (h : Kd.C k53 w A l.length l) (hp : 0 < l.length) :
    ∃ b o, A = some ⟨b, o, none⟩ ∧ b < w.heap.size ∧ ∀ j, j < l.length → ∀ i v, (enc53 l[j]!)[i]? = some v → w.cell? ⟨b, o + j * 2 + i, none⟩ = some v := by
  obtain ⟨⟨b, o, sp⟩, rfl, h0, _⟩ := at_T53 h 0 (by omega) (by omega)
  have hsp : sp = none := by
    cases sp with
    | none => rfl
    | some q =>
      unfold World.cell? at h0
      simp only [Addr.add] at h0
      split at h0 <;> simp at h0
  subst hsp
  have hb : b < w.heap.size := World.block_lt_of_cell? w _ h0
  refine ⟨b, o, rfl, hb, fun j hj i v hv => ?_⟩
  obtain ⟨ad, e, h1, h2⟩ := at_T53 h (j : Int) (by omega) (by omega)
  cases e
  have hr : rd_T53 l (j : Int) = l[j] := by unfold rd_T53; rw [Int.toNat_natCast, List.getD_eq_getElem?_getD, List.getElem?_eq_getElem hj]; rfl
  rw [hr] at h1 h2
  rw [getElem!_pos l j hj] at hv
  simp only [Int.toNat_natCast, Addr.add_lit] at h1 h2
  match i, hv with
  | 0, hv => simp [enc53] at hv; subst hv; exact h1
  | 1, hv => simp [enc53] at hv; subst hv; exact h2
  | i + 2, hv => simp [enc53] at hv
set_option maxRecDepth 100000 in
set_option maxHeartbeats 1000000 in
theorem index53_empty (p : Option Addr) (c g : Nat) (lb : Array Value) (w : World) : Calls Try.prog 53 #[.slice p 0 c, .func (.func g) #[] lb] w fun e w' => e = .returned (.int .i64 (-1)) ∧ Below w.heap.size w w' := by
  go_enter Try.func53, Try.ntmps53
  go_wp2
  go_loopg [5, 8] 0 (fun _ _ s8 wr => s8 = .int .i64 0 ∧ wr = w)
  case atStart => exact ⟨rfl, rfl⟩
  case round =>
    obtain ⟨rfl, rfl⟩ := hrel
    go_wp2
    go_ret
    exact ⟨rfl, Below.refl _ _⟩
theorem index53_calls (name : ByteArray) (A : Option Addr) (cap B : Nat) (l : List S53) (w : World) (hC : Kd.C k53 w A l.length l) (hB : B < w.heap.size) (hcell : w.cell? ⟨B, 0, none⟩ = some (.string name)) (hl : l.length ≤ 10000) (r : Int)
    (hr : (∃ k : Nat, ∃ hk : k < l.length, r = (k : Int) ∧ nameP name l[k] = true ∧ ∀ j, ∀ hj : j < l.length, j < k → nameP name l[j] = false) ∨ (r = -1 ∧ ∀ j, ∀ hj : j < l.length, nameP name l[j] = false)) :
    Calls Try.prog 53 #[.slice A l.length cap, .func (.func 54) #[] #[.pointer (some ⟨B, 0, none⟩)]] w fun e w' => e = .returned (.int .i64 r) ∧ Below w.heap.size w w' := by
  by_cases hp : l.length = 0
  · obtain rfl := List.eq_nil_of_length_eq_zero hp
    rcases hr with ⟨k, hk, _⟩ | ⟨rfl, _⟩
    · exact absurd hk (Nat.not_lt_zero _)
    · exact index53_empty A cap 54 _ w
  · obtain ⟨b, o, rfl, hb, hc⟩ := C_addr53 hC (by omega)
    have eg : ∀ args w, (callFunc 54 args).run Try.prog w = .ok (.enter 54 args) w := enters_of Try.func54 (by kernel_rfl) rfl
    have h := AnyQ.slices_IndexFunc Try.indexFi 2 isAgg53 sizeOf53 enc53 enc53_len (nameP name) 54 #[.pointer (some ⟨B, 0, none⟩)] eg b o l.length cap l w (find_pred name B w hB hcell) (Nat.le_refl _) (by omega) hb hc
    refine h.mono ?_
    rintro e w' ⟨rfl, hb'⟩
    refine ⟨?_, hb'⟩
    rcases hr with ⟨k, hk, rfl, h1, h2⟩ | ⟨rfl, h1⟩
    · rw [Lib.idxBy_hit (fun _ y => nameP name y) l l.length k default hk (Nat.le_refl _) (by rw [getElem!_pos l k hk]; exact h1) (fun j hj => by rw [getElem!_pos l j (by omega)]; exact h2 j (by omega) hj)]
    · rw [Lib.idxBy_miss (fun _ y => nameP name y) l l.length default (fun j hj => by rw [getElem!_pos l j hj]; exact h1 j hj)]
set_option maxRecDepth 100000 in
set_option maxHeartbeats 2000000 in
theorem find_calls (c : Nat) (x : Com) (name : ByteArray) (w : World) (h : ComAt w c x) (hl : x.files.length ≤ 10000) :
    Calls Try.prog 34 #[.pointer (some ⟨c, 0, none⟩), .string name] w fun e w' => e = .returned (.tuple #[.string (findR x.files name).1, .bool (findR x.files name).2]) ∧ Below w.heap.size w w' := by
  obtain ⟨A, cap, hc, hF⟩ := h
  have hlt : c < w.heap.size := (Array.getElem?_eq_some_iff.1 hc).1
  have h1 : w.cell? ⟨c, 1, none⟩ = some (.slice A x.files.length cap) := by unfold World.cell?; rw [hc]; rfl
  have hne : c ≠ w.heap.size := by omega
  have HF := Aside0.mk hF
  have HLT := Aside0.mk hlt
  have HX := Aside0.mk (fun (r : Int) hr => index53_calls name A cap w.heap.size x.files (w.alloc (.cells #[.string name] 9)) (Kd.C_alloc hF.reads _) (by simp) (by simp) hl r hr)
  have hcap := hF.cap
  have H1 := Aside0.mk h1
  clear hc hF h1
  rcases find_split name x.files with ⟨k, hk, q1, q2, q3⟩ | ⟨q1, q2⟩
  · have H := Aside0.mk (HX.out (k : Int) (.inl ⟨k, hk, rfl, q1, q2⟩))
    have Q3 := Aside0.mk q3
    have h1 := H1.out
    have hkc : (k : Int) < (x.files.length : Int) := by omega
    have hk0 : (0 : Int) ≤ (k : Int) := by omega
    clear q1 q2 q3 HX
    go_enter Try.func34, Try.ntmps34
    have hdk : decide ((k : Int) < 0) = false := decide_eq_false (by omega)
    go_wp2_with (go_at_call 53; refine H.out.mono ?_; rintro e w2 ⟨rfl, hb⟩; have HB := Aside0.mk (((Below.refl _ w).alloc (Nat.le_refl _) (.cells #[.string name] 9)).trans (hb.mono (by simp))); clear hb H; have h1' := (HB.out.cell (p := ⟨c, 1, none⟩) HLT.out).trans H1.out; obtain ⟨ad, e0, hx0, hx1⟩ := at_T53 (Kd.C_below HF.out.reads HB.out) (k : Int) hk0 hkc; cases e0; rw [Int.toNat_natCast] at hx0 hx1; rw [show rd_T53 x.files (k : Int) = x.files[k] by unfold rd_T53; rw [Int.toNat_natCast, List.getD_eq_getElem?_getD, List.getElem?_eq_getElem hk]; rfl] at hx0 hx1)
    go_ret2
    exact ⟨by rw [Q3.out]; rfl, HB.out⟩
  · have H := Aside0.mk (HX.out (-1) (.inr ⟨rfl, q1⟩))
    have Q3 := Aside0.mk q2
    have h1 := H1.out
    clear q1 q2 HX
    go_enter Try.func34, Try.ntmps34
    go_wp2_with (go_at_call 53; refine H.out.mono ?_; rintro e w2 ⟨rfl, hb⟩; have HB := Aside0.mk hb; clear hb H)
    go_ret2
    refine ⟨by rw [Q3.out]; rfl, ?_⟩
    exact ((Below.refl _ w).alloc (Nat.le_refl _) _).trans (HB.out.mono (by simp))
end Go.Proofs.Ythimblhfjfngiaa.PText

namespace Go.Proofs.Ythimblhfjfngiaa.PText
open Go.RowKit Go.Lib Go.Sort Go.Proofs.YthimblhfjfngiaaW.PrintWords Go.Proofs.YthimblhfjfngiaaW.PrintLast Go.Proofs.YthimblhfjfngiaaW.PrintMore
set_option linter.unusedVariables false
set_option linter.unusedSimpArgs false
/-- a commit's pointer, in a row -/
def kP : Kd Nat := Kd.scalar (fun c : Nat => Value.pointer (some ⟨c, 0, none⟩)) (fun _ => rfl)
theorem info77 : (Try.prog.info? 77).map (fun i => (i.zero, i.size, i.bytes)) = some (some (.pointer none), 1, 8) := by kernel_rfl
/-- a past: its commits, in their order -/
def PastIs (w : World) (base p : Nat) (L : List Com) : Prop :=
  ∃ (A : Option Addr) (cap : Nat) (ps : List Nat), ps.length = L.length ∧ base ≤ p ∧ w.heap[p]? = some (.cells #[.slice A L.length cap] 76 (0, 0)) ∧ Kd.R kP 77 w base (fun _ => True) (.slice A L.length cap) ps ∧
    ∀ i, ∀ h : i < L.length, ∀ h' : i < ps.length, ComAt w ps[i] L[i]
theorem PastIs.below {w w' : World} {base p : Nat} {L : List Com} (h : PastIs w base p L) (hb : Below w.heap.size w w') : PastIs w' base p L := by
  obtain ⟨A, cap, ps, h1, h2, h3, h4, h5⟩ := h
  exact ⟨A, cap, ps, h1, h2, (hb.block p (Array.getElem?_eq_some_iff.1 h3).1).trans h3, Kd.R_below h4 hb, fun i a b => (h5 i a b).keep (PKept.of_below hb)⟩
theorem PastIs.lt {w : World} {base p : Nat} {L : List Com} (h : PastIs w base p L) : p < w.heap.size := by
  obtain ⟨A, cap, ps, h1, h2, h3, h4, h5⟩ := h
  exact (Array.getElem?_eq_some_iff.1 h3).1
theorem heap_nw (w : World) (o : Obj) : (w.alloc o).heap[w.heap.size]? = some o := by
  show (w.heap.push o)[w.heap.size]? = some o
  exact Array.getElem?_push_size
theorem rd53_at (l : List S53) (i : Nat) (h : i < l.length) : rd_T53 l (i : Int) = l[i] := by
  unfold rd_T53
  rw [Int.toNat_natCast, List.getD_eq_getElem?_getD, List.getElem?_eq_getElem h]; rfl
theorem new_calls (w : World) : Calls Try.prog 32 #[] w fun e w' => e = .returned (.pointer (some ⟨w.heap.size, 0, none⟩)) ∧ PastIs w' w.heap.size w.heap.size [] ∧ Below w.heap.size w w' ∧ PKept w w' := by
  go_enter Try.func32, Try.ntmps32
  go_wp2
  go_ret
  refine ⟨rfl, ⟨none, 0, [], rfl, Nat.le_refl _, heap_nw _ _, Kd.R_nil _ _ _ _ _, fun i h => absurd h (Nat.not_lt_zero _)⟩, (Below.refl _ w).alloc (Nat.le_refl _) _, PKept.of_below ((Below.refl _ w).alloc (Nat.le_refl _) _)⟩
theorem own_ne {w : World} {base p n cap : Nat} {A : Option Addr} {ps : List Nat} {cs : Array Value} {fz : Nat × Nat} (h : Kd.R kP 77 w base (fun _ => True) (.slice A n cap) ps) (hp : w.heap[p]? = some (.cells cs 76 fz)) : some p ≠ (Value.slice A n cap).ownBlock := fun e => by
  obtain ⟨inner, ho⟩ := Kd.R_own h
  obtain ⟨cells, hc⟩ := own_typed ho p e.symm
  rw [hp] at hc
  cases hc
theorem heap_pushed {wr w5 W : World} {p : Nat} {o o1 : Obj} {row : Option Nat} (hp : wr.heap[p]? = some o) (hW : W = wr.alloc o1) (hg : W.grownBy w5 row) (hne : some p ≠ row) : w5.heap[p]? = some o := by
  subst hW
  have hlt := (Array.getElem?_eq_some_iff.1 hp).1
  rw [hg.block p (by simp; omega) hne]
  show (wr.heap.push o1)[p]? = _
  rw [Array.getElem?_push, if_neg (by omega), hp]
/-- a past behind an append to its row and the store of the row -/
theorem past_pushed {wr w5 W : World} {base p cap cap' n5 c5 : Nat} {A A' A5 : Option Addr} {L : List Com} {ps : List Nat} {x : Com}
    (hps : ps.length = L.length) (hbp : base ≤ p) (hbw : base ≤ wr.heap.size) (h3 : wr.heap[p]? = some (.cells #[.slice A L.length cap] 76 (0, 0))) (h4 : Kd.R kP 77 wr base (fun _ => True) (.slice A ps.length cap) ps) (h5 : ∀ i, ∀ h : i < L.length, ∀ h' : i < ps.length, ComAt wr ps[i] L[i])
    (hW : W = wr.alloc (.cells #[.string x.name, .slice A' x.files.length cap'] 79)) (hF : FRow wr A' cap' x.files)
    (ho : Kd.R kP 77 w5 base (fun _ => True) (.slice A5 n5 c5) (ps ++ [wr.heap.size])) (hb : Below base wr w5) (hg : W.grownBy w5 (Value.slice A ps.length cap).ownBlock) :
    PastIs (w5.setCell ⟨p, 0, none⟩ (.slice A5 n5 c5)) base p (L ++ [x]) ∧ Below base wr (w5.setCell ⟨p, 0, none⟩ (.slice A5 n5 c5)) ∧ PKept wr (w5.setCell ⟨p, 0, none⟩ (.slice A5 n5 c5)) := by
  have hp5 := heap_pushed h3 hW hg (own_ne h4 h3)
  have hn5 : n5 = L.length + 1 := by
    have := (Kd.R_reads' ho).1
    rw [List.length_append, List.length_singleton, hps] at this
    exact this
  have hother : ∀ k, k ≠ p → (w5.setCell ⟨p, 0, none⟩ (.slice A5 n5 c5)).heap[k]? = w5.heap[k]? := fun k hk => Below.heap_setCell _ _ _ _ (fun e => hk e)
  have hself : (w5.setCell ⟨p, 0, none⟩ (.slice A5 n5 c5)).heap[p]? = some (.cells #[.slice A5 n5 c5] 76 (0, 0)) := by
    unfold World.setCell
    simp only
    rw [Array.getElem?_modify, if_pos rfl, hp5]
    rfl
  have hk : PKept wr (w5.setCell ⟨p, 0, none⟩ (.slice A5 n5 c5)) := by
    intro k o hko h76 h77
    have hkp : k ≠ p := by
      intro e; subst e
      rw [h3] at hko
      cases hko
      exact h76 _ _ rfl
    rw [hother k hkp]
    refine heap_pushed hko hW hg ?_
    intro e
    obtain ⟨inner, hown⟩ := Kd.R_own h4
    obtain ⟨cells, hc⟩ := own_typed hown k e.symm
    rw [hko] at hc
    cases hc
    exact h77 _ _ rfl
  have hbel : Below base wr (w5.setCell ⟨p, 0, none⟩ (.slice A5 n5 c5)) := by
    refine ⟨hb.os, hb.tape, hb.output, ?_, fun k hkb => ?_⟩
    · have : (w5.setCell ⟨p, 0, none⟩ (.slice A5 n5 c5)).heap.size = w5.heap.size := by unfold World.setCell; simp
      rw [this]; exact hb.size
    · rw [hother k (by omega)]; exact hb.block k hkb
  refine ⟨⟨A5, c5, ps ++ [wr.heap.size], by rw [List.length_append, List.length_append, hps]; rfl, hbp, ?_, ?_, ?_⟩, hbel, hk⟩
  · rw [hself, hn5, List.length_append]; rfl
  · rw [List.length_append, List.length_singleton, ← hn5]
    exact Kd.R_set ho hp5 (fun q hq => by rcases List.mem_cons.1 hq with h | h; subst h; decide; cases h) 0 _
  · intro i h h'
    by_cases hi : i < L.length
    · rw [List.getElem_append_left (by omega), List.getElem_append_left hi]
      exact (h5 i hi (by omega)).keep hk
    · have e1 : i = L.length := by rw [List.length_append, List.length_singleton] at h; omega
      subst e1
      rw [List.getElem_append_right (by omega), List.getElem_append_right (Nat.le_refl _)]
      simp only [hps, Nat.sub_self, List.getElem_cons_zero]
      refine ⟨A', cap', ?_, hF.keep hk⟩
      have hne : wr.heap.size ≠ p := by have := (Array.getElem?_eq_some_iff.1 h3).1; omega
      rw [hother _ hne]
      subst hW
      rw [hg.block wr.heap.size (by simp) ?_]
      · exact heap_nw _ _
      · intro e
        obtain ⟨inner, hown⟩ := Kd.R_own h4
        obtain ⟨cells, hc⟩ := own_typed hown _ e.symm
        have := (Array.getElem?_eq_some_iff.1 hc).1
        omega
/-- what a commit comes to: its number, the error, the commits behind it -/
def commitR (L : List Com) (name : ByteArray) (fs : List S53) : Int × Int × List Com :=
  if L.length = 200 ∨ 60 < fs.length then (0, 2, L) else if ¬ (fnames fs).Nodup then (0, 5, L) else if ∃ x ∈ fs, x.f0.toList = [] then (0, 3, L) else ((L.length : Int), 0, L ++ [⟨name, srtF fs⟩])
set_option maxHeartbeats 8000000 in
set_option maxRecDepth 100000 in
theorem commit_calls (base p : Nat) (L : List Com) (name : ByteArray) (A1 : Option Addr) (c1 : Nat) (fs : List S53) (w : World) (hP : PastIs w base p L) (hC : Kd.C k53 w A1 fs.length fs) (hc : fs.length ≤ c1) (hL : L.length ≤ 200) (hbase : base ≤ w.heap.size) :
    Calls Try.prog 21 #[.pointer (some ⟨p, 0, none⟩), .string name, .slice A1 fs.length c1] w fun e w' => e = .returned (.tuple #[.int .i64 (commitR L name fs).1, .int .i64 (commitR L name fs).2.1]) ∧ PastIs w' base p (commitR L name fs).2.2 ∧ Below base w w' ∧ PKept w w' := by
  have HP := Aside0.mk hP
  have HC := Aside0.mk hC
  have HCC := Aside0.mk hc
  have HBS := Aside0.mk hbase
  obtain ⟨A, cap, ps, hps, hbp, h3, h4, h5⟩ := hP
  have hx0 : w.cell? ⟨p, 0, none⟩ = some (.slice A L.length cap) := by unfold World.cell?; rw [h3]; rfl
  have HX0 := Aside0.mk hx0
  have HPL := Aside0.mk (HP.out.lt)
  have HLL := Aside0.mk hL
  clear hC hc hbase h4 h5 hps h3 hbp
  by_cases g1 : L.length = 200
  · have e : commitR L name fs = (0, 2, L) := by unfold commitR; rw [if_pos (Or.inl g1)]
    rw [e]
    rw [g1] at hx0
    go_enter Try.func21, Try.ntmps21
    go_wp2
    go_ret2
    exact ⟨rfl, HP.out, Below.refl _ _, PKept.refl _⟩
  · by_cases g2 : 60 < fs.length
    · have e : commitR L name fs = (0, 2, L) := by unfold commitR; rw [if_pos (Or.inr g2)]
      have d1 : ((L.length : Int) == 200) = false := beq_eq_false_iff_ne.mpr (by omega)
      have d2 : decide ((60 : Int) < (fs.length : Int)) = true := by simp; omega
      rw [e]
      go_enter Try.func21, Try.ntmps21
      go_wp2
      go_ret2
      exact ⟨rfl, HP.out, Below.refl _ _, PKept.refl _⟩
    · have d1 : ((L.length : Int) == 200) = false := beq_eq_false_iff_ne.mpr (by omega)
      have d2 : decide ((60 : Int) < (fs.length : Int)) = false := by simp; omega
      have H37 := Aside0.mk (clone53_calls A1 c1 fs w HC.out (by omega))
      have H38 := Aside0.mk (fun (A : Option Addr) (cap : Nat) (w2 : World) (h : Kd.R k53 53 w2 w.heap.size (fun _ => True) (.slice A fs.length cap) fs) => sort53_row A cap fs w2 w.heap.size h (by omega))
      have HG1 := Aside0.mk g1
      have HG2 := Aside0.mk g2
      clear g1 g2
      go_enter Try.func21, Try.ntmps21
      go_wp2_with (first
        | (go_at_call 37; refine H37.out.mono ?_; rintro e w1 ⟨v1, rfl, ho, hb⟩; obtain ⟨A2, c2, rfl⟩ := Kd.R_slice ho; have HO1 := Aside0.mk ho; have HB1 := Aside0.mk hb; clear ho hb H37)
        | (go_at_call 38; refine (H38.out _ _ _ HO1.out).mono ?_; rintro e w2 ⟨rfl, d, hdl, hdp, hds, ho, hb⟩; have HO := Aside0.mk ho; have HB := Aside0.mk (HB1.out.trans hb); have HDP := Aside0.mk hdp; have HDS := Aside0.mk hds; have HDL := Aside0.mk hdl; clear ho hb hdp hds hdl H38))
      have HB2 := Aside0.mk (Below.refl w2.heap.size w2)
      rw [← HDL.out]
      have HL60 := Aside0.mk (show d.length ≤ 60 by have := HG2.out; have := HDL.out; omega)
      go_loopg [30] (d.length + 1) (fun kq v30 w' => ∃ i : Nat, v30 = .int .i64 (i : Int) ∧ Aside0 (d.length - i < kq ∧ i ≤ d.length) ∧ Aside0 (Below w2.heap.size w2 w') ∧ Aside0 (∀ j, ∀ h : j + 1 < d.length, j + 1 < i → d[j + 1].f0.toList ≠ d[j].f0.toList))
      case atStart => exact ⟨0, rfl, ⟨by omega, by omega⟩, HB2, ⟨fun j h h0 => absurd h0 (by omega)⟩⟩
      case round =>
        obtain ⟨i, rfl, HI, HBe, HN⟩ := hrel
        obtain ⟨k1, rfl⟩ : ∃ k1, gk = k1 + 1 := ⟨gk - 1, by have := HI.out.1; omega⟩
        have HCd : Aside0 (Kd.C k53 wr A2 d.length d) := ⟨Kd.C_below (by have := (Kd.R_reads' HO.out); rw [← HDL.out] at this; exact this.2.2) HBe.out⟩
        by_cases hlt : i < d.length
        · have hb : decide ((i : Int) < (d.length : Int)) = true := by simp; omega
          have hb2 : decide ((0 : Int) ≤ (i : Int)) = true := by simp
          have p0 : (0 : Int) ≤ (i : Int) := by omega
          have q0 : (i : Int) < (d.length : Int) := by omega
          obtain ⟨ad, e0, hx, hy⟩ := at_T53 HCd.out (i : Int) p0 q0
          cases e0
          rw [Int.toNat_natCast, rd53_at d i hlt] at hx hy
          by_cases hi0 : i = 0
          · have hd0 : decide ((0 : Int) < (i : Int)) = false := by simp; omega
            have hd1 : (0 < i) = False := eq_false (by omega)
            have hd2 : decide (0 < i) = false := decide_eq_false (by omega)
            have HN0 : Aside0 (∀ j, ∀ h : j + 1 < d.length, j + 1 < i + 1 → d[j + 1].f0.toList ≠ d[j].f0.toList) := ⟨fun j h h0 => absurd h0 (by omega)⟩
            generalize d[i] = x at *
            clear hi0
            go_wp2_with fail
            go_big_quiet (fail)
            go_wp2_with fail
            go_roundg k1
            case measure => have := HI.out.1; omega
            case rel => exact ⟨i + 1, congrArg (Value.int .i64) (nx i (by have := HL60.out; omega)), ⟨by have := HI.out.1; omega, by omega⟩, ⟨pw_below_drewN (HBe.out.alloc HBe.out.size _) _⟩, HN0⟩
          · obtain ⟨j, hj⟩ : ∃ j : Nat, j + 1 = i := ⟨i - 1, by omega⟩
            have hd0 : decide ((0 : Int) < (i : Int)) = true := by simp; omega
            have hd1 : (0 < i) = True := eq_true (by omega)
            have hd2 : decide (0 < i) = true := decide_eq_true (by omega)
            have hjn : j < d.length := by omega
            have hi60 : i ≤ 60 := by have := HL60.out; omega
            have hw : wrap64 ((i : Int) - 1) = (j : Int) := by rw [w64 (by omega) (by omega)]; omega
            obtain ⟨ad', e0, hz, -⟩ := at_T53 HCd.out (j : Int) (by omega) (by omega)
            cases e0
            rw [Int.toNat_natCast, rd53_at d j hjn] at hz
            have HNS : Aside0 (d[i].f0.toList ≠ d[j].f0.toList → ∀ j, ∀ h : j + 1 < d.length, j + 1 < i + 1 → d[j + 1].f0.toList ≠ d[j].f0.toList) := ⟨fun q j' h h0 => by
              by_cases e : j' + 1 = i
              · subst e
                have e2 : j = j' := by omega
                subst e2
                exact q
              · exact HN.out j' h (by omega)⟩
            have HDU : Aside0 (d[i].f0.toList = d[j].f0.toList → ¬ NoNext d) := ⟨fun q hn => by subst hj; exact hn j (by omega) q⟩
            generalize d[i] = x at *
            generalize d[j] = y at *
            have hw2 : IntKind.i64.wrap ((i : Int) - 1) = (j : Int) := (i64_w _).trans hw
            have hz' : (wr.alloc (.cells #[.string x.f0, .string x.f1] 53)).cell? (ad.add (j * 2)) = some (.string y.f0) := (World.cell?_alloc_some wr _ _ (by rw [hz]; rfl)).trans hz
            have hj0 : (0 : Int) ≤ (j : Int) := by omega
            have hj1 : (j : Int) < (d.length : Int) := by omega
            by_cases heq : x.f0.toList = y.f0.toList
            · have hbq : (x.f0.toList == y.f0.toList) = true := beq_iff_eq.2 heq
              have hND : ¬ (fnames fs).Nodup := fun q => HDU.out heq (noNext_of ((perm_names HDP.out).nodup_iff.2 q))
              have e : commitR L name fs = (0, 5, L) := by unfold commitR; rw [if_neg (by have := HG1.out; have := HG2.out; omega), if_pos hND]
              have HE := Aside0.mk e
              clear heq hND e
              go_wp2_with fail
              go_big_quiet (fail)
              have HBZ := Aside0.mk (HB.out.trans ((pw_below_drewN (HBe.out.alloc HBe.out.size (.cells #[.string x.f0, .string x.f1] 53)) nq).mono HB.out.size))
              go_wp2_with fail
              go_ret2
              exact ⟨by rw [HE.out]; rfl, by rw [HE.out]; exact HP.out.below HBZ.out, HBZ.out.mono HBS.out, PKept.of_below HBZ.out⟩
            · have hbq : (x.f0.toList == y.f0.toList) = false := beq_eq_false_iff_ne.2 heq
              have HN2 := Aside0.mk (HNS.out heq)
              clear heq
              go_wp2_with fail
              go_big_quiet (fail)
              go_wp2_with fail
              go_roundg k1
              case measure => have := HI.out.1; omega
              case rel => exact ⟨i + 1, congrArg (Value.int .i64) (by first | exact nx i (by omega) | omega), ⟨by have := HI.out.1; omega, by omega⟩, ⟨pw_below_drewN (HBe.out.alloc HBe.out.size _) _⟩, HN2⟩
        · have hb : decide ((i : Int) < (d.length : Int)) = false := by simp; omega
          have HBZ := Aside0.mk (HB.out.trans (HBe.out.mono HB.out.size))
          have hND : (fnames fs).Nodup := (perm_names HDP.out).nodup_iff.1 (nodup_of HDS.out (fun j h => HN.out j h (by omega)))
          have HND := Aside0.mk hND
          have hsrt : d = srtF fs := srt_eq HDP.out HDS.out hND
          have hfe := first_empty HDP.out HDS.out
          have hx0' := (HBZ.out.cell (p := ⟨p, 0, none⟩) HPL.out).trans HX0.out
          have HSR := Aside0.mk hsrt
          clear hND hsrt HN
          by_cases hd0 : d.length = 0
          · have hd1 : decide ((0 : Int) < (d.length : Int)) = false := decide_eq_false (by omega)
            have hd2 : (0 < d.length) = False := eq_false (by omega)
            have hd3 : decide (0 < d.length) = false := decide_eq_false (by omega)
            have hne : ¬ ∃ hd : 0 < d.length, d[0].f0.toList = [] := fun ⟨q1, _⟩ => by omega
            have e : commitR L name fs = ((L.length : Int), 0, L ++ [⟨name, srtF fs⟩]) := by unfold commitR; rw [if_neg (by have := HG1.out; have := HG2.out; omega), if_neg (fun q => q HND.out), if_neg (fun q => hne (hfe.2 q))]
            have HE := Aside0.mk e
            have HD0 := Aside0.mk hd0
            clear e hfe hne hd0
            have HPR := Aside0.mk (HP.out.below HBZ.out)
            obtain ⟨A3, cap3, ps, q1, q2, q3, q4, q5⟩ := HPR.out
            have hA3 : Value.slice A3 L.length cap3 = Value.slice A L.length cap := by
              have := hx0'
              unfold World.cell? at this
              rw [q3] at this
              exact Option.some.inj this
            cases hA3
            have HQ1 := Aside0.mk q1
            have HQ4 := Aside0.mk q4
            have HQ := Aside0.mk (⟨q2, q3, q5⟩ : base ≤ p ∧ wr.heap[p]? = some (.cells #[.slice A L.length cap] 76 (0, 0)) ∧ ∀ i, ∀ h : i < L.length, ∀ h' : i < ps.length, ComAt wr ps[i] L[i])
            have hplt : p < wr.heap.size := by have := HBZ.out.size; have := HPL.out; omega
            have HPW := Aside0.mk hplt
            have HBR : Aside0 (Below base w wr) := ⟨HBZ.out.mono HBS.out⟩
            have HBW := Aside0.mk (show base ≤ wr.heap.size by have := HBZ.out.size; have := HBS.out; omega)
            rw [← q1] at hx0'
            clear q1 q2 q3 q4 q5
            go_wp2_with (at_builtin; go_loud (refine Kd.R_append kP (w0 := wr) base rfl (.tmp 63) (.tmp 68) 74 77 (.pointer none) 8 rfl Try.underlying74 info77 rfl (by decide) (by omega) _ ps wr.heap.size [.pointer (some ⟨wr.heap.size, 0, none⟩)] (fun _ => True) (fun _ => False) rfl (by first | rfl | (simp; done) | (go_simp; done)) rfl (fun _ hk => hk.elim) (fun _ _ => trivial) (Kd.R_alloc (by rw [HQ1.out]; exact HQ4.out) _) ((Below.refl base wr).alloc HBW.out _) (by have := HBW.out; simp; omega) (by have := HQ1.out; have := HLL.out; omega) ?_); intro v1 w5 ho hb hg hat; go_loud (obtain ⟨A5, c5, rfl⟩ := Kd.R_slice ho; have hg' : (wr.alloc (.cells #[.string name, .slice A2 d.length c2] 79)).grownBy w5 (Value.slice A ps.length cap).ownBlock := hg; have hp5 := heap_pushed HQ.out.2.1 rfl hg' (own_ne (by rw [HQ1.out]; exact HQ4.out) HQ.out.2.1); have hc5 : w5.cell? ⟨p, 0, none⟩ = some (.slice A L.length cap) := (by unfold World.cell?; rw [hp5]; rfl); have hf5 : w5.frozen? ⟨p, 0, none⟩ = false := (by simp [World.frozen?, hp5])); have HO5 := Aside0.mk ho; have HB5 := Aside0.mk hb; have HG5 := Aside0.mk hg'; clear ho hb hg hg' hat hp5)
            have HF : Aside0 (FRow wr A2 c2 (srtF fs)) := ⟨by rw [← HSR.out]; exact (FRow.of_R (by have := HO.out; rw [← HDL.out] at this; exact this)).keep (PKept.of_below HBe.out)⟩
            have HFIN := Aside0.mk (past_pushed (x := ⟨name, srtF fs⟩) (A' := A2) (cap' := c2) HQ1.out HQ.out.1 HBW.out HQ.out.2.1 (by rw [HQ1.out]; exact HQ4.out) HQ.out.2.2 (by rw [show (⟨name, srtF fs⟩ : Com).files.length = d.length by rw [HSR.out]]) HF.out HO5.out HB5.out HG5.out)
            have hlen5 : (ps ++ [wr.heap.size]).length = L.length + 1 := by rw [List.length_append, HQ1.out]; rfl
            go_ret2
            have HF2 := HFIN.out
            rw [show (ps ++ [wr.heap.size]).length = ps.length + 1 by rw [List.length_append]; rfl] at HF2
            refine ⟨?_, by rw [HE.out]; exact HF2.1, HBR.out.trans HF2.2.1, (PKept.of_below HBZ.out).trans HF2.2.2⟩
            rw [HE.out]
            have hw : wrap64 (ps.length : Int) = (L.length : Int) := by rw [HQ1.out, w64 (by omega) (by have := HLL.out; omega)]
            show Ending.returned (.tuple #[.int .i64 (wrap64 (ps.length : Int)), .int .i64 0]) = _
            rw [hw]
          · obtain ⟨bb, oo, e0, hbl, hcell⟩ := C_addr53 HCd.out (by omega)
            have hx : wr.cell? ⟨bb, oo, none⟩ = some (.string (d[0]'(by omega)).f0) := by
              have := hcell 0 (by omega) 0 (.string (d[0]'(by omega)).f0) (by rw [getElem!_pos d 0 (by omega)]; rfl)
              simpa using this
            clear hcell
            cases e0
            have hd1 : (0 : Int) < (d.length : Int) := by omega
            have hd2 : decide ((0 : Int) < (d.length : Int)) = true := decide_eq_true hd1
            by_cases hem : (d[0]'(by omega)).f0.toList = []
            · have e : commitR L name fs = (0, 3, L) := by unfold commitR; rw [if_neg (by have := HG1.out; have := HG2.out; omega), if_neg (fun q => q HND.out), if_pos (hfe.1 ⟨by omega, hem⟩)]
              have HE := Aside0.mk e
              have hbq : ((d[0]'(by omega)).f0.toList == []) = true := beq_iff_eq.2 hem
              generalize d[0]'(by omega) = x at *
              clear e hem hfe
              go_wp2_with fail
              go_ret2
              exact ⟨by rw [HE.out]; rfl, by rw [HE.out]; exact HP.out.below HBZ.out, HBZ.out.mono HBS.out, PKept.of_below HBZ.out⟩
            · have e : commitR L name fs = ((L.length : Int), 0, L ++ [⟨name, srtF fs⟩]) := by unfold commitR; rw [if_neg (by have := HG1.out; have := HG2.out; omega), if_neg (fun q => q HND.out), if_neg (fun q => hem (by obtain ⟨_, q2⟩ := hfe.2 q; exact q2))]
              have HE := Aside0.mk e
              have hbq : ((d[0]'(by omega)).f0.toList == []) = false := beq_eq_false_iff_ne.2 hem
              generalize d[0]'(by omega) = x at *
              clear e hem hfe
              have HPR := Aside0.mk (HP.out.below HBZ.out)
              obtain ⟨A3, cap3, ps, q1, q2, q3, q4, q5⟩ := HPR.out
              have hA3 : Value.slice A3 L.length cap3 = Value.slice A L.length cap := by
                have := hx0'
                unfold World.cell? at this
                rw [q3] at this
                exact Option.some.inj this
              cases hA3
              have HQ1 := Aside0.mk q1
              have HQ4 := Aside0.mk q4
              have HQ := Aside0.mk (⟨q2, q3, q5⟩ : base ≤ p ∧ wr.heap[p]? = some (.cells #[.slice A L.length cap] 76 (0, 0)) ∧ ∀ i, ∀ h : i < L.length, ∀ h' : i < ps.length, ComAt wr ps[i] L[i])
              have hplt : p < wr.heap.size := by have := HBZ.out.size; have := HPL.out; omega
              have HPW := Aside0.mk hplt
              have HBR : Aside0 (Below base w wr) := ⟨HBZ.out.mono HBS.out⟩
              have HBW := Aside0.mk (show base ≤ wr.heap.size by have := HBZ.out.size; have := HBS.out; omega)
              rw [← q1] at hx0'
              clear q1 q2 q3 q4 q5
              go_wp2_with (at_builtin; go_loud (refine Kd.R_append kP (w0 := wr) base rfl (.tmp 63) (.tmp 68) 74 77 (.pointer none) 8 rfl Try.underlying74 info77 rfl (by decide) (by omega) _ ps wr.heap.size [.pointer (some ⟨wr.heap.size, 0, none⟩)] (fun _ => True) (fun _ => False) rfl (by first | rfl | (simp; done) | (go_simp; done)) rfl (fun _ hk => hk.elim) (fun _ _ => trivial) (Kd.R_alloc (by rw [HQ1.out]; exact HQ4.out) _) ((Below.refl base wr).alloc HBW.out _) (by have := HBW.out; simp; omega) (by have := HQ1.out; have := HLL.out; omega) ?_); intro v1 w5 ho hb hg hat; go_loud (obtain ⟨A5, c5, rfl⟩ := Kd.R_slice ho; have hg' : (wr.alloc (.cells #[.string name, .slice (some ⟨bb, oo, none⟩) d.length c2] 79)).grownBy w5 (Value.slice A ps.length cap).ownBlock := hg; have hp5 := heap_pushed HQ.out.2.1 rfl hg' (own_ne (by rw [HQ1.out]; exact HQ4.out) HQ.out.2.1); have hc5 : w5.cell? ⟨p, 0, none⟩ = some (.slice A L.length cap) := (by unfold World.cell?; rw [hp5]; rfl); have hf5 : w5.frozen? ⟨p, 0, none⟩ = false := (by simp [World.frozen?, hp5])); have HO5 := Aside0.mk ho; have HB5 := Aside0.mk hb; have HG5 := Aside0.mk hg'; clear ho hb hg hg' hat hp5)
              have HF : Aside0 (FRow wr (some ⟨bb, oo, none⟩) c2 (srtF fs)) := ⟨by rw [← HSR.out]; exact (FRow.of_R (by have := HO.out; rw [← HDL.out] at this; exact this)).keep (PKept.of_below HBe.out)⟩
              have HFIN := Aside0.mk (past_pushed (x := ⟨name, srtF fs⟩) (A' := some ⟨bb, oo, none⟩) (cap' := c2) HQ1.out HQ.out.1 HBW.out HQ.out.2.1 (by rw [HQ1.out]; exact HQ4.out) HQ.out.2.2 (by rw [show (⟨name, srtF fs⟩ : Com).files.length = d.length by rw [HSR.out]]) HF.out HO5.out HB5.out HG5.out)
              have hlen5 : (ps ++ [wr.heap.size]).length = L.length + 1 := by rw [List.length_append, HQ1.out]; rfl
              go_ret2
              have HF2 := HFIN.out
              rw [show (ps ++ [wr.heap.size]).length = ps.length + 1 by rw [List.length_append]; rfl] at HF2
              refine ⟨?_, by rw [HE.out]; exact HF2.1, HBR.out.trans HF2.2.1, (PKept.of_below HBZ.out).trans HF2.2.2⟩
              rw [HE.out]
              have hw : wrap64 (ps.length : Int) = (L.length : Int) := by rw [HQ1.out, w64 (by omega) (by have := HLL.out; omega)]
              show Ending.returned (.tuple #[.int .i64 (wrap64 (ps.length : Int)), .int .i64 0]) = _
              rw [hw]
end Go.Proofs.Ythimblhfjfngiaa.PText

