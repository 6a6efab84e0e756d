/- PastNil holds: for every number and every text the statement answers true. Part 16 of 19. -/
import Derived.Test.YthimblhfjfngiaaGreatBNilO
import Derived.Lib.OthersKept
import Derived.BigCall
import Derived.Lib.Hide
namespace Go.Proofs.YthimblhfjfngiaaGreat.PText
open Go.RowKit Go.Proofs.YthimblhfjfngiaaGreatW.PrintWords Go.Proofs.YthimblhfjfngiaaGreatW.PrintLast Go.Proofs.YthimblhfjfngiaaGreatW.PrintMore
set_option linter.unusedVariables false
set_option linter.unusedSimpArgs false
theorem heap_newM (w : World) (o : Obj) : (w.alloc o).drew.heap[w.heap.size]? = some o := by
  show (w.heap.push o)[w.heap.size]? = some o
  exact Array.getElem?_push_size
set_option maxHeartbeats 4000000 in
set_option maxRecDepth 100000 in
theorem grow_calls (n : Nat) (w : World) (hn : n ≤ 20000) :
    Calls Tryz.prog 103 #[.slice none 0 0, .int .i64 (n : Int)] w fun e w' => ∃ v, e = .returned v ∧ w'.ownsRow w.heap.size 91 3 v 0 [] ∧ Below w.heap.size w w' := by
  by_cases h0 : n = 0
  · subst h0
    go_enter Tryz.func103, Tryz.ntmps103
    go_wp2
    go_ret
    exact ⟨_, rfl, World.ownsRow_nil _ _ _ _, Below.refl _ _⟩
  · have hp : (0 : Int) < (n : Int) := by omega
    have hb : decide ((n : Int) < 0) = false := decide_eq_false (by omega)
    have hb2 : decide ((0 : Int) < (n : Int)) = true := decide_eq_true hp
    have hby : Tryz.t91.bytes = 32 := by kernel_rfl
    have hnx : Builtin.nextslicecap n 0 = n := by unfold Builtin.nextslicecap; rw [if_pos (by omega)]
    go_enter Tryz.func103, Tryz.ntmps103
    go_wp2
    all_goals (try (exfalso; simp only [hby, hnx] at *; omega))
    go_ret
    refine ⟨_, rfl, ⟨rfl, .inr ⟨w.heap.size, _, _, rfl, Nat.le_refl _, heap_newM w _, Nat.zero_le _, ?_, ?_, by simp⟩⟩, ((Below.refl _ w).alloc (Nat.le_refl _) _).drew⟩
    · show n + _ % (2 ^ 63 - n) ≤ maxLen
      have := Nat.mod_lt (w.tape w.drawn (Question.appendCap n 0 91)) (show 0 < 2 ^ 63 - n by omega)
      unfold maxLen
      omega
    · rw [Array.size_append, size_zeroCells, size_zeroCells]
      show n * 3 + (n + _ % (2 ^ 63 - n) - n) * 3 = (n + _ % (2 ^ 63 - n)) * 3
      omega
theorem grow_two (a b : Nat) (w : World) (hn : a + b ≤ 20000) :
    Calls Tryz.prog 103 #[.slice none 0 0, .int .i64 ((a : Int) + (b : Int))] w fun e w' => ∃ v, e = .returned v ∧ w'.ownsRow w.heap.size 91 3 v 0 [] ∧ Below w.heap.size w w' := by
  have h : ((a : Int) + (b : Int)) = ((a + b : Nat) : Int) := by omega
  rw [h]
  exact grow_calls (a + b) w hn
set_option maxHeartbeats 4000000 in
set_option maxRecDepth 100000 in
theorem concat_calls (B : Nat) (A1 : Option Addr) (c1 : Nat) (l1 : List S91) (A2 : Option Addr) (c2 : Nat) (l2 : List S91) (w : World) (hlen : l1.length + l2.length ≤ 20000)
    (hC1 : Kd.C k91 w A1 l1.length l1) (hC2 : Kd.C k91 w A2 l2.length l2) (h0 : w.cell? ⟨B, 0, none⟩ = some (.slice A1 l1.length c1)) (h1 : w.cell? ⟨B, 1, none⟩ = some (.slice A2 l2.length c2)) :
    Calls Tryz.prog 73 #[.slice (some ⟨B, 0, none⟩) 2 2] w fun e w' => ∃ v, e = .returned v ∧ Kd.R k91 91 w' w.heap.size (fun _ => True) v (l1 ++ l2) ∧ Below w.heap.size w w' := by
  have HC1 := Aside0.mk hC1
  have HC2 := Aside0.mk hC2
  have HL := Aside0.mk hlen
  have hBlt : B < w.heap.size := World.block_lt_of_cell? w _ h0
  have s1 : IntKind.i64.wrap ((l1.length : Int)) = (l1.length : Int) := (i64_w _).trans (w64 (by omega) (by omega))
  have s2 : IntKind.i64.wrap ((l1.length : Int) + (l2.length : Int)) = (l1.length : Int) + (l2.length : Int) := (i64_w _).trans (w64 (by omega) (by omega))
  have s3 : wrap64 ((l1.length : Int) + (l2.length : Int)) = (l1.length : Int) + (l2.length : Int) := w64 (by omega) (by omega)
  have b1 : decide ((l1.length : Int) < 0) = false := decide_eq_false (by omega)
  have b2 : decide ((l1.length : Int) + (l2.length : Int) < 0) = false := decide_eq_false (by omega)
  clear hC1 hC2 hlen
  go_enter Tryz.func73, Tryz.ntmps73
  go_wp2_with fail
  go_loopg [3, 11] 3 (fun kq v3 v11 wq => (v3 = .int .i64 0 ∧ v11 = .int .i64 0 ∧ wq = w ∧ Aside0 (kq = 3)) ∨ (v3 = .int .i64 (l1.length : Int) ∧ v11 = .int .i64 1 ∧ wq = w ∧ Aside0 (kq = 2)) ∨ (v3 = .int .i64 ((l1.length : Int) + (l2.length : Int)) ∧ v11 = .int .i64 2 ∧ wq = w))
  case atStart => exact Or.inl ⟨rfl, rfl, rfl, ⟨rfl⟩⟩
  case round =>
    rcases hrel with ⟨rfl, rfl, rfl, hk⟩ | ⟨rfl, rfl, rfl, hk⟩ | ⟨rfl, rfl, hw⟩
    · obtain ⟨k1, rfl⟩ : ∃ k1, gk = k1 + 1 := ⟨2, hk.out⟩
      go_wp2_with fail
      go_roundg k1
      case measure => have := hk.out; omega
      case rel => exact Or.inr (Or.inl ⟨rfl, rfl, rfl, ⟨by have := hk.out; omega⟩⟩)
    · obtain ⟨k1, rfl⟩ : ∃ k1, gk = k1 + 1 := ⟨1, hk.out⟩
      go_wp2_with fail
      go_roundg k1
      case measure => have := hk.out; omega
      case rel => exact Or.inr (Or.inr ⟨rfl, rfl, rfl⟩)
    · have hw' := hw.symm
      subst hw'
      go_wp2_with (go_at_call 103; refine (grow_two l1.length l2.length _ HL.out).mono ?_; rintro e w2 ⟨v, rfl, hown, hb⟩; have HO : Aside0 (Kd.R k91 91 w2 w.heap.size (fun _ => True) v []) := ⟨⟨fun _ _ => trivial, [], hown, Reps.none _ _⟩⟩; have HB := Aside0.mk hb; clear hown hb)
      go_loopg [6, 27] 3 (fun kq v6 v27 wq => (v27 = .int .i64 0 ∧ Aside0 (kq = 3) ∧ Aside0 (Kd.R k91 91 wq w.heap.size (fun _ => True) v6 []) ∧ Aside0 (Below w.heap.size w wq)) ∨ (v27 = .int .i64 1 ∧ Aside0 (kq = 2) ∧ Aside0 (Kd.R k91 91 wq w.heap.size (fun _ => True) v6 l1) ∧ Aside0 (Below w.heap.size w wq)) ∨ (v27 = .int .i64 2 ∧ Aside0 (Kd.R k91 91 wq w.heap.size (fun _ => True) v6 (l1 ++ l2)) ∧ Aside0 (Below w.heap.size w wq)))
      case atStart => exact Or.inl ⟨rfl, ⟨rfl⟩, HO, HB⟩
      case round =>
        rcases hrel with ⟨rfl, hk2, HO2, HB2⟩ | ⟨rfl, hk2, HO2, HB2⟩ | ⟨rfl, HO2, HB2⟩
        · obtain ⟨k2, rfl⟩ : ∃ k2, gk = k2 + 1 := ⟨2, hk2.out⟩
          have g0 := (HB2.out.cell (p := ⟨B, 0, none⟩) hBlt).trans h0
          go_wp2_with (at_builtin; refine Kd.R_append_rows k91 (w0 := w) w.heap.size rfl (.tmp 31) (.tmp 32) 68 91 (.agg #[(.int .i64 0), (.int .i64 0), (.string ⟨#[]⟩)]) 32 rfl Tryz.underlying68 info91 rfl (by decide) (by omega) _ ([] : List S91) l1 _ _ _ (fun _ => True) (fun _ => False) rfl rfl HO2.out (Kd.C_below HC1.out HB2.out) (fun _ _ h => h) (fun _ h => h.elim) (fun _ _ => trivial) HB2.out HB2.out.size (by have := HL.out; simp; omega) ?_; intro v1 w3 ho hb hg hat; have HO3 := Aside0.mk ho; have HB3 := Aside0.mk hb; clear ho hb hg hat)
          go_roundg k2
          case measure => have := hk2.out; omega
          case rel => exact Or.inr (Or.inl ⟨rfl, ⟨by have := hk2.out; omega⟩, HO3, HB3⟩)
        · obtain ⟨k2, rfl⟩ : ∃ k2, gk = k2 + 1 := ⟨1, hk2.out⟩
          have g1 := (HB2.out.cell (p := ⟨B, 1, none⟩) hBlt).trans h1
          go_wp2_with (at_builtin; refine Kd.R_append_rows k91 (w0 := w) w.heap.size rfl (.tmp 31) (.tmp 32) 68 91 (.agg #[(.int .i64 0), (.int .i64 0), (.string ⟨#[]⟩)]) 32 rfl Tryz.underlying68 info91 rfl (by decide) (by omega) _ l1 l2 _ _ _ (fun _ => True) (fun _ => False) rfl rfl HO2.out (Kd.C_below HC2.out HB2.out) (fun _ _ h => h) (fun _ h => h.elim) (fun _ _ => trivial) HB2.out HB2.out.size (by have := HL.out; simp; omega) ?_; intro v1 w3 ho hb hg hat; have HO3 := Aside0.mk ho; have HB3 := Aside0.mk hb; clear ho hb hg hat)
          go_roundg k2
          case measure => have := hk2.out; omega
          case rel => exact Or.inr (Or.inr ⟨rfl, HO3, HB3⟩)
        · go_wp2_with fail
          go_ret
          exact ⟨_, rfl, HO2.out, HB2.out⟩
/-- what text.Merge answers -/
def mergeR (n : Nat) (l1 l2 : List S91) : List S91 × Int :=
  if fineE n l1 ≠ 0 then ([], fineE n l1) else if fineE n l2 ≠ 0 then ([], fineE n l2) else if fineE n (l1 ++ l2) ≠ 0 then ([], fineE n (l1 ++ l2)) else (Tx.ord eltS (l1 ++ l2), 0)
def text_Merge.f (a0 : ByteArray) (l1 l2 : List S91) : Option (List S91 × Int) := if l1.length + l2.length ≤ 20000 then some (mergeR a0.size l1 l2) else none
theorem concat_la (B : Nat) (A1 : Option Addr) (c1 : Nat) (l1 : List S91) (A2 : Option Addr) (c2 : Nat) (l2 la : List S91) (hla : la = l1 ++ l2) (w : World) (hlen : l1.length + l2.length ≤ 20000)
    (hC1 : Kd.C k91 w A1 l1.length l1) (hC2 : Kd.C k91 w A2 l2.length l2) (h0 : w.cell? ⟨B, 0, none⟩ = some (.slice A1 l1.length c1)) (h1 : w.cell? ⟨B, 1, none⟩ = some (.slice A2 l2.length c2)) :
    Calls Tryz.prog 73 #[.slice (some ⟨B, 0, none⟩) 2 2] w fun e w' => ∃ v, e = .returned v ∧ Kd.R k91 91 w' w.heap.size (fun _ => True) v la ∧ Below w.heap.size w w' := by
  subst hla
  exact concat_calls B A1 c1 l1 A2 c2 l2 w hlen hC1 hC2 h0 h1
set_option maxHeartbeats 8000000 in
set_option maxRecDepth 100000 in
theorem text_Merge.calls (a0 : ByteArray) (A1 : Option Addr) (c1 : Nat) (l1 : List S91) (A2 : Option Addr) (c2 : Nat) (l2 : List S91) (r1 : List S91) (r2 : Int) (w : World) (hr1 : Kd.C k91 w A1 l1.length l1) (hc1 : l1.length ≤ c1) (hr2 : Kd.C k91 w A2 l2.length l2) (hc2 : l2.length ≤ c2) (h : text_Merge.f a0 l1 l2 = some (r1, r2)) :
    Calls Tryz.prog 61 #[.string a0, .slice A1 l1.length c1, .slice A2 l2.length c2] w fun e w' => ∃ v0_ : Value, e = .returned (.tuple #[v0_, .int .i64 r2]) ∧ Kd.R k91 91 w' w.heap.size (fun _ => True) v0_ r1 ∧ Below w.heap.size w w' := by
  unfold text_Merge.f at h
  by_cases hlen : l1.length + l2.length ≤ 20000
  · rw [if_pos hlen] at h
    have h' := Option.some.inj h
    have HR := Aside0.mk h'
    have HC1 := Aside0.mk hr1
    have HC2 := Aside0.mk hr2
    have HL1 := Aside0.mk hc1
    have HL2 := Aside0.mk hc2
    have HL := Aside0.mk hlen
    clear h h' hr1 hr2 hc1 hc2 hlen
    obtain ⟨la, hla⟩ : ∃ la, la = l1 ++ l2 := ⟨_, rfl⟩
    have HLA := Aside0.mk hla
    have hR0 := HR.out
    unfold mergeR at hR0
    rw [← hla] at hR0
    clear HR
    have HR := Aside0.mk hR0
    clear hR0 hla
    go_enter Tryz.func61, Tryz.ntmps61
    go_wp2_with (go_at_call 73; refine (concat_la w.heap.size A1 c1 l1 A2 c2 l2 la HLA.out _ HL.out (Kd.C_alloc HC1.out _) (Kd.C_alloc HC2.out _) (by simp) (by simp)).mono ?_; rintro e w2 ⟨v, rfl, ho, hb⟩; obtain ⟨A3, c3, rfl⟩ := Kd.R_slice ho; have HO := Aside0.mk ho; have HB := Aside0.mk hb; clear ho hb)
    have HBW : Aside0 (Below w.heap.size w w2) := ⟨((Below.refl _ w).alloc (Nat.le_refl _) _).trans (HB.out.mono (by simp))⟩
    have hR3 := Kd.R_reads' HO.out
    have HC3 : Aside0 (Kd.C k91 (w2.alloc (.cells #[.slice A1 l1.length c1, .slice A2 l2.length c2, .slice A3 la.length c3] 68)) A3 la.length la) := ⟨Kd.C_alloc hR3.2.2 _⟩
    have HL3 : Aside0 (la.length ≤ c3) := ⟨hR3.2.1⟩
    have HD1 : Aside0 (Kd.C k91 (w2.alloc (.cells #[.slice A1 l1.length c1, .slice A2 l2.length c2, .slice A3 la.length c3] 68)) A1 l1.length l1) := ⟨Kd.C_alloc (Kd.C_below HC1.out HBW.out) _⟩
    have HD2 : Aside0 (Kd.C k91 (w2.alloc (.cells #[.slice A1 l1.length c1, .slice A2 l2.length c2, .slice A3 la.length c3] 68)) A2 l2.length l2) := ⟨Kd.C_alloc (Kd.C_below HC2.out HBW.out) _⟩
    clear HO HB hR3 HC1 HC2
    go_loopg [21] 4 (fun kq v21 wq => (v21 = .int .i64 0 ∧ Aside0 (kq = 4) ∧ Aside0 (Below (w2.alloc (.cells #[.slice A1 l1.length c1, .slice A2 l2.length c2, .slice A3 la.length c3] 68)).heap.size (w2.alloc (.cells #[.slice A1 l1.length c1, .slice A2 l2.length c2, .slice A3 la.length c3] 68)) wq)) ∨ (v21 = .int .i64 1 ∧ Aside0 (kq = 3) ∧ Aside0 (fineE a0.size l1 = 0) ∧ Aside0 (Below (w2.alloc (.cells #[.slice A1 l1.length c1, .slice A2 l2.length c2, .slice A3 la.length c3] 68)).heap.size (w2.alloc (.cells #[.slice A1 l1.length c1, .slice A2 l2.length c2, .slice A3 la.length c3] 68)) wq)) ∨ (v21 = .int .i64 2 ∧ Aside0 (kq = 2) ∧ Aside0 (fineE a0.size l1 = 0) ∧ Aside0 (fineE a0.size l2 = 0) ∧ Aside0 (Below (w2.alloc (.cells #[.slice A1 l1.length c1, .slice A2 l2.length c2, .slice A3 la.length c3] 68)).heap.size (w2.alloc (.cells #[.slice A1 l1.length c1, .slice A2 l2.length c2, .slice A3 la.length c3] 68)) wq)) ∨ (v21 = .int .i64 3 ∧ Aside0 (fineE a0.size l1 = 0) ∧ Aside0 (fineE a0.size l2 = 0) ∧ Aside0 (fineE a0.size la = 0) ∧ Aside0 (Below (w2.alloc (.cells #[.slice A1 l1.length c1, .slice A2 l2.length c2, .slice A3 la.length c3] 68)).heap.size (w2.alloc (.cells #[.slice A1 l1.length c1, .slice A2 l2.length c2, .slice A3 la.length c3] 68)) wq)))
    case atStart => exact Or.inl ⟨rfl, ⟨rfl⟩, ⟨Below.refl _ _⟩⟩
    case round =>
      rcases hrel with ⟨rfl, hk, HBL⟩ | ⟨rfl, hk, HF0, HBL⟩ | ⟨rfl, hk, HF0, HF1, HBL⟩ | ⟨rfl, HF0, HF1, HF2, HBL⟩
      · obtain ⟨k1, rfl⟩ : ∃ k1, gk = k1 + 1 := ⟨3, hk.out⟩
        have g0 : wr.cell? ⟨w2.heap.size, 0, none⟩ = some (.slice A1 l1.length c1) := (HBL.out.cell (p := ⟨w2.heap.size, 0, none⟩) (by simp)).trans (by simp)
        have HX := Aside0.mk (Kd.C_below HD1.out HBL.out)
        by_cases hf : fineE a0.size (l1) = 0
        · have H12 := Aside0.mk (text_Fine.calls a0 A1 c1 (l1) 0 wr HX.out HL1.out (by unfold text_Fine.f; rw [hf]))
          go_wp2_with (go_at_call 74; refine H12.out.mono ?_; rintro e w5 ⟨rfl, hb⟩; have HB5 : Aside0 (Below (w2.alloc (.cells #[.slice A1 l1.length c1, .slice A2 l2.length c2, .slice A3 la.length c3] 68)).heap.size (w2.alloc (.cells #[.slice A1 l1.length c1, .slice A2 l2.length c2, .slice A3 la.length c3] 68)) w5) := ⟨HBL.out.trans (hb.mono HBL.out.size)⟩; clear hb H12)
          go_roundg k1
          case measure => have := hk.out; omega
          case rel => exact Or.inr (Or.inl ⟨rfl, ⟨by have := hk.out; omega⟩, ⟨hf⟩, HB5⟩)
        · have b1 : (fineE a0.size (l1) != 0) = true := by simpa using hf
          have b2 : (fineE a0.size (l1) == 0) = false := by simpa using hf
          have hR := HR.out
          rw [if_pos (show fineE a0.size (l1) ≠ 0 from hf)] at hR
          have e1 : r1 = [] := (congrArg Prod.fst hR).symm
          have e2 : r2 = fineE a0.size (l1) := (congrArg Prod.snd hR).symm
          clear HR hR
          have H12 := Aside0.mk (text_Fine.calls a0 A1 c1 (l1) (fineE a0.size (l1)) wr HX.out HL1.out rfl)
          generalize fineE a0.size (l1) = fe at *
          subst e1 e2
          go_wp2_with (go_at_call 74; refine H12.out.mono ?_; rintro e w5 ⟨rfl, hb⟩; have HB5 : Aside0 (Below (w2.alloc (.cells #[.slice A1 l1.length c1, .slice A2 l2.length c2, .slice A3 la.length c3] 68)).heap.size (w2.alloc (.cells #[.slice A1 l1.length c1, .slice A2 l2.length c2, .slice A3 la.length c3] 68)) w5) := ⟨HBL.out.trans (hb.mono HBL.out.size)⟩; clear hb H12)
          go_ret2
          exact ⟨_, rfl, Kd.R_nil _ _ _ _ _, (HBW.out.alloc HBW.out.size _).trans (HB5.out.mono (by have := HBW.out.size; simp; omega))⟩
      · obtain ⟨k1, rfl⟩ : ∃ k1, gk = k1 + 1 := ⟨2, hk.out⟩
        have g0 : wr.cell? ⟨w2.heap.size, 1, none⟩ = some (.slice A2 l2.length c2) := (HBL.out.cell (p := ⟨w2.heap.size, 1, none⟩) (by simp)).trans (by simp)
        have HX := Aside0.mk (Kd.C_below HD2.out HBL.out)
        by_cases hf : fineE a0.size (l2) = 0
        · have H12 := Aside0.mk (text_Fine.calls a0 A2 c2 (l2) 0 wr HX.out HL2.out (by unfold text_Fine.f; rw [hf]))
          go_wp2_with (go_at_call 74; refine H12.out.mono ?_; rintro e w5 ⟨rfl, hb⟩; have HB5 : Aside0 (Below (w2.alloc (.cells #[.slice A1 l1.length c1, .slice A2 l2.length c2, .slice A3 la.length c3] 68)).heap.size (w2.alloc (.cells #[.slice A1 l1.length c1, .slice A2 l2.length c2, .slice A3 la.length c3] 68)) w5) := ⟨HBL.out.trans (hb.mono HBL.out.size)⟩; clear hb H12)
          go_roundg k1
          case measure => have := hk.out; omega
          case rel => exact Or.inr (Or.inr (Or.inl ⟨rfl, ⟨by have := hk.out; omega⟩, HF0, ⟨hf⟩, HB5⟩))
        · have b1 : (fineE a0.size (l2) != 0) = true := by simpa using hf
          have b2 : (fineE a0.size (l2) == 0) = false := by simpa using hf
          have hR := HR.out
          rw [if_neg (show ¬ (fineE a0.size l1 ≠ 0) from fun q => q HF0.out), if_pos (show fineE a0.size (l2) ≠ 0 from hf)] at hR
          have e1 : r1 = [] := (congrArg Prod.fst hR).symm
          have e2 : r2 = fineE a0.size (l2) := (congrArg Prod.snd hR).symm
          clear HR hR
          have H12 := Aside0.mk (text_Fine.calls a0 A2 c2 (l2) (fineE a0.size (l2)) wr HX.out HL2.out rfl)
          generalize fineE a0.size (l2) = fe at *
          subst e1 e2
          go_wp2_with (go_at_call 74; refine H12.out.mono ?_; rintro e w5 ⟨rfl, hb⟩; have HB5 : Aside0 (Below (w2.alloc (.cells #[.slice A1 l1.length c1, .slice A2 l2.length c2, .slice A3 la.length c3] 68)).heap.size (w2.alloc (.cells #[.slice A1 l1.length c1, .slice A2 l2.length c2, .slice A3 la.length c3] 68)) w5) := ⟨HBL.out.trans (hb.mono HBL.out.size)⟩; clear hb H12)
          go_ret2
          exact ⟨_, rfl, Kd.R_nil _ _ _ _ _, (HBW.out.alloc HBW.out.size _).trans (HB5.out.mono (by have := HBW.out.size; simp; omega))⟩
      · obtain ⟨k1, rfl⟩ : ∃ k1, gk = k1 + 1 := ⟨1, hk.out⟩
        have g0 : wr.cell? ⟨w2.heap.size, 2, none⟩ = some (.slice A3 la.length c3) := (HBL.out.cell (p := ⟨w2.heap.size, 2, none⟩) (by simp)).trans (by simp)
        have HX := Aside0.mk (Kd.C_below HC3.out HBL.out)
        by_cases hf : fineE a0.size la = 0
        · have H12 := Aside0.mk (text_Fine.calls a0 A3 c3 la 0 wr HX.out HL3.out (by unfold text_Fine.f; rw [hf]))
          go_wp2_with (go_at_call 74; refine H12.out.mono ?_; rintro e w5 ⟨rfl, hb⟩; have HB5 : Aside0 (Below (w2.alloc (.cells #[.slice A1 l1.length c1, .slice A2 l2.length c2, .slice A3 la.length c3] 68)).heap.size (w2.alloc (.cells #[.slice A1 l1.length c1, .slice A2 l2.length c2, .slice A3 la.length c3] 68)) w5) := ⟨HBL.out.trans (hb.mono HBL.out.size)⟩; clear hb H12)
          go_roundg k1
          case measure => have := hk.out; omega
          case rel => exact Or.inr (Or.inr (Or.inr ⟨rfl, HF0, HF1, ⟨hf⟩, HB5⟩))
        · have b1 : (fineE a0.size la != 0) = true := by simpa using hf
          have b2 : (fineE a0.size la == 0) = false := by simpa using hf
          have hR := HR.out
          rw [if_neg (show ¬ (fineE a0.size l1 ≠ 0) from fun q => q HF0.out), if_neg (show ¬ (fineE a0.size l2 ≠ 0) from fun q => q HF1.out), if_pos (show fineE a0.size la ≠ 0 from hf)] at hR
          have e1 : r1 = [] := (congrArg Prod.fst hR).symm
          have e2 : r2 = fineE a0.size la := (congrArg Prod.snd hR).symm
          clear HR hR
          have H12 := Aside0.mk (text_Fine.calls a0 A3 c3 la (fineE a0.size la) wr HX.out HL3.out rfl)
          generalize fineE a0.size la = fe at *
          subst e1 e2
          go_wp2_with (go_at_call 74; refine H12.out.mono ?_; rintro e w5 ⟨rfl, hb⟩; have HB5 : Aside0 (Below (w2.alloc (.cells #[.slice A1 l1.length c1, .slice A2 l2.length c2, .slice A3 la.length c3] 68)).heap.size (w2.alloc (.cells #[.slice A1 l1.length c1, .slice A2 l2.length c2, .slice A3 la.length c3] 68)) w5) := ⟨HBL.out.trans (hb.mono HBL.out.size)⟩; clear hb H12)
          go_ret2
          exact ⟨_, rfl, Kd.R_nil _ _ _ _ _, (HBW.out.alloc HBW.out.size _).trans (HB5.out.mono (by have := HBW.out.size; simp; omega))⟩
      · have hR := HR.out
        rw [if_neg (show ¬ (fineE a0.size l1 ≠ 0) from fun q => q HF0.out), if_neg (show ¬ (fineE a0.size l2 ≠ 0) from fun q => q HF1.out), if_neg (show ¬ (fineE a0.size la ≠ 0) from fun q => q HF2.out)] at hR
        have e1 : r1 = Tx.ord eltS la := (congrArg Prod.fst hR).symm
        have e2 : r2 = 0 := (congrArg Prod.snd hR).symm
        clear HR hR
        subst e1 e2
        have H32 := Aside0.mk (text_sorted.calls A3 c3 la (Tx.ord eltS la) wr (Kd.C_below HC3.out HBL.out) HL3.out (by unfold text_sorted.f; rw [if_pos (by
          have := HF2.out
          unfold fineE at this
          by_cases q : 200000 < a0.size ∨ 10000 < la.length
          · rw [if_pos q] at this; cases this
          · omega)]))
        go_wp2_with (go_at_call 75; refine H32.out.mono ?_; rintro e w5 ⟨v5, rfl, ho, hb⟩; have HO5 := Aside0.mk ho; have HB5 := Aside0.mk hb; clear ho hb H32)
        go_ret2
        have hsz : w.heap.size ≤ wr.heap.size := by have := HBW.out.size; have := HBL.out.size; simp at this; omega
        exact ⟨_, rfl, Kd.R_lower HO5.out hsz, ((HBW.out.alloc HBW.out.size _).trans (HBL.out.mono (by have := HBW.out.size; simp; omega))).trans (HB5.out.mono hsz)⟩
  · rw [if_neg hlen] at h; cases h
end Go.Proofs.YthimblhfjfngiaaGreat.PText

namespace Go.Proofs.YthimblhfjfngiaaGreat.PText
open Go.RowKit Go.Lib Go.Proofs.YthimblhfjfngiaaGreatW.PrintWords Go.Proofs.YthimblhfjfngiaaGreatW.PrintLast Go.Proofs.YthimblhfjfngiaaGreatW.PrintMore
/-- the text that edits make, told to a bound that no machine reaches -/
def madeE (s : ByteArray) (l : List S91) : List UInt8 := Tx.ap s.data.toList 0 ((Tx.ord eltS l).map toE)
def text_Apply.f (a0 : ByteArray) (l1 : List S91) : Option (ByteArray × Int) :=
  if fineE a0.size l1 ≠ 0 then some ((⟨#[]⟩ : ByteArray), fineE a0.size l1)
  else if (madeE a0 l1).length ≤ 140737488351232 then (if 200000 < (madeE a0 l1).length then some ((⟨#[]⟩ : ByteArray), 2) else some (⟨(madeE a0 l1).toArray⟩, 0)) else none
/-- fine edits are one behind the other -/
theorem fine_chain (n : Nat) (l : List S91) (h : fineE n l = 0) : l.length ≤ 10000 ∧ n ≤ 200000 ∧ Tx.Ch n 0 ((Tx.ord eltS l).map toE) := by
  unfold fineE at h
  by_cases h1 : 200000 < n ∨ 10000 < l.length
  · rw [if_pos h1] at h; cases h
  · rw [if_neg h1] at h
    by_cases h2 : l.any (badE n) = true
    · rw [if_pos h2] at h; cases h
    · rw [if_neg h2] at h
      by_cases h3 : Tx.clash 0 (-1) ((Tx.ord eltS l).map toE) = true
      · rw [if_pos h3] at h; cases h
      · refine ⟨by omega, by omega, Tx.clash_ch _ 0 (-1) ?_ (by omega) (by simpa using h3)⟩
        intro e he
        obtain ⟨x, hx, rfl⟩ := List.mem_map.1 he
        have hx' := (Tx.mem_ord eltS_lin).1 hx
        have hb : badE n x = false := by
          cases q : badE n x with
          | false => rfl
          | true => exact absurd (List.any_eq_true.2 ⟨x, hx', q⟩) h2
        unfold badE at hb
        simp only [Bool.or_eq_false_iff, decide_eq_false_iff_not] at hb
        show 0 ≤ x.f0 ∧ x.f0 ≤ x.f1 ∧ x.f1 ≤ (n : Int)
        omega
end Go.Proofs.YthimblhfjfngiaaGreat.PText

namespace Go.Proofs.YthimblhfjfngiaaGreat.PText
open Go.RowKit Go.Lib Go.Proofs.YthimblhfjfngiaaGreatW.PrintWords Go.Proofs.YthimblhfjfngiaaGreatW.PrintLast Go.Proofs.YthimblhfjfngiaaGreatW.PrintMore
theorem size_list (s : ByteArray) : s.size = s.data.toList.length := by rw [Array.length_toList]; rfl
theorem ext_sl (s : ByteArray) (a b : Int) : (s.extract a.toNat b.toNat).data.toList = Tx.sl s.data.toList a b := by
  rw [ByteArray.data_extract, Array.toList_extract, List.extract_eq_take_drop]; rfl
theorem ext_end (s : ByteArray) (a : Int) : (s.extract a.toNat s.size).data.toList = s.data.toList.drop a.toNat := by
  rw [ByteArray.data_extract, Array.toList_extract, List.extract_eq_take_drop]
  exact List.take_of_length_le (by rw [List.length_drop, size_list]; exact Nat.le_refl _)
theorem toE_x (x : S91) : (toE x).x = x.f2.data.toList := Lib.toList_data x.f2
end Go.Proofs.YthimblhfjfngiaaGreat.PText

namespace Go.Proofs.YthimblhfjfngiaaGreat.PText
open Go.RowKit Go.Lib Go.Sort Go.Proofs.YthimblhfjfngiaaGreatW.PrintWords Go.Proofs.YthimblhfjfngiaaGreatW.PrintLast Go.Proofs.YthimblhfjfngiaaGreatW.PrintMore
set_option linter.unusedVariables false
set_option linter.unusedSimpArgs false
/-- whatever lies in blocks of other types than the past's own two (the past itself, its row of commits) stands -/
def PKept (w w' : World) : Prop := ∀ (k : Nat) (o : Obj), w.heap[k]? = some o → (∀ c fz, o ≠ .cells c 61 fz) → (∀ c fz, o ≠ .cells c 63 fz) → w'.heap[k]? = some o
theorem PKept.refl (w : World) : PKept w w := fun _ _ h _ _ => h
theorem PKept.trans {a b c : World} (h : PKept a b) (k : PKept b c) : PKept a c := fun i o hi h1 h2 => k i o (h i o hi h1 h2) h1 h2
theorem PKept.of_below {w w' : World} (h : Below w.heap.size w w') : PKept w w' := fun k o hk _ _ => (h.block k (Array.getElem?_eq_some_iff.1 hk).1).trans hk
/-- a row of files that stands: it lies in a block of files' cells, or there are none -/
structure FRow (w : World) (A : Option Addr) (cap : Nat) (l : List S41) : Prop where
  cap : l.length ≤ cap
  reads : Kd.C k41 w A l.length l
  lies : l = [] ∨ ∃ b cs, A = some ⟨b, 0, none⟩ ∧ w.heap[b]? = some (.cells cs 41 (0, 0))
theorem C_kept53 {w w' : World} {A : Option Addr} {l : List S41} {b : Nat} (h : Kd.C k41 w A l.length l) (hA : A = some ⟨b, 0, none⟩) (hk : w'.heap[b]? = w.heap[b]?) : Kd.C k41 w' A l.length l := by
  obtain ⟨h1, h2, h3⟩ := h
  refine ⟨h1, h2, fun hl => ?_⟩
  obtain ⟨ad, e, h4⟩ := h3 hl
  refine ⟨ad, e, fun j t hj => ?_⟩
  obtain ⟨cs, e1, e2, e3⟩ := h4 j t hj
  rw [hA] at e; cases e
  refine ⟨cs, e1, ?_, fun i u hu => ?_⟩
  · obtain rfl := k41_open e2; exact k41_mk _ _
  · have := e3 i u hu
    rw [← this]
    unfold World.cell?
    have : (Addr.add (⟨b, 0, none⟩ : Addr) (j * k41.sz + i)).block = b := by unfold Addr.add; split <;> rfl
    simp only [this, hk]
theorem FRow.keep {w w' : World} {A : Option Addr} {cap : Nat} {l : List S41} (h : FRow w A cap l) (hk : PKept w w') : FRow w' A cap l := by
  rcases h.lies with e | ⟨b, cs, e, hb⟩
  · subst e
    exact ⟨h.cap, ⟨rfl, by simp, fun q => absurd q (by simp)⟩, .inl rfl⟩
  · have hb' := hk b _ hb (fun c fz q => by cases q) (fun c fz q => by cases q)
    exact ⟨h.cap, C_kept53 h.reads e (by rw [hb, hb']), .inr ⟨b, cs, e, hb'⟩⟩
theorem FRow.of_R {w : World} {base : Nat} {A : Option Addr} {cap : Nat} {l : List S41} (h : Kd.R k41 41 w base (fun _ => True) (.slice A l.length cap) l) : FRow w A cap l := by
  have hR := Kd.R_reads' h
  refine ⟨hR.2.1, hR.2.2, ?_⟩
  by_cases hl : l = []
  · exact .inl hl
  · obtain ⟨g, cap', hv, hb, _, cs, hc⟩ := Kd.R_form h (List.length_pos_iff.2 hl)
    cases hv
    exact .inr ⟨g, cs, rfl, hc⟩
/-- a commit -/
structure Com where
  name : ByteArray
  files : List S41
/-- a commit in a block -/
def ComAt (w : World) (c : Nat) (x : Com) : Prop := ∃ A cap, w.heap[c]? = some (.cells #[.string x.name, .slice A x.files.length cap] 81 (0, 0)) ∧ FRow w A cap x.files
theorem ComAt.keep {w w' : World} {c : Nat} {x : Com} (h : ComAt w c x) (hk : PKept w w') : ComAt w' c x := by
  obtain ⟨A, cap, h1, h2⟩ := h
  exact ⟨A, cap, hk c _ h1 (fun c fz q => by cases q) (fun c fz q => by cases q), h2.keep hk⟩
def nameP (name : ByteArray) (x : S41) : Bool := x.f0.toList == name.toList
/-- a file's text, and whether it is there -/
def findR (l : List S41) (name : ByteArray) : ByteArray × Bool := match l.find? (nameP name) with
  | some x => (x.f1, true)
  | none => (⟨#[]⟩, false)
theorem find_split (name : ByteArray) : ∀ l : List S41, (∃ k, ∃ hk : k < l.length, nameP name l[k] = true ∧ (∀ j, ∀ hj : j < l.length, j < k → nameP name l[j] = false) ∧ findR l name = (l[k].f1, true)) ∨ ((∀ j, ∀ hj : j < l.length, nameP name l[j] = false) ∧ findR l name = (⟨#[]⟩, false))
  | [] => .inr ⟨fun j hj => absurd hj (Nat.not_lt_zero _), rfl⟩
  | x :: l => by
    cases q : nameP name x with
    | true =>
      refine .inl ⟨0, by simp, q, fun j _ h0 => absurd h0 (Nat.not_lt_zero _), ?_⟩
      unfold findR
      rw [List.find?_cons, q]; rfl
    | false =>
      have e : findR (x :: l) name = findR l name := by unfold findR; rw [List.find?_cons, q]
      rw [e]
      rcases find_split name l with ⟨k, hk, h1, h2, h3⟩ | ⟨h1, h2⟩
      · refine .inl ⟨k + 1, by simp; omega, h1, fun j hj h0 => ?_, h3⟩
        cases j with
        | zero => exact q
        | succ j => exact h2 j (by simp at hj; omega) (by omega)
      · refine .inr ⟨fun j hj => ?_, h2⟩
        cases j with
        | zero => exact q
        | succ j => exact h1 j (by simp at hj; omega)
set_option maxRecDepth 100000 in
set_option maxHeartbeats 1000000 in
theorem find_pred (name : ByteArray) (B : Nat) (w : World) (hB : B < w.heap.size) (hcell : w.cell? ⟨B, 0, none⟩ = some (.string name)) :
    PredBelow Tryz.prog 49 #[.pointer (some ⟨B, 0, none⟩)] (fun x => .agg (enc53 x).toArray) (nameP name) w := fun W x hb => by
  have hc : W.cell? ⟨B, 0, none⟩ = some (.string name) := (hb.cell (p := ⟨B, 0, none⟩) hB).trans hcell
  have hBW : B < W.heap.size := Nat.lt_of_lt_of_le hB hb.size
  have hne : B ≠ W.heap.size := by omega
  have hu := Tryz.underlying41
  show Calls Tryz.prog 49 #[.agg #[.string x.f0, .string x.f1], .pointer (some ⟨B, 0, none⟩)] W _
  go_enter Tryz.func49, Tryz.ntmps49
  go_wp2
  go_ret
  exact ⟨rfl, hb.alloc hb.size _⟩
theorem C_addr53 {w : World} {A : Option Addr} {l : List S41} (h : Kd.C k41 w A l.length l) (hp : 0 < l.length) :
    ∃ b o, A = some ⟨b, o, none⟩ ∧ b < w.heap.size ∧ ∀ j, j < l.length → ∀ i v, (enc53 l[j]!)[i]? = some v → w.cell? ⟨b, o + j * 2 + i, none⟩ = some v := by
  obtain ⟨⟨b, o, sp⟩, rfl, h0, _⟩ := at_T41 h 0 (by omega) (by omega)
  have hsp : sp = none := by
    cases sp with
    | none => rfl
    | some q =>
      unfold World.cell? at h0
      simp only [Addr.add] at h0
      split at h0 <;> simp at h0
  subst hsp
  have hb : b < w.heap.size := World.block_lt_of_cell? w _ h0
  refine ⟨b, o, rfl, hb, fun j hj i v hv => ?_⟩
  obtain ⟨ad, e, h1, h2⟩ := at_T41 h (j : Int) (by omega) (by omega)
  cases e
  have hr : rd_T41 l (j : Int) = l[j] := by unfold rd_T41; rw [Int.toNat_natCast, List.getD_eq_getElem?_getD, List.getElem?_eq_getElem hj]; rfl
  rw [hr] at h1 h2
  rw [getElem!_pos l j hj] at hv
  simp only [Int.toNat_natCast, Addr.add_lit] at h1 h2
  match i, hv with
  | 0, hv => simp [enc53] at hv; subst hv; exact h1
  | 1, hv => simp [enc53] at hv; subst hv; exact h2
  | i + 2, hv => simp [enc53] at hv
set_option maxRecDepth 100000 in
set_option maxHeartbeats 1000000 in
theorem index53_empty (p : Option Addr) (c g : Nat) (lb : Array Value) (w : World) : Calls Tryz.prog 48 #[.slice p 0 c, .func (.func g) #[] lb] w fun e w' => e = .returned (.int .i64 (-1)) ∧ Below w.heap.size w w' := by
  go_enter Tryz.func48, Tryz.ntmps48
  go_wp2
  go_loopg [5, 8] 0 (fun _ _ s8 wr => s8 = .int .i64 0 ∧ wr = w)
  case atStart => exact ⟨rfl, rfl⟩
  case round =>
    obtain ⟨rfl, rfl⟩ := hrel
    go_wp2
    go_ret
    exact ⟨rfl, Below.refl _ _⟩
theorem index53_calls (name : ByteArray) (A : Option Addr) (cap B : Nat) (l : List S41) (w : World) (hC : Kd.C k41 w A l.length l) (hB : B < w.heap.size) (hcell : w.cell? ⟨B, 0, none⟩ = some (.string name)) (hl : l.length ≤ 10000) (r : Int)
    (hr : (∃ k : Nat, ∃ hk : k < l.length, r = (k : Int) ∧ nameP name l[k] = true ∧ ∀ j, ∀ hj : j < l.length, j < k → nameP name l[j] = false) ∨ (r = -1 ∧ ∀ j, ∀ hj : j < l.length, nameP name l[j] = false)) :
    Calls Tryz.prog 48 #[.slice A l.length cap, .func (.func 49) #[] #[.pointer (some ⟨B, 0, none⟩)]] w fun e w' => e = .returned (.int .i64 r) ∧ Below w.heap.size w w' := by
  by_cases hp : l.length = 0
  · obtain rfl := List.eq_nil_of_length_eq_zero hp
    rcases hr with ⟨k, hk, _⟩ | ⟨rfl, _⟩
    · exact absurd hk (Nat.not_lt_zero _)
    · exact index53_empty A cap 49 _ w
  · obtain ⟨b, o, rfl, hb, hc⟩ := C_addr53 hC (by omega)
    have eg : ∀ args w, (callFunc 49 args).run Tryz.prog w = .ok (.enter 49 args) w := enters_of Tryz.func49 (by kernel_rfl) rfl
    have h := AnyQ.slices_IndexFunc Tryz.indexFi 2 isAgg53 sizeOf53 enc53 enc53_len (nameP name) 49 #[.pointer (some ⟨B, 0, none⟩)] eg b o l.length cap l w (find_pred name B w hB hcell) (Nat.le_refl _) (by omega) hb hc
    refine h.mono ?_
    rintro e w' ⟨rfl, hb'⟩
    refine ⟨?_, hb'⟩
    rcases hr with ⟨k, hk, rfl, h1, h2⟩ | ⟨rfl, h1⟩
    · rw [Lib.idxBy_hit (fun _ y => nameP name y) l l.length k default hk (Nat.le_refl _) (by rw [getElem!_pos l k hk]; exact h1) (fun j hj => by rw [getElem!_pos l j (by omega)]; exact h2 j (by omega) hj)]
    · rw [Lib.idxBy_miss (fun _ y => nameP name y) l l.length default (fun j hj => by rw [getElem!_pos l j hj]; exact h1 j hj)]
set_option maxRecDepth 100000 in
set_option maxHeartbeats 2000000 in
theorem find_calls (c : Nat) (x : Com) (name : ByteArray) (w : World) (h : ComAt w c x) (hl : x.files.length ≤ 10000) :
    Calls Tryz.prog 28 #[.pointer (some ⟨c, 0, none⟩), .string name] w fun e w' => e = .returned (.tuple #[.string (findR x.files name).1, .bool (findR x.files name).2]) ∧ Below w.heap.size w w' := by
  obtain ⟨A, cap, hc, hF⟩ := h
  have hlt : c < w.heap.size := (Array.getElem?_eq_some_iff.1 hc).1
  have h1 : w.cell? ⟨c, 1, none⟩ = some (.slice A x.files.length cap) := by unfold World.cell?; rw [hc]; rfl
  have hne : c ≠ w.heap.size := by omega
  have HF := Aside0.mk hF
  have HLT := Aside0.mk hlt
  have HX := Aside0.mk (fun (r : Int) hr => index53_calls name A cap w.heap.size x.files (w.alloc (.cells #[.string name] 9)) (Kd.C_alloc hF.reads _) (by simp) (by simp) hl r hr)
  have hcap := hF.cap
  have H1 := Aside0.mk h1
  clear hc hF h1
  rcases find_split name x.files with ⟨k, hk, q1, q2, q3⟩ | ⟨q1, q2⟩
  · have H := Aside0.mk (HX.out (k : Int) (.inl ⟨k, hk, rfl, q1, q2⟩))
    have Q3 := Aside0.mk q3
    have h1 := H1.out
    have hkc : (k : Int) < (x.files.length : Int) := by omega
    have hk0 : (0 : Int) ≤ (k : Int) := by omega
    clear q1 q2 q3 HX
    go_enter Tryz.func28, Tryz.ntmps28
    have hdk : decide ((k : Int) < 0) = false := decide_eq_false (by omega)
    go_wp2_with (go_at_call 48; refine H.out.mono ?_; rintro e w2 ⟨rfl, hb⟩; have HB := Aside0.mk (((Below.refl _ w).alloc (Nat.le_refl _) (.cells #[.string name] 9)).trans (hb.mono (by simp))); clear hb H; have h1' := (HB.out.cell (p := ⟨c, 1, none⟩) HLT.out).trans H1.out; obtain ⟨ad, e0, hx0, hx1⟩ := at_T41 (Kd.C_below HF.out.reads HB.out) (k : Int) hk0 hkc; cases e0; rw [Int.toNat_natCast] at hx0 hx1; rw [show rd_T41 x.files (k : Int) = x.files[k] by unfold rd_T41; rw [Int.toNat_natCast, List.getD_eq_getElem?_getD, List.getElem?_eq_getElem hk]; rfl] at hx0 hx1)
    go_ret2
    exact ⟨by rw [Q3.out]; rfl, HB.out⟩
  · have H := Aside0.mk (HX.out (-1) (.inr ⟨rfl, q1⟩))
    have Q3 := Aside0.mk q2
    have h1 := H1.out
    clear q1 q2 HX
    go_enter Tryz.func28, Tryz.ntmps28
    go_wp2_with (go_at_call 48; refine H.out.mono ?_; rintro e w2 ⟨rfl, hb⟩; have HB := Aside0.mk hb; clear hb H)
    go_ret2
    refine ⟨by rw [Q3.out]; rfl, ?_⟩
    exact ((Below.refl _ w).alloc (Nat.le_refl _) _).trans (HB.out.mono (by simp))
end Go.Proofs.YthimblhfjfngiaaGreat.PText

namespace Go.Proofs.YthimblhfjfngiaaGreat.PText
open Go.RowKit Go.Lib Go.Sort Go.Proofs.YthimblhfjfngiaaGreatW.PrintWords Go.Proofs.YthimblhfjfngiaaGreatW.PrintLast Go.Proofs.YthimblhfjfngiaaGreatW.PrintMore
set_option linter.unusedVariables false
set_option linter.unusedSimpArgs false
/-- a commit's pointer, in a row -/
def kP : Kd Nat := Kd.scalar (fun c : Nat => Value.pointer (some ⟨c, 0, none⟩)) (fun _ => rfl)
theorem info77 : (Tryz.prog.info? 63).map (fun i => (i.zero, i.size, i.bytes)) = some (some (.pointer none), 1, 8) := by kernel_rfl
/-- a past: its commits, in their order -/
def PastIs (w : World) (base p : Nat) (L : List Com) : Prop :=
  ∃ (A : Option Addr) (cap : Nat) (ps : List Nat), ps.length = L.length ∧ base ≤ p ∧ w.heap[p]? = some (.cells #[.slice A L.length cap] 61 (0, 0)) ∧ Kd.R kP 63 w base (fun _ => True) (.slice A L.length cap) ps ∧
    ∀ i, ∀ h : i < L.length, ∀ h' : i < ps.length, ComAt w ps[i] L[i]
theorem PastIs.below {w w' : World} {base p : Nat} {L : List Com} (h : PastIs w base p L) (hb : Below w.heap.size w w') : PastIs w' base p L := by
  obtain ⟨A, cap, ps, h1, h2, h3, h4, h5⟩ := h
  exact ⟨A, cap, ps, h1, h2, (hb.block p (Array.getElem?_eq_some_iff.1 h3).1).trans h3, Kd.R_below h4 hb, fun i a b => (h5 i a b).keep (PKept.of_below hb)⟩
theorem PastIs.lt {w : World} {base p : Nat} {L : List Com} (h : PastIs w base p L) : p < w.heap.size := by
  obtain ⟨A, cap, ps, h1, h2, h3, h4, h5⟩ := h
  exact (Array.getElem?_eq_some_iff.1 h3).1
theorem heap_nw (w : World) (o : Obj) : (w.alloc o).heap[w.heap.size]? = some o := by
  show (w.heap.push o)[w.heap.size]? = some o
  exact Array.getElem?_push_size
theorem rd53_at (l : List S41) (i : Nat) (h : i < l.length) : rd_T41 l (i : Int) = l[i] := by
  unfold rd_T41
  rw [Int.toNat_natCast, List.getD_eq_getElem?_getD, List.getElem?_eq_getElem h]; rfl
theorem new_calls (w : World) : Calls Tryz.prog 26 #[] w fun e w' => e = .returned (.pointer (some ⟨w.heap.size, 0, none⟩)) ∧ PastIs w' w.heap.size w.heap.size [] ∧ Below w.heap.size w w' ∧ PKept w w' := by
  go_enter Tryz.func26, Tryz.ntmps26
  go_wp2
  go_ret
  refine ⟨rfl, ⟨none, 0, [], rfl, Nat.le_refl _, heap_nw _ _, Kd.R_nil _ _ _ _ _, fun i h => absurd h (Nat.not_lt_zero _)⟩, (Below.refl _ w).alloc (Nat.le_refl _) _, PKept.of_below ((Below.refl _ w).alloc (Nat.le_refl _) _)⟩
theorem own_ne {w : World} {base p n cap : Nat} {A : Option Addr} {ps : List Nat} {cs : Array Value} {fz : Nat × Nat} (h : Kd.R kP 63 w base (fun _ => True) (.slice A n cap) ps) (hp : w.heap[p]? = some (.cells cs 61 fz)) : some p ≠ (Value.slice A n cap).ownBlock := fun e => by
  obtain ⟨inner, ho⟩ := Kd.R_own h
  obtain ⟨cells, hc⟩ := own_typed ho p e.symm
  rw [hp] at hc
  cases hc
theorem heap_pushed {wr w5 W : World} {p : Nat} {o o1 : Obj} {row : Option Nat} (hp : wr.heap[p]? = some o) (hW : W = wr.alloc o1) (hg : W.grownBy w5 row) (hne : some p ≠ row) : w5.heap[p]? = some o := by
  subst hW
  have hlt := (Array.getElem?_eq_some_iff.1 hp).1
  rw [hg.block p (by simp; omega) hne]
  show (wr.heap.push o1)[p]? = _
  rw [Array.getElem?_push, if_neg (by omega), hp]
/-- a past behind an append to its row and the store of the row -/
theorem past_pushed {wr w5 W : World} {base p cap cap' n5 c5 : Nat} {A A' A5 : Option Addr} {L : List Com} {ps : List Nat} {x : Com}
    (hps : ps.length = L.length) (hbp : base ≤ p) (hbw : base ≤ wr.heap.size) (h3 : wr.heap[p]? = some (.cells #[.slice A L.length cap] 61 (0, 0))) (h4 : Kd.R kP 63 wr base (fun _ => True) (.slice A ps.length cap) ps) (h5 : ∀ i, ∀ h : i < L.length, ∀ h' : i < ps.length, ComAt wr ps[i] L[i])
    (hW : W = wr.alloc (.cells #[.string x.name, .slice A' x.files.length cap'] 81)) (hF : FRow wr A' cap' x.files)
    (ho : Kd.R kP 63 w5 base (fun _ => True) (.slice A5 n5 c5) (ps ++ [wr.heap.size])) (hb : Below base wr w5) (hg : W.grownBy w5 (Value.slice A ps.length cap).ownBlock) :
    PastIs (w5.setCell ⟨p, 0, none⟩ (.slice A5 n5 c5)) base p (L ++ [x]) ∧ Below base wr (w5.setCell ⟨p, 0, none⟩ (.slice A5 n5 c5)) ∧ PKept wr (w5.setCell ⟨p, 0, none⟩ (.slice A5 n5 c5)) := by
  have hp5 := heap_pushed h3 hW hg (own_ne h4 h3)
  have hn5 : n5 = L.length + 1 := by
    have := (Kd.R_reads' ho).1
    rw [List.length_append, List.length_singleton, hps] at this
    exact this
  have hother : ∀ k, k ≠ p → (w5.setCell ⟨p, 0, none⟩ (.slice A5 n5 c5)).heap[k]? = w5.heap[k]? := fun k hk => Below.heap_setCell _ _ _ _ (fun e => hk e)
  have hself : (w5.setCell ⟨p, 0, none⟩ (.slice A5 n5 c5)).heap[p]? = some (.cells #[.slice A5 n5 c5] 61 (0, 0)) := by
    unfold World.setCell
    simp only
    rw [Array.getElem?_modify, if_pos rfl, hp5]
    rfl
  have hk : PKept wr (w5.setCell ⟨p, 0, none⟩ (.slice A5 n5 c5)) := by
    intro k o hko h76 h77
    have hkp : k ≠ p := by
      intro e; subst e
      rw [h3] at hko
      cases hko
      exact h76 _ _ rfl
    rw [hother k hkp]
    refine heap_pushed hko hW hg ?_
    intro e
    obtain ⟨inner, hown⟩ := Kd.R_own h4
    obtain ⟨cells, hc⟩ := own_typed hown k e.symm
    rw [hko] at hc
    cases hc
    exact h77 _ _ rfl
  have hbel : Below base wr (w5.setCell ⟨p, 0, none⟩ (.slice A5 n5 c5)) := by
    refine ⟨hb.os, hb.tape, hb.output, ?_, fun k hkb => ?_⟩
    · have : (w5.setCell ⟨p, 0, none⟩ (.slice A5 n5 c5)).heap.size = w5.heap.size := by unfold World.setCell; simp
      rw [this]; exact hb.size
    · rw [hother k (by omega)]; exact hb.block k hkb
  refine ⟨⟨A5, c5, ps ++ [wr.heap.size], by rw [List.length_append, List.length_append, hps]; rfl, hbp, ?_, ?_, ?_⟩, hbel, hk⟩
  · rw [hself, hn5, List.length_append]; rfl
  · rw [List.length_append, List.length_singleton, ← hn5]
    exact Kd.R_set ho hp5 (fun q hq => by rcases List.mem_cons.1 hq with h | h; subst h; decide; cases h) 0 _
  · intro i h h'
    by_cases hi : i < L.length
    · rw [List.getElem_append_left (by omega), List.getElem_append_left hi]
      exact (h5 i hi (by omega)).keep hk
    · have e1 : i = L.length := by rw [List.length_append, List.length_singleton] at h; omega
      subst e1
      rw [List.getElem_append_right (by omega), List.getElem_append_right (Nat.le_refl _)]
      simp only [hps, Nat.sub_self, List.getElem_cons_zero]
      refine ⟨A', cap', ?_, hF.keep hk⟩
      have hne : wr.heap.size ≠ p := by have := (Array.getElem?_eq_some_iff.1 h3).1; omega
      rw [hother _ hne]
      subst hW
      rw [hg.block wr.heap.size (by simp) ?_]
      · exact heap_nw _ _
      · intro e
        obtain ⟨inner, hown⟩ := Kd.R_own h4
        obtain ⟨cells, hc⟩ := own_typed hown _ e.symm
        have := (Array.getElem?_eq_some_iff.1 hc).1
        omega
/-- what a commit comes to: its number, the error, the commits behind it -/
def commitR (L : List Com) (name : ByteArray) (fs : List S41) : Int × Int × List Com :=
  if L.length = 200 ∨ 60 < fs.length then (0, 2, L) else if ¬ (fnames fs).Nodup then (0, 5, L) else if ∃ x ∈ fs, x.f0.toList = [] then (0, 3, L) else ((L.length : Int), 0, L ++ [⟨name, srtF fs⟩])
set_option maxHeartbeats 8000000 in
set_option maxRecDepth 100000 in
theorem commit_calls (base p : Nat) (L : List Com) (name : ByteArray) (A1 : Option Addr) (c1 : Nat) (fs : List S41) (w : World) (hP : PastIs w base p L) (hC : Kd.C k41 w A1 fs.length fs) (hc : fs.length ≤ c1) (hL : L.length ≤ 200) (hbase : base ≤ w.heap.size) :
    Calls Tryz.prog 25 #[.pointer (some ⟨p, 0, none⟩), .string name, .slice A1 fs.length c1] w fun e w' => e = .returned (.tuple #[.int .i64 (commitR L name fs).1, .int .i64 (commitR L name fs).2.1]) ∧ PastIs w' base p (commitR L name fs).2.2 ∧ Below base w w' ∧ PKept w w' := by
  have HP := Aside0.mk hP
  have HC := Aside0.mk hC
  have HCC := Aside0.mk hc
  have HBS := Aside0.mk hbase
  obtain ⟨A, cap, ps, hps, hbp, h3, h4, h5⟩ := hP
  have hx0 : w.cell? ⟨p, 0, none⟩ = some (.slice A L.length cap) := by unfold World.cell?; rw [h3]; rfl
  have HX0 := Aside0.mk hx0
  have HPL := Aside0.mk (HP.out.lt)
  have HLL := Aside0.mk hL
  clear hC hc hbase h4 h5 hps h3 hbp
  by_cases g1 : L.length = 200
  · have e : commitR L name fs = (0, 2, L) := by unfold commitR; rw [if_pos (Or.inl g1)]
    rw [e]
    rw [g1] at hx0
    go_enter Tryz.func25, Tryz.ntmps25
    go_wp2
    go_ret2
    exact ⟨rfl, HP.out, Below.refl _ _, PKept.refl _⟩
  · by_cases g2 : 60 < fs.length
    · have e : commitR L name fs = (0, 2, L) := by unfold commitR; rw [if_pos (Or.inr g2)]
      have d1 : ((L.length : Int) == 200) = false := beq_eq_false_iff_ne.mpr (by omega)
      have d2 : decide ((60 : Int) < (fs.length : Int)) = true := by simp; omega
      rw [e]
      go_enter Tryz.func25, Tryz.ntmps25
      go_wp2
      go_ret2
      exact ⟨rfl, HP.out, Below.refl _ _, PKept.refl _⟩
    · have d1 : ((L.length : Int) == 200) = false := beq_eq_false_iff_ne.mpr (by omega)
      have d2 : decide ((60 : Int) < (fs.length : Int)) = false := by simp; omega
      have H37 := Aside0.mk (clone53_calls A1 c1 fs w HC.out (by omega))
      have H38 := Aside0.mk (fun (A : Option Addr) (cap : Nat) (w2 : World) (h : Kd.R k41 41 w2 w.heap.size (fun _ => True) (.slice A fs.length cap) fs) => sort53_row A cap fs w2 w.heap.size h (by omega))
      have HG1 := Aside0.mk g1
      have HG2 := Aside0.mk g2
      clear g1 g2
      go_enter Tryz.func25, Tryz.ntmps25
      go_wp2_with (first
        | (go_at_call 40; refine H37.out.mono ?_; rintro e w1 ⟨v1, rfl, ho, hb⟩; obtain ⟨A2, c2, rfl⟩ := Kd.R_slice ho; have HO1 := Aside0.mk ho; have HB1 := Aside0.mk hb; clear ho hb H37)
        | (go_at_call 44; refine (H38.out _ _ _ HO1.out).mono ?_; rintro e w2 ⟨rfl, d, hdl, hdp, hds, ho, hb⟩; have HO := Aside0.mk ho; have HB := Aside0.mk (HB1.out.trans hb); have HDP := Aside0.mk hdp; have HDS := Aside0.mk hds; have HDL := Aside0.mk hdl; clear ho hb hdp hds hdl H38))
      have HB2 := Aside0.mk (Below.refl w2.heap.size w2)
      rw [← HDL.out]
      have HL60 := Aside0.mk (show d.length ≤ 60 by have := HG2.out; have := HDL.out; omega)
      go_loopg [30] (d.length + 1) (fun kq v30 w' => ∃ i : Nat, v30 = .int .i64 (i : Int) ∧ Aside0 (d.length - i < kq ∧ i ≤ d.length) ∧ Aside0 (Below w2.heap.size w2 w') ∧ Aside0 (∀ j, ∀ h : j + 1 < d.length, j + 1 < i → d[j + 1].f0.toList ≠ d[j].f0.toList))
      case atStart => exact ⟨0, rfl, ⟨by omega, by omega⟩, HB2, ⟨fun j h h0 => absurd h0 (by omega)⟩⟩
      case round =>
        obtain ⟨i, rfl, HI, HBe, HN⟩ := hrel
        obtain ⟨k1, rfl⟩ : ∃ k1, gk = k1 + 1 := ⟨gk - 1, by have := HI.out.1; omega⟩
        have HCd : Aside0 (Kd.C k41 wr A2 d.length d) := ⟨Kd.C_below (by have := (Kd.R_reads' HO.out); rw [← HDL.out] at this; exact this.2.2) HBe.out⟩
        by_cases hlt : i < d.length
        · have hb : decide ((i : Int) < (d.length : Int)) = true := by simp; omega
          have hb2 : decide ((0 : Int) ≤ (i : Int)) = true := by simp
          have p0 : (0 : Int) ≤ (i : Int) := by omega
          have q0 : (i : Int) < (d.length : Int) := by omega
          obtain ⟨ad, e0, hx, hy⟩ := at_T41 HCd.out (i : Int) p0 q0
          cases e0
          rw [Int.toNat_natCast, rd53_at d i hlt] at hx hy
          by_cases hi0 : i = 0
          · have hd0 : decide ((0 : Int) < (i : Int)) = false := by simp; omega
            have hd1 : (0 < i) = False := eq_false (by omega)
            have hd2 : decide (0 < i) = false := decide_eq_false (by omega)
            have HN0 : Aside0 (∀ j, ∀ h : j + 1 < d.length, j + 1 < i + 1 → d[j + 1].f0.toList ≠ d[j].f0.toList) := ⟨fun j h h0 => absurd h0 (by omega)⟩
            generalize d[i] = x at *
            clear hi0
            go_wp2_with fail
            go_big_quiet (fail)
            go_wp2_with fail
            go_roundg k1
            case measure => have := HI.out.1; omega
            case rel => exact ⟨i + 1, congrArg (Value.int .i64) (nx i (by have := HL60.out; omega)), ⟨by have := HI.out.1; omega, by omega⟩, ⟨pw_below_drewN (HBe.out.alloc HBe.out.size _) _⟩, HN0⟩
          · obtain ⟨j, hj⟩ : ∃ j : Nat, j + 1 = i := ⟨i - 1, by omega⟩
            have hd0 : decide ((0 : Int) < (i : Int)) = true := by simp; omega
            have hd1 : (0 < i) = True := eq_true (by omega)
            have hd2 : decide (0 < i) = true := decide_eq_true (by omega)
            have hjn : j < d.length := by omega
            have hi60 : i ≤ 60 := by have := HL60.out; omega
            have hw : wrap64 ((i : Int) - 1) = (j : Int) := by rw [w64 (by omega) (by omega)]; omega
            obtain ⟨ad', e0, hz, -⟩ := at_T41 HCd.out (j : Int) (by omega) (by omega)
            cases e0
            rw [Int.toNat_natCast, rd53_at d j hjn] at hz
            have HNS : Aside0 (d[i].f0.toList ≠ d[j].f0.toList → ∀ j, ∀ h : j + 1 < d.length, j + 1 < i + 1 → d[j + 1].f0.toList ≠ d[j].f0.toList) := ⟨fun q j' h h0 => by
              by_cases e : j' + 1 = i
              · subst e
                have e2 : j = j' := by omega
                subst e2
                exact q
              · exact HN.out j' h (by omega)⟩
            have HDU : Aside0 (d[i].f0.toList = d[j].f0.toList → ¬ NoNext d) := ⟨fun q hn => by subst hj; exact hn j (by omega) q⟩
            generalize d[i] = x at *
            generalize d[j] = y at *
            have hw2 : IntKind.i64.wrap ((i : Int) - 1) = (j : Int) := (i64_w _).trans hw
            have hz' : (wr.alloc (.cells #[.string x.f0, .string x.f1] 41)).cell? (ad.add (j * 2)) = some (.string y.f0) := (World.cell?_alloc_some wr _ _ (by rw [hz]; rfl)).trans hz
            have hj0 : (0 : Int) ≤ (j : Int) := by omega
            have hj1 : (j : Int) < (d.length : Int) := by omega
            by_cases heq : x.f0.toList = y.f0.toList
            · have hbq : (x.f0.toList == y.f0.toList) = true := beq_iff_eq.2 heq
              have hND : ¬ (fnames fs).Nodup := fun q => HDU.out heq (noNext_of ((perm_names HDP.out).nodup_iff.2 q))
              have e : commitR L name fs = (0, 5, L) := by unfold commitR; rw [if_neg (by have := HG1.out; have := HG2.out; omega), if_pos hND]
              have HE := Aside0.mk e
              clear heq hND e
              go_wp2_with fail
              go_big_quiet (fail)
              have HBZ := Aside0.mk (HB.out.trans ((pw_below_drewN (HBe.out.alloc HBe.out.size (.cells #[.string x.f0, .string x.f1] 41)) nq).mono HB.out.size))
              go_wp2_with fail
              go_ret2
              exact ⟨by rw [HE.out]; rfl, by rw [HE.out]; exact HP.out.below HBZ.out, HBZ.out.mono HBS.out, PKept.of_below HBZ.out⟩
            · have hbq : (x.f0.toList == y.f0.toList) = false := beq_eq_false_iff_ne.2 heq
              have HN2 := Aside0.mk (HNS.out heq)
              clear heq
              go_wp2_with fail
              go_big_quiet (fail)
              go_wp2_with fail
              go_roundg k1
              case measure => have := HI.out.1; omega
              case rel => exact ⟨i + 1, congrArg (Value.int .i64) (by first | exact nx i (by omega) | omega), ⟨by have := HI.out.1; omega, by omega⟩, ⟨pw_below_drewN (HBe.out.alloc HBe.out.size _) _⟩, HN2⟩
        · have hb : decide ((i : Int) < (d.length : Int)) = false := by simp; omega
          have HBZ := Aside0.mk (HB.out.trans (HBe.out.mono HB.out.size))
          have hND : (fnames fs).Nodup := (perm_names HDP.out).nodup_iff.1 (nodup_of HDS.out (fun j h => HN.out j h (by omega)))
          have HND := Aside0.mk hND
          have hsrt : d = srtF fs := srt_eq HDP.out HDS.out hND
          have hfe := first_empty HDP.out HDS.out
          have hx0' := (HBZ.out.cell (p := ⟨p, 0, none⟩) HPL.out).trans HX0.out
          have HSR := Aside0.mk hsrt
          clear hND hsrt HN
          by_cases hd0 : d.length = 0
          · have hd1 : decide ((0 : Int) < (d.length : Int)) = false := decide_eq_false (by omega)
            have hd2 : (0 < d.length) = False := eq_false (by omega)
            have hd3 : decide (0 < d.length) = false := decide_eq_false (by omega)
            have hne : ¬ ∃ hd : 0 < d.length, d[0].f0.toList = [] := fun ⟨q1, _⟩ => by omega
            have e : commitR L name fs = ((L.length : Int), 0, L ++ [⟨name, srtF fs⟩]) := by unfold commitR; rw [if_neg (by have := HG1.out; have := HG2.out; omega), if_neg (fun q => q HND.out), if_neg (fun q => hne (hfe.2 q))]
            have HE := Aside0.mk e
            have HD0 := Aside0.mk hd0
            clear e hfe hne hd0
            have HPR := Aside0.mk (HP.out.below HBZ.out)
            obtain ⟨A3, cap3, ps, q1, q2, q3, q4, q5⟩ := HPR.out
            have hA3 : Value.slice A3 L.length cap3 = Value.slice A L.length cap := by
              have := hx0'
              unfold World.cell? at this
              rw [q3] at this
              exact Option.some.inj this
            cases hA3
            have HQ1 := Aside0.mk q1
            have HQ4 := Aside0.mk q4
            have HQ := Aside0.mk (⟨q2, q3, q5⟩ : base ≤ p ∧ wr.heap[p]? = some (.cells #[.slice A L.length cap] 61 (0, 0)) ∧ ∀ i, ∀ h : i < L.length, ∀ h' : i < ps.length, ComAt wr ps[i] L[i])
            have hplt : p < wr.heap.size := by have := HBZ.out.size; have := HPL.out; omega
            have HPW := Aside0.mk hplt
            have HBR : Aside0 (Below base w wr) := ⟨HBZ.out.mono HBS.out⟩
            have HBW := Aside0.mk (show base ≤ wr.heap.size by have := HBZ.out.size; have := HBS.out; omega)
            rw [← q1] at hx0'
            clear q1 q2 q3 q4 q5
            go_wp2_with (at_builtin; go_loud (refine Kd.R_append kP (w0 := wr) base rfl (.tmp 63) (.tmp 68) 59 63 (.pointer none) 8 rfl Tryz.underlying59 info77 rfl (by decide) (by omega) _ ps wr.heap.size [.pointer (some ⟨wr.heap.size, 0, none⟩)] (fun _ => True) (fun _ => False) rfl (by first | rfl | (simp; done) | (go_simp; done)) rfl (fun _ hk => hk.elim) (fun _ _ => trivial) (Kd.R_alloc (by rw [HQ1.out]; exact HQ4.out) _) ((Below.refl base wr).alloc HBW.out _) (by have := HBW.out; simp; omega) (by have := HQ1.out; have := HLL.out; omega) ?_); intro v1 w5 ho hb hg hat; go_loud (obtain ⟨A5, c5, rfl⟩ := Kd.R_slice ho; have hg' : (wr.alloc (.cells #[.string name, .slice A2 d.length c2] 81)).grownBy w5 (Value.slice A ps.length cap).ownBlock := hg; have hp5 := heap_pushed HQ.out.2.1 rfl hg' (own_ne (by rw [HQ1.out]; exact HQ4.out) HQ.out.2.1); have hc5 : w5.cell? ⟨p, 0, none⟩ = some (.slice A L.length cap) := (by unfold World.cell?; rw [hp5]; rfl); have hf5 : w5.frozen? ⟨p, 0, none⟩ = false := (by simp [World.frozen?, hp5])); have HO5 := Aside0.mk ho; have HB5 := Aside0.mk hb; have HG5 := Aside0.mk hg'; clear ho hb hg hg' hat hp5)
            have HF : Aside0 (FRow wr A2 c2 (srtF fs)) := ⟨by rw [← HSR.out]; exact (FRow.of_R (by have := HO.out; rw [← HDL.out] at this; exact this)).keep (PKept.of_below HBe.out)⟩
            have HFIN := Aside0.mk (past_pushed (x := ⟨name, srtF fs⟩) (A' := A2) (cap' := c2) HQ1.out HQ.out.1 HBW.out HQ.out.2.1 (by rw [HQ1.out]; exact HQ4.out) HQ.out.2.2 (by rw [show (⟨name, srtF fs⟩ : Com).files.length = d.length by rw [HSR.out]]) HF.out HO5.out HB5.out HG5.out)
            have hlen5 : (ps ++ [wr.heap.size]).length = L.length + 1 := by rw [List.length_append, HQ1.out]; rfl
            go_ret2
            have HF2 := HFIN.out
            rw [show (ps ++ [wr.heap.size]).length = ps.length + 1 by rw [List.length_append]; rfl] at HF2
            refine ⟨?_, by rw [HE.out]; exact HF2.1, HBR.out.trans HF2.2.1, (PKept.of_below HBZ.out).trans HF2.2.2⟩
            rw [HE.out]
            have hw : wrap64 (ps.length : Int) = (L.length : Int) := by rw [HQ1.out, w64 (by omega) (by have := HLL.out; omega)]
            show Ending.returned (.tuple #[.int .i64 (wrap64 (ps.length : Int)), .int .i64 0]) = _
            rw [hw]
          · obtain ⟨bb, oo, e0, hbl, hcell⟩ := C_addr53 HCd.out (by omega)
            have hx : wr.cell? ⟨bb, oo, none⟩ = some (.string (d[0]'(by omega)).f0) := by
              have := hcell 0 (by omega) 0 (.string (d[0]'(by omega)).f0) (by rw [getElem!_pos d 0 (by omega)]; rfl)
              simpa using this
            clear hcell
            cases e0
            have hd1 : (0 : Int) < (d.length : Int) := by omega
            have hd2 : decide ((0 : Int) < (d.length : Int)) = true := decide_eq_true hd1
            by_cases hem : (d[0]'(by omega)).f0.toList = []
            · have e : commitR L name fs = (0, 3, L) := by unfold commitR; rw [if_neg (by have := HG1.out; have := HG2.out; omega), if_neg (fun q => q HND.out), if_pos (hfe.1 ⟨by omega, hem⟩)]
              have HE := Aside0.mk e
              have hbq : ((d[0]'(by omega)).f0.toList == []) = true := beq_iff_eq.2 hem
              generalize d[0]'(by omega) = x at *
              clear e hem hfe
              go_wp2_with fail
              go_ret2
              exact ⟨by rw [HE.out]; rfl, by rw [HE.out]; exact HP.out.below HBZ.out, HBZ.out.mono HBS.out, PKept.of_below HBZ.out⟩
            · have e : commitR L name fs = ((L.length : Int), 0, L ++ [⟨name, srtF fs⟩]) := by unfold commitR; rw [if_neg (by have := HG1.out; have := HG2.out; omega), if_neg (fun q => q HND.out), if_neg (fun q => hem (by obtain ⟨_, q2⟩ := hfe.2 q; exact q2))]
              have HE := Aside0.mk e
              have hbq : ((d[0]'(by omega)).f0.toList == []) = false := beq_eq_false_iff_ne.2 hem
              generalize d[0]'(by omega) = x at *
              clear e hem hfe
              have HPR := Aside0.mk (HP.out.below HBZ.out)
              obtain ⟨A3, cap3, ps, q1, q2, q3, q4, q5⟩ := HPR.out
              have hA3 : Value.slice A3 L.length cap3 = Value.slice A L.length cap := by
                have := hx0'
                unfold World.cell? at this
                rw [q3] at this
                exact Option.some.inj this
              cases hA3
              have HQ1 := Aside0.mk q1
              have HQ4 := Aside0.mk q4
              have HQ := Aside0.mk (⟨q2, q3, q5⟩ : base ≤ p ∧ wr.heap[p]? = some (.cells #[.slice A L.length cap] 61 (0, 0)) ∧ ∀ i, ∀ h : i < L.length, ∀ h' : i < ps.length, ComAt wr ps[i] L[i])
              have hplt : p < wr.heap.size := by have := HBZ.out.size; have := HPL.out; omega
              have HPW := Aside0.mk hplt
              have HBR : Aside0 (Below base w wr) := ⟨HBZ.out.mono HBS.out⟩
              have HBW := Aside0.mk (show base ≤ wr.heap.size by have := HBZ.out.size; have := HBS.out; omega)
              rw [← q1] at hx0'
              clear q1 q2 q3 q4 q5
              go_wp2_with (at_builtin; go_loud (refine Kd.R_append kP (w0 := wr) base rfl (.tmp 63) (.tmp 68) 59 63 (.pointer none) 8 rfl Tryz.underlying59 info77 rfl (by decide) (by omega) _ ps wr.heap.size [.pointer (some ⟨wr.heap.size, 0, none⟩)] (fun _ => True) (fun _ => False) rfl (by first | rfl | (simp; done) | (go_simp; done)) rfl (fun _ hk => hk.elim) (fun _ _ => trivial) (Kd.R_alloc (by rw [HQ1.out]; exact HQ4.out) _) ((Below.refl base wr).alloc HBW.out _) (by have := HBW.out; simp; omega) (by have := HQ1.out; have := HLL.out; omega) ?_); intro v1 w5 ho hb hg hat; go_loud (obtain ⟨A5, c5, rfl⟩ := Kd.R_slice ho; have hg' : (wr.alloc (.cells #[.string name, .slice (some ⟨bb, oo, none⟩) d.length c2] 81)).grownBy w5 (Value.slice A ps.length cap).ownBlock := hg; have hp5 := heap_pushed HQ.out.2.1 rfl hg' (own_ne (by rw [HQ1.out]; exact HQ4.out) HQ.out.2.1); have hc5 : w5.cell? ⟨p, 0, none⟩ = some (.slice A L.length cap) := (by unfold World.cell?; rw [hp5]; rfl); have hf5 : w5.frozen? ⟨p, 0, none⟩ = false := (by simp [World.frozen?, hp5])); have HO5 := Aside0.mk ho; have HB5 := Aside0.mk hb; have HG5 := Aside0.mk hg'; clear ho hb hg hg' hat hp5)
              have HF : Aside0 (FRow wr (some ⟨bb, oo, none⟩) c2 (srtF fs)) := ⟨by rw [← HSR.out]; exact (FRow.of_R (by have := HO.out; rw [← HDL.out] at this; exact this)).keep (PKept.of_below HBe.out)⟩
              have HFIN := Aside0.mk (past_pushed (x := ⟨name, srtF fs⟩) (A' := some ⟨bb, oo, none⟩) (cap' := c2) HQ1.out HQ.out.1 HBW.out HQ.out.2.1 (by rw [HQ1.out]; exact HQ4.out) HQ.out.2.2 (by rw [show (⟨name, srtF fs⟩ : Com).files.length = d.length by rw [HSR.out]]) HF.out HO5.out HB5.out HG5.out)
              have hlen5 : (ps ++ [wr.heap.size]).length = L.length + 1 := by rw [List.length_append, HQ1.out]; rfl
              go_ret2
              have HF2 := HFIN.out
              rw [show (ps ++ [wr.heap.size]).length = ps.length + 1 by rw [List.length_append]; rfl] at HF2
              refine ⟨?_, by rw [HE.out]; exact HF2.1, HBR.out.trans HF2.2.1, (PKept.of_below HBZ.out).trans HF2.2.2⟩
              rw [HE.out]
              have hw : wrap64 (ps.length : Int) = (L.length : Int) := by rw [HQ1.out, w64 (by omega) (by have := HLL.out; omega)]
              show Ending.returned (.tuple #[.int .i64 (wrap64 (ps.length : Int)), .int .i64 0]) = _
              rw [hw]
end Go.Proofs.YthimblhfjfngiaaGreat.PText

namespace Go.Proofs.YthimblhfjfngiaaGreat.PText
open Go.RowKit Go.Proofs.YthimblhfjfngiaaGreatW.PrintWords Go.Proofs.YthimblhfjfngiaaGreatW.PrintLast Go.Proofs.YthimblhfjfngiaaGreatW.PrintMore
set_option linter.unusedVariables false
set_option linter.unusedSimpArgs false
/-- a builder stays where all that lay stays -/
theorem builder_kept {T e : TypeId} {B b : Nat} {bs : List Value} {W W' : World} (h : Lib.IsBuilderF T e B b bs W) (hb : Below W.heap.size W W') : Lib.IsBuilderF T e B b bs W' := by
  have one : ∀ p, Lib.BuilderAtF T e B b p bs W → Lib.BuilderAtF T e B b p bs W' := by
    rintro p ⟨hB, v, hv, hown, hne⟩
    have hlt : b < W.heap.size := (Array.getElem?_eq_some_iff.1 hv).1
    exact ⟨hB, v, (hb.block b hlt).trans hv, hown.kept (row := none) ⟨hb.os, hb.tape, hb.output, hb.size, fun k hk _ => hb.block k hk⟩ (Classical.em _), hne⟩
  rcases h with h | h
  · exact .inl (one _ h)
  · exact .inr (one _ h)
theorem heap_new (w : World) (o : Obj) : (w.alloc o).heap[w.heap.size]? = some o := by
  show (w.heap.push o)[w.heap.size]? = some o
  exact Array.getElem?_push_size
theorem heap_old {w : World} {k : Nat} {o : Obj} (h : w.heap[k]? = some o) (o' : Obj) : (w.alloc o').heap[k]? = some o := by
  have hk : k < w.heap.size := (Array.getElem?_eq_some_iff.1 h).1
  show (w.heap.push o')[k]? = some o
  rw [Array.getElem?_push, if_neg (by omega), h]
theorem add_block (a : Addr) (n : Nat) : (a.add n).block = a.block := by unfold Addr.add; split <;> rfl
theorem cell_same {w w' : World} {p : Addr} (h : w'.heap[p.block]? = w.heap[p.block]?) : w'.cell? p = w.cell? p := by unfold World.cell?; rw [h]
/-- where the row of some edits lies: a block of cells of their type, or there are none -/
theorem row_block {w : World} {B : Nat} {A : Option Addr} {c : Nat} {l : List S91} (h : Kd.R k91 91 w B (fun _ => True) (.slice A l.length c) l) :
    ∃ (g : Nat) (cs : Array Value), (l ≠ [] → A = some ⟨g, 0, none⟩) ∧ (l = [] ∨ (B ≤ g ∧ w.heap[g]? = some (.cells cs 91 (0, 0)))) := by
  by_cases hl : l = []
  · exact ⟨0, #[], fun q => absurd hl q, .inl hl⟩
  · obtain ⟨g, cap, hv, hb, _, cs, hc⟩ := Kd.R_form h (List.length_pos_iff.2 hl)
    cases hv
    exact ⟨g, cs, fun _ => rfl, .inr ⟨hb, hc⟩⟩
set_option maxHeartbeats 8000000 in
set_option maxRecDepth 100000 in
theorem text_Apply.calls (a0 : ByteArray) (A1 : Option Addr) (c1 : Nat) (l1 : List S91) (r1 : ByteArray) (r2 : Int) (w : World) (hr1 : Kd.C k91 w A1 l1.length l1) (hc1 : l1.length ≤ c1) (h : text_Apply.f a0 l1 = some (r1, r2)) :
    Calls Tryz.prog 62 #[.string a0, .slice A1 l1.length c1] w fun e w' => e = .returned (.tuple #[.string r1, .int .i64 r2]) ∧ Below w.heap.size w w' := by
  have H12 := Aside0.mk (text_Fine.calls a0 A1 c1 l1 (fineE a0.size l1) w hr1 hc1 rfl)
  have HC := Aside0.mk hr1
  have HL := Aside0.mk hc1
  clear hr1 hc1
  unfold text_Apply.f at h
  by_cases hf : fineE a0.size l1 = 0
  · rw [if_neg (by rw [hf]; decide)] at h
    rw [hf] at H12
    have CHN := Aside0.mk (fine_chain a0.size l1 hf)
    have HF := Aside0.mk hf
    clear hf
    have H32 := Aside0.mk (fun w2 (h2 : Kd.C k91 w2 A1 l1.length l1) => text_sorted.calls A1 c1 l1 (Tx.ord eltS l1) w2 h2 HL.out (by unfold text_sorted.f; rw [if_pos CHN.out.1]))
    have HH := Aside0.mk h
    clear h
    have HME := Aside0.mk (show madeE a0 l1 = Tx.ap a0.data.toList 0 ((Tx.ord eltS l1).map toE) from rfl)
    have CH := Aside0.mk CHN.out.2.2
    have HRL := Aside0.mk (Nat.le_trans (Tx.ord_len (lt := eltS) l1) CHN.out.1)
    clear CHN
    generalize Tx.ord eltS l1 = row at H32 CH HME HRL
    generalize madeE a0 l1 = M at HH HME
    have hu34 := Tryz.underlying91
    go_enter Tryz.func62, Tryz.ntmps62
    go_wp2_with (first
      | (go_at_call 74; refine H12.out.mono ?_; rintro e w2 ⟨rfl, hb⟩; have HB := Aside0.mk hb; clear hb H12)
      | (go_at_call 75; refine (H32.out _ (Kd.C_alloc (Kd.C_below HC.out HB.out) _)).mono ?_; rintro e w3 ⟨v3, rfl, ho, hb⟩; obtain ⟨A3, c3, rfl⟩ := Kd.R_slice ho; have HO := Aside0.mk ho; have HB3 := Aside0.mk hb; clear ho hb H32))
    have h0 : Lib.IsBuilderF 131 5 w2.heap.size w2.heap.size [] (w2.alloc (.cells #[.pointer none, .slice none 0 0] 131)) := Lib.IsBuilderF.of (Lib.fresh_isBuilder 131 5 w2)
    have hR := Kd.R_reads' HO.out
    obtain ⟨g, cs, hA, hg⟩ := row_block HO.out
    have hC := Aside0.mk hR.2.2
    have H1 := Aside0.mk (builder_kept h0 HB3.out)
    have HB4 : Aside0 (Below w.heap.size w w3) := ⟨((HB.out.alloc HB.out.size _).trans (HB3.out.mono (by have := HB.out.size; simp; omega)))⟩
    have HG : Aside0 (row = [] ∨ (w2.heap.size < g ∧ w3.heap[g]? = some (.cells cs 91 (0, 0)))) := ⟨hg.imp id (fun q => ⟨by have := q.1; simp at this; omega, q.2⟩)⟩
    have HA := Aside0.mk hA
    have HSZ := Aside0.mk HB3.out.size
    have HW := Aside0.mk HB.out.size
    clear h0 HB HB3 hR hg hA HO
    go_loopg [8, 20] (row.length + 1) (fun kq v8 v20 w' => ∃ (i : Nat) (p : Int) (P : List UInt8), v8 = .int .i64 p ∧ v20 = .int .i64 (i : Int) ∧ Aside0 (row.length - i < kq ∧ i ≤ row.length ∧ 0 ≤ p) ∧ Aside0 (Tx.Ch (a0.size : Int) p ((row.drop i).map toE)) ∧ Aside0 (P ++ Tx.ap a0.data.toList p ((row.drop i).map toE) = M) ∧ Aside0 (Lib.IsBuilderF 131 5 w2.heap.size w2.heap.size (Lib.byteCells P) w') ∧ Aside0 (Below w.heap.size w w') ∧ Aside0 (row = [] ∨ (w2.heap.size < g ∧ w'.heap[g]? = some (.cells cs 91 (0, 0)))) ∧ Aside0 (w2.heap.size < w'.heap.size))
    case atStart => exact ⟨0, 0, [], rfl, rfl, ⟨by omega, by omega, by omega⟩, CH, ⟨by rw [HME.out]; rfl⟩, H1, HB4, HG, ⟨by have := HSZ.out; simp at this; omega⟩⟩
    case round =>
      obtain ⟨i, p, P, rfl, rfl, HI, HC2, HP, HBu, HBe, HGe, HS⟩ := hrel
      obtain ⟨k1, rfl⟩ : ∃ k1, gk = k1 + 1 := ⟨gk - 1, by have := HI.out.1; omega⟩
      by_cases hlt : i < row.length
      · have hb : decide ((i : Int) < (row.length : Int)) = true := by simp; omega
        have hb2 : decide ((0 : Int) ≤ (i : Int)) = true := by simp
        have p0 : (0 : Int) ≤ (i : Int) := by omega
        have q0 : (i : Int) < (row.length : Int) := by omega
        obtain ⟨ad, e0, hx0, hx1, hx2⟩ := at_T91 hC.out (i : Int) p0 q0
        have hblk : ad.block = g := by
          have := HA.out (fun e => by rw [e] at hlt; cases hlt)
          rw [e0] at this; cases this; rfl
        have hgw : wr.heap[g]? = w3.heap[g]? := by
          rcases HG.out with q | q
          · rw [q] at hlt; cases hlt
          · rcases HGe.out with q2 | q2
            · rw [q2] at hlt; cases hlt
            · rw [q.2, q2.2]
        cases e0
        replace hx0 := (cell_same (w' := wr) (p := ad.add ((i : Int).toNat * 3)) (by simp only [add_block]; rw [hblk, hgw])).trans hx0
        replace hx1 := (cell_same (w' := wr) (p := ⟨(ad.add ((i : Int).toNat * 3)).block, (ad.add ((i : Int).toNat * 3)).off + 1, none⟩) (by simp only [add_block]; rw [hblk, hgw])).trans hx1
        replace hx2 := (cell_same (w' := wr) (p := ⟨(ad.add ((i : Int).toNat * 3)).block, (ad.add ((i : Int).toNat * 3)).off + 2, none⟩) (by simp only [add_block]; rw [hblk, hgw])).trans hx2
        rw [Int.toNat_natCast] at hx0 hx1 hx2
        rw [rd34_at row i hlt] at hx0 hx1 hx2
        have hd : row.drop i = row[i] :: row.drop (i + 1) := List.drop_eq_getElem_cons hlt
        have HD := Aside0.mk hd
        clear hd hgw
        generalize row[i] = x at *
        have hc := HC2.out
        rw [HD.out] at hc
        obtain ⟨hc1, hc2, hc3⟩ := hc
        replace hc1 : p ≤ x.f0 := hc1
        replace hc2 : x.f0 ≤ x.f1 := hc2
        have hc4 : x.f1 ≤ (a0.size : Int) := Tx.ch_le hc3
        have HC3 := Aside0.mk hc3
        clear hc3
        have hp0 : 0 ≤ p := HI.out.2.2
        have hf0 : x.f0 ≤ (a0.size : Int) := by omega
        have hap : P ++ (Tx.sl a0.data.toList p x.f0 ++ (toE x).x ++ Tx.ap a0.data.toList x.f1 ((row.drop (i + 1)).map toE)) = M := by
          have := HP.out
          rw [HD.out] at this
          exact this
        have HP2 := Aside0.mk hap
        have hML : M.length ≤ 140737488351232 := by
          have := HH.out
          by_cases q : M.length ≤ 140737488351232
          · exact q
          · rw [if_neg q] at this; cases this
        have hsz : P.length + ((a0.extract p.toNat x.f0.toNat).size + x.f2.size) ≤ 140737488351232 := by
          have h1 := congrArg List.length hap
          rw [List.length_append, List.length_append, List.length_append, ← ext_sl, ← size_list, toE_x, ← size_list] at h1
          omega
        have HML := Aside0.mk hML
        obtain ⟨E, hE⟩ : ∃ E, a0.extract p.toNat x.f0.toNat = E := ⟨_, rfl⟩
        rw [hE] at hsz
        have hcat : (E.size + x.f2.size ≤ 9223372036854775807) = True := eq_true (by omega)
        have hcat2 : decide (E.size + x.f2.size ≤ 9223372036854775807) = true := decide_eq_true (by omega)
        have hcat3 : (9223372036854775807 < E.size + x.f2.size) = False := eq_false (by omega)
        have HSZ2 := Aside0.mk hsz
        clear hap hsz hML hblk
        go_wp2_with fail
        go_region_held3 (fun w' => w'.cell? ⟨wr.heap.size, 0, none⟩ = some (.int .i64 x.f0) ∧ w'.cell? ⟨wr.heap.size, 1, none⟩ = some (.int .i64 x.f1) ∧ w'.cell? ⟨wr.heap.size, 2, none⟩ = some (.string x.f2))
          (first
            | go_keep
            | (refine ⟨?_, ?_, ?_⟩ <;> simp [World.cell?, HK]))
          (first | (go_at_call 76; refine (Tryz.Builder_WriteString_k w2.heap.size w2.heap.size (Lib.byteCells P) (E ++ x.f2) _ ?zb ?zl ?zs).mono ?_; (case zb => exact HBu.out.alloc _); (case zl => (rw [Lib.byteCells_length, ByteArray.size_append]; have := HSZ2.out; omega)); (case zs => (have := HS.out; simp; omega)); rintro e w4 ⟨rfl, hbu, hbel, hok⟩; have HK := hok wr.heap.size (.cells #[.int .i64 x.f0, .int .i64 x.f1, .string x.f2] 91 (0, 0)) (heap_new wr _) (by have := HS.out; intro e; have := Option.some.inj e; omega) (by intro c fz e; cases e)))
        have HB5 : Aside0 (Below w.heap.size w w4) := ⟨(HBe.out.alloc HBe.out.size _).drew.trans (hbel.mono HW.out)⟩
        have HS5 : Aside0 (w2.heap.size < w4.heap.size) := ⟨by have := hbel.size; have := HS.out; simp at *; omega⟩
        have HG5 : Aside0 (row = [] ∨ (w2.heap.size < g ∧ w4.heap[g]? = some (.cells cs 91 (0, 0)))) := ⟨HGe.out.imp id (fun q => ⟨q.1, hok g _ (heap_old q.2 _) (by intro e; have := Option.some.inj e; have := q.1; omega) (by intro c fz e; cases e)⟩)⟩
        have HBu5 : Aside0 (Lib.IsBuilderF 131 5 w2.heap.size w2.heap.size (Lib.byteCells (P ++ (E ++ x.f2).data.toList)) w4) := ⟨by
          rw [Lib.byteCells_append, ← Lib.strCells_eq]
          exact Or.inr hbu⟩
        have HP5 : Aside0 ((P ++ (E ++ x.f2).data.toList) ++ Tx.ap a0.data.toList x.f1 ((row.drop (i + 1)).map toE) = M) := ⟨by
          rw [ByteArray.data_append, Array.toList_append, ← hE, ext_sl, ← toE_x, List.append_assoc, HP2.out]⟩
        have hc1 := cell_same (w' := w4) (w := w4) (p := ⟨wr.heap.size, 1, none⟩) rfl
        have hx1' : w4.cell? ⟨wr.heap.size, 1, none⟩ = some (.int .i64 x.f1) := by simp [World.cell?, HK]
        clear hbu hbel hok HK hc1
        go_wp2_with fail
        go_roundg k1
        case measure => have := HI.out.1; omega
        case rel => exact ⟨i + 1, x.f1, P ++ (E ++ x.f2).data.toList, rfl, congrArg (Value.int .i64) (nx i (by have := HRL.out; omega)), ⟨by have := HI.out.1; omega, by omega, by omega⟩, HC3, HP5, HBu5, HB5, HG5, HS5⟩
      · have hb : decide ((i : Int) < (row.length : Int)) = false := by simp; omega
        have hp0 : 0 ≤ p := HI.out.2.2
        have hd : row.drop i = [] := List.drop_of_length_le (by omega)
        have hc := HC2.out
        rw [hd] at hc
        have hp1 : p ≤ (a0.size : Int) := hc
        have hPM : P ++ a0.data.toList.drop p.toNat = M := by
          have := HP.out
          rw [hd] at this
          exact this
        have HPM := Aside0.mk hPM
        clear hd hc hPM
        have hML : M.length ≤ 140737488351232 := by
          have := HH.out
          by_cases q : M.length ≤ 140737488351232
          · exact q
          · rw [if_neg q] at this; cases this
        have HML := Aside0.mk hML
        clear hML
        go_wp2_with fail
        refine (Tryz.Builder_WriteString_k w2.heap.size w2.heap.size (Lib.byteCells P) (a0.extract p.toNat a0.size) _ HBu.out ?_ (Nat.le_of_lt HS.out)).mono ?_
        · rw [Lib.byteCells_length, size_list, ext_end]
          have h1 := congrArg List.length HPM.out
          rw [List.length_append] at h1
          have := HML.out
          omega
        rintro e w4 ⟨rfl, hbu, hbel, -⟩
        have HB5 : Aside0 (Below w.heap.size w w4) := ⟨HBe.out.trans (hbel.mono HW.out)⟩
        have HS5 : Aside0 (w2.heap.size < w4.heap.size) := ⟨by have := hbel.size; have := HS.out; omega⟩
        have HBu5 : Aside0 (Lib.IsBuilderF 131 5 w2.heap.size w2.heap.size (Lib.byteCells M) w4) := ⟨by
          rw [← HPM.out, Lib.byteCells_append, ← ext_end, ← Lib.strCells_eq]
          exact Or.inr hbu⟩
        have HF := HH.out
        rw [if_pos HML.out] at HF
        clear hbu hbel HBu HBe
        have hlenB : (Lib.byteCells M).length = M.length := Lib.byteCells_length M
        by_cases hbig : 200000 < M.length
        · rw [if_pos hbig] at HF
          have h' := Option.some.inj HF
          have e1 : r1 = ⟨#[]⟩ := (congrArg Prod.fst h').symm
          have e2 : r2 = 2 := (congrArg Prod.snd h').symm
          clear HF h' HH
          subst e1 e2
          have hbg : decide (200000 < (M.length : Int)) = true := by simp; omega
          go_wp2_with (go_at_call 77; refine (Tryz.Builder_Len_f _ _ _ _ HBu5.out).mono ?_; rintro e w5 ⟨rfl, rfl⟩; rw [hlenB])
          go_ret2
          exact ⟨rfl, HB5.out⟩
        · rw [if_neg hbig] at HF
          have h' := Option.some.inj HF
          have e1 : r1 = ⟨M.toArray⟩ := (congrArg Prod.fst h').symm
          have e2 : r2 = 0 := (congrArg Prod.snd h').symm
          clear HF h' HH
          subst e1 e2
          have hbg : decide (200000 < (M.length : Int)) = false := by simp; omega
          go_wp2_with (first
            | (go_at_call 77; refine (Tryz.Builder_Len_f _ _ _ _ HBu5.out).mono ?_; rintro e w5 ⟨rfl, rfl⟩; rw [hlenB])
            | (go_at_call 78; refine (Tryz.Builder_String_any_k w2.heap.size w2.heap.size M _ HBu5.out (Nat.le_of_lt HS5.out)).mono ?_; rintro e w5 ⟨rfl, -, hbel, -⟩; have HB6 := Aside0.mk (HB5.out.trans (hbel.mono HW.out)); clear hbel))
          go_ret2
          exact ⟨rfl, HB6.out⟩
  · rw [if_pos hf] at h
    have h' := Option.some.inj h
    have hr : r1 = ⟨#[]⟩ ∧ r2 = fineE a0.size l1 := ⟨(congrArg Prod.fst h').symm, (congrArg Prod.snd h').symm⟩
    clear h h'
    obtain ⟨rfl, rfl⟩ := hr
    have b1 : (fineE a0.size l1 != 0) = true := by simpa using hf
    have b2 : (fineE a0.size l1 == 0) = false := by simpa using hf
    generalize fineE a0.size l1 = fe at *
    clear hf
    go_enter Tryz.func62, Tryz.ntmps62
    go_wp2_with (go_at_call 74; refine H12.out.mono ?_; rintro e w2 ⟨rfl, hb⟩; have HB := Aside0.mk hb; clear hb H12)
    go_ret2
    exact ⟨rfl, HB.out⟩
end Go.Proofs.YthimblhfjfngiaaGreat.PText

