/- TextRefuses holds: for every two texts the statement answers true, where the seven listed package variables hold what the program's text lays. Part 15 of 21. -/
import Derived.Test.YtidlmkdoofcgnaaGreatDoorBRefusesN
import Derived.Shelf.SlicesQ.IndexFunc
namespace Go.Proofs.YtidlmkdoofcgnaaGreatDoor.PText
open Go.RowKit Go.Lib Go.Proofs.YtidlmkdoofcgnaaGreatDoorW.PrintWords Go.Proofs.YtidlmkdoofcgnaaGreatDoorW.PrintLast Go.Proofs.YtidlmkdoofcgnaaGreatDoorW.PrintMore
set_option linter.unusedVariables false
set_option linter.unusedSimpArgs false
def text_Fine.f (a0 : ByteArray) (l1 : List S24) : Option Int := some (fineE a0.size l1)
theorem fine_pred (s : ByteArray) (B : Nat) (w : World) (hB : B < w.heap.size) (hcell : w.cell? ⟨B, 0, none⟩ = some (.string s)) :
    PredBelow Tryz.prog 62 #[.pointer (some ⟨B, 0, none⟩)] (fun x => .agg (enc34 x).toArray) (badE s.size) w := fun W x hb => by
  have hc : W.cell? ⟨B, 0, none⟩ = some (.string s) := (hb.cell (p := ⟨B, 0, none⟩) hB).trans hcell
  have hBW : B < W.heap.size := Nat.lt_of_lt_of_le hB hb.size
  have hne : B ≠ W.heap.size := by omega
  have hu34 := Tryz.underlying24
  show Calls Tryz.prog 62 #[.agg #[.int .i64 x.f0, .int .i64 x.f1, .string x.f2], .pointer (some ⟨B, 0, none⟩)] W _
  unfold badE
  by_cases h1 : x.f0 < 0
  · go_enter Tryz.func62, Tryz.ntmps62
    go_wp2
    go_ret
    exact ⟨by simp [h1], hb.alloc hb.size _⟩
  · by_cases h2 : (s.size : Int) < x.f1
    · go_enter Tryz.func62, Tryz.ntmps62
      go_wp2
      go_ret
      exact ⟨by simp [h1, h2], hb.alloc hb.size _⟩
    · go_enter Tryz.func62, Tryz.ntmps62
      go_wp2
      go_ret
      exact ⟨by first | (simp [h1, h2]; done) | (simp; omega), hb.alloc hb.size _⟩
set_option maxHeartbeats 1000000 in
theorem index_empty (p : Option Addr) (c g : Nat) (lb : Array Value) (w : World) : Calls Tryz.prog 88 #[.slice p 0 c, .func (.func g) #[] lb] w fun e w' => e = .returned (.int .i64 (-1)) ∧ Below w.heap.size w w' := by
  go_enter Tryz.func88, Tryz.ntmps88
  go_wp2
  go_loopg [5, 8] 0 (fun _ _ s8 wr => s8 = .int .i64 0 ∧ wr = w)
  case atStart => exact ⟨rfl, rfl⟩
  case round =>
    obtain ⟨rfl, rfl⟩ := hrel
    go_wp2
    go_ret
    exact ⟨rfl, Below.refl _ _⟩
set_option maxHeartbeats 1000000 in
theorem contains_empty (p : Option Addr) (c g : Nat) (lb : Array Value) (w : World) : Calls Tryz.prog 61 #[.slice p 0 c, .func (.func g) #[] lb] w fun e w' => e = .returned (.bool false) ∧ Below w.heap.size w w' := by
  go_enter Tryz.func61, Tryz.ntmps61
  go_wp2_with (go_at_call 88; refine (index_empty p c g lb _).mono ?_; rintro e w' ⟨rfl, hb⟩)
  go_ret
  exact ⟨rfl, hb⟩
theorem C_addr34 {w : World} {A : Option Addr} {l : List S24} (h : Kd.C k24 w A l.length l) (hp : 0 < l.length) :
    ∃ b o, A = some ⟨b, o, none⟩ ∧ b < w.heap.size ∧ ∀ j, j < l.length → ∀ i v, (enc34 l[j]!)[i]? = some v → w.cell? ⟨b, o + j * 3 + i, none⟩ = some v := by
  obtain ⟨⟨b, o, sp⟩, rfl, h0, _⟩ := at_T24 h 0 (by omega) (by omega)
  have hsp : sp = none := by
    cases sp with
    | none => rfl
    | some q =>
      unfold World.cell? at h0
      simp only [Addr.add] at h0
      split at h0 <;> simp at h0
  subst hsp
  have hb : b < w.heap.size := World.block_lt_of_cell? w _ h0
  refine ⟨b, o, rfl, hb, fun j hj i v hv => ?_⟩
  obtain ⟨ad, e, h1, h2, h3⟩ := at_T24 h (j : Int) (by omega) (by omega)
  cases e
  rw [rd34_at l j hj] at h1 h2 h3
  rw [getElem!_pos l j hj] at hv
  simp only [Int.toNat_natCast, Addr.add_lit] at h1 h2 h3
  match i, hv with
  | 0, hv => simp [enc34] at hv; subst hv; exact h1
  | 1, hv => simp [enc34] at hv; subst hv; exact h2
  | 2, hv => simp [enc34] at hv; subst hv; exact h3
  | i + 3, hv => simp [enc34] at hv
theorem contains_calls (a0 : ByteArray) (A1 : Option Addr) (c1 B : Nat) (l1 : List S24) (w : World) (hC : Kd.C k24 w A1 l1.length l1) (hB : B < w.heap.size) (hcell : w.cell? ⟨B, 0, none⟩ = some (.string a0)) (hl : l1.length ≤ 10000) :
    Calls Tryz.prog 61 #[.slice A1 l1.length c1, .func (.func 62) #[] #[.pointer (some ⟨B, 0, none⟩)]] w fun e w' => e = .returned (.bool (l1.any (badE a0.size))) ∧ Below w.heap.size w w' := by
  by_cases hp : l1.length = 0
  · obtain rfl := List.eq_nil_of_length_eq_zero hp
    exact contains_empty A1 c1 62 _ w
  · obtain ⟨b, o, rfl, hb, hc⟩ := C_addr34 hC (by omega)
    have eg : ∀ args w, (callFunc 62 args).run Tryz.prog w = .ok (.enter 62 args) w := enters_of Tryz.func62 (by kernel_rfl) rfl
    have h := AnyQ.slices_ContainsFunc Tryz.containsEd 3 isAgg34 sizeOf34 enc34 enc34_len (badE a0.size) 62 #[.pointer (some ⟨B, 0, none⟩)] eg b o l1.length c1 l1 w (fine_pred a0 B w hB hcell) (Nat.le_refl _) (by omega) hb hc
    rw [List.take_length] at h
    exact h
set_option maxHeartbeats 8000000 in
set_option maxRecDepth 100000 in
theorem text_Fine.calls (a0 : ByteArray) (A1 : Option Addr) (c1 : Nat) (l1 : List S24) (r : Int) (w : World) (hr1 : Kd.C k24 w A1 l1.length l1) (hc1 : l1.length ≤ c1) (h : text_Fine.f a0 l1 = some r) :
    Calls Tryz.prog 41 #[.string a0, .slice A1 l1.length c1] w fun e w' => e = .returned (.int .i64 r) ∧ Below w.heap.size w w' := by
  have hr := Option.some.inj h
  clear h
  have HR := Aside0.mk hr
  have HC := Aside0.mk hr1
  have HL := Aside0.mk hc1
  clear hr hr1 hc1
  by_cases g1 : 200000 < a0.size
  · go_enter Tryz.func41, Tryz.ntmps41
    go_wp2
    go_ret
    refine ⟨?_, (Below.refl _ w).alloc (Nat.le_refl _) _⟩
    rw [← HR.out]
    unfold fineE
    rw [if_pos (Or.inl g1)]
    rfl
  · by_cases g2 : 10000 < l1.length
    · go_enter Tryz.func41, Tryz.ntmps41
      go_wp2
      go_ret
      refine ⟨?_, (Below.refl _ w).alloc (Nat.le_refl _) _⟩
      rw [← HR.out]
      unfold fineE
      rw [if_pos (Or.inr g2)]
      rfl
    · have W1 := Aside0.mk ((Below.refl w.heap.size w).alloc (Nat.le_refl _) (.cells #[.string a0] 9))
      have H37 := Aside0.mk (contains_calls a0 A1 c1 w.heap.size l1 (w.alloc (.cells #[.string a0] 9)) (Kd.C_below HC.out W1.out) (by simp) (by simp) (by omega))
      have H32 := Aside0.mk (fun w2 (h2 : Kd.C k24 w2 A1 l1.length l1) => text_sorted.calls A1 c1 l1 (Tx.ord eltS l1) w2 h2 HL.out (by unfold text_sorted.f; rw [if_pos (by omega)]))
      have hlo : (Tx.ord eltS l1).length ≤ 10000 := Nat.le_trans (Tx.ord_len l1) (by omega)
      have HLO := Aside0.mk hlo
      clear hlo
      obtain ⟨cl, hcl⟩ : ∃ b, b = Tx.clash 0 (-1) ((Tx.ord eltS l1).map toE) := ⟨_, rfl⟩
      have H39 := Aside0.mk (fun A c w3 (h3 : Kd.C k24 w3 A (Tx.ord eltS l1).length (Tx.ord eltS l1)) (h4 : (Tx.ord eltS l1).length ≤ c) => text_clash.calls 20001 A c (Tx.ord eltS l1) cl w3 h3 h4 (by rw [clash_f _ HLO.out, hcl]))
      have HCL := Aside0.mk hcl
      clear hcl
      cases hany : l1.any (badE a0.size) with
      | true =>
        rw [hany] at H37
        have HA := Aside0.mk hany
        clear hany H32 H39
        go_enter Tryz.func41, Tryz.ntmps41
        go_wp2_with (go_at_call 61; refine H37.out.mono ?_; rintro e w2 ⟨rfl, hb⟩; have HB := Aside0.mk hb; clear hb H37)
        go_ret
        refine ⟨?_, W1.out.trans (HB.out.mono (by simp))⟩
        rw [← HR.out]
        unfold fineE
        rw [if_neg (by omega), if_pos HA.out]
        rfl
      | false =>
        rw [hany] at H37
        have HA := Aside0.mk hany
        clear hany
        have fin : (if cl = true then (10 : Int) else 0) = r := by
          rw [← HR.out]
          unfold fineE
          rw [if_neg (show ¬ (200000 < a0.size ∨ 10000 < l1.length) by omega), if_neg (show ¬ (l1.any (badE a0.size) = true) by rw [HA.out]; decide), ← HCL.out]
        have FIN := Aside0.mk fin
        clear fin
        cases cl with
        | true =>
          go_enter Tryz.func41, Tryz.ntmps41
          go_wp2_with (first
            | (go_at_call 61; refine H37.out.mono ?_; rintro e w2 ⟨rfl, hb⟩; have HB := Aside0.mk (W1.out.trans (hb.mono (by simp))); clear hb H37)
            | (go_at_call 42; refine (H32.out w2 (Kd.C_below HC.out HB.out)).mono ?_; rintro e w3 ⟨v3, rfl, ho, hb⟩; obtain ⟨A3, c3, rfl⟩ := Kd.R_slice ho; have HO := Aside0.mk ho; have HB3 := Aside0.mk (HB.out.trans (hb.mono HB.out.size)); clear ho hb H32)
            | (go_at_call 63; refine (H39.out A3 c3 w3 (Kd.R_reads' HO.out).2.2 (Kd.R_reads' HO.out).2.1).mono ?_; rintro e w4 ⟨rfl, hb⟩; have HB4 := Aside0.mk (HB3.out.trans (hb.mono HB3.out.size)); clear hb H39))
          go_ret
          exact ⟨by rw [← FIN.out]; rfl, HB4.out⟩
        | false =>
          go_enter Tryz.func41, Tryz.ntmps41
          go_wp2_with (first
            | (go_at_call 61; refine H37.out.mono ?_; rintro e w2 ⟨rfl, hb⟩; have HB := Aside0.mk (W1.out.trans (hb.mono (by simp))); clear hb H37)
            | (go_at_call 42; refine (H32.out w2 (Kd.C_below HC.out HB.out)).mono ?_; rintro e w3 ⟨v3, rfl, ho, hb⟩; obtain ⟨A3, c3, rfl⟩ := Kd.R_slice ho; have HO := Aside0.mk ho; have HB3 := Aside0.mk (HB.out.trans (hb.mono HB.out.size)); clear ho hb H32)
            | (go_at_call 63; refine (H39.out A3 c3 w3 (Kd.R_reads' HO.out).2.2 (Kd.R_reads' HO.out).2.1).mono ?_; rintro e w4 ⟨rfl, hb⟩; have HB4 := Aside0.mk (HB3.out.trans (hb.mono HB3.out.size)); clear hb H39))
          go_ret
          exact ⟨by rw [← FIN.out]; rfl, HB4.out⟩
end Go.Proofs.YtidlmkdoofcgnaaGreatDoor.PText

