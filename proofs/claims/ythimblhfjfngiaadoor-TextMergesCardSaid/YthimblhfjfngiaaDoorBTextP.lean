/- Chapter 01: what the claims share. Part 16 of 18. -/
import Derived.Test.YthimblhfjfngiaaDoorBTextO
import Derived.Shelf.SlicesQ.IndexFunc
namespace Go.Proofs.YthimblhfjfngiaaDoor.PText
open Go.RowKit Go.Lib Go.Proofs.YthimblhfjfngiaaDoorW.PrintWords Go.Proofs.YthimblhfjfngiaaDoorW.PrintLast Go.Proofs.YthimblhfjfngiaaDoorW.PrintMore
set_option linter.unusedVariables false
set_option linter.unusedSimpArgs false
def text_Fine.f (a0 : ByteArray) (l1 : List S34) : Option Int := some (fineE a0.size l1)
theorem fine_pred (s : ByteArray) (B : Nat) (w : World) (hB : B < w.heap.size) (hcell : w.cell? ⟨B, 0, none⟩ = some (.string s)) :
    PredBelow Tryd.prog 38 #[.pointer (some ⟨B, 0, none⟩)] (fun x => .agg (enc34 x).toArray) (badE s.size) w := fun W x hb => by
  have hc : W.cell? ⟨B, 0, none⟩ = some (.string s) := (hb.cell (p := ⟨B, 0, none⟩) hB).trans hcell
  have hBW : B < W.heap.size := Nat.lt_of_lt_of_le hB hb.size
  have hne : B ≠ W.heap.size := by omega
  have hu34 := Tryd.underlying34
  show Calls Tryd.prog 38 #[.agg #[.int .i64 x.f0, .int .i64 x.f1, .string x.f2], .pointer (some ⟨B, 0, none⟩)] W _
  unfold badE
  by_cases h1 : x.f0 < 0
  · go_enter Tryd.func38, Tryd.ntmps38
    go_wp2
    go_ret
    exact ⟨by simp [h1], hb.alloc hb.size _⟩
  · by_cases h2 : (s.size : Int) < x.f1
    · go_enter Tryd.func38, Tryd.ntmps38
      go_wp2
      go_ret
      exact ⟨by simp [h1, h2], hb.alloc hb.size _⟩
    · go_enter Tryd.func38, Tryd.ntmps38
      go_wp2
      go_ret
      exact ⟨by first | (simp [h1, h2]; done) | (simp; omega), hb.alloc hb.size _⟩
set_option maxHeartbeats 1000000 in
theorem index_empty (p : Option Addr) (c g : Nat) (lb : Array Value) (w : World) : Calls Tryd.prog 60 #[.slice p 0 c, .func (.func g) #[] lb] w fun e w' => e = .returned (.int .i64 (-1)) ∧ Below w.heap.size w w' := by
  go_enter Tryd.func60, Tryd.ntmps60
  go_wp2
  go_loopg [5, 8] 0 (fun _ _ s8 wr => s8 = .int .i64 0 ∧ wr = w)
  case atStart => exact ⟨rfl, rfl⟩
  case round =>
    obtain ⟨rfl, rfl⟩ := hrel
    go_wp2
    go_ret
    exact ⟨rfl, Below.refl _ _⟩
set_option maxHeartbeats 1000000 in
theorem contains_empty (p : Option Addr) (c g : Nat) (lb : Array Value) (w : World) : Calls Tryd.prog 37 #[.slice p 0 c, .func (.func g) #[] lb] w fun e w' => e = .returned (.bool false) ∧ Below w.heap.size w w' := by
  go_enter Tryd.func37, Tryd.ntmps37
  go_wp2_with (go_at_call 60; refine (index_empty p c g lb _).mono ?_; rintro e w' ⟨rfl, hb⟩)
  go_ret
  exact ⟨rfl, hb⟩
theorem C_addr34 {w : World} {A : Option Addr} {l : List S34} (h : Kd.C k34 w A l.length l) (hp : 0 < l.length) :
    ∃ b o, A = some ⟨b, o, none⟩ ∧ b < w.heap.size ∧ ∀ j, j < l.length → ∀ i v, (enc34 l[j]!)[i]? = some v → w.cell? ⟨b, o + j * 3 + i, none⟩ = some v := by
  obtain ⟨⟨b, o, sp⟩, rfl, h0, _⟩ := at_T34 h 0 (by omega) (by omega)
  have hsp : sp = none := by
    cases sp with
    | none => rfl
    | some q =>
      unfold World.cell? at h0
      simp only [Addr.add] at h0
      split at h0 <;> simp at h0
  subst hsp
  have hb : b < w.heap.size := World.block_lt_of_cell? w _ h0
  refine ⟨b, o, rfl, hb, fun j hj i v hv => ?_⟩
  obtain ⟨ad, e, h1, h2, h3⟩ := at_T34 h (j : Int) (by omega) (by omega)
  cases e
  rw [rd34_at l j hj] at h1 h2 h3
  rw [getElem!_pos l j hj] at hv
  simp only [Int.toNat_natCast, Addr.add_lit] at h1 h2 h3
  match i, hv with
  | 0, hv => simp [enc34] at hv; subst hv; exact h1
  | 1, hv => simp [enc34] at hv; subst hv; exact h2
  | 2, hv => simp [enc34] at hv; subst hv; exact h3
  | i + 3, hv => simp [enc34] at hv
theorem contains_calls (a0 : ByteArray) (A1 : Option Addr) (c1 B : Nat) (l1 : List S34) (w : World) (hC : Kd.C k34 w A1 l1.length l1) (hB : B < w.heap.size) (hcell : w.cell? ⟨B, 0, none⟩ = some (.string a0)) (hl : l1.length ≤ 10000) :
    Calls Tryd.prog 37 #[.slice A1 l1.length c1, .func (.func 38) #[] #[.pointer (some ⟨B, 0, none⟩)]] w fun e w' => e = .returned (.bool (l1.any (badE a0.size))) ∧ Below w.heap.size w w' := by
  by_cases hp : l1.length = 0
  · obtain rfl := List.eq_nil_of_length_eq_zero hp
    exact contains_empty A1 c1 38 _ w
  · obtain ⟨b, o, rfl, hb, hc⟩ := C_addr34 hC (by omega)
    have eg : ∀ args w, (callFunc 38 args).run Tryd.prog w = .ok (.enter 38 args) w := enters_of Tryd.func38 (by kernel_rfl) rfl
    have h := AnyQ.slices_ContainsFunc Tryd.containsEd 3 isAgg34 sizeOf34 enc34 enc34_len (badE a0.size) 38 #[.pointer (some ⟨B, 0, none⟩)] eg b o l1.length c1 l1 w (fine_pred a0 B w hB hcell) (Nat.le_refl _) (by omega) hb hc
    rw [List.take_length] at h
    exact h
set_option maxHeartbeats 8000000 in
set_option maxRecDepth 100000 in
theorem text_Fine.calls (a0 : ByteArray) (A1 : Option Addr) (c1 : Nat) (l1 : List S34) (r : Int) (w : World) (hr1 : Kd.C k34 w A1 l1.length l1) (hc1 : l1.length ≤ c1) (h : text_Fine.f a0 l1 = some r) :
    Calls Tryd.prog 12 #[.string a0, .slice A1 l1.length c1] w fun e w' => e = .returned (.int .i64 r) ∧ Below w.heap.size w w' := by
  have hr := Option.some.inj h
  clear h
  have HR := Aside0.mk hr
  have HC := Aside0.mk hr1
  have HL := Aside0.mk hc1
  clear hr hr1 hc1
  by_cases g1 : 200000 < a0.size
  · go_enter Tryd.func12, Tryd.ntmps12
    go_wp2
    go_ret
    refine ⟨?_, (Below.refl _ w).alloc (Nat.le_refl _) _⟩
    rw [← HR.out]
    unfold fineE
    rw [if_pos (Or.inl g1)]
    rfl
  · by_cases g2 : 10000 < l1.length
    · go_enter Tryd.func12, Tryd.ntmps12
      go_wp2
      go_ret
      refine ⟨?_, (Below.refl _ w).alloc (Nat.le_refl _) _⟩
      rw [← HR.out]
      unfold fineE
      rw [if_pos (Or.inr g2)]
      rfl
    · have W1 := Aside0.mk ((Below.refl w.heap.size w).alloc (Nat.le_refl _) (.cells #[.string a0] 9))
      have H37 := Aside0.mk (contains_calls a0 A1 c1 w.heap.size l1 (w.alloc (.cells #[.string a0] 9)) (Kd.C_below HC.out W1.out) (by simp) (by simp) (by omega))
      have H32 := Aside0.mk (fun w2 (h2 : Kd.C k34 w2 A1 l1.length l1) => text_sorted.calls A1 c1 l1 (Tx.ord eltS l1) w2 h2 HL.out (by unfold text_sorted.f; rw [if_pos (by omega)]))
      have hlo : (Tx.ord eltS l1).length ≤ 10000 := Nat.le_trans (Tx.ord_len l1) (by omega)
      have HLO := Aside0.mk hlo
      clear hlo
      obtain ⟨cl, hcl⟩ : ∃ b, b = Tx.clash 0 (-1) ((Tx.ord eltS l1).map toE) := ⟨_, rfl⟩
      have H39 := Aside0.mk (fun A c w3 (h3 : Kd.C k34 w3 A (Tx.ord eltS l1).length (Tx.ord eltS l1)) (h4 : (Tx.ord eltS l1).length ≤ c) => text_clash.calls 20001 A c (Tx.ord eltS l1) cl w3 h3 h4 (by rw [clash_f _ HLO.out, hcl]))
      have HCL := Aside0.mk hcl
      clear hcl
      cases hany : l1.any (badE a0.size) with
      | true =>
        rw [hany] at H37
        have HA := Aside0.mk hany
        clear hany H32 H39
        go_enter Tryd.func12, Tryd.ntmps12
        go_wp2_with (go_at_call 37; refine H37.out.mono ?_; rintro e w2 ⟨rfl, hb⟩; have HB := Aside0.mk hb; clear hb H37)
        go_ret
        refine ⟨?_, W1.out.trans (HB.out.mono (by simp))⟩
        rw [← HR.out]
        unfold fineE
        rw [if_neg (by omega), if_pos HA.out]
        rfl
      | false =>
        rw [hany] at H37
        have HA := Aside0.mk hany
        clear hany
        have fin : (if cl = true then (10 : Int) else 0) = r := by
          rw [← HR.out]
          unfold fineE
          rw [if_neg (show ¬ (200000 < a0.size ∨ 10000 < l1.length) by omega), if_neg (show ¬ (l1.any (badE a0.size) = true) by rw [HA.out]; decide), ← HCL.out]
        have FIN := Aside0.mk fin
        clear fin
        cases cl with
        | true =>
          go_enter Tryd.func12, Tryd.ntmps12
          go_wp2_with (first
            | (go_at_call 37; refine H37.out.mono ?_; rintro e w2 ⟨rfl, hb⟩; have HB := Aside0.mk (W1.out.trans (hb.mono (by simp))); clear hb H37)
            | (go_at_call 32; refine (H32.out w2 (Kd.C_below HC.out HB.out)).mono ?_; rintro e w3 ⟨v3, rfl, ho, hb⟩; obtain ⟨A3, c3, rfl⟩ := Kd.R_slice ho; have HO := Aside0.mk ho; have HB3 := Aside0.mk (HB.out.trans (hb.mono HB.out.size)); clear ho hb H32)
            | (go_at_call 39; refine (H39.out A3 c3 w3 (Kd.R_reads' HO.out).2.2 (Kd.R_reads' HO.out).2.1).mono ?_; rintro e w4 ⟨rfl, hb⟩; have HB4 := Aside0.mk (HB3.out.trans (hb.mono HB3.out.size)); clear hb H39))
          go_ret
          exact ⟨by rw [← FIN.out]; rfl, HB4.out⟩
        | false =>
          go_enter Tryd.func12, Tryd.ntmps12
          go_wp2_with (first
            | (go_at_call 37; refine H37.out.mono ?_; rintro e w2 ⟨rfl, hb⟩; have HB := Aside0.mk (W1.out.trans (hb.mono (by simp))); clear hb H37)
            | (go_at_call 32; refine (H32.out w2 (Kd.C_below HC.out HB.out)).mono ?_; rintro e w3 ⟨v3, rfl, ho, hb⟩; obtain ⟨A3, c3, rfl⟩ := Kd.R_slice ho; have HO := Aside0.mk ho; have HB3 := Aside0.mk (HB.out.trans (hb.mono HB.out.size)); clear ho hb H32)
            | (go_at_call 39; refine (H39.out A3 c3 w3 (Kd.R_reads' HO.out).2.2 (Kd.R_reads' HO.out).2.1).mono ?_; rintro e w4 ⟨rfl, hb⟩; have HB4 := Aside0.mk (HB3.out.trans (hb.mono HB3.out.size)); clear hb H39))
          go_ret
          exact ⟨by rw [← FIN.out]; rfl, HB4.out⟩
end Go.Proofs.YthimblhfjfngiaaDoor.PText

namespace Go.Proofs.YthimblhfjfngiaaDoor.PText
open Go.RowKit Go.Lib Go.Proofs.YthimblhfjfngiaaDoorW.PrintWords Go.Proofs.YthimblhfjfngiaaDoorW.PrintLast Go.Proofs.YthimblhfjfngiaaDoorW.PrintMore
/-- the text that edits make, told to a bound that no machine reaches -/
def madeE (s : ByteArray) (l : List S34) : List UInt8 := Tx.ap s.data.toList 0 ((Tx.ord eltS l).map toE)
def text_Apply.f (a0 : ByteArray) (l1 : List S34) : Option (ByteArray × Int) :=
  if fineE a0.size l1 ≠ 0 then some ((⟨#[]⟩ : ByteArray), fineE a0.size l1)
  else if (madeE a0 l1).length ≤ 140737488351232 then (if 200000 < (madeE a0 l1).length then some ((⟨#[]⟩ : ByteArray), 2) else some (⟨(madeE a0 l1).toArray⟩, 0)) else none
theorem fineE_le (n : Nat) (l : List S34) : fineE n l = 0 ∨ fineE n l = 1 ∨ fineE n l = 2 ∨ fineE n l = 10 := by
  unfold fineE
  split
  · omega
  split
  · omega
  split <;> omega
/-- fine edits are one behind the other -/
theorem fine_chain (n : Nat) (l : List S34) (h : fineE n l = 0) : l.length ≤ 10000 ∧ n ≤ 200000 ∧ Tx.Ch n 0 ((Tx.ord eltS l).map toE) := by
  unfold fineE at h
  by_cases h1 : 200000 < n ∨ 10000 < l.length
  · rw [if_pos h1] at h; cases h
  · rw [if_neg h1] at h
    by_cases h2 : l.any (badE n) = true
    · rw [if_pos h2] at h; cases h
    · rw [if_neg h2] at h
      by_cases h3 : Tx.clash 0 (-1) ((Tx.ord eltS l).map toE) = true
      · rw [if_pos h3] at h; cases h
      · refine ⟨by omega, by omega, Tx.clash_ch _ 0 (-1) ?_ (by omega) (by simpa using h3)⟩
        intro e he
        obtain ⟨x, hx, rfl⟩ := List.mem_map.1 he
        have hx' := (Tx.mem_ord eltS_lin).1 hx
        have hb : badE n x = false := by
          cases q : badE n x with
          | false => rfl
          | true => exact absurd (List.any_eq_true.2 ⟨x, hx', q⟩) h2
        unfold badE at hb
        simp only [Bool.or_eq_false_iff, decide_eq_false_iff_not] at hb
        show 0 ≤ x.f0 ∧ x.f0 ≤ x.f1 ∧ x.f1 ≤ (n : Int)
        omega
end Go.Proofs.YthimblhfjfngiaaDoor.PText

namespace Go.Proofs.YthimblhfjfngiaaDoor.PText
open Go.RowKit Go.Lib Go.Proofs.YthimblhfjfngiaaDoorW.PrintWords Go.Proofs.YthimblhfjfngiaaDoorW.PrintLast Go.Proofs.YthimblhfjfngiaaDoorW.PrintMore
def nums (l : List UInt8) : List Int := l.map fun b => (b.toNat : Int)
theorem nums_bytesOf (s : ByteArray) : Go.Proofs.YthimblhfjfngiaaDoorW.PrintWords.bytesOf s = nums s.data.toList := rfl
theorem nums_app (a b : List UInt8) : nums a ++ nums b = nums (a ++ b) := (List.map_append ..).symm
theorem nums_len (a : List UInt8) : (nums a).length = a.length := List.length_map ..
theorem str_nums (l : List UInt8) : strOfNums (nums l) = ⟨l.toArray⟩ := by
  unfold strOfNums nums
  rw [List.map_map]
  have : (fun n : Int => UInt8.ofNat n.toNat) ∘ (fun b : UInt8 => (b.toNat : Int)) = id := by
    funext b
    simp
  rw [this, List.map_id]
theorem size_list (s : ByteArray) : s.size = s.data.toList.length := by rw [Array.length_toList]; rfl
theorem ext_sl (s : ByteArray) (a b : Int) : (s.extract a.toNat b.toNat).data.toList = Tx.sl s.data.toList a b := by
  rw [ByteArray.data_extract, Array.toList_extract, List.extract_eq_take_drop]; rfl
theorem ext_end (s : ByteArray) (a : Int) : (s.extract a.toNat s.size).data.toList = s.data.toList.drop a.toNat := by
  rw [ByteArray.data_extract, Array.toList_extract, List.extract_eq_take_drop]
  exact List.take_of_length_le (by rw [List.length_drop, size_list]; exact Nat.le_refl _)
def sumS (l : List S34) : Nat := (l.map fun x => x.f2.size).sum
theorem sumS_cons (x : S34) (l : List S34) : sumS (x :: l) = x.f2.size + sumS l := by simp [sumS]
theorem sumS_app (l m : List S34) : sumS (l ++ m) = sumS l + sumS m := by simp [sumS]
theorem sumS_ins (x : S34) : ∀ l : List S34, sumS (Tx.ord.ins eltS x l) ≤ x.f2.size + sumS l
  | [] => by unfold Tx.ord.ins; rw [sumS_cons]; exact Nat.le_refl _
  | y :: l => by
    have := sumS_ins x l
    unfold Tx.ord.ins
    split
    · simp only [sumS_cons]; omega
    · split
      · simp only [sumS_cons]; omega
      · simp only [sumS_cons]; omega
theorem sumS_ord : ∀ l : List S34, sumS (Tx.ord eltS l) ≤ sumS l
  | [] => Nat.le_refl _
  | x :: l => by
    have h1 := sumS_ins x (Tx.ord eltS l)
    have h2 := sumS_ord l
    have e : Tx.ord eltS (x :: l) = Tx.ord.ins eltS x (Tx.ord eltS l) := rfl
    rw [e, sumS_cons]
    omega
def invS (s : ByteArray) : Int → List S34 → List S34
  | _, [] => []
  | sh, x :: l => ⟨x.f0 + sh, x.f0 + sh + (x.f2.size : Int), s.extract x.f0.toNat x.f1.toNat⟩ :: invS s (sh + ((x.f2.size : Int) - (x.f1 - x.f0))) l
theorem toE_x (x : S34) : (toE x).x = x.f2.data.toList := Lib.toList_data x.f2
theorem inv_toE (s : ByteArray) : ∀ (l : List S34) (sh : Int), (invS s sh l).map toE = Tx.inv s.data.toList sh (l.map toE)
  | [], _ => rfl
  | x :: l, sh => by
    have hx := toE_x x
    have e2 : toE (⟨x.f0 + sh, x.f0 + sh + (x.f2.size : Int), s.extract x.f0.toNat x.f1.toNat⟩ : S34) = ⟨x.f0 + sh, x.f0 + sh + (toE x).x.length, Tx.sl s.data.toList x.f0 x.f1⟩ := by
      unfold toE
      rw [Lib.toList_data, Lib.toList_data, ext_sl, size_list x.f2]
    have e3 : Tx.gain (toE x) = (x.f2.size : Int) - (x.f1 - x.f0) := by
      unfold Tx.gain
      rw [hx, size_list x.f2]; rfl
    show toE _ :: (invS s _ l).map toE = ⟨(toE x).f + sh, (toE x).f + sh + (toE x).x.length, Tx.sl s.data.toList (toE x).f (toE x).t⟩ :: Tx.inv s.data.toList (sh + Tx.gain (toE x)) (l.map toE)
    rw [e2, inv_toE s l, e3]
    rfl
theorem invS_len (s : ByteArray) : ∀ (l : List S34) (sh : Int), (invS s sh l).length = l.length
  | [], _ => rfl
  | x :: l, sh => by show (invS s _ l).length + 1 = _; rw [invS_len s l]; rfl
theorem invS_sum (s : ByteArray) : ∀ (l : List S34) (sh : Int), sumS (invS s sh l) ≤ l.length * s.size
  | [], _ => by simp [invS, sumS]
  | x :: l, sh => by
    have h1 := invS_sum s l (sh + ((x.f2.size : Int) - (x.f1 - x.f0)))
    have h2 : (s.extract x.f0.toNat x.f1.toNat).size ≤ s.size := by rw [ByteArray.size_extract]; omega
    have e : invS s sh (x :: l) = ⟨x.f0 + sh, x.f0 + sh + (x.f2.size : Int), s.extract x.f0.toNat x.f1.toNat⟩ :: invS s (sh + ((x.f2.size : Int) - (x.f1 - x.f0))) l := rfl
    rw [e, sumS_cons, List.length_cons, Nat.succ_mul]
    show (s.extract x.f0.toNat x.f1.toNat).size + _ ≤ _
    omega
def jgoS (c : S34) : List S34 → List S34
  | [] => [c]
  | x :: l => if x.f0 = x.f1 ∧ c.f0 = x.f0 ∧ c.f1 = x.f0 then jgoS ⟨c.f0, c.f1, c.f2 ++ x.f2⟩ l else c :: jgoS x l
def jnS : List S34 → List S34
  | [] => []
  | x :: l => jgoS x l
theorem jgo_toE : ∀ (l : List S34) (c : S34), (jgoS c l).map toE = Tx.jgo (toE c) (l.map toE)
  | [], c => rfl
  | x :: l, c => by
    show (if x.f0 = x.f1 ∧ c.f0 = x.f0 ∧ c.f1 = x.f0 then jgoS ⟨c.f0, c.f1, c.f2 ++ x.f2⟩ l else c :: jgoS x l).map toE = if x.f0 = x.f1 ∧ c.f0 = x.f0 ∧ c.f1 = x.f0 then Tx.jgo ⟨c.f0, c.f1, (toE c).x ++ (toE x).x⟩ (l.map toE) else toE c :: Tx.jgo (toE x) (l.map toE)
    by_cases h : x.f0 = x.f1 ∧ c.f0 = x.f0 ∧ c.f1 = x.f0
    · rw [if_pos h, if_pos h, jgo_toE l]
      congr 1
      unfold toE
      simp only [Lib.toList_data, ByteArray.data_append, Array.toList_append]
    · rw [if_neg h, if_neg h, List.map_cons, jgo_toE l]
theorem jn_toE (l : List S34) : (jnS l).map toE = Tx.jn (l.map toE) := by
  cases l with
  | nil => rfl
  | cons x l => exact jgo_toE l x
theorem last_rd (D : List S34) (c : S34) (hD : D.length ≤ 1000000) : wrap64 (((D ++ [c]).length : Int) - 1) = (D.length : Int) ∧ rd_T34 (D ++ [c]) (D.length : Int) = c ∧ ((D.length : Int) < ((D ++ [c]).length : Int)) := by
  have e : (D ++ [c]).length = D.length + 1 := by rw [List.length_append, List.length_singleton]
  refine ⟨by rw [w64 (by omega) (by omega)]; omega, ?_, by omega⟩
  rw [rd34_at _ _ (by omega), List.getElem_append_right (Nat.le_refl _)]
  simp
theorem set_last (D : List S34) (c d : S34) : (D ++ [c]).set D.length d = D ++ [d] := by
  rw [List.set_append_right _ _ (Nat.le_refl _)]; simp
theorem neg1 : wrap64 (((([] : List S34).length : Nat) : Int) - 1) = -1 := by
  show wrap64 (0 - 1) = -1
  unfold wrap64; omega
theorem tjoined_l0 (l : List S34) (hl : l.length ≤ 1000000) : ∀ (m i k : Nat) (D : List S34) (c : S34), l.length - i = m → i ≤ l.length → m + 1 ≤ k → D.length ≤ i → c.f2.size + sumS (l.drop i) ≤ 1000000000000000 →
    text_joined.l0 k (D ++ [c]) l (l.length : Int) (i : Int) = some (D ++ jgoS c (l.drop i)) := by
  intro m
  induction m with
  | zero =>
    intro i k D c hm hi hk hD hz
    obtain ⟨k, rfl⟩ : ∃ q, k = q + 1 := ⟨k - 1, by omega⟩
    rw [text_joined.l0, if_neg (by omega), List.drop_of_length_le (by omega)]
    rfl
  | succ m ih =>
    intro i k D c hm hi hk hD hz
    obtain ⟨k, rfl⟩ : ∃ q, k = q + 1 := ⟨k - 1, by omega⟩
    have hlt : i < l.length := by omega
    have hd : l.drop i = l[i] :: l.drop (i + 1) := List.drop_eq_getElem_cons hlt
    rw [hd, sumS_cons] at hz
    obtain ⟨w1, w2, w3⟩ := last_rd D c (by omega)
    have e2 : (D ++ [c]).length = D.length + 1 := by rw [List.length_append, List.length_singleton]
    have nomatch_ : (¬ (l[i].f0 = l[i].f1 ∧ c.f0 = l[i].f0 ∧ c.f1 = l[i].f0)) → text_joined.l0 k (D ++ [c] ++ [(⟨l[i].f0, l[i].f1, l[i].f2⟩ : S34)]) l (l.length : Int) ((i + 1 : Nat) : Int) = some (D ++ jgoS c (l[i] :: l.drop (i + 1))) := by
      intro hn
      rw [ih (i + 1) k (D ++ [c]) ⟨l[i].f0, l[i].f1, l[i].f2⟩ (by omega) (by omega) (by omega) (by omega) (by show l[i].f2.size + _ ≤ _; omega)]
      have e : jgoS c (l[i] :: l.drop (i + 1)) = if l[i].f0 = l[i].f1 ∧ c.f0 = l[i].f0 ∧ c.f1 = l[i].f0 then jgoS ⟨c.f0, c.f1, c.f2 ++ l[i].f2⟩ (l.drop (i + 1)) else c :: jgoS l[i] (l.drop (i + 1)) := rfl
      rw [e, if_neg hn, List.append_assoc, List.singleton_append]
    rw [text_joined.l0, if_pos (by omega), if_pos (by omega), if_pos (by omega), w1, if_pos (by omega), rd34_at l i hlt, nx i (by omega), hd, w2, e2]
    by_cases c1 : l[i].f0 = l[i].f1
    · rw [if_pos c1, if_pos (by omega), if_pos (by omega)]
      by_cases c2 : c.f0 = l[i].f0
      · rw [if_pos c2]
        by_cases c3 : c.f1 = l[i].f0
        · rw [if_pos c3, if_pos (by omega), Int.toNat_natCast, set_last]
          rw [ih (i + 1) k D ⟨c.f0, c.f1, c.f2 ++ l[i].f2⟩ (by omega) (by omega) (by omega) (by omega) (by show (c.f2 ++ l[i].f2).size + _ ≤ _; rw [ByteArray.size_append]; omega)]
          have e : jgoS c (l[i] :: l.drop (i + 1)) = if l[i].f0 = l[i].f1 ∧ c.f0 = l[i].f0 ∧ c.f1 = l[i].f0 then jgoS ⟨c.f0, c.f1, c.f2 ++ l[i].f2⟩ (l.drop (i + 1)) else c :: jgoS l[i] (l.drop (i + 1)) := rfl
          rw [e, if_pos ⟨c1, c2, c3⟩]
        · rw [if_neg c3, if_pos (by omega)]
          exact nomatch_ (fun q => c3 q.2.2)
      · rw [if_neg c2, if_pos (by omega)]
        exact nomatch_ (fun q => c2 q.2.1)
    · rw [if_neg c1, if_pos (by omega)]
      exact nomatch_ (fun q => c1 q.1)
theorem tjoined_f (l : List S34) (hl : l.length ≤ 1000000) (hz : sumS l ≤ 1000000000000000) (k : Nat) (hk : l.length + 1 ≤ k) : text_joined.f k l = some (jnS l) := by
  obtain ⟨k, rfl⟩ : ∃ q, k = q + 1 := ⟨k - 1, by omega⟩
  unfold text_joined.f
  cases l with
  | nil => rw [text_joined.l0, if_neg (by simp)]; rfl
  | cons x l =>
    rw [List.length_cons] at hl hk
    have h := tjoined_l0 (x :: l) hl l.length 1 k [] x (by simp) (by simp) (by omega) (Nat.zero_le _) (by rw [sumS_cons] at hz; exact hz)
    rw [text_joined.l0, if_pos (by rw [List.length_cons]; omega), if_pos (by omega), if_pos (by rw [List.length_cons]; omega), neg1, if_neg (by omega), if_pos (by simp)]
    rw [show wrap64 (0 + 1) = ((1 : Nat) : Int) by unfold wrap64; omega]
    exact h
end Go.Proofs.YthimblhfjfngiaaDoor.PText

namespace Go.Proofs.YthimblhfjfngiaaDoor.PText
open Go.RowKit Go.Lib Go.Proofs.YthimblhfjfngiaaDoorW.PrintWords Go.Proofs.YthimblhfjfngiaaDoorW.PrintLast Go.Proofs.YthimblhfjfngiaaDoorW.PrintMore
theorem sumS_jgo : ∀ (l : List S34) (c : S34), sumS (jgoS c l) = c.f2.size + sumS l
  | [], c => by
    have e : jgoS c [] = [c] := rfl
    rw [e, sumS_cons]
  | x :: l, c => by
    have e : jgoS c (x :: l) = if x.f0 = x.f1 ∧ c.f0 = x.f0 ∧ c.f1 = x.f0 then jgoS ⟨c.f0, c.f1, c.f2 ++ x.f2⟩ l else c :: jgoS x l := rfl
    rw [e, sumS_cons]
    by_cases h : x.f0 = x.f1 ∧ c.f0 = x.f0 ∧ c.f1 = x.f0
    · rw [if_pos h, sumS_jgo l]
      show (c.f2 ++ x.f2).size + _ = _
      rw [ByteArray.size_append]
      omega
    · rw [if_neg h, sumS_cons, sumS_jgo l]
theorem sumS_jn (l : List S34) : sumS (jnS l) = sumS l := by
  cases l with
  | nil => rfl
  | cons x l =>
    rw [sumS_cons]
    exact sumS_jgo l x
theorem jnS_len (l : List S34) : (jnS l).length ≤ l.length := by
  have h := Tx.jn_len (l.map toE)
  rw [← jn_toE, List.length_map, List.length_map] at h
  exact h
/-- edits that are in order, in range and apart are fine, and are what is sorted -/
theorem fine_of (n : Nat) (m : List S34) (h0 : n ≤ 200000) (h1 : m.length ≤ 10000) (ho : Tx.Okay (n : Int) (m.map toE)) (ha : Tx.Asc Tx.elt (m.map toE)) (hc : Tx.clash 0 (-1) (m.map toE) = false) : fineE n m = 0 ∧ Tx.ord eltS m = m := by
  have hm : Tx.ord eltS m = m := Tx.ord_ord eltS_lin (List.pairwise_map.1 ha)
  refine ⟨?_, hm⟩
  unfold fineE
  rw [if_neg (show ¬ (200000 < n ∨ 10000 < m.length) by omega)]
  have hb : ¬ m.any (badE n) = true := by
    intro h
    obtain ⟨x, hx, hbx⟩ := List.any_eq_true.1 h
    have := ho (toE x) (List.mem_map.2 ⟨x, hx, rfl⟩)
    have g1 : 0 ≤ x.f0 := this.1
    have g2 : x.f0 ≤ x.f1 := this.2.1
    have g3 : x.f1 ≤ (n : Int) := this.2.2
    unfold badE at hbx
    rw [decide_eq_false (show ¬ x.f0 < 0 by omega), decide_eq_false (show ¬ (n : Int) < x.f1 by omega), decide_eq_false (show ¬ x.f1 < x.f0 by omega)] at hbx
    cases hbx
  rw [if_neg hb, hm, hc]
  rfl
theorem ba_eta (s : ByteArray) : (⟨s.data.toList.toArray⟩ : ByteArray) = s := by cases s; simp
end Go.Proofs.YthimblhfjfngiaaDoor.PText

