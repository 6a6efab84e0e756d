/- Chapter 01: what the claims share. Part 20 of 24. -/
import Derived.Test.YthimblhfjfngiaaDoorBTextS
import Derived.Shelf.SlicesQ.IndexFunc
namespace Go.Proofs.YthimblhfjfngiaaDoor.PText
open Go.RowKit Go.Lib Go.Proofs.YthimblhfjfngiaaDoorW.PrintWords Go.Proofs.YthimblhfjfngiaaDoorW.PrintLast Go.Proofs.YthimblhfjfngiaaDoorW.PrintMore
set_option linter.unusedVariables false
set_option linter.unusedSimpArgs false
def text_Fine.f (a0 : ByteArray) (l1 : List S34) : Option Int := some (fineE a0.size l1)
theorem fine_pred (s : ByteArray) (B : Nat) (w : World) (hB : B < w.heap.size) (hcell : w.cell? ⟨B, 0, none⟩ = some (.string s)) :
    PredBelow Tryd.prog 38 #[.pointer (some ⟨B, 0, none⟩)] (fun x => .agg (enc34 x).toArray) (badE s.size) w := fun W x hb => by
  have hc : W.cell? ⟨B, 0, none⟩ = some (.string s) := (hb.cell (p := ⟨B, 0, none⟩) hB).trans hcell
  have hBW : B < W.heap.size := Nat.lt_of_lt_of_le hB hb.size
  have hne : B ≠ W.heap.size := by omega
  have hu34 := Tryd.underlying34
  show Calls Tryd.prog 38 #[.agg #[.int .i64 x.f0, .int .i64 x.f1, .string x.f2], .pointer (some ⟨B, 0, none⟩)] W _
  unfold badE
  by_cases h1 : x.f0 < 0
  · go_enter Tryd.func38, Tryd.ntmps38
    go_wp2
    go_ret
    exact ⟨by simp [h1], hb.alloc hb.size _⟩
  · by_cases h2 : (s.size : Int) < x.f1
    · go_enter Tryd.func38, Tryd.ntmps38
      go_wp2
      go_ret
      exact ⟨by simp [h1, h2], hb.alloc hb.size _⟩
    · go_enter Tryd.func38, Tryd.ntmps38
      go_wp2
      go_ret
      exact ⟨by first | (simp [h1, h2]; done) | (simp; omega), hb.alloc hb.size _⟩
set_option maxHeartbeats 1000000 in
theorem index_empty (p : Option Addr) (c g : Nat) (lb : Array Value) (w : World) : Calls Tryd.prog 60 #[.slice p 0 c, .func (.func g) #[] lb] w fun e w' => e = .returned (.int .i64 (-1)) ∧ Below w.heap.size w w' := by
  go_enter Tryd.func60, Tryd.ntmps60
  go_wp2
  go_loopg [5, 8] 0 (fun _ _ s8 wr => s8 = .int .i64 0 ∧ wr = w)
  case atStart => exact ⟨rfl, rfl⟩
  case round =>
    obtain ⟨rfl, rfl⟩ := hrel
    go_wp2
    go_ret
    exact ⟨rfl, Below.refl _ _⟩
set_option maxHeartbeats 1000000 in
theorem contains_empty (p : Option Addr) (c g : Nat) (lb : Array Value) (w : World) : Calls Tryd.prog 37 #[.slice p 0 c, .func (.func g) #[] lb] w fun e w' => e = .returned (.bool false) ∧ Below w.heap.size w w' := by
  go_enter Tryd.func37, Tryd.ntmps37
  go_wp2_with (go_at_call 60; refine (index_empty p c g lb _).mono ?_; rintro e w' ⟨rfl, hb⟩)
  go_ret
  exact ⟨rfl, hb⟩
theorem C_addr34 {w : World} {A : Option Addr} {l : List S34} (h : Kd.C k34 w A l.length l) (hp : 0 < l.length) :
    ∃ b o, A = some ⟨b, o, none⟩ ∧ b < w.heap.size ∧ ∀ j, j < l.length → ∀ i v, (enc34 l[j]!)[i]? = some v → w.cell? ⟨b, o + j * 3 + i, none⟩ = some v := by
  obtain ⟨⟨b, o, sp⟩, rfl, h0, _⟩ := at_T34 h 0 (by omega) (by omega)
  have hsp : sp = none := by
    cases sp with
    | none => rfl
    | some q =>
      unfold World.cell? at h0
      simp only [Addr.add] at h0
      split at h0 <;> simp at h0
  subst hsp
  have hb : b < w.heap.size := World.block_lt_of_cell? w _ h0
  refine ⟨b, o, rfl, hb, fun j hj i v hv => ?_⟩
  obtain ⟨ad, e, h1, h2, h3⟩ := at_T34 h (j : Int) (by omega) (by omega)
  cases e
  rw [rd34_at l j hj] at h1 h2 h3
  rw [getElem!_pos l j hj] at hv
  simp only [Int.toNat_natCast, Addr.add_lit] at h1 h2 h3
  match i, hv with
  | 0, hv => simp [enc34] at hv; subst hv; exact h1
  | 1, hv => simp [enc34] at hv; subst hv; exact h2
  | 2, hv => simp [enc34] at hv; subst hv; exact h3
  | i + 3, hv => simp [enc34] at hv
theorem contains_calls (a0 : ByteArray) (A1 : Option Addr) (c1 B : Nat) (l1 : List S34) (w : World) (hC : Kd.C k34 w A1 l1.length l1) (hB : B < w.heap.size) (hcell : w.cell? ⟨B, 0, none⟩ = some (.string a0)) (hl : l1.length ≤ 10000) :
    Calls Tryd.prog 37 #[.slice A1 l1.length c1, .func (.func 38) #[] #[.pointer (some ⟨B, 0, none⟩)]] w fun e w' => e = .returned (.bool (l1.any (badE a0.size))) ∧ Below w.heap.size w w' := by
  by_cases hp : l1.length = 0
  · obtain rfl := List.eq_nil_of_length_eq_zero hp
    exact contains_empty A1 c1 38 _ w
  · obtain ⟨b, o, rfl, hb, hc⟩ := C_addr34 hC (by omega)
    have eg : ∀ args w, (callFunc 38 args).run Tryd.prog w = .ok (.enter 38 args) w := enters_of Tryd.func38 (by kernel_rfl) rfl
    have h := AnyQ.slices_ContainsFunc Tryd.containsEd 3 isAgg34 sizeOf34 enc34 enc34_len (badE a0.size) 38 #[.pointer (some ⟨B, 0, none⟩)] eg b o l1.length c1 l1 w (fine_pred a0 B w hB hcell) (Nat.le_refl _) (by omega) hb hc
    rw [List.take_length] at h
    exact h
set_option maxHeartbeats 8000000 in
set_option maxRecDepth 100000 in
theorem text_Fine.calls (a0 : ByteArray) (A1 : Option Addr) (c1 : Nat) (l1 : List S34) (r : Int) (w : World) (hr1 : Kd.C k34 w A1 l1.length l1) (hc1 : l1.length ≤ c1) (h : text_Fine.f a0 l1 = some r) :
    Calls Tryd.prog 12 #[.string a0, .slice A1 l1.length c1] w fun e w' => e = .returned (.int .i64 r) ∧ Below w.heap.size w w' := by
  have hr := Option.some.inj h
  clear h
  have HR := Aside0.mk hr
  have HC := Aside0.mk hr1
  have HL := Aside0.mk hc1
  clear hr hr1 hc1
  by_cases g1 : 200000 < a0.size
  · go_enter Tryd.func12, Tryd.ntmps12
    go_wp2
    go_ret
    refine ⟨?_, (Below.refl _ w).alloc (Nat.le_refl _) _⟩
    rw [← HR.out]
    unfold fineE
    rw [if_pos (Or.inl g1)]
    rfl
  · by_cases g2 : 10000 < l1.length
    · go_enter Tryd.func12, Tryd.ntmps12
      go_wp2
      go_ret
      refine ⟨?_, (Below.refl _ w).alloc (Nat.le_refl _) _⟩
      rw [← HR.out]
      unfold fineE
      rw [if_pos (Or.inr g2)]
      rfl
    · have W1 := Aside0.mk ((Below.refl w.heap.size w).alloc (Nat.le_refl _) (.cells #[.string a0] 9))
      have H37 := Aside0.mk (contains_calls a0 A1 c1 w.heap.size l1 (w.alloc (.cells #[.string a0] 9)) (Kd.yCb_ HC.out W1.out) (by simp) (by simp) (by omega))
      have H32 := Aside0.mk (fun w2 (h2 : Kd.C k34 w2 A1 l1.length l1) => yzb_.calls A1 c1 l1 (Tx.ord eltS l1) w2 h2 HL.out (by unfold yzb_.f; rw [if_pos (by omega)]))
      have hlo : (Tx.ord eltS l1).length ≤ 10000 := Nat.le_trans (Tx.ord_len l1) (by omega)
      have HLO := Aside0.mk hlo
      clear hlo
      obtain ⟨cl, hcl⟩ : ∃ b, b = Tx.clash 0 (-1) ((Tx.ord eltS l1).map toE) := ⟨_, rfl⟩
      have H39 := Aside0.mk (fun A c w3 (h3 : Kd.C k34 w3 A (Tx.ord eltS l1).length (Tx.ord eltS l1)) (h4 : (Tx.ord eltS l1).length ≤ c) => yJ_.calls 20001 A c (Tx.ord eltS l1) cl w3 h3 h4 (by rw [clash_f _ HLO.out, hcl]))
      have HCL := Aside0.mk hcl
      clear hcl
      cases hany : l1.any (badE a0.size) with
      | true =>
        rw [hany] at H37
        have HA := Aside0.mk hany
        clear hany H32 H39
        go_enter Tryd.func12, Tryd.ntmps12
        go_wp2_with (go_at_call 37; refine H37.out.mono ?_; rintro e w2 ⟨rfl, hb⟩; have HB := Aside0.mk hb; clear hb H37)
        go_ret
        refine ⟨?_, W1.out.trans (HB.out.mono (by simp))⟩
        rw [← HR.out]
        unfold fineE
        rw [if_neg (by omega), if_pos HA.out]
        rfl
      | false =>
        rw [hany] at H37
        have HA := Aside0.mk hany
        clear hany
        have fin : (if cl = true then (10 : Int) else 0) = r := by
          rw [← HR.out]
          unfold fineE
          rw [if_neg (show ¬ (200000 < a0.size ∨ 10000 < l1.length) by omega), if_neg (show ¬ (l1.any (badE a0.size) = true) by rw [HA.out]; decide), ← HCL.out]
        have FIN := Aside0.mk fin
        clear fin
        cases cl with
        | true =>
          go_enter Tryd.func12, Tryd.ntmps12
          go_wp2_with (first
            | (go_at_call 37; refine H37.out.mono ?_; rintro e w2 ⟨rfl, hb⟩; have HB := Aside0.mk (W1.out.trans (hb.mono (by simp))); clear hb H37)
            | (go_at_call 32; refine (H32.out w2 (Kd.yCb_ HC.out HB.out)).mono ?_; rintro e w3 ⟨v3, rfl, ho, hb⟩; obtain ⟨A3, c3, rfl⟩ := Kd.yC_ ho; have HO := Aside0.mk ho; have HB3 := Aside0.mk (HB.out.trans (hb.mono HB.out.size)); clear ho hb H32)
            | (go_at_call 39; refine (H39.out A3 c3 w3 (Kd.yo_ HO.out).2.2 (Kd.yo_ HO.out).2.1).mono ?_; rintro e w4 ⟨rfl, hb⟩; have HB4 := Aside0.mk (HB3.out.trans (hb.mono HB3.out.size)); clear hb H39))
          go_ret
          exact ⟨by rw [← FIN.out]; rfl, HB4.out⟩
        | false =>
          go_enter Tryd.func12, Tryd.ntmps12
          go_wp2_with (first
            | (go_at_call 37; refine H37.out.mono ?_; rintro e w2 ⟨rfl, hb⟩; have HB := Aside0.mk (W1.out.trans (hb.mono (by simp))); clear hb H37)
            | (go_at_call 32; refine (H32.out w2 (Kd.yCb_ HC.out HB.out)).mono ?_; rintro e w3 ⟨v3, rfl, ho, hb⟩; obtain ⟨A3, c3, rfl⟩ := Kd.yC_ ho; have HO := Aside0.mk ho; have HB3 := Aside0.mk (HB.out.trans (hb.mono HB.out.size)); clear ho hb H32)
            | (go_at_call 39; refine (H39.out A3 c3 w3 (Kd.yo_ HO.out).2.2 (Kd.yo_ HO.out).2.1).mono ?_; rintro e w4 ⟨rfl, hb⟩; have HB4 := Aside0.mk (HB3.out.trans (hb.mono HB3.out.size)); clear hb H39))
          go_ret
          exact ⟨by rw [← FIN.out]; rfl, HB4.out⟩
end Go.Proofs.YthimblhfjfngiaaDoor.PText

namespace Go.Proofs.YthimblhfjfngiaaDoor.PText
open Go.RowKit Go.Lib Go.Proofs.YthimblhfjfngiaaDoorW.PrintWords Go.Proofs.YthimblhfjfngiaaDoorW.PrintLast Go.Proofs.YthimblhfjfngiaaDoorW.PrintMore
/-- the text that edits make, told to a bound that no machine reaches -/
def madeE (s : ByteArray) (l : List S34) : List UInt8 := Tx.ap s.data.toList 0 ((Tx.ord eltS l).map toE)
def yob_.f (a0 : ByteArray) (l1 : List S34) : Option (ByteArray × Int) :=
  if fineE a0.size l1 ≠ 0 then some ((⟨#[]⟩ : ByteArray), fineE a0.size l1)
  else if (madeE a0 l1).length ≤ 140737488351232 then (if 200000 < (madeE a0 l1).length then some ((⟨#[]⟩ : ByteArray), 2) else some (⟨(madeE a0 l1).toArray⟩, 0)) else none
theorem fineE_le (n : Nat) (l : List S34) : fineE n l = 0 ∨ fineE n l = 1 ∨ fineE n l = 2 ∨ fineE n l = 10 := by
  unfold fineE
  split
  · omega
  split
  · omega
  split <;> omega
/-- fine edits are one behind the other -/
theorem fine_chain (n : Nat) (l : List S34) (h : fineE n l = 0) : l.length ≤ 10000 ∧ n ≤ 200000 ∧ Tx.Ch n 0 ((Tx.ord eltS l).map toE) := by
  unfold fineE at h
  by_cases h1 : 200000 < n ∨ 10000 < l.length
  · rw [if_pos h1] at h; cases h
  · rw [if_neg h1] at h
    by_cases h2 : l.any (badE n) = true
    · rw [if_pos h2] at h; cases h
    · rw [if_neg h2] at h
      by_cases h3 : Tx.clash 0 (-1) ((Tx.ord eltS l).map toE) = true
      · rw [if_pos h3] at h; cases h
      · refine ⟨by omega, by omega, Tx.clash_ch _ 0 (-1) ?_ (by omega) (by simpa using h3)⟩
        intro e he
        obtain ⟨x, hx, rfl⟩ := List.mem_map.1 he
        have hx' := (Tx.mem_ord eltS_lin).1 hx
        have hb : badE n x = false := by
          cases q : badE n x with
          | false => rfl
          | true => exact absurd (List.any_eq_true.2 ⟨x, hx', q⟩) h2
        unfold badE at hb
        simp only [Bool.or_eq_false_iff, decide_eq_false_iff_not] at hb
        show 0 ≤ x.f0 ∧ x.f0 ≤ x.f1 ∧ x.f1 ≤ (n : Int)
        omega
end Go.Proofs.YthimblhfjfngiaaDoor.PText

namespace Go.Proofs.YthimblhfjfngiaaDoor.PText
open Go.RowKit Go.Lib Go.Proofs.YthimblhfjfngiaaDoorW.PrintWords Go.Proofs.YthimblhfjfngiaaDoorW.PrintLast Go.Proofs.YthimblhfjfngiaaDoorW.PrintMore
def nums (l : List UInt8) : List Int := l.map fun b => (b.toNat : Int)
theorem nums_bytesOf (s : ByteArray) : Go.Proofs.YthimblhfjfngiaaDoorW.PrintWords.bytesOf s = nums s.data.toList := rfl
theorem nums_app (a b : List UInt8) : nums a ++ nums b = nums (a ++ b) := (List.map_append ..).symm
theorem nums_len (a : List UInt8) : (nums a).length = a.length := List.length_map ..
theorem str_nums (l : List UInt8) : strOfNums (nums l) = ⟨l.toArray⟩ := by
  unfold strOfNums nums
  rw [List.map_map]
  have : (fun n : Int => UInt8.ofNat n.toNat) ∘ (fun b : UInt8 => (b.toNat : Int)) = id := by
    funext b
    simp
  rw [this, List.map_id]
theorem ypb_ (s : ByteArray) : s.size = s.data.toList.length := by rw [Array.length_toList]; rfl
theorem ext_sl (s : ByteArray) (a b : Int) : (s.extract a.toNat b.toNat).data.toList = Tx.sl s.data.toList a b := by
  rw [ByteArray.data_extract, Array.toList_extract, List.extract_eq_take_drop]; rfl
theorem ext_end (s : ByteArray) (a : Int) : (s.extract a.toNat s.size).data.toList = s.data.toList.drop a.toNat := by
  rw [ByteArray.data_extract, Array.toList_extract, List.extract_eq_take_drop]
  exact List.take_of_length_le (by rw [List.length_drop, ypb_]; exact Nat.le_refl _)
def sumS (l : List S34) : Nat := (l.map fun x => x.f2.size).sum
theorem yVb_ (x : S34) (l : List S34) : sumS (x :: l) = x.f2.size + sumS l := by simp [sumS]
theorem sumS_app (l m : List S34) : sumS (l ++ m) = sumS l + sumS m := by simp [sumS]
theorem sumS_ins (x : S34) : ∀ l : List S34, sumS (Tx.ord.ins eltS x l) ≤ x.f2.size + sumS l
  | [] => by unfold Tx.ord.ins; rw [yVb_]; exact Nat.le_refl _
  | y :: l => by
    have := sumS_ins x l
    unfold Tx.ord.ins
    split
    · simp only [yVb_]; omega
    · split
      · simp only [yVb_]; omega
      · simp only [yVb_]; omega
theorem sumS_ord : ∀ l : List S34, sumS (Tx.ord eltS l) ≤ sumS l
  | [] => Nat.le_refl _
  | x :: l => by
    have h1 := sumS_ins x (Tx.ord eltS l)
    have h2 := sumS_ord l
    have e : Tx.ord eltS (x :: l) = Tx.ord.ins eltS x (Tx.ord eltS l) := rfl
    rw [e, yVb_]
    omega
def invS (s : ByteArray) : Int → List S34 → List S34
  | _, [] => []
  | sh, x :: l => ⟨x.f0 + sh, x.f0 + sh + (x.f2.size : Int), s.extract x.f0.toNat x.f1.toNat⟩ :: invS s (sh + ((x.f2.size : Int) - (x.f1 - x.f0))) l
theorem toE_x (x : S34) : (toE x).x = x.f2.data.toList := Lib.toList_data x.f2
theorem inv_toE (s : ByteArray) : ∀ (l : List S34) (sh : Int), (invS s sh l).map toE = Tx.inv s.data.toList sh (l.map toE)
  | [], _ => rfl
  | x :: l, sh => by
    have hx := toE_x x
    have e2 : toE (⟨x.f0 + sh, x.f0 + sh + (x.f2.size : Int), s.extract x.f0.toNat x.f1.toNat⟩ : S34) = ⟨x.f0 + sh, x.f0 + sh + (toE x).x.length, Tx.sl s.data.toList x.f0 x.f1⟩ := by
      unfold toE
      rw [Lib.toList_data, Lib.toList_data, ext_sl, ypb_ x.f2]
    have e3 : Tx.gain (toE x) = (x.f2.size : Int) - (x.f1 - x.f0) := by
      unfold Tx.gain
      rw [hx, ypb_ x.f2]; rfl
    show toE _ :: (invS s _ l).map toE = ⟨(toE x).f + sh, (toE x).f + sh + (toE x).x.length, Tx.sl s.data.toList (toE x).f (toE x).t⟩ :: Tx.inv s.data.toList (sh + Tx.gain (toE x)) (l.map toE)
    rw [e2, inv_toE s l, e3]
    rfl
theorem invS_len (s : ByteArray) : ∀ (l : List S34) (sh : Int), (invS s sh l).length = l.length
  | [], _ => rfl
  | x :: l, sh => by show (invS s _ l).length + 1 = _; rw [invS_len s l]; rfl
theorem invS_sum (s : ByteArray) : ∀ (l : List S34) (sh : Int), sumS (invS s sh l) ≤ l.length * s.size
  | [], _ => by simp [invS, sumS]
  | x :: l, sh => by
    have h1 := invS_sum s l (sh + ((x.f2.size : Int) - (x.f1 - x.f0)))
    have h2 : (s.extract x.f0.toNat x.f1.toNat).size ≤ s.size := by rw [ByteArray.size_extract]; omega
    have e : invS s sh (x :: l) = ⟨x.f0 + sh, x.f0 + sh + (x.f2.size : Int), s.extract x.f0.toNat x.f1.toNat⟩ :: invS s (sh + ((x.f2.size : Int) - (x.f1 - x.f0))) l := rfl
    rw [e, yVb_, List.length_cons, Nat.succ_mul]
    show (s.extract x.f0.toNat x.f1.toNat).size + _ ≤ _
    omega
def jgoS (c : S34) : List S34 → List S34
  | [] => [c]
  | x :: l => if x.f0 = x.f1 ∧ c.f0 = x.f0 ∧ c.f1 = x.f0 then jgoS ⟨c.f0, c.f1, c.f2 ++ x.f2⟩ l else c :: jgoS x l
def jnS : List S34 → List S34
  | [] => []
  | x :: l => jgoS x l
theorem jgo_toE : ∀ (l : List S34) (c : S34), (jgoS c l).map toE = Tx.jgo (toE c) (l.map toE)
  | [], c => rfl
  | x :: l, c => by
    show (if x.f0 = x.f1 ∧ c.f0 = x.f0 ∧ c.f1 = x.f0 then jgoS ⟨c.f0, c.f1, c.f2 ++ x.f2⟩ l else c :: jgoS x l).map toE = if x.f0 = x.f1 ∧ c.f0 = x.f0 ∧ c.f1 = x.f0 then Tx.jgo ⟨c.f0, c.f1, (toE c).x ++ (toE x).x⟩ (l.map toE) else toE c :: Tx.jgo (toE x) (l.map toE)
    by_cases h : x.f0 = x.f1 ∧ c.f0 = x.f0 ∧ c.f1 = x.f0
    · rw [if_pos h, if_pos h, jgo_toE l]
      congr 1
      unfold toE
      simp only [Lib.toList_data, ByteArray.data_append, Array.toList_append]
    · rw [if_neg h, if_neg h, List.map_cons, jgo_toE l]
theorem jn_toE (l : List S34) : (jnS l).map toE = Tx.jn (l.map toE) := by
  cases l with
  | nil => rfl
  | cons x l => exact jgo_toE l x
theorem last_rd (D : List S34) (c : S34) (hD : D.length ≤ 1000000) : wrap64 (((D ++ [c]).length : Int) - 1) = (D.length : Int) ∧ rd_T34 (D ++ [c]) (D.length : Int) = c ∧ ((D.length : Int) < ((D ++ [c]).length : Int)) := by
  have e : (D ++ [c]).length = D.length + 1 := by rw [List.length_append, List.length_singleton]
  refine ⟨by rw [w64 (by omega) (by omega)]; omega, ?_, by omega⟩
  rw [rd34_at _ _ (by omega), List.getElem_append_right (Nat.le_refl _)]
  simp
theorem set_last (D : List S34) (c d : S34) : (D ++ [c]).set D.length d = D ++ [d] := by
  rw [List.set_append_right _ _ (Nat.le_refl _)]; simp
theorem neg1 : wrap64 (((([] : List S34).length : Nat) : Int) - 1) = -1 := by
  show wrap64 (0 - 1) = -1
  unfold wrap64; omega
end Go.Proofs.YthimblhfjfngiaaDoor.PText

namespace Go.Proofs.YthimblhfjfngiaaDoor.PText
open Go.RowKit Go.Proofs.YthimblhfjfngiaaDoorW.PrintWords Go.Proofs.YthimblhfjfngiaaDoorW.PrintLast Go.Proofs.YthimblhfjfngiaaDoorW.PrintMore
structure S70 where
  f0 : Int
  f1 : Int
  a : Option Addr
  n : Nat
  c : Nat
def z70 : S70 := ⟨0, 0, none, 0, 0⟩
def k70 : Kd S70 := Kd.iso (Kd.pair (Kd.int .i64) (Kd.pair (Kd.int .i64) (Kd.scalar (fun x : Option Addr × Nat × Nat => Value.slice x.1 x.2.1 x.2.2) (fun _ => rfl)))) (fun x : S70 => (x.f0, x.f1, x.a, x.n, x.c))
theorem info70 : (Tryd.prog.info? 70).map (fun i => (i.zero, i.size, i.bytes)) = some (some (.agg #[(.int .i64 0), (.int .i64 0), (.slice none 0 0)]), 3, 40) := by kernel_rfl
theorem k70_open {w : World} {x : S70} {cs : List Value} (h : k70.K w x cs) : cs = [.int .i64 x.f0, .int .i64 x.f1, .slice x.a x.n x.c] := by
  obtain ⟨_, _, rfl, rfl, ⟨_, _, rfl, rfl, rfl⟩⟩ := h
  exact rfl
theorem k70_mkM (w : World) (base : Nat) (ok : Nat → Prop) (x : S70) : k70.M w base ok x [.int .i64 x.f0, .int .i64 x.f1, .slice x.a x.n x.c] := ⟨[.int .i64 x.f0], [.int .i64 x.f1, .slice x.a x.n x.c], rfl, rfl, ⟨[.int .i64 x.f1], [.slice x.a x.n x.c], rfl, rfl, rfl⟩⟩
def rd_T70 (xs : List S70) (i : Int) : S70 := xs.getD i.toNat z70
theorem at_T70 {w : World} {A : Option Addr} {n : Nat} {xs : List S70} (h : Kd.C k70 w A n xs) (i : Int) (h0 : 0 ≤ i) (h1 : i < n) : ∃ ad , A = some ad ∧ w.cell? (ad.add (i.toNat * 3)) = some (.int .i64 (rd_T70 xs i).f0) ∧ w.cell? ⟨(ad.add (i.toNat * 3)).block, (ad.add (i.toNat * 3)).off + 1, none⟩ = some (.int .i64 (rd_T70 xs i).f1) ∧ w.cell? ⟨(ad.add (i.toNat * 3)).block, (ad.add (i.toNat * 3)).off + 2, none⟩ = some (.slice (rd_T70 xs i).a (rd_T70 xs i).n (rd_T70 xs i).c) := by
  obtain ⟨ad, c, e, _, hK, hc0⟩ := Kd.C_get h z70 i h0 h1
  have hc : ∀ j u, c[j]? = some u → w.cell? (ad.add (i.toNat * 3 + j)) = some u := hc0
  obtain rfl := k70_open hK
  exact ⟨ad, e, hc 0 _ rfl, by rw [← ySb_ _ _ 1 (by omega)]; exact hc 1 _ rfl, by rw [← ySb_ _ _ 2 (by omega)]; exact hc 2 _ rfl⟩
theorem rd78_at (l : List S78) (i : Nat) (h : i < l.length) : rd_T78 l (i : Int) = l[i] := by
  unfold rd_T78
  rw [Int.toNat_natCast, List.getD_eq_getElem?_getD, List.getElem?_eq_getElem h]; rfl
theorem rd70_at (l : List S70) (i : Nat) (h : i < l.length) : rd_T70 l (i : Int) = l[i] := by
  unfold rd_T70
  rw [Int.toNat_natCast, List.getD_eq_getElem?_getD, List.getElem?_eq_getElem h]; rfl
/-- lines of the old text, and of the new one -/
def cA : List S78 → Nat
  | [] => 0
  | x :: l => (if x.f0 = 43 then 0 else 1) + cA l
def cB : List S78 → Nat
  | [] => 0
  | x :: l => (if x.f0 = 45 then 0 else 1) + cB l
theorem cA_le : ∀ l : List S78, cA l ≤ l.length
  | [] => Nat.le_refl _
  | x :: l => by
    have := cA_le l
    show (if x.f0 = 43 then 0 else 1) + cA l ≤ l.length + 1
    split <;> omega
theorem cB_le : ∀ l : List S78, cB l ≤ l.length
  | [] => Nat.le_refl _
  | x :: l => by
    have := cB_le l
    show (if x.f0 = 45 then 0 else 1) + cB l ≤ l.length + 1
    split <;> omega
theorem cA_take (l : List S78) (n : Nat) : cA (l.take n) ≤ l.length := Nat.le_trans (cA_le _) (by rw [List.length_take]; omega)
theorem cB_take (l : List S78) (n : Nat) : cB (l.take n) ≤ l.length := Nat.le_trans (cB_le _) (by rw [List.length_take]; omega)
theorem counts_l0 (l : List S78) (hl : l.length ≤ 1000000) : ∀ (m i k a b : Nat), l.length - i = m → i ≤ l.length → m + 1 ≤ k → a ≤ i → b ≤ i →
    yZ_.l0 k (a : Int) (b : Int) l (l.length : Int) (i : Int) = some (((a + cA (l.drop i) : Nat) : Int), ((b + cB (l.drop i) : Nat) : Int)) := by
  intro m
  induction m with
  | zero =>
    intro i k a b hm hi hk ha hb
    obtain ⟨k, rfl⟩ : ∃ q, k = q + 1 := ⟨k - 1, by omega⟩
    rw [yZ_.l0, if_neg (by omega), List.drop_of_length_le (by omega)]
    rfl
  | succ m ih =>
    intro i k a b hm hi hk ha hb
    obtain ⟨k, rfl⟩ : ∃ q, k = q + 1 := ⟨k - 1, by omega⟩
    have hlt : i < l.length := by omega
    have hd : l.drop i = l[i] :: l.drop (i + 1) := List.drop_eq_getElem_cons hlt
    have eA : cA (l[i] :: l.drop (i + 1)) = (if l[i].f0 = 43 then 0 else 1) + cA (l.drop (i + 1)) := rfl
    have eB : cB (l[i] :: l.drop (i + 1)) = (if l[i].f0 = 45 then 0 else 1) + cB (l.drop (i + 1)) := rfl
    have nxa : ∀ n : Nat, n ≤ 1000000 → wrap64 ((n : Int) + 1) = ((n + 1 : Nat) : Int) := fun n hn => by rw [w64 (by omega) (by omega)]; omega
    rw [yZ_.l0, if_pos (by omega), if_pos (by omega), if_pos (by omega), rd78_at l i hlt, nx i (by omega), hd, eA, eB]
    by_cases c1 : l[i].f0 = 43
    · have c2 : ¬ l[i].f0 = 45 := by omega
      rw [if_pos c1, if_neg c2, if_pos c1, if_neg c2, nxa b (by omega), ih (i + 1) k a (b + 1) (by omega) (by omega) (by omega) (by omega) (by omega), Nat.zero_add, Nat.add_assoc b 1]
    · rw [if_neg c1, if_neg c1]
      by_cases c2 : l[i].f0 = 45
      · rw [if_pos c2, if_pos c2, nxa a (by omega), ih (i + 1) k (a + 1) b (by omega) (by omega) (by omega) (by omega) (by omega), Nat.zero_add, Nat.add_assoc a 1]
      · rw [if_neg c2, if_neg c2, nxa a (by omega), nxa b (by omega), ih (i + 1) k (a + 1) (b + 1) (by omega) (by omega) (by omega) (by omega) (by omega), Nat.add_assoc a 1, Nat.add_assoc b 1]
theorem counts_f (l : List S78) (hl : l.length ≤ 1000000) (k : Nat) (hk : l.length + 1 ≤ k) : yZ_.f k l = some ((cA l : Int), (cB l : Int)) := by
  have h := counts_l0 l hl l.length 0 k 0 0 (by omega) (by omega) hk (Nat.le_refl _) (Nat.le_refl _)
  rw [List.drop_zero, Nat.zero_add, Nat.zero_add] at h
  exact h
theorem counts_take (A : Option Addr) (l : List S78) (m : Nat) (w : World) (hC : Kd.C k78 w A l.length l) (hl : l.length ≤ 1000000) (hm : m ≤ l.length) :
    Calls Tryd.prog 62 #[.slice A m m] w fun e w' => e = .returned (.tuple #[.int .i64 (cA (l.take m) : Int), .int .i64 (cB (l.take m) : Int)]) ∧ Below w.heap.size w w' := by
  have hlen : (l.take m).length = m := by rw [List.length_take]; omega
  have h := yZ_.calls (m + 1) A m (l.take m) _ _ w (Kd.C_take hC hm) (by omega) (counts_f (l.take m) (by omega) (m + 1) (by omega))
  rw [hlen] at h
  exact h
/-- where the last change of a hunk ends: looked on from k -/
def endH (l : List S78) (ctx : Nat) : Nat → Nat → Nat → Nat → Nat
  | 0, _, e, _ => e
  | n + 1, k, e, kept => if kept ≤ 2 * ctx then (if (rd_T78 l (k : Int)).f0 = 32 then endH l ctx n (k + 1) e (kept + 1) else endH l ctx n (k + 1) (k + 1) 0) else e
theorem endH_le (l : List S78) (ctx : Nat) : ∀ (n k e kept : Nat), e ≤ k → n + k ≤ l.length → e ≤ endH l ctx n k e kept ∧ endH l ctx n k e kept ≤ l.length
  | 0, k, e, kept, h1, h2 => ⟨Nat.le_refl _, by show e ≤ _; omega⟩
  | n + 1, k, e, kept, h1, h2 => by
    unfold endH
    split
    · split
      · exact endH_le l ctx n (k + 1) e (kept + 1) (by omega) (by omega)
      · have := endH_le l ctx n (k + 1) (k + 1) 0 (Nat.le_refl _) (by omega)
        exact ⟨by omega, this.2⟩
    · exact ⟨Nat.le_refl _, by omega⟩
/-- the hunks from a place on: where each begins and ends -/
def hkL (l : List S78) (ctx : Nat) : Nat → Nat → List (Nat × Nat)
  | 0, _ => []
  | n + 1, i => if i < l.length then (if (rd_T78 l (i : Int)).f0 = 32 then hkL l ctx n (i + 1) else (i - ctx, min l.length (endH l ctx (l.length - (i + 1)) (i + 1) (i + 1) 0 + ctx)) :: hkL l ctx n (endH l ctx (l.length - (i + 1)) (i + 1) (i + 1) 0)) else []
theorem hkL_fuel (l : List S78) (ctx : Nat) : ∀ (n m i : Nat), l.length - i ≤ n → l.length - i ≤ m → hkL l ctx n i = hkL l ctx m i
  | 0, 0, i, _, _ => rfl
  | 0, m + 1, i, h1, h2 => by
    show [] = hkL l ctx (m + 1) i
    unfold hkL
    rw [if_neg (by omega)]
  | n + 1, 0, i, h1, h2 => by
    show hkL l ctx (n + 1) i = []
    unfold hkL
    rw [if_neg (by omega)]
  | n + 1, m + 1, i, h1, h2 => by
    unfold hkL
    by_cases c : i < l.length
    · rw [if_pos c, if_pos c]
      have he := endH_le l ctx (l.length - (i + 1)) (i + 1) (i + 1) 0 (Nat.le_refl _) (by omega)
      split
      · exact hkL_fuel l ctx n m (i + 1) (by omega) (by omega)
      · rw [hkL_fuel l ctx n m _ (by omega) (by omega)]
    · rw [if_neg c, if_neg c]
def hunkS (ad : Addr) (l : List S78) (p : Nat × Nat) : S70 := ⟨(cA (l.take p.1) : Int), (cB (l.take p.1) : Int), some (ad.add (p.1 * 2)), p.2 - p.1, p.2 - p.1⟩
theorem hkL_in (l : List S78) (ctx : Nat) : ∀ (n i : Nat), ∀ p ∈ hkL l ctx n i, p.1 < p.2 ∧ p.2 ≤ l.length
  | 0, i, p, h => by cases h
  | n + 1, i, p, h => by
    unfold hkL at h
    by_cases c : i < l.length
    · rw [if_pos c] at h
      have he := endH_le l ctx (l.length - (i + 1)) (i + 1) (i + 1) 0 (Nat.le_refl _) (by omega)
      split at h
      · exact hkL_in l ctx n (i + 1) p h
      · rcases List.mem_cons.1 h with h | h
        · subst h
          refine ⟨?_, Nat.min_le_left _ _⟩
          show i - ctx < min _ _
          omega
        · exact hkL_in l ctx n _ p h
    · rw [if_neg c] at h; cases h
theorem hkL_len (l : List S78) (ctx : Nat) : ∀ (n i : Nat), (hkL l ctx n i).length ≤ l.length - i
  | 0, i => Nat.zero_le _
  | n + 1, i => by
    unfold hkL
    by_cases c : i < l.length
    · rw [if_pos c]
      have he := endH_le l ctx (l.length - (i + 1)) (i + 1) (i + 1) 0 (Nat.le_refl _) (by omega)
      split
      · have := hkL_len l ctx n (i + 1); omega
      · have := hkL_len l ctx n (endH l ctx (l.length - (i + 1)) (i + 1) (i + 1) 0)
        rw [List.length_cons]; omega
    · rw [if_neg c]; exact Nat.zero_le _
end Go.Proofs.YthimblhfjfngiaaDoor.PText

