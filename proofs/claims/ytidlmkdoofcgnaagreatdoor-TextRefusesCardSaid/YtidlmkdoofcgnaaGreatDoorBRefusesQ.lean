/- TextRefuses holds: for every two texts the statement answers true, where the seven listed package variables hold what the program's text lays. Part 17 of 21. -/
import Derived.Test.YtidlmkdoofcgnaaGreatDoorBRefusesP
import Derived.Lib.ItoaLen
import Derived.Lib.AppendIntMem
namespace Go.Proofs.YtidlmkdoofcgnaaGreatDoor.PText
open Go.RowKit Go.Proofs.YtidlmkdoofcgnaaGreatDoorW.PrintWords Go.Proofs.YtidlmkdoofcgnaaGreatDoorW.PrintLast Go.Proofs.YtidlmkdoofcgnaaGreatDoorW.PrintMore
set_option linter.unusedVariables false
set_option linter.unusedSimpArgs false
set_option maxHeartbeats 4000000 in
set_option maxRecDepth 100000 in
theorem hunks_row (A : Option Addr) (c : Nat) (l : List S66) (ctx : Nat) (w : World) (hC : Kd.C k66 w A l.length l) (hc : l.length ≤ c) (hl : l.length ≤ 1000000) (hx : ctx ≤ 20) :
    Calls Tryz.prog 40 #[.slice A l.length c, .int .i64 (ctx : Int)] w fun e w' => ∃ v, e = .returned v ∧ Kd.R k64 64 w' w.heap.size (fun _ => True) v ((hkL l ctx l.length 0).map (hunkS (A.getD ⟨0, 0, none⟩) l)) ∧ Below w.heap.size w w' := by
  have HC := Aside0.mk hC
  have HL := Aside0.mk hc
  have HN := Aside0.mk hl
  have HX := Aside0.mk hx
  clear hC hc hl hx
  go_enter Tryz.func40, Tryz.ntmps40
  go_wp2_with fail
  go_loopg [5, 6] (l.length + 1) (fun kq v5 v6 wr => ∃ (D : List S64) (i : Nat), v6 = .int .i64 (i : Int) ∧ Aside0 (l.length - i < kq ∧ i ≤ l.length ∧ D.length ≤ i) ∧ Aside0 (D ++ (hkL l ctx (l.length - i) i).map (hunkS (A.getD ⟨0, 0, none⟩) l) = (hkL l ctx l.length 0).map (hunkS (A.getD ⟨0, 0, none⟩) l)) ∧ Aside0 (Kd.R k64 64 wr w.heap.size (fun _ => True) v5 D) ∧ Aside0 (Below w.heap.size w wr))
  case atStart => exact ⟨[], 0, rfl, ⟨by omega, by omega, by simp⟩, ⟨by simp⟩, ⟨Kd.R_nil _ _ _ _ _⟩, ⟨Below.refl _ _⟩⟩
  case round =>
    obtain ⟨D, i, rfl, HI, HE, HO, HB⟩ := hrel
    obtain ⟨k1, rfl⟩ : ∃ k1, gk = k1 + 1 := ⟨gk - 1, by have := HI.out.1; omega⟩
    by_cases hlt : i < l.length
    · have b1 : decide ((i : Int) < (l.length : Int)) = true := by simp; omega
      have b2 : decide ((0 : Int) ≤ (i : Int)) = true := by simp
      obtain ⟨ad, rfl, hx0, hx1⟩ := at_T66 (Kd.C_below HC.out HB.out) (i : Int) (by omega) (by omega)
      rw [Int.toNat_natCast] at hx0 hx1
      have hd : hkL l ctx (l.length - i) i = if (rd_T66 l (i : Int)).f0 = 32 then hkL l ctx (l.length - (i + 1)) (i + 1) else (i - ctx, min l.length (endH l ctx (l.length - (i + 1)) (i + 1) (i + 1) 0 + ctx)) :: hkL l ctx (l.length - (i + 1)) (endH l ctx (l.length - (i + 1)) (i + 1) (i + 1) 0) := by
        obtain ⟨n, hn⟩ : ∃ n, l.length - i = n + 1 := ⟨l.length - (i + 1), by omega⟩
        have hn2 : n = l.length - (i + 1) := by omega
        rw [hn, hkL, if_pos hlt, hn2]
      by_cases hk : (rd_T66 l (i : Int)).f0 = 32
      · rw [if_pos hk] at hd
        rw [hk] at hx0
        go_wp2_with fail
        go_roundg k1
        case measure => have := HI.out.1; omega
        case rel => exact ⟨D, i + 1, congrArg (Value.int .i64) (nx i (by have := HN.out; omega)), ⟨by have := HI.out.1; omega, by omega, by have := HI.out.2.2; omega⟩, ⟨by rw [← hd]; exact HE.out⟩, HO, HB⟩
      · rw [if_neg hk] at hd
        have b3 : ((rd_T66 l (i : Int)).f0 == 32) = false := beq_eq_false_iff_ne.mpr hk
        have HE2 : Aside0 (D ++ (hunkS ad l (i - ctx, min l.length (endH l ctx (l.length - (i + 1)) (i + 1) (i + 1) 0 + ctx)) :: (hkL l ctx (l.length - (i + 1)) (endH l ctx (l.length - (i + 1)) (i + 1) (i + 1) 0)).map (hunkS ad l)) = (hkL l ctx l.length 0).map (hunkS ad l)) := ⟨by have := HE.out; rw [hd, List.map_cons] at this; exact this⟩
        have HEN := Aside0.mk (endH_le l ctx (l.length - (i + 1)) (i + 1) (i + 1) 0 (Nat.le_refl _) (by omega))
        clear HE hd
        obtain ⟨fr, hfr⟩ : ∃ fr, fr = i - ctx := ⟨_, rfl⟩
        rw [← hfr] at HE2
        go_wp2_with fail
        have hmx : max 0 (wrap64 ((i : Int) - (ctx : Int))) = (fr : Int) := by
          have := HN.out; have := HX.out
          rw [w64 (by omega) (by omega)]; omega
        have hn1 : wrap64 ((i : Int) + 1) = ((i + 1 : Nat) : Int) := nx i (by have := HN.out; omega)
        rw [hmx, hn1]
        clear hmx hn1
        have HFR := Aside0.mk (show fr ≤ i by omega)
        clear hfr
        go_loopg [8, 9, 10] (l.length + 1) (fun kq v8 v9 v10 wq => ∃ e kept k : Nat, v8 = .int .i64 (e : Int) ∧ v9 = .int .i64 (kept : Int) ∧ v10 = .int .i64 (k : Int) ∧ wq = wr ∧ Aside0 (endH l ctx (l.length - k) k e kept = endH l ctx (l.length - (i + 1)) (i + 1) (i + 1) 0) ∧ Aside0 (l.length - k < kq ∧ e ≤ k ∧ k ≤ l.length ∧ kept ≤ k))
        case atStart => exact ⟨i + 1, 0, i + 1, rfl, rfl, rfl, rfl, ⟨rfl⟩, ⟨by omega, by omega, by omega, by omega⟩⟩
        case round =>
          obtain ⟨e, kept, k, rfl, rfl, rfl, rfl, HQ, HK⟩ := hrel
          obtain ⟨k2, rfl⟩ : ∃ k2, gk = k2 + 1 := ⟨gk - 1, by have := HK.out.1; omega⟩
          have HM2 := Aside0.mk (show wrap64 (2 * (ctx : Int)) = 2 * (ctx : Int) by have := HX.out; rw [w64 (by omega) (by omega)])
          by_cases hgo : k < l.length ∧ kept ≤ 2 * ctx
          · obtain ⟨hlt2, hkp⟩ := hgo
            have d1 : decide ((k : Int) < (l.length : Int)) = true := by simp; omega
            have d2 : decide ((0 : Int) ≤ (k : Int)) = true := by simp
            have d3 : ((kept : Int) ≤ 2 * (ctx : Int)) = True := eq_true (by omega)
            have hq : endH l ctx (l.length - k) k e kept = if (rd_T66 l (k : Int)).f0 = 32 then endH l ctx (l.length - (k + 1)) (k + 1) e (kept + 1) else endH l ctx (l.length - (k + 1)) (k + 1) (k + 1) 0 := by
              obtain ⟨n, hn⟩ : ∃ n, l.length - k = n + 1 := ⟨l.length - (k + 1), by omega⟩
              have hn2 : n = l.length - (k + 1) := by omega
              rw [hn, endH, if_pos hkp, hn2]
            obtain ⟨ad2, he2, hy0, hy1⟩ := at_T66 (Kd.C_below HC.out HB.out) (k : Int) (by omega) (by omega)
            cases he2
            rw [Int.toNat_natCast] at hy0 hy1
            have hNk : k ≤ 1000000 := by have := HN.out; omega
            have hNp : kept ≤ 1000000 := by have := HK.out.2.2.2; omega
            by_cases hk2 : (rd_T66 l (k : Int)).f0 = 32
            · rw [if_pos hk2] at hq
              rw [hk2] at hy0
              have hm2 := HM2.out
              go_wp2_with fail
              clear hm2
              go_roundg k2
              case measure => have := HK.out.1; omega
              case rel => exact ⟨e, kept + 1, k + 1, rfl, congrArg (Value.int .i64) (by first | exact nx kept hNp | omega), congrArg (Value.int .i64) (by first | exact nx k hNk | omega), rfl, ⟨by rw [← hq]; exact HQ.out⟩, ⟨by have := HK.out.1; omega, by have := HK.out.2.1; omega, by omega, by have := HK.out.2.2.2; omega⟩⟩
            · rw [if_neg hk2] at hq
              have d4 : ((rd_T66 l (k : Int)).f0 == 32) = false := beq_eq_false_iff_ne.mpr hk2
              have hm2 := HM2.out
              go_wp2_with fail
              clear hm2
              go_roundg k2
              case measure => have := HK.out.1; omega
              case rel => exact ⟨k + 1, 0, k + 1, congrArg (Value.int .i64) (by first | exact nx k hNk | omega), rfl, congrArg (Value.int .i64) (by first | exact nx k hNk | omega), rfl, ⟨by rw [← hq]; exact HQ.out⟩, ⟨by have := HK.out.1; omega, Nat.le_refl _, by omega, by omega⟩⟩
          · have hE : endH l ctx (l.length - (i + 1)) (i + 1) (i + 1) 0 = e := by
              rw [← HQ.out]
              rcases Nat.lt_or_ge k l.length with h | h
              · obtain ⟨n, hn⟩ : ∃ n, l.length - k = n + 1 := ⟨l.length - (k + 1), by omega⟩
                rw [hn, endH, if_neg (fun q => hgo ⟨h, q⟩)]
              · rw [show l.length - k = 0 by omega]; rfl
            rw [hE] at HE2 HEN
            clear hE HQ
            obtain ⟨tt, htt⟩ : ∃ tt, tt = min l.length (e + ctx) := ⟨_, rfl⟩
            rw [← htt] at HE2
            have HMN : Aside0 (min (l.length : Int) (wrap64 ((e : Int) + (ctx : Int))) = (tt : Int)) := ⟨by
              have := HN.out; have := HX.out; have := HEN.out
              rw [w64 (by omega) (by omega)]; omega⟩
            have f1 : fr ≤ c := by have := HFR.out; have := HL.out; omega
            have f2 : fr ≤ tt := by have := HFR.out; have := HEN.out; omega
            have f3 : tt ≤ c := by have := HL.out; omega
            have f4 : ¬ tt - fr = 0 := by have := HFR.out; have := HEN.out; omega
            have HT := Aside0.mk (show tt ≤ l.length by omega)
            have dd : (k < l.length ∧ ((kept : Int) ≤ 2 * (ctx : Int)) = False) ∨ (k < l.length) = False := by
              by_cases h : k < l.length
              · exact Or.inl ⟨h, eq_false (by omega)⟩
              · exact Or.inr (eq_false h)
            clear htt hgo
            rcases dd with ⟨d1, d3⟩ | d1
            all_goals (
              have hm2 := HM2.out
              have hmn := HMN.out
              go_wp2_with (first
                | (go_at_call 54; refine (counts_take (some ad) l fr _ (Kd.C_below HC.out HB.out) HN.out (by have := HFR.out; omega)).mono ?_; rintro e4 w4 ⟨rfl, hb⟩; have HO4 := Aside0.mk (Kd.R_below HO.out hb); have HB4 := Aside0.mk (below_step HB.out hb); clear hb)
                | (at_builtin; refine Kd.R_append k64 (w0 := w) w.heap.size rfl (.tmp 70) (.tmp 79) 59 64 (.agg #[(.int .i64 0), (.int .i64 0), (.slice none 0 0)]) 40 rfl Tryz.underlying59 info64 rfl (by decide) (by omega) _ D (hunkS ad l (fr, tt)) [.int .i64 (cA (l.take fr)), .int .i64 (cB (l.take fr)), .slice (some (ad.add (fr * 2))) (tt - fr) (tt - fr)] (fun _ => True) (fun _ => False) rfl (by first | rfl | (simp; done) | (go_simp; done)) (k64_mkM _ _ _ (hunkS ad l (fr, tt))) (fun _ hk => hk.elim) (fun _ _ => trivial) HO4.out HB4.out HB4.out.size (by have := HI.out.2.2; have := HN.out; omega) ?_; intro v1 w5 ho hb hg hat; have HO5 := Aside0.mk ho; have HB5 := Aside0.mk hb; clear ho hb hg hat))
              clear hm2 hmn
              go_roundg k1
              case measure => have := HI.out.1; omega
              case rel => exact ⟨D ++ [hunkS ad l (fr, tt)], e, congrArg (Value.int .i64) (by have := HEN.out; have := HN.out; first | omega | (unfold wrap64; omega)), ⟨by have := HI.out.1; have := HEN.out; omega, HEN.out.2, by have := HI.out.2.2; have := HEN.out; rw [List.length_append, List.length_singleton]; omega⟩, ⟨by have := HE2.out; rw [List.append_assoc, List.singleton_append]; rw [hkL_fuel l ctx (l.length - e) (l.length - (i + 1)) e (Nat.le_refl _) (by have := HEN.out; omega)]; exact this⟩, HO5, HB5⟩)
    · have b1 : decide ((i : Int) < (l.length : Int)) = false := by simp; omega
      have hz : l.length - i = 0 := by omega
      have HE2 : Aside0 (D = (hkL l ctx l.length 0).map (hunkS (A.getD ⟨0, 0, none⟩) l)) := ⟨by have := HE.out; rw [hz] at this; simpa [hkL] using this⟩
      go_wp2_with fail
      go_ret
      exact ⟨_, rfl, by rw [← HE2.out]; exact HO.out, HB.out⟩
end Go.Proofs.YtidlmkdoofcgnaaGreatDoor.PText

namespace Go.Proofs.YtidlmkdoofcgnaaGreatDoor.PText
open Go.RowKit Go.Proofs.YtidlmkdoofcgnaaGreatDoorW.PrintWords Go.Proofs.YtidlmkdoofcgnaaGreatDoorW.PrintLast Go.Proofs.YtidlmkdoofcgnaaGreatDoorW.PrintMore
set_option linter.unusedVariables false
set_option linter.unusedSimpArgs false
def firstN (a n : Nat) : Nat := if n = 0 then a else a + 1
def itS (n : Nat) : ByteArray := ⟨(Lib.itoa (n : Int)).toArray⟩
theorem itS_size (n : Nat) (h : n ≤ 10000000) : (itS n).size ≤ 21 := by
  have := Lib.itoa_length_le (n : Int) (by omega) (by omega)
  show (Lib.itoa (n : Int)).toArray.size ≤ 21
  simpa using this
def headT (a b n m : Nat) : ByteArray := ⟨#[64, 64, 32]⟩ ++ itS (firstN a n) ++ ⟨#[44]⟩ ++ itS n ++ ⟨#[32]⟩ ++ itS (firstN b m) ++ ⟨#[44]⟩ ++ itS m ++ ⟨#[32, 64, 64, 10]⟩
theorem first_row (a n : Nat) (w : World) (ha : a ≤ 1000000) : Calls Tryz.prog 87 #[.int .i64 (a : Int), .int .i64 (n : Int)] w fun e w' => e = .returned (.int .i64 (firstN a n : Int)) ∧ w' = w := by
  by_cases h : n = 0
  · subst h
    go_enter Tryz.func87, Tryz.ntmps87
    go_wp2
    go_ret
    exact ⟨rfl, rfl⟩
  · have h1 : ((n : Int) == 0) = false := beq_eq_false_iff_ne.mpr (by omega)
    have e1 : wrap64 ((a : Int) + 1) = (firstN a n : Int) := by
      rw [w64 (by omega) (by omega)]; unfold firstN; rw [if_neg h]; omega
    go_enter Tryz.func87, Tryz.ntmps87
    go_wp2
    go_ret
    exact ⟨congrArg (fun z => Ending.returned (Value.int .i64 z)) (by first | exact e1 | (rw [← e1, w64 (by omega) (by omega)])), rfl⟩
theorem itoa_row (n : Nat) (w : World) (h : n ≤ 10000000) (hG : Glob w) : Calls Tryz.prog 86 #[.int .i64 (n : Int)] w fun e w' => e = .returned (.string (itS n)) ∧ Below w.heap.size w w' :=
  (Tryz.strconv_Itoa (n : Int) (by omega) (by omega) w hG.pow).mono fun e w' h => by
    obtain ⟨h1, k, os, rfl⟩ := h
    exact ⟨h1, Lib.below_grow _ w (Nat.le_refl _) k os⟩
set_option maxHeartbeats 4000000 in
set_option maxRecDepth 100000 in
theorem head_row (a b : Nat) (A : Option Addr) (c : Nat) (l : List S66) (w : World) (hC : Kd.C k66 w A l.length l) (hc : l.length ≤ c) (hl : l.length ≤ 1000000) (ha : a ≤ 1000000) (hb0 : b ≤ 1000000) (hG : Glob w) :
    Calls Tryz.prog 58 #[.agg #[.int .i64 (a : Int), .int .i64 (b : Int), .slice A l.length c]] w fun e w' => e = .returned (.string (headT a b (cA l) (cB l))) ∧ Below w.heap.size w w' := by
  have HC := Aside0.mk hC
  have HL := Aside0.mk hc
  have HN := Aside0.mk hl
  have HG := Aside0.mk hG
  clear hC hc hl hG
  go_enter Tryz.func58, Tryz.ntmps58
  go_wp2_with (go_at_call 54; refine (text_counts.calls (l.length + 1) A c l _ _ _ (Kd.C_alloc HC.out _) HL.out (counts_f l HN.out _ (Nat.le_refl _))).mono ?_; rintro e w4 ⟨rfl, hbb⟩; have hx0 : w4.cell? ⟨w.heap.size, 0, none⟩ = some (.int .i64 (a : Int)) := (hbb.cell (p := ⟨w.heap.size, 0, none⟩) (by simp)).trans (by simp); have hx1 : w4.cell? ⟨w.heap.size, 1, none⟩ = some (.int .i64 (b : Int)) := (hbb.cell (p := ⟨w.heap.size, 1, none⟩) (by simp)).trans (by simp); have HB := Aside0.mk hbb; clear hbb)
  have HG4 : Aside0 (Glob w4) := ⟨(HG.out.below ((Below.refl _ w).alloc (Nat.le_refl _) _)).below HB.out⟩
  have HBB : Aside0 (Below w.heap.size w w4) := ⟨((Below.refl _ w).alloc (Nat.le_refl _) _).trans (HB.out.mono (by simp))⟩
  have hs4 : w.heap.size < w4.heap.size := by have := HB.out.size; simp at this; omega
  have hA := cA_le l
  have hBl := cB_le l
  have hn := HN.out
  have hn1 : firstN a (cA l) ≤ 10000000 := by unfold firstN; split <;> omega
  have hn2 : cA l ≤ 10000000 := by omega
  have hn3 : firstN b (cB l) ≤ 10000000 := by unfold firstN; split <;> omega
  have hn4 : cB l ≤ 10000000 := by omega
  have z1 := itS_size _ hn1
  have z2 := itS_size _ hn2
  have z3 := itS_size _ hn3
  have z4 := itS_size _ hn4
  have q1 : (9223372036854775807 < 3 + (itS (firstN a (cA l))).size) = False := eq_false (by omega)
  have q2 : (9223372036854775807 < 3 + (itS (firstN a (cA l))).size + 1) = False := eq_false (by omega)
  have q3 : (9223372036854775807 < 3 + (itS (firstN a (cA l))).size + 1 + (itS (cA l)).size) = False := eq_false (by omega)
  have q4 : (9223372036854775807 < 3 + (itS (firstN a (cA l))).size + 1 + (itS (cA l)).size + 1) = False := eq_false (by omega)
  have q5 : (9223372036854775807 < 3 + (itS (firstN a (cA l))).size + 1 + (itS (cA l)).size + 1 + (itS (firstN b (cB l))).size) = False := eq_false (by omega)
  have q6 : (9223372036854775807 < 3 + (itS (firstN a (cA l))).size + 1 + (itS (cA l)).size + 1 + (itS (firstN b (cB l))).size + 1) = False := eq_false (by omega)
  have q7 : (9223372036854775807 < 3 + (itS (firstN a (cA l))).size + 1 + (itS (cA l)).size + 1 + (itS (firstN b (cB l))).size + 1 + (itS (cB l)).size) = False := eq_false (by omega)
  have q8 : (9223372036854775807 < 3 + (itS (firstN a (cA l))).size + 1 + (itS (cA l)).size + 1 + (itS (firstN b (cB l))).size + 1 + (itS (cB l)).size + 4) = False := eq_false (by omega)
  clear z1 z2 z3 z4 hA hBl hn HB
  go_region_held3 (fun w' => w'.cell? ⟨w.heap.size, 0, none⟩ = some (.int .i64 (a : Int)) ∧ w'.cell? ⟨w.heap.size, 1, none⟩ = some (.int .i64 (b : Int)) ∧ Below w4.heap.size w4 w')
    (first
      | exact ⟨hx0, hx1, below_drew (Below.refl _ _)⟩
      | (go_split_ands; exact ⟨by assumption, by assumption, below_drew (by assumption)⟩)
      | (go_split_ands; exact ⟨by assumption, by assumption, by assumption⟩)
      | (go_split_ands; have hq := below_step (by assumption) hb; exact ⟨(hq.cell (p := ⟨w.heap.size, 0, none⟩) hs4).trans hx0, (hq.cell (p := ⟨w.heap.size, 1, none⟩) hs4).trans hx1, hq⟩))
    (first
      | (go_at_call 87; with_reducible refine (first_row a (cA l) _ ha).mono ?_; rintro e w5 ⟨rfl, rfl⟩)
      | (go_at_call 87; with_reducible refine (first_row b (cB l) _ hb0).mono ?_; rintro e w5 ⟨rfl, rfl⟩)
      | (go_at_call 86; with_reducible refine (itoa_row _ _ ?zn ?zg).mono ?_; (case zn => first | exact hn1 | exact hn2 | exact hn3 | exact hn4); (case zg => (go_split_ands; exact HG4.out.below (by assumption))); rintro e w5 ⟨rfl, hb⟩))
  go_wp2_with fail
  go_ret
  exact ⟨rfl, HBB.out.trans ((by go_split_ands; assumption : Below w4.heap.size w4 _).mono HBB.out.size)⟩
end Go.Proofs.YtidlmkdoofcgnaaGreatDoor.PText

