/- LexFormats holds: for every text, the formats and the error are the document's, where the two listed package variables hold what the program's text lays. Part 2 of 2. -/
import Derived.Test.YtabnmkakgcifoaaDoorBFormatsA
import Derived.Lib.Hide
namespace Go.Proofs.YtabnmkakgcifoaaDoor.PLex
open Go.RowKit Go.Proofs.YtabnmkakgcifoaaDoorW.PrintWords Go.Proofs.YtabnmkakgcifoaaDoorW.PrintLast Go.Proofs.YtabnmkakgcifoaaDoorW.PrintMore
set_option maxHeartbeats 4000000 in
set_option maxRecDepth 100000 in
theorem skip_calls (set s : ByteArray) (gn gs n : Nat) (w0 w : World) (hBel : Below w0.heap.size w0 w) (hgn : w0.heap.size ≤ gn) (hs : s.size ≤ 140737488355328) (hn : n ≤ s.size) (h1 : w.heap[gn]? = some (.cells #[.int .i64 (n : Int)] 3 (0, 0))) (h2 : w.heap[gs]? = some (.cells #[.string s] 9 (0, 0))) (hne : gn ≠ gs) :
    Calls Tryd.prog 58 #[.string set, .pointer (some ⟨gn, 0, none⟩), .pointer (some ⟨gs, 0, none⟩)] w fun e w' => e = .returned (.tuple #[]) ∧ w'.heap[gn]? = some (.cells #[.int .i64 ((n + run set s n : Nat) : Int)] 3 (0, 0)) ∧ KeepBut w w' gn none ∧ Below w0.heap.size w0 w' := by
  have HB0 := Aside0.mk hBel
  clear hBel
  have H1 := Aside0.mk h1
  have H2 := Aside0.mk h2
  clear h1 h2
  go_enter Tryd.func58, Tryd.ntmps58
  go_wp2_with fail
  go_loopg [] (s.size + 1) (fun kq w' => ∃ i : Nat, Aside0 (s.size - i < kq ∧ i ≤ s.size) ∧ Aside0 (i + run set s i = n + run set s n) ∧ Aside0 (w'.heap[gn]? = some (.cells #[.int .i64 (i : Int)] 3 (0, 0))) ∧ Aside0 (KeepBut w w' gn none) ∧ Aside0 (Below w0.heap.size w0 w'))
  case atStart => exact ⟨n, ⟨by omega, hn⟩, ⟨rfl⟩, H1, ⟨KeepBut.refl _ _ _⟩, HB0⟩
  case round =>
    obtain ⟨i, HA, HR, HB, HK, HL⟩ := hrel
    obtain ⟨k1, rfl⟩ : ∃ k1, gk = k1 + 1 := ⟨gk - 1, by have := HA.out.1; omega⟩
    have hc0 : wr.cell? ⟨gn, 0, none⟩ = some (.int .i64 (i : Int)) := (blk_cell HB.out 0).trans rfl
    have hf0 : wr.frozen? ⟨gn, 0, none⟩ = false := blk_frozen HB.out 0
    have hbs := HK.out.blk H2.out hne.symm (by simp)
    have hs0 : wr.cell? ⟨gs, 0, none⟩ = some (.string s) := (blk_cell hbs 0).trans rfl
    clear hbs
    by_cases hlt : i < s.size
    · have hb : decide ((i : Int) < (s.size : Int)) = true := by simp; omega
      have hb2 : decide ((0 : Int) ≤ (i : Int)) = true := by simp
      have hbt : s[i] = B s i := by
        unfold B
        rw [List.drop_eq_getElem_cons (by rw [bl_length]; exact hlt)]
        rfl
      go_wp2_with fail
      refine (strings_IndexByte.calls set _ _ _ rfl).mono ?_
      rintro e w' ⟨rfl, nd, rfl⟩
      have hin := indexByte_in (bl set) (B s i)
      have hu : ((B s i).toNat : Int).toNat.toUInt8 = B s i := by simp
      rw [hu]
      by_cases hc : inSet set (B s i) = true
      · have hge : decide ((0 : Int) ≤ Lib.indexByte (bl set) (B s i)) = true := by rw [decide_eq_true_eq]; exact hin.mpr hc
        have HC := Lib.hid hc
        clear hc hin
        go_wp2_with fail
        go_roundg k1
        case measure => omega
        case rel =>
          have e := run_go set s i hlt HC.out
          exact ⟨i + 1, ⟨by have := HA.out.1; omega, by omega⟩, ⟨by have := HR.out; omega⟩, ⟨by simpa using blk_set (blk_drewN HB.out nd) 0 (.int .i64 ((i : Int) + 1))⟩, ⟨(keep_drewN HK.out nd).set_ 0 _⟩, ⟨below_set (pw_below_drewN HL.out nd) hgn⟩⟩
      · have hge : decide ((0 : Int) ≤ Lib.indexByte (bl set) (B s i)) = false := by rw [decide_eq_false_iff_not]; exact fun h => hc (hin.mp h)
        have HC := Lib.hid hc
        clear hc hin
        go_wp2_with fail
        have e := run_stop set s i hlt HC.out
        refine ⟨rfl, .tuple #[], by first | rfl | kernel_rfl, rfl, ?_, keep_drewN HK.out nd, pw_below_drewN HL.out nd⟩
        rw [show n + run set s n = i by have := HR.out; omega]
        exact blk_drewN HB.out nd
    · have hb : decide ((i : Int) < (s.size : Int)) = false := by simp; omega
      go_wp2_with fail
      have e := run_end set s i (by omega)
      refine ⟨rfl, .tuple #[], by first | rfl | kernel_rfl, rfl, ?_, HK.out, HL.out⟩
      rw [show n + run set s n = i by have := HR.out; omega]
      exact HB.out
set_option maxHeartbeats 4000000 in
set_option maxRecDepth 100000 in
theorem format_calls (s : ByteArray) (w : World) (hs : s.size ≤ 140737488355328) (h1 : 1 ≤ s.size) :
    Calls Tryd.prog 40 #[.string s] w fun e w' => e = .returned (.int .i64 (Lx.fmtLen (bl s) : Nat)) ∧ Below w.heap.size w w' := by
  rw [fmt_eq]
  have hmf : ∀ (fn : Fn) (first cap : Array Value) (w : World), (Instr.makeFunc fn first cap).run Tryd.prog w = .ok (.func fn first cap) w := fun _ _ _ _ => rfl
  unfold fmtAll
  dsimp only
  have hle1 := run_le S1 s 1 h1
  have hle2 := run_le S2 s _ hle1
  go_enter Tryd.func40, Tryd.ntmps40
  go_wp2_with fail
  refine (skip_calls S1 s (w.heap.size + 1) w.heap.size 1 w _ (below_alloc (below_alloc (Below.refl _ _) _) _) (by omega) hs h1 ?_ ?_ (by omega)).mono ?_
  · simpa using heap_alloc_new (w.alloc (.cells #[.string s] 9)) (.cells #[.int .i64 1] 3)
  · exact blk_alloc (blk_new w (.cells #[.string s] 9)) (.cells #[.int .i64 1] 3)
  rintro e w1 ⟨rfl, b1, k1, l1⟩
  generalize hN1 : 1 + run S1 s 1 = n1 at *
  have s1 := k1.blk (blk_alloc (blk_new w (.cells #[.string s] 9)) (.cells #[.int .i64 1] 3)) (by omega) (by simp)
  have B1 := Aside0.mk b1
  have L1 := Aside0.mk l1
  have S1' := Aside0.mk s1
  clear b1 k1 s1 l1
  go_wp2_with fail
  refine (skip_calls S2 s (w.heap.size + 1) w.heap.size n1 w w1 L1.out (by omega) hs hle1 B1.out S1'.out (by omega)).mono ?_
  rintro e w2 ⟨rfl, b2, k2, l2⟩
  generalize hN2 : n1 + run S2 s n1 = n2 at *
  have s2 := k2.blk S1'.out (by omega) (by simp)
  have B2 := Aside0.mk b2
  have L2 := Aside0.mk l2
  have S2' := Aside0.mk s2
  clear b2 k2 s2 l2 B1 L1 S1'
  go_upto_region 5 with (fail)
  go_cut [19] (fun v19 wc => v19 = .bool (decide (n2 < s.size ∧ B s n2 = 46)) ∧ Aside0 (wc.heap[w.heap.size + 1]? = some (.cells #[.int .i64 (n2 : Int)] 3 (0, 0))) ∧ Aside0 (wc.heap[w.heap.size]? = some (.cells #[.string s] 9 (0, 0))) ∧ Aside0 (Below w.heap.size w wc))
  case first =>
    have c0 : w2.cell? ⟨w.heap.size + 1, 0, none⟩ = some (.int .i64 (n2 : Int)) := (blk_cell B2.out 0).trans rfl
    have f0 : w2.frozen? ⟨w.heap.size + 1, 0, none⟩ = false := blk_frozen B2.out 0
    have d0 : w2.cell? ⟨w.heap.size, 0, none⟩ = some (.string s) := (blk_cell S2'.out 0).trans rfl
    have hz2 : w.heap.size + 1 < w2.heap.size := blk_lt B2.out
    by_cases hlt : n2 < s.size
    · have hb : decide ((n2 : Int) < (s.size : Int)) = true := by simp; omega
      have hb2 : decide ((0 : Int) ≤ (n2 : Int)) = true := by simp
      have hbt : s[n2] = B s n2 := by
        unfold B
        rw [List.drop_eq_getElem_cons (by rw [bl_length]; exact hlt)]
        rfl
      by_cases h46 : B s n2 = 46
      · have he : (((B s n2).toNat : Int) == 46) = true := by rw [h46]; rfl
        go_wp2_with fail
        go_meet
        case rel => exact ⟨by simp [hlt, h46], B2, S2', L2⟩
      · have he : (((B s n2).toNat : Int) == 46) = false := by rw [beq_eq_false_iff_ne]; exact fun h => h46 ((ci46 _).mp h)
        go_wp2_with fail
        go_meet
        case rel => exact ⟨by simp [h46], B2, S2', L2⟩
    · have hb : decide ((n2 : Int) < (s.size : Int)) = false := by simp; omega
      go_wp2_with fail
      go_meet
      case rel => exact ⟨by simp [hlt], B2, S2', L2⟩
  case rest =>
    obtain ⟨rfl, B3, S3', L3⟩ := hcut
    clear B2 S2' L2
    have c0 : wc.cell? ⟨w.heap.size + 1, 0, none⟩ = some (.int .i64 (n2 : Int)) := (blk_cell B3.out 0).trans rfl
    have f0 : wc.frozen? ⟨w.heap.size + 1, 0, none⟩ = false := blk_frozen B3.out 0
    by_cases hd : n2 < s.size ∧ B s n2 = 46
    · have hdb : decide (n2 < s.size ∧ B s n2 = 46) = true := decide_eq_true hd
      rw [hdb]
      go_wp2_with fail
      refine (skip_calls S2 s (w.heap.size + 1) w.heap.size (n2 + 1) w _ (below_set L3.out (by omega)) (by omega) hs (by omega) ?_ ?_ (by omega)).mono ?_
      · simpa using blk_set B3.out 0 (.int .i64 ((n2 : Int) + 1))
      · exact blk_far S3'.out (p := ⟨w.heap.size + 1, 0, none⟩) (by show w.heap.size ≠ w.heap.size + 1; omega) _
      rintro e w3 ⟨rfl, b3, k3, l3⟩
      have s3 := k3.blk (blk_far S3'.out (p := ⟨w.heap.size + 1, 0, none⟩) (by show w.heap.size ≠ w.heap.size + 1; omega) _) (by omega) (by simp)
      have hle3 := run_le S2 s (n2 + 1) (by omega)
      have HD0 : fmtDot s n2 = n2 + 1 + run S2 s (n2 + 1) := by unfold fmtDot; rw [if_pos hd]
      generalize hn3 : n2 + 1 + run S2 s (n2 + 1) = n3 at *
      have HD := Lib.hid HD0
      have B5 := Aside0.mk b3
      have S5 := Aside0.mk s3
      have L5 := Aside0.mk l3
      clear b3 s3 l3 k3 HD0 B3 S3' L3 c0 f0
      go_wp2_with fail
      refine (skip_calls S3 s (w.heap.size + 1) w.heap.size n3 w w3 L5.out (by omega) hs hle3 B5.out S5.out (by omega)).mono ?_
      rintro e w4 ⟨rfl, b4, k4, l4⟩
      have s4 := k4.blk S5.out (by omega) (by simp)
      have hle4 := run_le S3 s n3 hle3
      generalize hn4 : n3 + run S3 s n3 = n4 at *
      have c4 : w4.cell? ⟨w.heap.size + 1, 0, none⟩ = some (.int .i64 (n4 : Int)) := (blk_cell b4 0).trans rfl
      have d4 : w4.cell? ⟨w.heap.size, 0, none⟩ = some (.string s) := (blk_cell s4 0).trans rfl
      have L4 := Aside0.mk l4
      clear b4 k4 l4 s4
      by_cases hlt4 : n4 < s.size
      · have hb4 : decide ((n4 : Int) < (s.size : Int)) = true := by simp; omega
        have hb42 : decide ((0 : Int) ≤ (n4 : Int)) = true := by simp
        have hbt4 : s[n4] = B s n4 := by
          unfold B
          rw [List.drop_eq_getElem_cons (by rw [bl_length]; exact hlt4)]
          rfl
        go_wp2_with fail
        refine (strings_IndexByte.calls S4 _ _ _ rfl).mono ?_
        rintro e w5 ⟨rfl, nd, rfl⟩
        have hin := indexByte_in (bl S4) (B s n4)
        have hu : ((B s n4).toNat : Int).toNat.toUInt8 = B s n4 := by simp
        rw [hu]
        by_cases hc : inSet S4 (B s n4) = true
        · have hge : decide ((0 : Int) ≤ Lib.indexByte (bl S4) (B s n4)) = true := by rw [decide_eq_true_eq]; exact hin.mpr hc
          have HE := Lib.hid (show fmtEnd s n4 = n4 + 1 by unfold fmtEnd; rw [if_pos ⟨hlt4, hc⟩])
          clear hc hin
          go_wp2_with fail
          go_ret
          exact ⟨by rw [hN1, hN2, HD.out, hn4, HE.out]; simp, pw_below_drewN L4.out nd⟩
        · have hge : decide ((0 : Int) ≤ Lib.indexByte (bl S4) (B s n4)) = false := by rw [decide_eq_false_iff_not]; exact fun h => hc (hin.mp h)
          have HE := Lib.hid (show fmtEnd s n4 = 0 by unfold fmtEnd; rw [if_neg (fun q => hc q.2)])
          clear hc hin
          go_wp2_with fail
          go_ret
          exact ⟨by rw [hN1, hN2, HD.out, hn4, HE.out]; rfl, pw_below_drewN L4.out nd⟩
      · have hb4 : decide ((n4 : Int) < (s.size : Int)) = false := by simp; omega
        have HE := Lib.hid (show fmtEnd s n4 = 0 by unfold fmtEnd; rw [if_neg (fun q => hlt4 q.1)])
        go_wp2_with fail
        go_ret
        exact ⟨by rw [hN1, hN2, HD.out, hn4, HE.out]; rfl, L4.out⟩
    · have hdb : decide (n2 < s.size ∧ B s n2 = 46) = false := decide_eq_false hd
      rw [hdb]
      go_wp2_with fail
      have hle3 : n2 ≤ s.size := hle2
      have HD := Lib.hid (show fmtDot s n2 = n2 by unfold fmtDot; rw [if_neg hd])
      generalize hn3 : n2 = n3 at *
      refine (skip_calls S3 s (w.heap.size + 1) w.heap.size n3 w wc L3.out (by omega) hs hle3 B3.out S3'.out (by omega)).mono ?_
      rintro e w4 ⟨rfl, b4, k4, l4⟩
      have s4 := k4.blk S3'.out (by omega) (by simp)
      have hle4 := run_le S3 s n3 hle3
      generalize hn4 : n3 + run S3 s n3 = n4 at *
      have c4 : w4.cell? ⟨w.heap.size + 1, 0, none⟩ = some (.int .i64 (n4 : Int)) := (blk_cell b4 0).trans rfl
      have d4 : w4.cell? ⟨w.heap.size, 0, none⟩ = some (.string s) := (blk_cell s4 0).trans rfl
      have L4 := Aside0.mk l4
      clear b4 k4 l4 s4
      by_cases hlt4 : n4 < s.size
      · have hb4 : decide ((n4 : Int) < (s.size : Int)) = true := by simp; omega
        have hb42 : decide ((0 : Int) ≤ (n4 : Int)) = true := by simp
        have hbt4 : s[n4] = B s n4 := by
          unfold B
          rw [List.drop_eq_getElem_cons (by rw [bl_length]; exact hlt4)]
          rfl
        go_wp2_with fail
        refine (strings_IndexByte.calls S4 _ _ _ rfl).mono ?_
        rintro e w5 ⟨rfl, nd, rfl⟩
        have hin := indexByte_in (bl S4) (B s n4)
        have hu : ((B s n4).toNat : Int).toNat.toUInt8 = B s n4 := by simp
        rw [hu]
        by_cases hc : inSet S4 (B s n4) = true
        · have hge : decide ((0 : Int) ≤ Lib.indexByte (bl S4) (B s n4)) = true := by rw [decide_eq_true_eq]; exact hin.mpr hc
          have HE := Lib.hid (show fmtEnd s n4 = n4 + 1 by unfold fmtEnd; rw [if_pos ⟨hlt4, hc⟩])
          clear hc hin
          go_wp2_with fail
          go_ret
          exact ⟨by rw [hN1, hN2, HD.out, hn4, HE.out]; simp, pw_below_drewN L4.out nd⟩
        · have hge : decide ((0 : Int) ≤ Lib.indexByte (bl S4) (B s n4)) = false := by rw [decide_eq_false_iff_not]; exact fun h => hc (hin.mp h)
          have HE := Lib.hid (show fmtEnd s n4 = 0 by unfold fmtEnd; rw [if_neg (fun q => hc q.2)])
          clear hc hin
          go_wp2_with fail
          go_ret
          exact ⟨by rw [hN1, hN2, HD.out, hn4, HE.out]; rfl, pw_below_drewN L4.out nd⟩
      · have hb4 : decide ((n4 : Int) < (s.size : Int)) = false := by simp; omega
        have HE := Lib.hid (show fmtEnd s n4 = 0 by unfold fmtEnd; rw [if_neg (fun q => hlt4 q.1)])
        go_wp2_with fail
        go_ret
        exact ⟨by rw [hN1, hN2, HD.out, hn4, HE.out]; rfl, L4.out⟩
def lex_format.f (a0 : ByteArray) : Option Int := if 1 ≤ a0.size ∧ a0.size ≤ 140737488351232 then some (Lx.fmtLen (bl a0) : Nat) else none
theorem lex_format.calls (a0 : ByteArray) (r : Int) (w : World) (h : lex_format.f a0 = some r) :
    Calls Tryd.prog 40 #[.string a0] w fun e w' => e = .returned (.int .i64 r) ∧ Below w.heap.size w w' := by
  unfold lex_format.f at h
  split at h
  · rename_i hh
    obtain rfl := Option.some.inj h
    exact format_calls a0 w (by omega) hh.1
  · cases h
end Go.Proofs.YtabnmkakgcifoaaDoor.PLex

namespace Go.Proofs.YtabnmkakgcifoaaDoor.PLex
open Go.RowKit Go.Proofs.YtabnmkakgcifoaaDoorW.PrintWords Go.Proofs.YtabnmkakgcifoaaDoorW.PrintLast Go.Proofs.YtabnmkakgcifoaaDoorW.PrintMore
attribute [local go_sem] max2_int min2_int max_two min_two max_three min_three max_four min_four   -- for this text's walks alone
set_option linter.unusedVariables false
set_option linter.unusedSimpArgs false

mutual
def lex_Formats.j0 : Nat → ByteArray → Bool → Option (List ByteArray × Int)
 | 0, _, _ => none
 | k + 1, x0, x35 => if x35 = true then (some (([] : List ByteArray), 3)) else (lex_Formats.l0 k x0 ([] : List ByteArray) 0)
def lex_Formats.l0 : Nat → ByteArray → List ByteArray → Int → Option (List ByteArray × Int)
 | 0, _, _, _ => none
 | k + 1, x0, x6, x7 => if x7 < (x0.size : Int) then (if 0 ≤ x7 then (if (bt x0 x7) = 37 then (if x7 ≤ (x0.size : Int) then ((lex_format.f (x0.extract (x7 : Int).toNat x0.size)).bind fun t344 => (if t344 > 0 then (if x7 ≤ (wrap64 (x7 + t344)) then (if (wrap64 (x7 + t344)) ≤ (x0.size : Int) then (if x6.length < 8796093022208 then (lex_Formats.l0 k x0 (x6 ++ [x0.extract (x7 : Int).toNat ((wrap64 (x7 + t344)) : Int).toNat]) (wrap64 ((wrap64 (x7 + (wrap64 (t344 - 1)))) + 1))) else (none)) else (none)) else (none)) else (lex_Formats.l0 k x0 x6 (wrap64 (x7 + 1))))) else (none)) else (lex_Formats.l0 k x0 x6 (wrap64 (x7 + 1)))) else (none)) else (some (x6, 0))
end
def lex_Formats.f (k : Nat) (a0 : ByteArray) : Option (List ByteArray × Int) := (lex_Scan.f a0).bind fun bt338 => (if bt338.2 = 0 then (if (bt338.1.length : Int) = 2 then (if 0 < (bt338.1.length : Int) then (if ((rd_T30 bt338.1 0).f0) = 5 then (lex_Formats.j0 k a0 (((rd_T30 bt338.1 0).f2).toList != a0.toList)) else (lex_Formats.j0 k a0 true)) else (none)) else (lex_Formats.j0 k a0 true)) else (lex_Formats.j0 k a0 true))
set_option maxHeartbeats 8000000 in
set_option maxRecDepth 100000 in
theorem lex_Formats.calls (k : Nat) (a0 : ByteArray) (r1 : List ByteArray) (r2 : Int) (w : World) (hGl : Glob w) (h : lex_Formats.f k a0 = some (r1, r2)) :
  Calls Tryd.prog 23 #[.string a0] w fun e w' => ∃ v0_ : Value, e = .returned (.tuple #[v0_, .int .i64 r2]) ∧ Kd.R Kd.string 9 w' w.heap.size (fun _ => True) v0_ r1 ∧ Below w.heap.size w w' := by
 have HB := Aside0.mk (Below.refl w.heap.size w)
 have HGl := Aside0.mk hGl
 clear hGl
 have H : ((lex_Scan.f a0).bind fun bt338 => (if bt338.2 = 0 then (if (bt338.1.length : Int) = 2 then (if 0 < (bt338.1.length : Int) then (if ((rd_T30 bt338.1 0).f0) = 5 then (lex_Formats.j0 k a0 (((rd_T30 bt338.1 0).f2).toList != a0.toList)) else (lex_Formats.j0 k a0 true)) else (none)) else (lex_Formats.j0 k a0 true)) else (lex_Formats.j0 k a0 true))) = some (r1, r2) := h
 clear h
 replace H := Option.bind_eq_some_iff.mp H
 obtain ⟨⟨t338, t339⟩, A20, H⟩ := H
 replace H : (if t339 = 0 then (if (t338.length : Int) = 2 then (if 0 < (t338.length : Int) then (if ((rd_T30 t338 0).f0) = 5 then (lex_Formats.j0 k a0 (((rd_T30 t338 0).f2).toList != a0.toList)) else (lex_Formats.j0 k a0 true)) else (none)) else (lex_Formats.j0 k a0 true)) else (lex_Formats.j0 k a0 true)) = some (r1, r2) := H
 have A2 := Aside0.mk A20
 clear A20
 have HC3 := Aside0.mk H
 clear H
 go_enter Tryd.func23, Tryd.ntmps23
 go_upto_region 2 with (first | ((with_reducible refine gate_callee (f := 10) rfl ?_); refine goesL_ (some 11) rfl rfl Tryd.func10 (by kernel_rfl) rfl #[.string a0] rfl (by (try simp only [List.map_toArray, List.map_cons, List.map_nil]); first | done | rfl | (simp only [List.length_drop, List.length_take]; rfl)) ?_; (with_reducible refine (lex_Scan.calls a0 t338 t339 _ ?side1 A2.out).mono ?_); (case side1 => exact Glob.below HGl.out (by repeat (first | (with_reducible first | exact HB.out | apply below_alloc | apply pw_below_drewN | apply below_drew1) | exact HB.out))); rintro e w4 ⟨v340, rfl, ho0, hb⟩; refine ⟨_, rfl, ?_⟩; have n0_ := Aside0.mk (Kd.R_lower ho0 (below_size (by repeat (first | (with_reducible first | exact HB.out | apply below_alloc | apply pw_below_drewN | apply below_drew1) | exact HB.out)))); have n1_ := Aside0.mk (below_step (by repeat (first | (with_reducible first | exact HB.out | apply below_alloc | apply pw_below_drewN | apply below_drew1) | exact HB.out)) hb); clear HB; have HO341 := n0_; have HB := n1_; clear n0_ n1_; (try clear hb); (try clear hb2); (try clear hk); (try clear hi); (try clear ho0)))
 (try simp only [Act.put, List.setIfInBounds_toArray, List.set_cons_zero, List.set_cons_succ])
 go_cut [35] (fun v35 wc => ∃ (kq : Nat) (x35_2 : Bool), v35 = .bool x35_2 ∧ Aside0 (lex_Formats.j0 kq a0 x35_2 = some (r1, r2)) ∧ Aside0 (kq ≤ k) ∧ Aside0 (Below w.heap.size w wc))
 case first =>
  have H := HC3.out
  clear HC3
  by_cases c5 : t339 = 0
  ·rw [if_pos c5] at H
   have c5b0 : (t339 == 0) = true := beq_iff_eq.mpr c5
   have c5b1 : (t339 != 0) = false := bne_eq_false_iff_eq.mpr c5
   clear c5
   (first | rw [c5b0] | (simp only [i64_w, i32_w]; rw [c5b0]) | skip)
   by_cases c6 : (t338.length : Int) = 2
   ·rw [if_pos c6] at H
    have c6b0 : ((t338.length : Int) == 2) = true := beq_iff_eq.mpr c6
    have c6b1 : ((t338.length : Int) != 2) = false := bne_eq_false_iff_eq.mpr c6
    clear c6
    by_cases c7 : 0 < (t338.length : Int)
    ·rw [if_pos c7] at H
     have c7b0 : decide (0 < (t338.length : Int)) = true := decide_eq_true c7
     have c7b1 : decide (0 < t338.length) = true := decide_eq_true (by omega)
     clear c7
     by_cases c8 : ((rd_T30 t338 0).f0) = 5
     ·rw [if_pos c8] at H
      have c8b0 : (((rd_T30 t338 0).f0) == 5) = true := beq_iff_eq.mpr c8
      have c8b1 : (((rd_T30 t338 0).f0) != 5) = false := bne_eq_false_iff_eq.mpr c8
      clear c8
      have H' := Aside0.mk H
      clear H
      obtain ⟨Ao9, co9, eo9⟩ := Kd.R_slice HO341.out
      subst eo9
      have p342 : 0 ≤ (0 : Int) := (by omega)
      have q342 : 0 < (t338.length : Int) := of_decide_eq_true (by first | (with_reducible assumption) | assumption)
      obtain ⟨ad342, e342, hx342_0, hx342_1, hx342_2, hx342_3⟩ := at_T30 (Kd.R_reads' HO341.out).2.2 0 p342 q342
      cases e342
      have qi342 : (0 < t338.length) = True := eq_true (by omega)
      (try rw [show ((0 : Int)).toNat = 0 from rfl] at hx342_0)
      (try rw [show 0 * 4 = 0 from rfl] at hx342_0)
      (try rw [Addr.add_zero'] at hx342_0)
      (try rw [show ((0 : Int)).toNat = 0 from rfl] at hx342_1)
      (try rw [show 0 * 4 = 0 from rfl] at hx342_1)
      (try rw [Addr.add_zero'] at hx342_1)
      (try rw [show ((0 : Int)).toNat = 0 from rfl] at hx342_2)
      (try rw [show 0 * 4 = 0 from rfl] at hx342_2)
      (try rw [Addr.add_zero'] at hx342_2)
      (try rw [show ((0 : Int)).toNat = 0 from rfl] at hx342_3)
      (try rw [show 0 * 4 = 0 from rfl] at hx342_3)
      (try rw [Addr.add_zero'] at hx342_3)
      replace p342 := eq_true p342
      replace q342 := eq_true q342
      have p343 : 0 ≤ (0 : Int) := (by omega)
      have q343 : 0 < (t338.length : Int) := of_decide_eq_true (by first | (with_reducible assumption) | assumption)
      obtain ⟨ad343, e343, hx343_0, hx343_1, hx343_2, hx343_3⟩ := at_T30 (Kd.R_reads' HO341.out).2.2 0 p343 q343
      obtain rfl : ad342 = ad343 := (by injection e343)
      have qi343 : (0 < t338.length) = True := eq_true (by omega)
      (try rw [show ((0 : Int)).toNat = 0 from rfl] at hx343_0)
      (try rw [show 0 * 4 = 0 from rfl] at hx343_0)
      (try rw [Addr.add_zero'] at hx343_0)
      (try rw [show ((0 : Int)).toNat = 0 from rfl] at hx343_1)
      (try rw [show 0 * 4 = 0 from rfl] at hx343_1)
      (try rw [Addr.add_zero'] at hx343_1)
      (try rw [show ((0 : Int)).toNat = 0 from rfl] at hx343_2)
      (try rw [show 0 * 4 = 0 from rfl] at hx343_2)
      (try rw [Addr.add_zero'] at hx343_2)
      (try rw [show ((0 : Int)).toNat = 0 from rfl] at hx343_3)
      (try rw [show 0 * 4 = 0 from rfl] at hx343_3)
      (try rw [Addr.add_zero'] at hx343_3)
      replace p343 := eq_true p343
      replace q343 := eq_true q343
      go_wp2
      go_meet
      case rel => exact ⟨_, ((((rd_T30 t338 0).f2).toList != a0.toList)), (by first | rfl | (simp; done) | (simp [*]; done)), H', ⟨by first | omega | exact Nat.le_refl _⟩, ⟨by repeat (first | (with_reducible first | exact HB.out | apply below_alloc | apply pw_below_drewN | apply below_drew1) | exact HB.out)⟩⟩
     ·rw [if_neg c8] at H
      have c8b0 : (((rd_T30 t338 0).f0) == 5) = false := beq_eq_false_iff_ne.mpr c8
      have c8b1 : (((rd_T30 t338 0).f0) != 5) = true := bne_iff_ne.mpr c8
      have H' := Aside0.mk H
      clear H
      obtain ⟨Ao10, co10, eo10⟩ := Kd.R_slice HO341.out
      subst eo10
      have p342 : 0 ≤ (0 : Int) := (by omega)
      have q342 : 0 < (t338.length : Int) := of_decide_eq_true (by first | (with_reducible assumption) | assumption)
      obtain ⟨ad342, e342, hx342_0, hx342_1, hx342_2, hx342_3⟩ := at_T30 (Kd.R_reads' HO341.out).2.2 0 p342 q342
      cases e342
      have qi342 : (0 < t338.length) = True := eq_true (by omega)
      (try rw [show ((0 : Int)).toNat = 0 from rfl] at hx342_0)
      (try rw [show 0 * 4 = 0 from rfl] at hx342_0)
      (try rw [Addr.add_zero'] at hx342_0)
      (try rw [show ((0 : Int)).toNat = 0 from rfl] at hx342_1)
      (try rw [show 0 * 4 = 0 from rfl] at hx342_1)
      (try rw [Addr.add_zero'] at hx342_1)
      (try rw [show ((0 : Int)).toNat = 0 from rfl] at hx342_2)
      (try rw [show 0 * 4 = 0 from rfl] at hx342_2)
      (try rw [Addr.add_zero'] at hx342_2)
      (try rw [show ((0 : Int)).toNat = 0 from rfl] at hx342_3)
      (try rw [show 0 * 4 = 0 from rfl] at hx342_3)
      (try rw [Addr.add_zero'] at hx342_3)
      replace p342 := eq_true p342
      replace q342 := eq_true q342
      go_wp2
      go_meet
      case rel => exact ⟨_, (true), (by first | rfl | (simp; done) | (simp [*]; done)), H', ⟨by first | omega | exact Nat.le_refl _⟩, ⟨by repeat (first | (with_reducible first | exact HB.out | apply below_alloc | apply pw_below_drewN | apply below_drew1) | exact HB.out)⟩⟩
    ·rw [if_neg c7] at H
     exact absurd H (by simp)
   ·rw [if_neg c6] at H
    have c6b0 : ((t338.length : Int) == 2) = false := beq_eq_false_iff_ne.mpr c6
    have c6b1 : ((t338.length : Int) != 2) = true := bne_iff_ne.mpr c6
    have H' := Aside0.mk H
    clear H
    obtain ⟨Ao11, co11, eo11⟩ := Kd.R_slice HO341.out
    subst eo11
    go_wp2
    go_meet
    case rel => exact ⟨_, (true), (by first | rfl | (simp; done) | (simp [*]; done)), H', ⟨by first | omega | exact Nat.le_refl _⟩, ⟨by repeat (first | (with_reducible first | exact HB.out | apply below_alloc | apply pw_below_drewN | apply below_drew1) | exact HB.out)⟩⟩
  ·rw [if_neg c5] at H
   have c5b0 : (t339 == 0) = false := beq_eq_false_iff_ne.mpr c5
   have c5b1 : (t339 != 0) = true := bne_iff_ne.mpr c5
   (first | rw [c5b0] | (simp only [i64_w, i32_w]; rw [c5b0]) | skip)
   have H' := Aside0.mk H
   clear H
   go_wp2
   go_meet
   case rel => exact ⟨_, (true), (by first | rfl | (simp; done) | (simp [*]; done)), H', ⟨by first | omega | exact Nat.le_refl _⟩, ⟨by repeat (first | (with_reducible first | exact HB.out | apply below_alloc | apply pw_below_drewN | apply below_drew1) | exact HB.out)⟩⟩
 case rest =>
  clear HC3
  try clear c1
  try clear c2
  try clear p2
  try clear p3
  try clear q3
  try clear hx3
  try clear qi3
  try clear c5
  try clear c5b0
  try clear c5b1
  try clear c6
  try clear c6b0
  try clear c6b1
  try clear c7
  try clear c7b0
  try clear c7b1
  try clear c8
  try clear c8b0
  try clear c8b1
  try clear c10
  try clear hx342_0
  try clear hx342_1
  try clear hx342_2
  try clear hx342_3
  try clear hx343_0
  try clear hx343_1
  try clear hx343_2
  try clear hx343_3
  try clear p342
  try clear p343
  try clear q342
  try clear q343
  obtain ⟨kq, x35_2, rfl, HA, HJ2, HB⟩ := hcut
  cases kq with
  | zero => exact absurd HA.out (by simp [lex_Formats.j0])
  | succ kj2 =>
   have H := HA.out
   clear HA
   simp only [lex_Formats.j0] at H
   by_cases c12 : x35_2 = true
   ·subst c12
    have H1 : (some (([] : List ByteArray), 3)) = some (r1, r2) := by rw [if_pos rfl] at H; exact H
    clear H
    have H := H1
    clear H1
    simp only [Option.some.injEq, Prod.mk.injEq] at H
    obtain ⟨rfl, rfl⟩ := H
    go_wp2
    go_ret2
    exact ⟨_, by first | rfl | (simp [errW_none, errW_some] <;> rfl) | (simp [*, errW_none, errW_some] <;> rfl), by first | exact Kd.R_nil _ _ _ _ _ | exact Kd.N_nil _ _ _ _ _ | exact Kd.V_nil _ _ _ _ _ | exact Kd.Q_nil _ _ _ _ _ | exact Kd.S_nil _ _ _ _ _, by repeat (first | (with_reducible first | exact HB.out | apply below_alloc | apply pw_below_drewN | apply below_drew1) | exact HB.out)⟩
   ·replace c12 := Bool.eq_false_iff.mpr c12
    subst c12
    have H1 : (lex_Formats.l0 kj2 a0 ([] : List ByteArray) 0) = some (r1, r2) := by rw [if_neg (show ¬ (false = true) by decide)] at H; exact H
    clear H
    have H := H1
    clear H1
    have H' := Aside0.mk H
    clear H
    go_wp2
    try simp only [Act.put, List.setIfInBounds_toArray, List.set_cons_succ, List.set_cons_zero]
    go_loopg [6, 7] kj2 (fun kq v6 v7 w' => ∃ (x6_2 : List ByteArray) (x7_2 : Int), v7 = .int .i64 x7_2 ∧ Aside0 (lex_Formats.l0 kq a0 x6_2 x7_2 = some (r1, r2)) ∧ Aside0 (kq ≤ kj2) ∧ Aside0 (Kd.R Kd.string 9 w' w.heap.size (fun _ => True) v6 x6_2) ∧ Aside0 (Below w.heap.size w w'))
    case atStart => exact ⟨(([] : List ByteArray)), (0), (by first | rfl | (simp; done) | (simp [*]; done)), H', ⟨Nat.le_refl _⟩, ⟨by first | exact Kd.R_nil _ _ _ _ _ | exact Kd.N_nil _ _ _ _ _ | exact Kd.V_nil _ _ _ _ _ | exact Kd.Q_nil _ _ _ _ _ | exact Kd.S_nil _ _ _ _ _⟩, ⟨by repeat (first | (with_reducible first | exact HB.out | apply below_alloc | apply pw_below_drewN | apply below_drew1) | exact HB.out)⟩⟩
    case round =>
     clear H'
     try clear c1
     try clear c2
     try clear p2
     try clear p3
     try clear q3
     try clear hx3
     try clear qi3
     try clear c5
     try clear c5b0
     try clear c5b1
     try clear c6
     try clear c6b0
     try clear c6b1
     try clear c7
     try clear c7b0
     try clear c7b1
     try clear c8
     try clear c8b0
     try clear c8b1
     try clear c10
     try clear c12
     try clear hx342_0
     try clear hx342_1
     try clear hx342_2
     try clear hx342_3
     try clear hx343_0
     try clear hx343_1
     try clear hx343_2
     try clear hx343_3
     try clear p2
     try clear p3
     try clear p342
     try clear p343
     try clear q3
     try clear q342
     try clear q343
     obtain ⟨x6_2, x7_2, rfl, HA, HK2, HO_6, HB⟩ := hrel
     cases gk with
     | zero => exact absurd HA.out (by simp [lex_Formats.l0])
     | succ k2 =>
      have H := HA.out
      clear HA
      simp only [lex_Formats.l0] at H
      by_cases c13 : x7_2 < (a0.size : Int)
      ·rw [if_pos c13] at H
       have c13b0 : decide (x7_2 < (a0.size : Int)) = true := decide_eq_true c13
       clear c13
       by_cases c14 : 0 ≤ x7_2
       ·rw [if_pos c14] at H
        have c14b0 : decide (0 ≤ x7_2) = true := decide_eq_true c14
        clear c14
        by_cases c16 : (bt a0 x7_2) = 37
        ·rw [if_pos c16] at H
         have c16b0 : ((bt a0 x7_2) == 37) = true := beq_iff_eq.mpr c16
         have c16b1 : ((bt a0 x7_2) != 37) = false := bne_eq_false_iff_eq.mpr c16
         clear c16
         have c17b0 := eq_true (of_decide_eq_true (by first | (with_reducible assumption) | assumption) : 0 ≤ x7_2)
         by_cases c18 : x7_2 ≤ (a0.size : Int)
         ·rw [if_pos c18] at H
          have c18b0 := eq_true c18
          have c18b1 : decide (x7_2 ≤ (a0.size : Int)) = true := decide_eq_true c18
          clear c18
          replace H := Option.bind_eq_some_iff.mp H
          obtain ⟨t344, A190, H⟩ := H
          replace H : (if t344 > 0 then (if x7_2 ≤ (wrap64 (x7_2 + t344)) then (if (wrap64 (x7_2 + t344)) ≤ (a0.size : Int) then (if x6_2.length < 8796093022208 then (lex_Formats.l0 k2 a0 (x6_2 ++ [a0.extract (x7_2 : Int).toNat ((wrap64 (x7_2 + t344)) : Int).toNat]) (wrap64 ((wrap64 (x7_2 + (wrap64 (t344 - 1)))) + 1))) else (none)) else (none)) else (none)) else (lex_Formats.l0 k2 a0 x6_2 (wrap64 (x7_2 + 1)))) = some (r1, r2) := H
          have A19 := Aside0.mk A190
          clear A190
          by_cases c20 : t344 > 0
          ·rw [if_pos c20] at H
           have c20b0 : decide (0 < t344) = true := decide_eq_true c20
           clear c20
           have c21b0 := eq_true (of_decide_eq_true (by first | (with_reducible assumption) | assumption) : 0 ≤ x7_2)
           by_cases c22 : x7_2 ≤ (wrap64 (x7_2 + t344))
           ·rw [if_pos c22] at H
            have c22b0 := eq_true c22
            have c22b1 : decide (x7_2 ≤ (wrap64 (x7_2 + t344))) = true := decide_eq_true c22
            by_cases c23 : (wrap64 (x7_2 + t344)) ≤ (a0.size : Int)
            ·rw [if_pos c23] at H
             have c23b0 := eq_true c23
             have c23b1 : decide ((wrap64 (x7_2 + t344)) ≤ (a0.size : Int)) = true := decide_eq_true c23
             by_cases c24 : x6_2.length < 8796093022208
             ·rw [if_pos c24] at H
              have LMc24 := Aside0.mk c24
              clear c24
              obtain ⟨y345, hy345⟩ : ∃ y_ : List ByteArray, y_ = (x6_2 ++ [a0.extract (x7_2 : Int).toNat ((wrap64 (x7_2 + t344)) : Int).toNat]) := ⟨_, rfl⟩
              replace H : (lex_Formats.l0 k2 a0 y345 (wrap64 ((wrap64 (x7_2 + (wrap64 (t344 - 1)))) + 1))) = some (r1, r2) := by first | (rw [hy345]; with_reducible exact H) | (have H2_ := (Option.bind_some _ _).symm.trans H; rw [hy345]; with_reducible exact H2_) | (have H2_ := (Option.bind_some _ _).symm.trans H; with_reducible exact H2_) | with_reducible exact H | (rw [hy345]; exact H) | exact H
              have Ny345 := Aside0.mk hy345
              clear hy345
              have H' := Aside0.mk H
              clear H
              have p15 : 0 ≤ (x7_2 : Int) := of_decide_eq_true (by first | (with_reducible assumption) | assumption)
              have q15 : x7_2 < (a0.size : Int) := of_decide_eq_true (by first | (with_reducible assumption) | assumption)
              have hx15 := bt_at a0 x7_2
              replace p15 := eq_true p15
              replace q15 := eq_true q15
              go_wp2_with (first | ((with_reducible refine gate_callee (f := 40) rfl ?_); refine goesL_ (some 49) rfl rfl Tryd.func40 (by kernel_rfl) rfl #[.string (a0.extract (x7_2 : Int).toNat a0.size)] rfl (by (try simp only [List.map_toArray, List.map_cons, List.map_nil]); first | done | rfl | (simp only [List.length_drop, List.length_take]; rfl)) ?_; (with_reducible refine (lex_format.calls (a0.extract (x7_2 : Int).toNat a0.size) t344 _ A19.out).mono ?_); rintro e w25 ⟨rfl, hb⟩; refine ⟨_, rfl, ?_⟩; have n0_ := Aside0.mk (Kd.R_below (by (with_reducible repeat (first | apply Kd.R_alloc | apply Kd.R_drewN | apply Kd.R_drew)); exact HO_6.out) hb); have n1_ := Aside0.mk (below_step (by repeat (first | (with_reducible first | exact HB.out | apply below_alloc | apply pw_below_drewN | apply below_drew1) | exact HB.out)) hb); clear HO_6; clear HB; have HO_6 := n0_; have HB := n1_; clear n0_ n1_; (try clear hb); (try clear hb2); (try clear hk); (try clear hi)) | ((with_reducible refine gate_builtin (b := .append) (xs := #[.tmp 52, .tmp 59]) rfl ?_); (try (refine gate_guard (by rfl) ?_; dsimp only)); at_builtin; refine Kd.R_append Kd.string (w0 := w) w.heap.size rfl (.tmp 52) (.tmp 59) 35 9 (.string ⟨#[]⟩) 16 rfl Tryd.underlying35 info9 rfl (by decide) (by omega) u6 x6_2 (a0.extract (x7_2 : Int).toNat ((wrap64 (x7_2 + t344)) : Int).toNat) [.string (a0.extract (x7_2 : Int).toNat ((wrap64 (x7_2 + t344)) : Int).toNat)] (fun _ => True) (fun _ => False) rfl rfl ?aP (fun _ hk => hk.elim) ?aF ?aO ?aB ?aS ?aL ?_; (case aP => exact rfl); (case aB => exact (by repeat (first | (with_reducible first | exact HB.out | apply below_alloc | apply pw_below_drewN | apply below_drew1) | exact HB.out))); (case aF => exact (fun _ _ => trivial)); (case aO => exact (by (with_reducible repeat (first | apply Kd.R_alloc | apply Kd.R_drewN | apply Kd.R_drew)); exact HO_6.out)); (case aS => exact (below_size (by repeat (first | (with_reducible first | exact HB.out | apply below_alloc | apply pw_below_drewN | apply below_drew1) | exact HB.out)))); (case aL => have := LMc24.out; omega); intro v346 w26 ho hb hg hat; rw [← Ny345.out] at ho; have n0_ := Aside0.mk (hb); have n1_ := Aside0.mk (ho); clear HB; clear HO_6; have HB := n0_; have HO347 := n1_; clear n0_ n1_; clear ho hb hg hat))
              go_roundg k2
              case measure => have := HJ2.out; have := HK2.out; omega
              case rel => exact ⟨(y345), (wrap64 ((wrap64 (x7_2 + (wrap64 (t344 - 1)))) + 1)), (by first | rfl | (simp; done) | (simp [*]; done)), H', ⟨by have := HJ2.out; have := HK2.out; omega⟩, ⟨by (with_reducible repeat (first | apply Kd.R_alloc | apply Kd.R_drewN | apply Kd.R_drew)); exact HO347.out⟩, ⟨by repeat (first | (with_reducible first | exact HB.out | apply below_alloc | apply pw_below_drewN | apply below_drew1) | exact HB.out)⟩⟩
             ·rw [if_neg c24] at H
              exact absurd H (by simp)
            ·rw [if_neg c23] at H
             exact absurd H (by simp)
           ·rw [if_neg c22] at H
            exact absurd H (by simp)
          ·rw [if_neg c20] at H
           have c20b0 : decide (0 < t344) = false := decide_eq_false c20
           clear c20
           have H' := Aside0.mk H
           clear H
           have p15 : 0 ≤ (x7_2 : Int) := of_decide_eq_true (by first | (with_reducible assumption) | assumption)
           have q15 : x7_2 < (a0.size : Int) := of_decide_eq_true (by first | (with_reducible assumption) | assumption)
           have hx15 := bt_at a0 x7_2
           replace p15 := eq_true p15
           replace q15 := eq_true q15
           go_wp2_with (first | ((with_reducible refine gate_callee (f := 40) rfl ?_); refine goesL_ (some 49) rfl rfl Tryd.func40 (by kernel_rfl) rfl #[.string (a0.extract (x7_2 : Int).toNat a0.size)] rfl (by (try simp only [List.map_toArray, List.map_cons, List.map_nil]); first | done | rfl | (simp only [List.length_drop, List.length_take]; rfl)) ?_; (with_reducible refine (lex_format.calls (a0.extract (x7_2 : Int).toNat a0.size) t344 _ A19.out).mono ?_); rintro e w27 ⟨rfl, hb⟩; refine ⟨_, rfl, ?_⟩; have n0_ := Aside0.mk (Kd.R_below (by (with_reducible repeat (first | apply Kd.R_alloc | apply Kd.R_drewN | apply Kd.R_drew)); exact HO_6.out) hb); have n1_ := Aside0.mk (below_step (by repeat (first | (with_reducible first | exact HB.out | apply below_alloc | apply pw_below_drewN | apply below_drew1) | exact HB.out)) hb); clear HO_6; clear HB; have HO_6 := n0_; have HB := n1_; clear n0_ n1_; (try clear hb); (try clear hb2); (try clear hk); (try clear hi)))
           go_roundg k2
           case measure => have := HJ2.out; have := HK2.out; omega
           case rel => exact ⟨(x6_2), (wrap64 (x7_2 + 1)), (by first | rfl | (simp; done) | (simp [*]; done)), H', ⟨by have := HJ2.out; have := HK2.out; omega⟩, ⟨by (with_reducible repeat (first | apply Kd.R_alloc | apply Kd.R_drewN | apply Kd.R_drew)); exact HO_6.out⟩, ⟨by repeat (first | (with_reducible first | exact HB.out | apply below_alloc | apply pw_below_drewN | apply below_drew1) | exact HB.out)⟩⟩
         ·rw [if_neg c18] at H
          exact absurd H (by simp)
        ·rw [if_neg c16] at H
         have c16b0 : ((bt a0 x7_2) == 37) = false := beq_eq_false_iff_ne.mpr c16
         have c16b1 : ((bt a0 x7_2) != 37) = true := bne_iff_ne.mpr c16
         have H' := Aside0.mk H
         clear H
         have p15 : 0 ≤ (x7_2 : Int) := of_decide_eq_true (by first | (with_reducible assumption) | assumption)
         have q15 : x7_2 < (a0.size : Int) := of_decide_eq_true (by first | (with_reducible assumption) | assumption)
         have hx15 := bt_at a0 x7_2
         replace p15 := eq_true p15
         replace q15 := eq_true q15
         go_wp2
         go_roundg k2
         case measure => have := HJ2.out; have := HK2.out; omega
         case rel => exact ⟨(x6_2), (wrap64 (x7_2 + 1)), (by first | rfl | (simp; done) | (simp [*]; done)), H', ⟨by have := HJ2.out; have := HK2.out; omega⟩, ⟨by (with_reducible repeat (first | apply Kd.R_alloc | apply Kd.R_drewN | apply Kd.R_drew)); exact HO_6.out⟩, ⟨by repeat (first | (with_reducible first | exact HB.out | apply below_alloc | apply pw_below_drewN | apply below_drew1) | exact HB.out)⟩⟩
       ·rw [if_neg c14] at H
        exact absurd H (by simp)
      ·rw [if_neg c13] at H
       have c13b0 : decide (x7_2 < (a0.size : Int)) = false := decide_eq_false c13
       clear c13
       simp only [Option.some.injEq, Prod.mk.injEq] at H
       obtain ⟨rfl, rfl⟩ := H
       go_wp2
       go_ret2
       exact ⟨_, by first | rfl | (simp [errW_none, errW_some] <;> rfl) | (simp [*, errW_none, errW_some] <;> rfl), by (with_reducible repeat (first | apply Kd.R_alloc | apply Kd.R_drewN | apply Kd.R_drew)); exact HO_6.out, by repeat (first | (with_reducible first | exact HB.out | apply below_alloc | apply pw_below_drewN | apply below_drew1) | exact HB.out)⟩

end Go.Proofs.YtabnmkakgcifoaaDoor.PLex

namespace Go.Proofs.YtabnmkakgcifoaaDoor.PLex
open Go.RowKit Go.Proofs.YtabnmkakgcifoaaDoorW.PrintWords Go.Proofs.YtabnmkakgcifoaaDoorW.PrintLast Go.Proofs.YtabnmkakgcifoaaDoorW.PrintMore
attribute [local go_sem] max2_int min2_int max_two min_two max_three min_three max_four min_four   -- for this text's walks alone
set_option linter.unusedVariables false
set_option linter.unusedSimpArgs false

def lw2_LexFormats.f (k : Nat) (a0 : ByteArray) : Option (Bool) := (lex_Formats.f k a0).bind fun bt367 => ((rf2_Formats.f k a0).bind fun bt371 => ((rf0_EqStrings.f k bt367.1 bt371.1).bind fun t375 => (if t375 = true then (if bt367.2 = bt371.2 then ((lw2_awake.f).bind fun t376 => (some t376)) else (some false)) else (some false))))
set_option maxHeartbeats 8000000 in
set_option maxRecDepth 100000 in
theorem lw2_LexFormats.calls (k : Nat) (a0 : ByteArray) (r : Bool) (w : World) (hGl : Glob w) (h : lw2_LexFormats.f k a0 = some r) :
  Calls Tryd.prog 7 #[.string a0] w fun e w' => e = .returned (.bool r) ∧ Below w.heap.size w w' := by
 have HB := Aside0.mk (Below.refl w.heap.size w)
 have HGl := Aside0.mk hGl
 clear hGl
 have H : ((lex_Formats.f k a0).bind fun bt367 => ((rf2_Formats.f k a0).bind fun bt371 => ((rf0_EqStrings.f k bt367.1 bt371.1).bind fun t375 => (if t375 = true then (if bt367.2 = bt371.2 then ((lw2_awake.f).bind fun t376 => (some t376)) else (some false)) else (some false))))) = some r := h
 clear h
 replace H := Option.bind_eq_some_iff.mp H
 obtain ⟨⟨t367, t368⟩, A20, H⟩ := H
 replace H : ((rf2_Formats.f k a0).bind fun bt371 => ((rf0_EqStrings.f k t367 bt371.1).bind fun t375 => (if t375 = true then (if t368 = bt371.2 then ((lw2_awake.f).bind fun t376 => (some t376)) else (some false)) else (some false)))) = some r := H
 have A2 := Aside0.mk A20
 clear A20
 replace H := Option.bind_eq_some_iff.mp H
 obtain ⟨⟨t371, t372⟩, A30, H⟩ := H
 replace H : ((rf0_EqStrings.f k t367 t371).bind fun t375 => (if t375 = true then (if t368 = t372 then ((lw2_awake.f).bind fun t376 => (some t376)) else (some false)) else (some false))) = some r := H
 have A3 := Aside0.mk A30
 clear A30
 replace H := Option.bind_eq_some_iff.mp H
 obtain ⟨t375, A40, H⟩ := H
 replace H : (if t375 = true then (if t368 = t372 then ((lw2_awake.f).bind fun t376 => (some t376)) else (some false)) else (some false)) = some r := H
 have A4 := Aside0.mk A40
 clear A40
 by_cases c5 : t375 = true
 ·subst c5
  have H1 : (if t368 = t372 then ((lw2_awake.f).bind fun t376 => (some t376)) else (some false)) = some r := by rw [if_pos rfl] at H; exact H
  clear H
  have H := H1
  clear H1
  by_cases c6 : t368 = t372
  ·rw [if_pos c6] at H
   have c6b0 : (t368 == t372) = true := beq_iff_eq.mpr c6
   have c6b1 : (t368 != t372) = false := bne_eq_false_iff_eq.mpr c6
   clear c6
   replace H := Option.bind_eq_some_iff.mp H
   obtain ⟨t376, A70, H⟩ := H
   replace H : (some t376) = some r := H
   have A7 := Aside0.mk A70
   clear A70
   obtain rfl := Option.some.inj H
   go_enter Tryd.func7, Tryd.ntmps7
   go_wp2_with (first | ((with_reducible refine gate_callee (f := 23) rfl ?_); refine goesL_ (some 9) rfl rfl Tryd.func23 (by kernel_rfl) rfl #[.string a0] rfl (by (try simp only [List.map_toArray, List.map_cons, List.map_nil]); first | done | rfl | (simp only [List.length_drop, List.length_take]; rfl)) ?_; (with_reducible refine (lex_Formats.calls k a0 t367 t368 _ ?side1 A2.out).mono ?_); (case side1 => exact Glob.below HGl.out (by repeat (first | (with_reducible first | exact HB.out | apply below_alloc | apply pw_below_drewN | apply below_drew1) | exact HB.out))); rintro e w8 ⟨v369, rfl, ho0, hb⟩; refine ⟨_, rfl, ?_⟩; have n0_ := Aside0.mk (Kd.R_lower ho0 (below_size (by repeat (first | (with_reducible first | exact HB.out | apply below_alloc | apply pw_below_drewN | apply below_drew1) | exact HB.out)))); have n1_ := Aside0.mk (below_step (by repeat (first | (with_reducible first | exact HB.out | apply below_alloc | apply pw_below_drewN | apply below_drew1) | exact HB.out)) hb); clear HB; have HO370 := n0_; have HB := n1_; clear n0_ n1_; (try clear hb); (try clear hb2); (try clear hk); (try clear hi); (try clear ho0)) | ((with_reducible refine gate_callee (f := 24) rfl ?_); refine goesL_ (some 14) rfl rfl Tryd.func24 (by kernel_rfl) rfl #[.string a0] rfl (by (try simp only [List.map_toArray, List.map_cons, List.map_nil]); first | done | rfl | (simp only [List.length_drop, List.length_take]; rfl)) ?_; (with_reducible refine (rf2_Formats.calls k a0 t371 t372 _ A3.out).mono ?_); rintro e w9 ⟨v373, rfl, ho0, hb⟩; refine ⟨_, rfl, ?_⟩; have n0_ := Aside0.mk (Kd.R_elder' (by (with_reducible repeat (first | apply Kd.R_alloc | apply Kd.R_drewN | apply Kd.R_drew)); exact HO370.out) (Kd.R_base ho0) hb); have n1_ := Aside0.mk (Kd.R_lower (Kd.R_new' ho0 (Kd.R_lt (by (with_reducible repeat (first | apply Kd.R_alloc | apply Kd.R_drewN | apply Kd.R_drew)); exact HO370.out))) (below_size (by repeat (first | (with_reducible first | exact HB.out | apply below_alloc | apply pw_below_drewN | apply below_drew1) | exact HB.out)))); have n2_ := Aside0.mk (below_step (by repeat (first | (with_reducible first | exact HB.out | apply below_alloc | apply pw_below_drewN | apply below_drew1) | exact HB.out)) hb); clear HO370; clear HB; have HO370 := n0_; have HO374 := n1_; have HB := n2_; clear n0_ n1_ n2_; (try clear hb); (try clear hb2); (try clear hk); (try clear hi); (try clear ho0); obtain ⟨Ao10, co10, eo10⟩ := Kd.R_slice HO370.out; subst eo10; obtain ⟨Ao11, co11, eo11⟩ := Kd.R_slice HO374.out; subst eo11) | ((with_reducible refine gate_callee (f := 15) rfl ?_); refine goesL_ (some 19) rfl rfl Tryd.func15 (by kernel_rfl) rfl #[.slice Ao10 t367.length co10, .slice Ao11 t371.length co11] rfl (by (try simp only [List.map_toArray, List.map_cons, List.map_nil]); first | done | rfl | (simp only [List.length_drop, List.length_take]; rfl)) ?_; (with_reducible refine (rf0_EqStrings.calls k _ _ t367 _ _ t371 true _ ?side1 ?side2 ?side3 ?side4 A4.out).mono ?_); (case side1 => repeat (first | exact (Kd.R_reads' HO370.out).2.2 | (with_reducible refine Kd.C_alloc ?_ _) | (with_reducible refine Kd.C_drewN ?_ _) | (with_reducible refine Kd.C_drew ?_))); (case side2 => exact (Kd.R_reads' HO370.out).2.1); (case side3 => repeat (first | exact (Kd.R_reads' HO374.out).2.2 | (with_reducible refine Kd.C_alloc ?_ _) | (with_reducible refine Kd.C_drewN ?_ _) | (with_reducible refine Kd.C_drew ?_))); (case side4 => exact (Kd.R_reads' HO374.out).2.1); rintro e w' ⟨rfl, ⟨nd, rfl⟩⟩; refine ⟨_, rfl, ?_⟩) | (go_at_call 13; (with_reducible refine (lw2_awake.calls  t376 _ ?side1 A7.out).mono ?_); (case side1 => exact Glob.below HGl.out (by repeat (first | (with_reducible first | exact HB.out | apply below_alloc | apply pw_below_drewN | apply below_drew1) | exact HB.out))); rintro e w12 ⟨rfl, hb⟩; have n0_ := Aside0.mk (Kd.R_below (by (with_reducible repeat (first | apply Kd.R_alloc | apply Kd.R_drewN | apply Kd.R_drew)); exact HO370.out) hb); have n1_ := Aside0.mk (Kd.R_below (by (with_reducible repeat (first | apply Kd.R_alloc | apply Kd.R_drewN | apply Kd.R_drew)); exact HO374.out) hb); have n2_ := Aside0.mk (below_step (by repeat (first | (with_reducible first | exact HB.out | apply below_alloc | apply pw_below_drewN | apply below_drew1) | exact HB.out)) hb); clear HO370; clear HO374; clear HB; have HO370 := n0_; have HO374 := n1_; have HB := n2_; clear n0_ n1_ n2_; (try clear hb); (try clear hb2); (try clear hk); (try clear hi)))
   go_ret
   exact ⟨by first | rfl | (simp [errW_none, errW_some] <;> rfl) | (simp [*, errW_none, errW_some] <;> rfl), by repeat (first | (with_reducible first | exact HB.out | apply below_alloc | apply pw_below_drewN | apply below_drew1) | exact HB.out)⟩
  ·rw [if_neg c6] at H
   have c6b0 : (t368 == t372) = false := beq_eq_false_iff_ne.mpr c6
   have c6b1 : (t368 != t372) = true := bne_iff_ne.mpr c6
   obtain rfl := Option.some.inj H
   go_enter Tryd.func7, Tryd.ntmps7
   go_wp2_with (first | ((with_reducible refine gate_callee (f := 23) rfl ?_); refine goesL_ (some 9) rfl rfl Tryd.func23 (by kernel_rfl) rfl #[.string a0] rfl (by (try simp only [List.map_toArray, List.map_cons, List.map_nil]); first | done | rfl | (simp only [List.length_drop, List.length_take]; rfl)) ?_; (with_reducible refine (lex_Formats.calls k a0 t367 t368 _ ?side1 A2.out).mono ?_); (case side1 => exact Glob.below HGl.out (by repeat (first | (with_reducible first | exact HB.out | apply below_alloc | apply pw_below_drewN | apply below_drew1) | exact HB.out))); rintro e w13 ⟨v369, rfl, ho0, hb⟩; refine ⟨_, rfl, ?_⟩; have n0_ := Aside0.mk (Kd.R_lower ho0 (below_size (by repeat (first | (with_reducible first | exact HB.out | apply below_alloc | apply pw_below_drewN | apply below_drew1) | exact HB.out)))); have n1_ := Aside0.mk (below_step (by repeat (first | (with_reducible first | exact HB.out | apply below_alloc | apply pw_below_drewN | apply below_drew1) | exact HB.out)) hb); clear HB; have HO370 := n0_; have HB := n1_; clear n0_ n1_; (try clear hb); (try clear hb2); (try clear hk); (try clear hi); (try clear ho0)) | ((with_reducible refine gate_callee (f := 24) rfl ?_); refine goesL_ (some 14) rfl rfl Tryd.func24 (by kernel_rfl) rfl #[.string a0] rfl (by (try simp only [List.map_toArray, List.map_cons, List.map_nil]); first | done | rfl | (simp only [List.length_drop, List.length_take]; rfl)) ?_; (with_reducible refine (rf2_Formats.calls k a0 t371 t372 _ A3.out).mono ?_); rintro e w14 ⟨v373, rfl, ho0, hb⟩; refine ⟨_, rfl, ?_⟩; have n0_ := Aside0.mk (Kd.R_elder' (by (with_reducible repeat (first | apply Kd.R_alloc | apply Kd.R_drewN | apply Kd.R_drew)); exact HO370.out) (Kd.R_base ho0) hb); have n1_ := Aside0.mk (Kd.R_lower (Kd.R_new' ho0 (Kd.R_lt (by (with_reducible repeat (first | apply Kd.R_alloc | apply Kd.R_drewN | apply Kd.R_drew)); exact HO370.out))) (below_size (by repeat (first | (with_reducible first | exact HB.out | apply below_alloc | apply pw_below_drewN | apply below_drew1) | exact HB.out)))); have n2_ := Aside0.mk (below_step (by repeat (first | (with_reducible first | exact HB.out | apply below_alloc | apply pw_below_drewN | apply below_drew1) | exact HB.out)) hb); clear HO370; clear HB; have HO370 := n0_; have HO374 := n1_; have HB := n2_; clear n0_ n1_ n2_; (try clear hb); (try clear hb2); (try clear hk); (try clear hi); (try clear ho0); obtain ⟨Ao15, co15, eo15⟩ := Kd.R_slice HO370.out; subst eo15; obtain ⟨Ao16, co16, eo16⟩ := Kd.R_slice HO374.out; subst eo16) | ((with_reducible refine gate_callee (f := 15) rfl ?_); refine goesL_ (some 19) rfl rfl Tryd.func15 (by kernel_rfl) rfl #[.slice Ao15 t367.length co15, .slice Ao16 t371.length co16] rfl (by (try simp only [List.map_toArray, List.map_cons, List.map_nil]); first | done | rfl | (simp only [List.length_drop, List.length_take]; rfl)) ?_; (with_reducible refine (rf0_EqStrings.calls k _ _ t367 _ _ t371 true _ ?side1 ?side2 ?side3 ?side4 A4.out).mono ?_); (case side1 => repeat (first | exact (Kd.R_reads' HO370.out).2.2 | (with_reducible refine Kd.C_alloc ?_ _) | (with_reducible refine Kd.C_drewN ?_ _) | (with_reducible refine Kd.C_drew ?_))); (case side2 => exact (Kd.R_reads' HO370.out).2.1); (case side3 => repeat (first | exact (Kd.R_reads' HO374.out).2.2 | (with_reducible refine Kd.C_alloc ?_ _) | (with_reducible refine Kd.C_drewN ?_ _) | (with_reducible refine Kd.C_drew ?_))); (case side4 => exact (Kd.R_reads' HO374.out).2.1); rintro e w' ⟨rfl, ⟨nd, rfl⟩⟩; refine ⟨_, rfl, ?_⟩))
   go_ret
   exact ⟨by first | rfl | (simp [errW_none, errW_some] <;> rfl) | (simp [*, errW_none, errW_some] <;> rfl), by repeat (first | (with_reducible first | exact HB.out | apply below_alloc | apply pw_below_drewN | apply below_drew1) | exact HB.out)⟩
 ·replace c5 := Bool.eq_false_iff.mpr c5
  subst c5
  have H1 : (some false) = some r := by rw [if_neg (show ¬ (false = true) by decide)] at H; exact H
  clear H
  have H := H1
  clear H1
  obtain rfl := Option.some.inj H
  go_enter Tryd.func7, Tryd.ntmps7
  go_wp2_with (first | ((with_reducible refine gate_callee (f := 23) rfl ?_); refine goesL_ (some 9) rfl rfl Tryd.func23 (by kernel_rfl) rfl #[.string a0] rfl (by (try simp only [List.map_toArray, List.map_cons, List.map_nil]); first | done | rfl | (simp only [List.length_drop, List.length_take]; rfl)) ?_; (with_reducible refine (lex_Formats.calls k a0 t367 t368 _ ?side1 A2.out).mono ?_); (case side1 => exact Glob.below HGl.out (by repeat (first | (with_reducible first | exact HB.out | apply below_alloc | apply pw_below_drewN | apply below_drew1) | exact HB.out))); rintro e w17 ⟨v369, rfl, ho0, hb⟩; refine ⟨_, rfl, ?_⟩; have n0_ := Aside0.mk (Kd.R_lower ho0 (below_size (by repeat (first | (with_reducible first | exact HB.out | apply below_alloc | apply pw_below_drewN | apply below_drew1) | exact HB.out)))); have n1_ := Aside0.mk (below_step (by repeat (first | (with_reducible first | exact HB.out | apply below_alloc | apply pw_below_drewN | apply below_drew1) | exact HB.out)) hb); clear HB; have HO370 := n0_; have HB := n1_; clear n0_ n1_; (try clear hb); (try clear hb2); (try clear hk); (try clear hi); (try clear ho0)) | ((with_reducible refine gate_callee (f := 24) rfl ?_); refine goesL_ (some 14) rfl rfl Tryd.func24 (by kernel_rfl) rfl #[.string a0] rfl (by (try simp only [List.map_toArray, List.map_cons, List.map_nil]); first | done | rfl | (simp only [List.length_drop, List.length_take]; rfl)) ?_; (with_reducible refine (rf2_Formats.calls k a0 t371 t372 _ A3.out).mono ?_); rintro e w18 ⟨v373, rfl, ho0, hb⟩; refine ⟨_, rfl, ?_⟩; have n0_ := Aside0.mk (Kd.R_elder' (by (with_reducible repeat (first | apply Kd.R_alloc | apply Kd.R_drewN | apply Kd.R_drew)); exact HO370.out) (Kd.R_base ho0) hb); have n1_ := Aside0.mk (Kd.R_lower (Kd.R_new' ho0 (Kd.R_lt (by (with_reducible repeat (first | apply Kd.R_alloc | apply Kd.R_drewN | apply Kd.R_drew)); exact HO370.out))) (below_size (by repeat (first | (with_reducible first | exact HB.out | apply below_alloc | apply pw_below_drewN | apply below_drew1) | exact HB.out)))); have n2_ := Aside0.mk (below_step (by repeat (first | (with_reducible first | exact HB.out | apply below_alloc | apply pw_below_drewN | apply below_drew1) | exact HB.out)) hb); clear HO370; clear HB; have HO370 := n0_; have HO374 := n1_; have HB := n2_; clear n0_ n1_ n2_; (try clear hb); (try clear hb2); (try clear hk); (try clear hi); (try clear ho0); obtain ⟨Ao19, co19, eo19⟩ := Kd.R_slice HO370.out; subst eo19; obtain ⟨Ao20, co20, eo20⟩ := Kd.R_slice HO374.out; subst eo20) | ((with_reducible refine gate_callee (f := 15) rfl ?_); refine goesL_ (some 19) rfl rfl Tryd.func15 (by kernel_rfl) rfl #[.slice Ao19 t367.length co19, .slice Ao20 t371.length co20] rfl (by (try simp only [List.map_toArray, List.map_cons, List.map_nil]); first | done | rfl | (simp only [List.length_drop, List.length_take]; rfl)) ?_; (with_reducible refine (rf0_EqStrings.calls k _ _ t367 _ _ t371 false _ ?side1 ?side2 ?side3 ?side4 A4.out).mono ?_); (case side1 => repeat (first | exact (Kd.R_reads' HO370.out).2.2 | (with_reducible refine Kd.C_alloc ?_ _) | (with_reducible refine Kd.C_drewN ?_ _) | (with_reducible refine Kd.C_drew ?_))); (case side2 => exact (Kd.R_reads' HO370.out).2.1); (case side3 => repeat (first | exact (Kd.R_reads' HO374.out).2.2 | (with_reducible refine Kd.C_alloc ?_ _) | (with_reducible refine Kd.C_drewN ?_ _) | (with_reducible refine Kd.C_drew ?_))); (case side4 => exact (Kd.R_reads' HO374.out).2.1); rintro e w' ⟨rfl, ⟨nd, rfl⟩⟩; refine ⟨_, rfl, ?_⟩))
  go_ret
  exact ⟨by first | rfl | (simp [errW_none, errW_some] <;> rfl) | (simp [*, errW_none, errW_some] <;> rfl), by repeat (first | (with_reducible first | exact HB.out | apply below_alloc | apply pw_below_drewN | apply below_drew1) | exact HB.out)⟩

end Go.Proofs.YtabnmkakgcifoaaDoor.PLex

namespace Go.Proofs.YtabnmkakgcifoaaDoor.PLex
open Go.RowKit Go.Proofs.YtabnmkakgcifoaaDoorW.PrintWords Go.Proofs.YtabnmkakgcifoaaDoorW.PrintLast Go.Proofs.YtabnmkakgcifoaaDoorW.PrintMore
theorem wN (x : Int) (n : Nat) (h : x = (n : Int)) (hn : n ≤ 9223372036854775807) : wrap64 x = (n : Int) := by rw [h, w64 (by omega) (by omega)]
theorem rwithin_eq (set : ByteArray) (hset : set.size ≤ 1000) (c : UInt8) : Ev (fun k => rf2_within.f k set (c.toNat : Int)) (inSet set c) := by
  have h : ∀ (m i : Nat), set.size < i + m → i ≤ set.size → Ev (fun k => rf2_within.l0 k set (c.toNat : Int) i) (((bl set).drop i).contains c) := by
    intro m
    induction m with
    | zero => intro i h1 h2; omega
    | succ m ih =>
      intro i h1 h2
      rcases Nat.lt_or_ge i set.size with hi | hi
      · have e := ih (i + 1) (by omega) (by omega)
        have head : ∀ k, rf2_within.l0 (k + 1) set (c.toNat : Int) i = if B set i = c then some true else rf2_within.l0 k set (c.toNat : Int) ((i + 1 : Nat) : Int) := by
          intro k
          rw [rf2_within.l0, if_pos (by omega), if_pos (by omega), bt_B set i hi, w64 (by omega) (by omega)]
          simp only [nI]
          rfl
        rw [drop_B set i hi, List.contains_cons]
        by_cases hc : B set i = c
        · rw [hc, beq_self_eq_true, Bool.true_or]
          exact Ev.step (fun k => (head k).trans (if_pos hc)) (Ev.now _)
        · rw [show (c == B set i) = false from beq_eq_false_iff_ne.mpr (Ne.symm hc), Bool.false_or]
          exact Ev.step (fun k => (head k).trans (if_neg hc)) e
      · rw [drop_end set i hi]
        refine Ev.step (fun k => ?_) (Ev.now _)
        rw [rf2_within.l0, if_neg (by omega)]
        rfl
  exact h (set.size + 1) 0 (by omega) (by omega)
section
variable (s : ByteArray) (hs : s.size ≤ 140737488355328)
include hs
theorem rfmt_l0 (a : Int) (R : Int) : ∀ (m n : Nat), s.size < n + m → n ≤ s.size → Ev (fun k => rf2_format.j1 k s a ((n + run S1 s n : Nat) : Int)) R → Ev (fun k => rf2_format.l0 k s a n) R := by
  intro m
  induction m with
  | zero => intro n h1 h2; omega
  | succ m ih =>
    intro n h1 h2 hR
    rcases Nat.lt_or_ge n s.size with hn | hn
    · have hw : wrap64 ((n : Int) + 1) = ((n + 1 : Nat) : Int) := by rw [w64 (by omega) (by omega)]; omega
      have ew := rwithin_eq S1 (by decide) (B s n)
      refine Ev.step (f := fun k => (rf2_within.f k S1 ((B s n).toNat : Int)).bind fun t => if t = true then rf2_format.l0 k s a ((n + 1 : Nat) : Int) else rf2_format.j1 k s a n) (fun k => ?_) (Ev.bind ew ?_)
      · rw [rf2_format.l0, if_pos (by omega), if_pos (by omega), bt_B s n hn, hw]; rfl
      · by_cases hc : inSet S1 (B s n) = true
        · rw [run_go S1 s n hn hc, show n + (run S1 s (n + 1) + 1) = n + 1 + run S1 s (n + 1) by omega] at hR
          exact Ev.congr (fun k => if_pos hc) (ih (n + 1) (by omega) (by omega) hR)
        · rw [run_stop S1 s n hn hc] at hR
          exact Ev.congr (fun k => if_neg hc) hR
    · rw [run_end S1 s n hn] at hR
      exact Ev.step (fun k => by rw [rf2_format.l0, if_neg (by omega)]; rfl) hR
theorem rfmt_l1 (a : Int) (R : Int) : ∀ (m n : Nat), s.size < n + m → n ≤ s.size → Ev (fun k => rf2_format.j3 k s a ((n + run S2 s n : Nat) : Int)) R → Ev (fun k => rf2_format.l1 k s a n) R := by
  intro m
  induction m with
  | zero => intro n h1 h2; omega
  | succ m ih =>
    intro n h1 h2 hR
    rcases Nat.lt_or_ge n s.size with hn | hn
    · have hw : wrap64 ((n : Int) + 1) = ((n + 1 : Nat) : Int) := by rw [w64 (by omega) (by omega)]; omega
      have head : ∀ k, rf2_format.l1 (k + 1) s a n = if Lx.isD (B s n) = true then rf2_format.l1 k s a ((n + 1 : Nat) : Int) else rf2_format.j3 k s a n := by
        intro k
        rw [rf2_format.l1, if_pos (by omega), if_pos (by omega), bt_B s n hn, rdigit_eq, Option.bind_some, hw]
      by_cases hc : Lx.isD (B s n) = true
      · rw [run_go S2 s n hn (by rw [isD_in]; exact hc), show n + (run S2 s (n + 1) + 1) = n + 1 + run S2 s (n + 1) by omega] at hR
        exact Ev.step (fun k => (head k).trans (if_pos hc)) (ih (n + 1) (by omega) (by omega) hR)
      · rw [run_stop S2 s n hn (by rw [isD_in]; exact hc)] at hR
        exact Ev.step (fun k => (head k).trans (if_neg hc)) hR
    · rw [run_end S2 s n hn] at hR
      exact Ev.step (fun k => by rw [rf2_format.l1, if_neg (by omega)]; rfl) hR
theorem rfmt_l2 (a : Int) (R : Int) : ∀ (m n : Nat), s.size < n + m → n ≤ s.size → Ev (fun k => rf2_format.j5 k s a ((n + run S2 s n : Nat) : Int)) R → Ev (fun k => rf2_format.l2 k s a n) R := by
  intro m
  induction m with
  | zero => intro n h1 h2; omega
  | succ m ih =>
    intro n h1 h2 hR
    rcases Nat.lt_or_ge n s.size with hn | hn
    · have hw : wrap64 ((n : Int) + 1) = ((n + 1 : Nat) : Int) := by rw [w64 (by omega) (by omega)]; omega
      have head : ∀ k, rf2_format.l2 (k + 1) s a n = if Lx.isD (B s n) = true then rf2_format.l2 k s a ((n + 1 : Nat) : Int) else rf2_format.j5 k s a n := by
        intro k
        rw [rf2_format.l2, if_pos (by omega), if_pos (by omega), bt_B s n hn, rdigit_eq, Option.bind_some, hw]
      by_cases hc : Lx.isD (B s n) = true
      · rw [run_go S2 s n hn (by rw [isD_in]; exact hc), show n + (run S2 s (n + 1) + 1) = n + 1 + run S2 s (n + 1) by omega] at hR
        exact Ev.step (fun k => (head k).trans (if_pos hc)) (ih (n + 1) (by omega) (by omega) hR)
      · rw [run_stop S2 s n hn (by rw [isD_in]; exact hc)] at hR
        exact Ev.step (fun k => (head k).trans (if_neg hc)) hR
    · rw [run_end S2 s n hn] at hR
      exact Ev.step (fun k => by rw [rf2_format.l2, if_neg (by omega)]; rfl) hR
/-- a format's end, the place itself if there is none -/
def endAt (a e : Nat) : Nat := if e = 0 then a else e
theorem rfmt_l3 (a : Nat) : ∀ (m n : Nat), s.size < n + m → n ≤ s.size → Ev (fun k => rf2_format.l3 k s a n) ((endAt a (fmtEnd s (n + run S3 s n)) : Nat) : Int) := by
  intro m
  induction m with
  | zero => intro n h1 h2; omega
  | succ m ih =>
    intro n h1 h2
    rcases Nat.lt_or_ge n s.size with hn | hn
    · have hw : wrap64 ((n : Int) + 1) = ((n + 1 : Nat) : Int) := by rw [w64 (by omega) (by omega)]; omega
      have e3 := rwithin_eq S3 (by decide) (B s n)
      have e4 := rwithin_eq S4 (by decide) (B s n)
      refine Ev.step (f := fun k => (rf2_within.f k S3 ((B s n).toNat : Int)).bind fun t => if t = true then rf2_format.l3 k s a ((n + 1 : Nat) : Int) else (rf2_within.f k S4 ((B s n).toNat : Int)).bind fun t => if t = true then some ((n + 1 : Nat) : Int) else some (a : Int)) (fun k => ?_) (Ev.bind e3 ?_)
      · rw [rf2_format.l3, if_pos (by omega), if_pos (by omega), bt_B s n hn, hw]; rfl
      · by_cases hc : inSet S3 (B s n) = true
        · rw [run_go S3 s n hn hc, show n + (run S3 s (n + 1) + 1) = n + 1 + run S3 s (n + 1) by omega]
          exact Ev.congr (fun k => if_pos hc) (ih (n + 1) (by omega) (by omega))
        · rw [run_stop S3 s n hn hc]
          refine Ev.congr (fun k => if_neg hc) (Ev.bind e4 ?_)
          rw [show fmtEnd s (n + 0) = if n < s.size ∧ inSet S4 (B s n) = true then n + 1 else 0 from rfl]
          by_cases h4 : inSet S4 (B s n) = true
          · rw [if_pos (show n < s.size ∧ inSet S4 (B s n) = true from ⟨hn, h4⟩), show endAt a (n + 1) = n + 1 from rfl]
            exact Ev.congr (fun k => if_pos h4) (Ev.now _)
          · rw [if_neg (show ¬ (n < s.size ∧ inSet S4 (B s n) = true) from fun q => h4 q.2), show endAt a 0 = a from rfl]
            exact Ev.congr (fun k => if_neg h4) (Ev.now _)
    · rw [run_end S3 s n hn, Nat.add_zero, show fmtEnd s n = 0 by unfold fmtEnd; rw [if_neg (show ¬ (n < s.size ∧ inSet S4 (B s n) = true) from fun q => Nat.not_lt_of_le hn q.1)], show endAt a 0 = a from rfl]
      refine Ev.step (fun k => ?_) (Ev.now _)
      rw [rf2_format.l3, if_neg (by omega)]
/-- the place behind a format that begins at a place -/
def fmtAt (s : ByteArray) (a : Nat) : Nat :=
  let n2 := a + 1 + run S1 s (a + 1) + run S2 s (a + 1 + run S1 s (a + 1))
  fmtEnd s (fmtDot s n2 + run S3 s (fmtDot s n2))
theorem rformat_eq (a : Nat) (ha : a < s.size) : Ev (fun k => rf2_format.f k s a) ((endAt a (fmtAt s a) : Nat) : Int) := by
  have l1 := run_le S1 s (a + 1) (by omega)
  have l2 := run_le S2 s _ l1
  unfold fmtAt
  dsimp only
  refine Ev.congr (fun k => ?_) (rfmt_l0 s hs a _ (s.size + 1) (a + 1) (by omega) (by omega) (Ev.step (f := fun k => rf2_format.l1 k s a ((a + 1 + run S1 s (a + 1) : Nat) : Int)) (fun k => by rw [rf2_format.j1]) (rfmt_l1 s hs a _ (s.size + 1) _ (by omega) l1 ?_)))
  · unfold rf2_format.f
    rw [w64 (by omega) (by omega)]; rfl
  · generalize a + 1 + run S1 s (a + 1) + run S2 s (a + 1 + run S1 s (a + 1)) = n2 at *
    have hw : wrap64 ((n2 : Int) + 1) = ((n2 + 1 : Nat) : Int) := by rw [w64 (by omega) (by omega)]; omega
    have j5 : ∀ n : Nat, n ≤ s.size → Ev (fun k => rf2_format.j5 k s a n) ((endAt a (fmtEnd s (n + run S3 s n)) : Nat) : Int) := fun n hn =>
      Ev.step (f := fun k => rf2_format.l3 k s a n) (fun k => by rw [rf2_format.j5]) (rfmt_l3 s hs a (s.size + 1) n (by omega) hn)
    have j3 : ∀ k, rf2_format.j3 (k + 1) s a n2 = if B s n2 = 46 then rf2_format.l2 k s a ((n2 + 1 : Nat) : Int) else rf2_format.j5 k s a n2 := by
      intro k
      rw [rf2_format.j3, byteAt_eq, Option.bind_some, hw]
      simp only [ci46]
      rfl
    by_cases h46 : B s n2 = 46
    · have hlt : n2 < s.size := by
        rcases Nat.lt_or_ge n2 s.size with h | h
        · exact h
        · exfalso
          unfold B at h46
          rw [drop_end s n2 h] at h46
          exact absurd h46 (by decide)
      have hd : fmtDot s n2 = n2 + 1 + run S2 s (n2 + 1) := by unfold fmtDot; rw [if_pos ⟨hlt, h46⟩]
      rw [hd]
      exact Ev.step (fun k => (j3 k).trans (if_pos h46)) (rfmt_l2 s hs a _ (s.size + 1) (n2 + 1) (by omega) (by omega) (j5 _ (run_le S2 s (n2 + 1) (by omega))))
    · have hd : fmtDot s n2 = n2 := by unfold fmtDot; rw [if_neg (fun q => h46 q.2)]
      rw [hd]
      exact Ev.step (fun k => (j3 k).trans (if_neg h46)) (j5 n2 l2)
omit hs in
theorem run_ext (set : ByteArray) (a n : Nat) (ha : a ≤ s.size) : run set (s.extract a s.size) n = run set s (a + n) := by
  unfold run
  rw [rest_bl s a ha, List.drop_drop]
omit hs in
theorem B_ext (a n : Nat) (ha : a ≤ s.size) : B (s.extract a s.size) n = B s (a + n) := by
  unfold B
  rw [rest_bl s a ha, List.drop_drop]
omit hs in
theorem size_ext (a : Nat) (ha : a ≤ s.size) : (s.extract a s.size).size = s.size - a := by
  rw [← bl_length, rest_bl s a ha, List.length_drop, bl_length]
omit hs in
theorem fmtDot_ext (a n : Nat) (ha : a ≤ s.size) : a + fmtDot (s.extract a s.size) n = fmtDot s (a + n) := by
  unfold fmtDot
  rw [size_ext s a ha, B_ext s a n ha, run_ext s S2 a (n + 1) ha]
  by_cases h : a + n < s.size ∧ B s (a + n) = 46
  · rw [if_pos h, if_pos ⟨by omega, h.2⟩, show a + (n + 1) = a + n + 1 by omega]; omega
  · rw [if_neg h, if_neg (fun q => h ⟨by omega, q.2⟩)]
omit hs in
theorem fmtEnd_ext (a n : Nat) (ha : a ≤ s.size) : fmtEnd (s.extract a s.size) n = if fmtEnd s (a + n) = 0 then 0 else fmtEnd s (a + n) - a := by
  unfold fmtEnd
  rw [size_ext s a ha, B_ext s a n ha]
  by_cases h : a + n < s.size ∧ inSet S4 (B s (a + n)) = true
  · rw [if_pos h, if_pos ⟨by omega, h.2⟩, if_neg (by omega)]; omega
  · rw [if_neg h, if_neg (fun q => h ⟨by omega, q.2⟩), if_pos rfl]
omit hs in
theorem fmtAt_len (a : Nat) (ha : a ≤ s.size) : Lx.fmtLen ((bl s).drop a) = if fmtAt s a = 0 then 0 else fmtAt s a - a := by
  have e := fmt_eq (s.extract a s.size)
  rw [rest_bl s a ha] at e
  rw [e]
  unfold fmtAll fmtAt
  dsimp only
  rw [fmtEnd_ext s a _ ha, run_ext s S3 a _ ha, run_ext s S1 a 1 ha, run_ext s S2 a _ ha]
  rw [show a + (1 + run S1 s (a + 1)) = a + 1 + run S1 s (a + 1) by omega]
  have hd := fmtDot_ext s a (1 + run S1 s (a + 1) + run S2 s (a + 1 + run S1 s (a + 1))) ha
  rw [show a + (1 + run S1 s (a + 1) + run S2 s (a + 1 + run S1 s (a + 1))) = a + 1 + run S1 s (a + 1) + run S2 s (a + 1 + run S1 s (a + 1)) by omega] at hd
  rw [← Nat.add_assoc a (fmtDot _ _) _, hd]
omit hs in
theorem fmtAt_bd (a : Nat) (h : fmtAt s a ≠ 0) : a < fmtAt s a ∧ fmtAt s a ≤ s.size := by
  unfold fmtAt at *
  dsimp only at *
  have hd : a + 1 ≤ fmtDot s (a + 1 + run S1 s (a + 1) + run S2 s (a + 1 + run S1 s (a + 1))) := by
    unfold fmtDot
    split <;> omega
  generalize fmtDot s (a + 1 + run S1 s (a + 1) + run S2 s (a + 1 + run S1 s (a + 1))) = n at *
  have hm : n ≤ n + run S3 s n := Nat.le_add_right _ _
  generalize n + run S3 s n = m at *
  unfold fmtEnd at *
  by_cases q : m < s.size ∧ inSet S4 (B s m) = true
  · rw [if_pos q]; omega
  · rw [if_neg q] at h; exact absurd rfl h
omit hs in
theorem fmtStep (i : Nat) (hi : i < s.size) : ∃ e L, fmtAt s i = e ∧ Lx.fmtLen ((bl s).drop i) = L ∧ L = (if e = 0 then 0 else e - i) ∧ (e ≠ 0 → i < e ∧ e ≤ s.size) :=
  ⟨_, _, rfl, rfl, fmtAt_len s i (by omega), fun h => fmtAt_bd s i h⟩
/-- the formats from a place on -/
def fmts (s : ByteArray) : Nat → Nat → List ByteArray
  | 0, _ => []
  | k + 1, i => if i < s.size then (if B s i = 37 then (if fmtAt s i = 0 then fmts s k (i + 1) else s.extract i (fmtAt s i) :: fmts s k (fmtAt s i)) else fmts s k (i + 1)) else []
theorem formats_l0 (hs2 : s.size ≤ 200000) : ∀ (m i : Nat) (outs : List ByteArray), s.size < i + m → i ≤ s.size → outs.length ≤ i → Ev (fun k => lex_Formats.l0 k s outs i) (outs ++ fmts s m i, 0) := by
  intro m
  induction m with
  | zero => intro i outs h1 h2; omega
  | succ m ih =>
    intro i outs h1 h2 h3
    have hw : wrap64 ((i : Int) + 1) = ((i + 1 : Nat) : Int) := by rw [w64 (by omega) (by omega)]; omega
    unfold fmts
    rcases Nat.lt_or_ge i s.size with hi | hi
    · rw [if_pos hi]
      have hsz := size_ext s i h2
      have hf : lex_format.f (s.extract i s.size) = some ((Lx.fmtLen ((bl s).drop i) : Nat) : Int) := by
        unfold lex_format.f
        rw [if_pos ⟨by omega, by omega⟩, rest_bl s i h2]
      obtain ⟨e, L, he, hL, hlen, hbd⟩ := fmtStep s i hi
      rw [he]
      rw [hL] at hf
      clear he hL
      by_cases h37 : B s i = 37
      · rw [if_pos h37]
        by_cases h0 : e = 0
        · rw [if_pos h0]
          rw [if_pos h0] at hlen
          refine Ev.step (fun k => ?_) (ih (i + 1) outs (by omega) (by omega) (by omega))
          rw [lex_Formats.l0, if_pos (by omega), if_pos (by omega), bt_B s i hi, if_pos ((ci37 _).mpr h37), if_pos (by omega), Int.toNat_natCast, hf, Option.bind_some, hlen, if_neg (by omega), hw]
        · rw [if_neg h0]
          rw [if_neg h0] at hlen
          obtain ⟨b1, b2⟩ := hbd h0
          clear hbd
          obtain ⟨d, rfl⟩ : ∃ d, e = i + (d + 1) := ⟨e - i - 1, by omega⟩
          rw [Nat.add_sub_cancel_left] at hlen
          have ih' := ih (i + (d + 1)) (outs ++ [s.extract i (i + (d + 1))]) (by omega) b2 (by rw [List.length_append, List.length_singleton]; omega)
          rw [List.append_assoc, List.singleton_append] at ih'
          refine Ev.step (fun k => ?_) ih'
          rw [lex_Formats.l0, if_pos (by omega), if_pos (by omega), bt_B s i hi, if_pos ((ci37 _).mpr h37), if_pos (by omega), Int.toNat_natCast, hf, Option.bind_some, hlen, if_pos (by omega), wN ((i : Int) + ((d + 1 : Nat) : Int)) (i + (d + 1)) (by omega) (by omega), wN (((d + 1 : Nat) : Int) - 1) d (by omega) (by omega), wN ((i : Int) + (d : Int)) (i + d) (by omega) (by omega), wN (((i + d : Nat) : Int) + 1) (i + (d + 1)) (by omega) (by omega), if_pos (by omega), if_pos (by omega), if_pos (by omega), Int.toNat_natCast]
      · rw [if_neg h37]
        refine Ev.step (fun k => ?_) (ih (i + 1) outs (by omega) (by omega) (by omega))
        rw [lex_Formats.l0, if_pos (by omega), if_pos (by omega), bt_B s i hi, if_neg (fun q => h37 ((ci37 _).mp q)), hw]
    · rw [if_neg (by omega), List.append_nil]
      refine Ev.step (fun k => ?_) (Ev.now _)
      rw [lex_Formats.l0, if_neg (by omega)]
theorem rformats_l0 (hs2 : s.size ≤ 200000) : ∀ (m i : Nat) (outs : List ByteArray), s.size < i + m → i ≤ s.size → outs.length ≤ i → Ev (fun k => rf2_Formats.l0 k s outs i) (outs ++ fmts s m i, 0) := by
  intro m
  induction m with
  | zero => intro i outs h1 h2; omega
  | succ m ih =>
    intro i outs h1 h2 h3
    have hw : wrap64 ((i : Int) + 1) = ((i + 1 : Nat) : Int) := by rw [w64 (by omega) (by omega)]; omega
    unfold fmts
    rcases Nat.lt_or_ge i s.size with hi | hi
    · rw [if_pos hi]
      have ef := rformat_eq s hs i hi
      obtain ⟨e, L, he, hL, hlen, hbd⟩ := fmtStep s i hi
      rw [he] at ef ⊢
      clear he hL hlen
      by_cases h37 : B s i = 37
      · rw [if_pos h37]
        refine Ev.step (f := fun k => (rf2_format.f k s i).bind fun t => (if t > (i : Int) then (if (i : Int) ≤ t then (if t ≤ (s.size : Int) then (if outs.length < 8796093022208 then (rf2_Formats.l0 k s (outs ++ [s.extract (i : Int).toNat (t : Int).toNat]) t) else (none)) else (none)) else (none)) else (rf2_Formats.l0 k s outs ((i + 1 : Nat) : Int)))) (fun k => ?_) (Ev.bind ef ?_)
        · rw [rf2_Formats.l0, if_pos (by omega), if_pos (by omega), bt_B s i hi, if_pos ((ci37 _).mpr h37), hw]
        · by_cases h0 : e = 0
          · rw [if_pos h0, h0, show endAt i 0 = i from rfl]
            exact Ev.congr (fun k => if_neg (by omega)) (ih (i + 1) outs (by omega) (by omega) (by omega))
          · rw [if_neg h0, show endAt i e = e by unfold endAt; rw [if_neg h0]]
            obtain ⟨b1, b2⟩ := hbd h0
            have ih' := ih e (outs ++ [s.extract i e]) (by omega) b2 (by rw [List.length_append, List.length_singleton]; omega)
            rw [List.append_assoc, List.singleton_append] at ih'
            refine Ev.congr (fun k => ?_) ih'
            rw [if_pos (by omega), if_pos (by omega), if_pos (by omega), if_pos (by omega), Int.toNat_natCast, Int.toNat_natCast]
      · rw [if_neg h37]
        refine Ev.step (fun k => ?_) (ih (i + 1) outs (by omega) (by omega) (by omega))
        rw [rf2_Formats.l0, if_pos (by omega), if_pos (by omega), bt_B s i hi, if_neg (fun q => h37 ((ci37 _).mp q)), if_neg (by omega), hw]
    · rw [if_neg (by omega), List.append_nil]
      refine Ev.step (fun k => ?_) (Ev.now _)
      rw [rf2_Formats.l0, if_neg (by omega)]
/-- no string token that is the text -/
def badF (s : ByteArray) : Bool := if (scanR s).2 = 0 then (if ((scanR s).1.length : Int) = 2 then (if ((rd_T30 (scanR s).1 0).f0) = 5 then (((rd_T30 (scanR s).1 0).f2).toList != s.toList) else true) else true) else true
theorem badF_size (h : badF s = false) : s.size ≤ 200000 := by
  unfold badF scanR at h
  by_cases hb : 200000 < s.size
  · rw [if_pos hb] at h
    simp at h
  · omega
def fmtR (s : ByteArray) : List ByteArray × Int := if badF s = true then ([], 3) else (fmts s (s.size + 1) 0, 0)
theorem formats_eq : Ev (fun k => lex_Formats.f k s) (fmtR s) := by
  have head : ∀ k, lex_Formats.f k s = lex_Formats.j0 k s (badF s) := by
    intro k
    unfold lex_Formats.f badF
    rw [scan_eq, Option.bind_some]
    by_cases h1 : (scanR s).2 = 0
    · rw [if_pos h1, if_pos h1]
      by_cases h2 : ((scanR s).1.length : Int) = 2
      · rw [if_pos h2, if_pos h2, if_pos (by omega)]
        by_cases h3 : ((rd_T30 (scanR s).1 0).f0) = 5
        · rw [if_pos h3, if_pos h3]
        · rw [if_neg h3, if_neg h3]
      · rw [if_neg h2, if_neg h2]
    · rw [if_neg h1, if_neg h1]
  refine Ev.congr head ?_
  unfold fmtR
  by_cases hb : badF s = true
  · rw [if_pos hb]
    exact Ev.step (f := fun _ => some ([], 3)) (fun k => by rw [lex_Formats.j0, if_pos hb]) (Ev.now _)
  · rw [if_neg hb]
    have e := formats_l0 s hs (badF_size s hs (by simpa using hb)) (s.size + 1) 0 [] (by omega) (by omega) (by simp)
    rw [List.nil_append] at e
    exact Ev.step (f := fun k => lex_Formats.l0 k s [] 0) (fun k => by rw [lex_Formats.j0, if_neg hb]) e
theorem rformats_eq : Ev (fun k => rf2_Formats.f k s) (fmtR s) := by
  refine Ev.congr (fun k => by unfold rf2_Formats.f; rfl) (Ev.bind (rscan_eq s) ?_)
  have head : ∀ k, (if (scanR s).2 = 0 then (if ((scanR s).1.length : Int) = 2 then (if 0 < ((scanR s).1.length : Int) then (if ((rd_T30 (scanR s).1 0).f0) = 5 then (rf2_Formats.j0 k s (((rd_T30 (scanR s).1 0).f2).toList != s.toList)) else (rf2_Formats.j0 k s true)) else (none)) else (rf2_Formats.j0 k s true)) else (rf2_Formats.j0 k s true)) = rf2_Formats.j0 k s (badF s) := by
    intro k
    unfold badF
    by_cases h1 : (scanR s).2 = 0
    · rw [if_pos h1, if_pos h1]
      by_cases h2 : ((scanR s).1.length : Int) = 2
      · rw [if_pos h2, if_pos h2, if_pos (by omega)]
        by_cases h3 : ((rd_T30 (scanR s).1 0).f0) = 5
        · rw [if_pos h3, if_pos h3]
        · rw [if_neg h3, if_neg h3]
      · rw [if_neg h2, if_neg h2]
    · rw [if_neg h1, if_neg h1]
  refine Ev.congr head ?_
  unfold fmtR
  by_cases hb : badF s = true
  · rw [if_pos hb]
    exact Ev.step (f := fun _ => some ([], 3)) (fun k => by rw [rf2_Formats.j0, if_pos hb]) (Ev.now _)
  · rw [if_neg hb]
    have e := rformats_l0 s hs (badF_size s hs (by simpa using hb)) (s.size + 1) 0 [] (by omega) (by omega) (by simp)
    rw [List.nil_append] at e
    exact Ev.step (f := fun k => rf2_Formats.l0 k s [] 0) (fun k => by rw [rf2_Formats.j0, if_neg hb]) e
omit hs in
theorem fmts_len : ∀ (m i : Nat), i ≤ s.size → (fmts s m i).length ≤ s.size - i := by
  intro m
  induction m with
  | zero => intro i h; simp [fmts]
  | succ m ih =>
    intro i h
    unfold fmts
    split
    · rename_i hi
      have e1 := ih (i + 1) (by omega)
      split
      · split
        · omega
        · rename_i h0
          obtain ⟨b1, b2⟩ := fmtAt_bd s i h0
          have e2 := ih (fmtAt s i) b2
          rw [List.length_cons]; omega
      · omega
    · simp
theorem lexFormats_eq : Ev (fun k => lw2_LexFormats.f k s) true := by
  unfold lw2_LexFormats.f
  refine Ev.bind (formats_eq s hs) (Ev.bind (rformats_eq s hs) (Ev.bind (eqStrings_refl _ ?_) ?_))
  · unfold fmtR
    split
    · simp
    · rename_i hb
      have := fmts_len s (s.size + 1) 0 (by omega)
      have := badF_size s hs (by simpa using hb)
      show (fmts s (s.size + 1) 0).length ≤ _
      omega
  · refine Ev.congr (fun k => if_pos rfl) (Ev.congr (fun k => if_pos rfl) ?_)
    rw [awake_eq]
    exact Ev.now _
end
end Go.Proofs.YtabnmkakgcifoaaDoor.PLex

namespace Go.Proofs.YtabnmkakgcifoaaDoor.lexFormats
open Go.ChangeShapes Go.WideShapes Go.ChangeAt Go.RowKit
open Go.ChangeMaps (open_string shut_string)
set_option maxRecDepth 100000 in
theorem contract (H : Type) (enc : TypeId × Value → H) (W : World) (base : Nat) (args : Array Value) (ds gs : List (DataW H)) (before : List MemPlace)
    (hval : ∀ (j : Nat) t v, Tryd.f7.params[j]? = some t → args[j]? = some v → Value.okWide Tryd.prog W .any base t v)
    (hW : DataW.Whole enc Tryd.prog Tryd.f7.params.toList Rows.lexFormatsSpec.vars false W args.toList ds gs before) (hL : laidMetH Tryd.prog Rows.lexFormatsRow.laid W) (hsh : W.ShapedOpen Tryd.prog)
    (hsz : (DataW.weightsEach Tryd.prog (Tryd.f7.params.toList ++ Rows.lexFormatsSpec.plain.varTypes Tryd.prog) (ds ++ gs)).all (· ≤ reachBytes) = true) :
    Calls Tryd.prog 7 args W fun e W' => ∃ v, e = .returned v ∧ Rows.lexFormatsSpec.post enc Tryd.prog Tryd.f7 false true false false W args v W' := by
  have hGl := Row0.glob hL hsh
  have hW' := hW
  obtain ⟨p, q, hA0, hV, rfl, hfz, hnd⟩ := hW
  have hA : DataW.TrodAll enc Tryd.prog W 0 (fun _ => true) true Tryd.f7.params.toList args.toList ds p := hA0
  rw [Tryd.params7] at hA hval hsz
  obtain ⟨v0, vs0, d0, ds0, p0, q0, hargs, rfl, rfl, h0, r0⟩ := trodAll_cons hA
  obtain ⟨rfl, rfl, rfl⟩ := trodAll_nil r0
  obtain rfl : args = #[v0] := by cases args; simp_all
  obtain ⟨rfl, rfl⟩ := trodVars_none hV
  obtain ⟨a0, rfl, rfl, rfl, y0⟩ := open_string Tryd.underlying9 (hval 0 9 v0 rfl rfl) h0
  have w0 : a0.size ≤ 140737488351232 := by
    have z := sized_string hsz (j := 0) (t := 9) rfl rfl
    rw [Array.length_toList] at z
    exact z
  clear hA0 hsz
  obtain ⟨k, hk⟩ := (PLex.lexFormats_eq a0 (by omega)).rounds
  refine (PLex.lw2_LexFormats.calls k a0 true W hGl hk).mono fun e W' ⟨he, bel⟩ => ?_
  subst he
  exact ⟨_, rfl, _, _, _, [], _, [], hW', trodAll_mk1 (shut_bool Tryd.underlying4 _), (trodAll_cons_mk (shut_string Tryd.underlying9 y0) trodAll_mk0), rfl, bel.frame _, fun h => by cases h⟩
theorem reads (os : Os) {H : Type} (enc : TypeId × Value → H) : ∃ places, DataW.whole enc Tryd.prog ((Row0.laidWorld os).forCall (fun _ _ => 0) ⟨#[], #[.string ⟨#[]⟩], []⟩).memory Tryd.f7.params.toList Rows.lexFormatsSpec.vars false #[Value.string ⟨#[]⟩].toList 8 = some ([.lit (.string [])], [], places) :=
  ⟨[], by kernel_rfl⟩
set_option maxRecDepth 100000 in
theorem lifted (os : Os) (started : os.Started) (H : Type) (enc : TypeId × Value → H) (F : Stop.Interp) :
    ReturnsInHanded {} Tryd.checked os 7 .any ((OpenSpec.ofChange Rows.lexFormatsSpec).preRow enc Tryd.prog Tryd.f7 Rows.lexFormatsRow.domain false Rows.lexFormatsRow.laid) (((OpenSpec.ofChange Rows.lexFormatsSpec).at F).post enc Tryd.prog Tryd.f7 false true false false) := by
  obtain ⟨places, hx⟩ := reads os enc
  refine returnsInHanded_of_row (C := Tryd.checked) (s := OpenSpec.ofChange Rows.lexFormatsSpec) Row0.own started (by kernel_rfl) Tryd.func7
    (witness_row_atRef (enc := enc) (C := Tryd.checked) false (Row0.laidWorld os) #[.string ⟨#[]⟩] rfl (by kernel_rfl) (by kernel_rfl) (by kernel_rfl)
      (OpenSpec.preRow_of_cond 8 hx (by kernel_rfl) (fun k hk => by cases hk) (by kernel_rfl) (Row0.laid_met os _))) ?_
  intro W base args ds gs before hval hW _ _ hsz hL hsh _
  exact contract H enc W base args ds gs before hval hW hL hsh hsz
theorem said : Rows.LexFormatsSaid :=
  OpenClaim.holds_of_cond 7 Tryd.f7 rfl rfl rfl rfl rfl rfl rfl ⟨rfl, rfl, rfl, rfl, rfl⟩ rfl rfl rfl rfl rfl (by kernel_rfl) Tryd.func7 (by kernel_rfl)
    (of_decide_eq_true (by kernel_rfl)) (by unfold Func.isWrapper; first | (rw [if_pos (by decide +kernel)]; kernel_rfl) | (rw [if_neg (by decide +kernel)]; exact ⟨rfl, rfl⟩))
    (fun os started H enc _ F => by rw [OpenClaim.pre_eq_preRow]; exact lifted os started H enc F)
theorem plain (f : FuncId) (fn : Func) (hf : Tryd.pinned.checked.prog.funcNamed "smocking/smockinglaw02.LexFormats" = some f) (hfn : Tryd.pinned.checked.prog.funcs[f]? = some fn) :
    false = Tryd.pinned.checked.prog.looks [] ∧ ∀ (j : Nat) t, fn.params[j]? = some t → Tryd.pinned.checked.prog.wantsStandIn t = false := by
  obtain rfl : f = 7 := Option.some.inj ((show Tryd.prog.funcNamed "smocking/smockinglaw02.LexFormats" = some 7 by kernel_rfl).symm.trans hf) |>.symm
  obtain rfl : fn = Tryd.f7 := (Option.some.inj (Tryd.func7.symm.trans hfn)).symm
  refine ⟨by kernel_rfl, fun j t ht => ?_⟩
  rw [Tryd.params7] at ht
  obtain rfl : t = 9 := by simpa using Array.mem_of_getElem? ht
  exact (show Tryd.prog.wantsStandIn 9 = false by kernel_rfl)
theorem card : Rows.LexFormatsCardSaid :=
  Claim7.holds_tied_plain_at .later [] _ _ _ _ said (fun _ h => by cases h) (by kernel_rfl) (fun _ h => by cases h) lexFormats_row_tie rfl ⟨rfl, rfl⟩ (by kernel_rfl) rfl plain (by kernel_rfl)
end Go.Proofs.YtabnmkakgcifoaaDoor.lexFormats
namespace Go.Proofs.YtabnmkakgcifoaaDoor
theorem lexFormats_card : Rows.LexFormatsCardSaid := lexFormats.card
end Go.Proofs.YtabnmkakgcifoaaDoor

namespace Go.Proofs.YtabnmkakgcifoaaDoor
#print axioms lexFormats_card
end Go.Proofs.YtabnmkakgcifoaaDoor
