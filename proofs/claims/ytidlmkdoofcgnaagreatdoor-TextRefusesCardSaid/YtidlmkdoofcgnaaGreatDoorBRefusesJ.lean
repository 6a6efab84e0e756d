/- TextRefuses holds: for every two texts the statement answers true, where the seven listed package variables hold what the program's text lays. Part 10 of 21. -/
import Derived.Test.YtidlmkdoofcgnaaGreatDoorBRefusesI
import Derived.Shelf.SlSortCmp.WholeK
namespace Go.Proofs.YtidlmkdoofcgnaaGreatDoor.PText
open Go.RowKit Go.Lib Go.Sort Go.Proofs.YtidlmkdoofcgnaaGreatDoorW.PrintWords Go.Proofs.YtidlmkdoofcgnaaGreatDoorW.PrintLast Go.Proofs.YtidlmkdoofcgnaaGreatDoorW.PrintMore
set_option linter.unusedVariables false
set_option linter.unusedSimpArgs false
instance : Inhabited S24 := ⟨z24⟩
theorem S24.ext' {a b : S24} (h0 : a.f0 = b.f0) (h1 : a.f1 = b.f1) (h2 : a.f2 = b.f2) : a = b := by cases a; cases b; simp_all
instance : DecidableEq S24 := fun a b => decidable_of_iff (a.f0 = b.f0 ∧ a.f1 = b.f1 ∧ a.f2 = b.f2) ⟨fun h => S24.ext' h.1 h.2.1 h.2.2, fun h => by subst h; exact ⟨rfl, rfl, rfl⟩⟩
def enc34 (x : S24) : List Value := [.int .i64 x.f0, .int .i64 x.f1, .string x.f2]
theorem enc34_len (x : S24) : (enc34 x).length = 3 := rfl
theorem enc34_one (x : S24) : ∀ v ∈ enc34 x, v.oneCell' = true := by
  intro v hv
  simp [enc34] at hv
  rcases hv with rfl | rfl | rfl <;> rfl
theorem holds34 {w : World} {blk : Nat} {d : Array S24} (h : HoldsK enc34 3 w blk 0 d) {i : Nat} (hi : i < d.size) :
    w.cell? ⟨blk, i * 3, none⟩ = some (.int .i64 d[i]!.f0) ∧ w.cell? ⟨blk, i * 3 + 1, none⟩ = some (.int .i64 d[i]!.f1) ∧ w.cell? ⟨blk, i * 3 + 2, none⟩ = some (.string d[i]!.f2) := by
  have h0 := (h.cell hi (c := 0) (by omega)).1
  have h1 := (h.cell hi (c := 1) (by omega)).1
  have h2 := (h.cell hi (c := 2) (by omega)).1
  simp only [Nat.zero_add, Nat.add_zero] at h0 h1 h2
  exact ⟨h0, h1, h2⟩
theorem frozen34 {w : World} {blk : Nat} {d : Array S24} (h : HoldsK enc34 3 w blk 0 d) {i : Nat} (hi : i < d.size) :
    w.frozen? ⟨blk, i * 3, none⟩ = false ∧ w.frozen? ⟨blk, i * 3 + 1, none⟩ = false ∧ w.frozen? ⟨blk, i * 3 + 2, none⟩ = false := by
  have h0 := (h.cell hi (c := 0) (by omega)).2
  have h1 := (h.cell hi (c := 1) (by omega)).2
  have h2 := (h.cell hi (c := 2) (by omega)).2
  simp only [Nat.zero_add, Nat.add_zero] at h0 h1 h2
  exact ⟨h0, h1, h2⟩
theorem eqb34 (x y : S24) : (x.f0 == y.f0 && (x.f1 == y.f1 && (x.f2.toList == y.f2.toList))) = decide (x = y) := by
  rw [Bool.eq_iff_iff]
  simp only [Bool.and_eq_true, beq_iff_eq, decide_eq_true_eq]
  constructor
  · rintro ⟨h0, h1, h2⟩
    refine S24.ext' h0 h1 ?_
    rw [Lib.toList_data, Lib.toList_data] at h2
    exact ByteArray.ext (Array.toList_inj.1 h2)
  · intro h; subst h; exact ⟨rfl, rfl, rfl⟩
theorem eq34 (x y : S24) (w : World) : Sem.run Tryz.prog (binOp .eql 24 (.agg #[.int .i64 x.f0, .int .i64 x.f1, .string x.f2]) (.agg #[.int .i64 y.f0, .int .i64 y.f1, .string y.f2])) w = .ok (.bool (decide (x = y))) w := by
  rw [← eqb34]
  simp [binOp, Op.equal, Op.maxDepth, eqA24]
theorem ne34 (x y : S24) (w : World) : Sem.run Tryz.prog (binOp .neq 24 (.agg #[.int .i64 x.f0, .int .i64 x.f1, .string x.f2]) (.agg #[.int .i64 y.f0, .int .i64 y.f1, .string y.f2])) w = .ok (.bool (!decide (x = y))) w := by
  rw [← eqb34]
  simp [binOp, Op.equal, Op.maxDepth, eqA24]
theorem gd34 (op : BinOp) (a b : Operand) (xs ys : Array Value) (w : World) : Sem.run Tryz.prog (eqGuard op 24 a b (.agg xs) (.agg ys)) w = .ok () w := run_eqGuard_agg w op 24 a b xs ys (by kernel_rfl)
theorem setMany34 (dk : Array S24) (kk : Nat) (u : S24) (hk : kk < dk.size) : setMany (flatK enc34 3 dk) (kk * 3) (enc34 u) = flatK enc34 3 (dk.setIfInBounds kk u) := by
  refine ext_get! (by simp) fun t ht => ?_
  have ht' : t < dk.size * 3 := by simpa using ht
  rw [get_setMany _ _ _ t (by simpa using ht'), get_flatK _ _ _ t ht', get_flatK _ _ _ t (by simpa using ht')]
  have hb := blk_iff 3 kk t (by omega)
  rw [show (enc34 u).length = 3 from rfl]
  by_cases h : kk * 3 ≤ t ∧ t < kk * 3 + 3
  · rw [if_pos h, hb.1 h, getElem!_set_same dk kk u hk]
    congr 1
    have := hb.1 h; omega
  · rw [if_neg h, getElem!_set_other dk kk (t / 3) u fun e => h (hb.2 e)]
theorem store34 {w wr : World} {q n blk kk : Nat} {dk : Array S24} (u : S24) (hwr : wr = putRowK enc34 3 (Sort.ahead w q) blk 0 dk) (hk : kk < dk.size) :
    (((wr.drewN n).setCell ⟨blk, kk * 3, none⟩ (.int .i64 u.f0)).setCell ⟨blk, kk * 3 + 1, none⟩ (.int .i64 u.f1)).setCell ⟨blk, kk * 3 + 2, none⟩ (.string u.f2) = putRowK enc34 3 (Sort.ahead w (q + n)) blk 0 (dk.setIfInBounds kk u) := by
  subst hwr
  rw [putRowK_drewN]
  have h := setCells_putRow (Sort.ahead w (q + n)) blk 0 (enc34 u) (kk * 3) (flatK enc34 3 dk) (by rw [size_flatK, show (enc34 u).length = 3 from rfl]; omega)
  rw [setMany34 dk kk u hk, Nat.zero_add] at h
  exact h
theorem clear34 (W : World) (ty b o n c : Nat) (hn : 0 < n) (hc : ∀ j, j < n * 3 → (W.cell? ⟨b, o + j, none⟩).isSome = true) (hf : ∀ j, j < n * 3 → W.frozen? ⟨b, o + j, none⟩ = false) :
    ∃ zs : List Value, zs.length = n * 3 ∧ (Builtin.clear_ #[41] ty #[.slice (some ⟨b, o, none⟩) n c]).run Tryz.prog W = .ok (.tuple #[]) (W.setCells b o zs) := by
  refine ⟨(Builtin.zeroCells #[.int .i64 0, .int .i64 0, .string ⟨#[]⟩] n).toList, by simp [Builtin.zeroCells], ?_⟩
  obtain ⟨i0, hi, hz0, hz1, hz2⟩ := info_parts info24
  have hv : ∀ w, (zeroValue 24).run Tryz.prog w = .ok (.agg #[.int .i64 0, .int .i64 0, .string ⟨#[]⟩]) w := fun w => by simp [zeroValue, typeInfo, hi, hz0]
  have hlen : (Builtin.zeroCells #[.int .i64 0, .int .i64 0, .string ⟨#[]⟩] n).toList.length = n * 3 := by simp [Builtin.zeroCells]
  have hst := run_storeCells_cells (P := Tryz.prog) b o (Builtin.zeroCells #[.int .i64 0, .int .i64 0, .string ⟨#[]⟩] n).toList 0 W (by rw [hlen]; simpa using hc) (by rw [hlen]; simpa using hf) (by
    intro v hv'
    simp only [Builtin.zeroCells, Array.toList_map, List.mem_map] at hv'
    obtain ⟨a, _, rfl⟩ := hv'
    have : a % 3 = 0 ∨ a % 3 = 1 ∨ a % 3 = 2 := by omega
    rcases this with h | h | h <;> simp [h] <;> rfl)
  simp only [Nat.add_zero] at hst
  obtain ⟨m, rfl⟩ : ∃ m, n = m + 1 := ⟨n - 1, by omega⟩
  simp [Builtin.clear_, run_underlying Tryz.underlying41, hv, hst, Value.cells]
set_option maxHeartbeats 4000000 in
set_option maxRecDepth 1000000 in
theorem compact_calls (blk cap : Nat) (d : Array S24) (w : World) (hH : HoldsK enc34 3 w blk 0 d) (hsz : d.size ≤ 100000) (hcap : d.size ≤ cap) :
    Calls Tryz.prog 67 #[.slice (some ⟨blk, 0, none⟩) d.size cap] w fun e w' => e = .returned (.slice (some ⟨blk, 0, none⟩) (compactUpTo d d.size).length cap) ∧
      ∃ q F, F.size = d.size * 3 ∧ (∀ t, t < (compactUpTo d d.size).length * 3 → F[t]! = (flatK enc34 3 (compactUpTo d d.size).toArray)[t]!) ∧ w' = putRow id (Sort.ahead w q) blk 0 F := by
  have hu34 := Tryz.underlying24
  have same : ∀ q, (∀ j, j < d.size → keeps d j = true) → (compactUpTo d d.size).length = d.size ∧ ∃ F : Array Value, F.size = d.size * 3 ∧ (∀ t, t < (compactUpTo d d.size).length * 3 → F[t]! = (flatK enc34 3 (compactUpTo d d.size).toArray)[t]!) ∧ w.drewN q = putRow id (Sort.ahead w q) blk 0 F := by
    intro q hall
    have e : compactUpTo d d.size = d.toList := by rw [compactUpTo_all d _ hall, range_map_get]
    rw [e]
    refine ⟨by simp, flatK enc34 3 d, size_flatK _ _ _, fun t _ => ?_, ?_⟩
    · rw [Array.toArray_toList]
    · exact (putRowK_self enc34 3 (Sort.ahead w q) blk 0 d (holdsK_ahead enc34 3 w q blk 0 d hH)).symm
  have HS := Aside0.mk same
  clear same
  by_cases h2 : d.size < 2
  · have HH := Aside0.mk hH
    clear hH
    go_enter Tryz.func67, Tryz.ntmps67
    go_wp2
    go_ret
    obtain ⟨e1, F, e2, e3, e4⟩ := HS.out 0 (fun j hj => keeps_lt_one d j (by omega))
    exact ⟨by rw [e1]; rfl, 0, F, e2, e3, e4⟩
  · go_enter Tryz.func67, Tryz.ntmps67
    go_wp2
    go_loopg [3] d.size (fun g s3 wr => ∃ k q : Nat, 1 ≤ k ∧ k ≤ d.size ∧ d.size - k ≤ g ∧ s3 = .int .i64 k ∧ wr = w.drewN q ∧ ∀ j, j < k → keeps d j = true)
    case atStart => exact ⟨1, 0, Nat.le_refl _, by omega, by omega, rfl, rfl, keeps_lt_one d⟩
    case round =>
      obtain ⟨k, q, hk1, hk, hg, rfl, rfl, hall⟩ := hrel
      by_cases hlt : k < d.size
      · obtain ⟨c0, c1, c2⟩ := holds34 hH hlt
        obtain ⟨i, hi⟩ : ∃ i, i = k - 1 := ⟨_, rfl⟩
        have hid : i < d.size := by omega
        obtain ⟨p0, p1, p2⟩ := holds34 hH (i := i) hid
        have A := Aside0.mk hall
        have HH := Aside0.mk hH
        clear hall hH
        generalize hx : d[k]! = x at c0 c1 c2
        generalize hy : d[i]! = y at p0 p1 p2
        have B := Aside0.mk (show d[k]! = x ∧ d[i]! = y from ⟨hx, hy⟩)
        clear hx hy
        generalize hwq : w.drewN q = wq
        have D : ∀ a, wq.cell? a = w.cell? a := fun a => by rw [← hwq]; rfl
        rw [← D] at c0 c1 c2 p0 p1 p2
        clear D
        have HW := Aside0.mk hwq
        clear hwq
        have hw : IntKind.i64.wrap ((k : Int) - 1) = (i : Int) := by
          have e : (k : Int) - 1 = (i : Int) := by omega
          rw [e]; simp [IntKind.wrap, IntKind.bits, IntKind.signed]; omega
        have HI := Aside0.mk hi
        clear hi
        have heq := eq34 x y
        have hgd := gd34
        by_cases hdup : x = y
        · rw [decide_eq_true hdup] at heq
          have HD := Aside0.mk hdup
          clear hdup
          go_wp2_with fail
          go_quiet (fail)
          go_wp2
          clear c0 c1 c2 p0 p1 p2 heq hw
          go_loopg [3, 5] d.size (fun g s3 s5 wr => ∃ (kk k2 q2 : Nat) (dk : Array S24), s3 = .int .i64 kk ∧ s5 = .int .i64 k2 ∧ 1 ≤ k2 ∧ k + k2 ≤ d.size ∧ d.size - (k + k2) ≤ g ∧ wr = putRowK enc34 3 (Sort.ahead w q2) blk 0 dk ∧ CompInv d (k + k2) kk dk)
          case atStart =>
            refine ⟨k, 1, q + nq, d, rfl, rfl, Nat.le_refl _, by omega, by omega, ?_, CompInv.start A.out (keeps_neg (by omega) (by rw [B.out.1, ← HI.out, B.out.2, HD.out]))⟩
            rw [← HW.out, World.drewN_drewN]
            exact (putRowK_self enc34 3 (Sort.ahead w (q + nq)) blk 0 d (holdsK_ahead enc34 3 w (q + nq) blk 0 d HH.out)).symm
          case round =>
            obtain ⟨kk, k2, q2, dk, rfl, rfl, h1, hle, hg2, hwr, hI⟩ := hrel
            have hkk := hI.lt
            have hds := hI.size
            have hHk : HoldsK enc34 3 wr blk 0 dk := by rw [hwr]; exact holdsK_putRowK enc34 3 _ blk 0 d dk (holdsK_ahead enc34 3 w q2 blk 0 d HH.out) hds
            have W2 := Aside0.mk hwr
            have I2 := Aside0.mk hI
            have H2 := Aside0.mk hHk
            clear hwr
            by_cases hlt2 : k + k2 < d.size
            · obtain ⟨m0, m1, m2⟩ := holds34 hHk (i := k + k2) (by omega)
              obtain ⟨i2, hi2⟩ : ∃ i, i = k2 - 1 := ⟨_, rfl⟩
              have hid2 : k + i2 < d.size := by omega
              have hid3 : i2 < d.size - k := by omega
              obtain ⟨n0, n1, n2⟩ := holds34 hHk (i := k + i2) (by omega)
              obtain ⟨o0, o1, o2⟩ := holds34 hHk (i := kk) (by omega)
              obtain ⟨f0, f1, f2⟩ := frozen34 hHk (i := kk) (by omega)
              rw [hI.high (k + k2) (by omega), Nat.add_mul] at m0 m1 m2
              rw [hI.high (k + i2) (by omega), Nat.add_mul] at n0 n1 n2
              clear hHk hI
              generalize hu : d[k + k2]! = u at m0 m1 m2
              generalize hv : d[k + i2]! = v at n0 n1 n2
              generalize dk[kk]! = old at o0 o1 o2
              have C := Aside0.mk (show d[k + k2]! = u ∧ d[k + i2]! = v from ⟨hu, hv⟩)
              clear hu hv
              have hw2 : IntKind.i64.wrap ((k2 : Int) - 1) = (i2 : Int) := by
                have e : (k2 : Int) - 1 = (i2 : Int) := by omega
                rw [e]; simp [IntKind.wrap, IntKind.bits, IntKind.signed]; omega
              have HI2 := Aside0.mk hi2
              clear hi2
              have hne := ne34 u v
              have key : d[k + k2 - 1]! = d[k + i2]! := by rw [HI2.out]; congr 1; omega
              have K2 := Aside0.mk key
              clear key
              by_cases huv : u = v
              · rw [decide_eq_true huv] at hne
                have HU := Aside0.mk huv
                clear huv
                go_wp2_with fail
                go_quiet (fail)
                go_wp2
                go_roundg (d.size - (k + (k2 + 1)))
                case measure => omega
                case rel => exact ⟨kk, k2 + 1, q2 + nq, dk, rfl, by go_num, by omega, by omega, Nat.le_refl _, by rw [W2.out]; exact putRowK_drewN enc34 3 w q2 nq blk 0 dk, I2.out.skip (keeps_neg (by omega) (by rw [C.out.1, K2.out, C.out.2, HU.out]))⟩
              · rw [decide_eq_false huv] at hne
                have HU := Aside0.mk huv
                clear huv
                go_wp2_with fail
                go_quiet (fail)
                go_wp2
                go_roundg (d.size - (k + (k2 + 1)))
                case measure => omega
                case rel => exact ⟨kk + 1, k2 + 1, q2 + nq, dk.setIfInBounds kk u, by go_num, by go_num, by omega, by omega, Nat.le_refl _, store34 u W2.out (by omega), by have h_ := I2.out.keep hlt2 (keeps_pos (by rw [C.out.1, K2.out, C.out.2]; exact HU.out)); rwa [C.out.1] at h_⟩
            · have hend : k + k2 = d.size := by omega
              have hcl := fun ty => clear34 wr ty blk (kk * 3) (d.size - kk) (cap - kk) (by omega) (fun j hj => by
                have h_ := (hHk (kk * 3 + j) (by rw [size_flatK]; omega)).1
                rw [Nat.zero_add] at h_; rw [h_]; rfl) (fun j hj => by
                have h_ := (hHk (kk * 3 + j) (by rw [size_flatK]; omega)).2
                rwa [Nat.zero_add] at h_)
              obtain ⟨zs, hzl, hrun⟩ := hcl 0
              clear hHk hI
              go_wp2
              go_ret
              have hI := I2.out
              rw [hend] at hI
              refine ⟨by rw [hI.len]; rfl, q2, setMany (flatK enc34 3 dk) (kk * 3) zs, by rw [size_setMany, size_flatK, hds], fun t ht => ?_, ?_⟩
              · have ht' : t < kk * 3 := by rw [hI.len] at ht; exact ht
                rw [get_setMany _ _ _ t (by rw [size_flatK]; omega), if_neg (by omega), get_flatK _ _ _ t (by omega), get_flatK _ _ _ t (by rw [List.size_toArray]; exact ht)]
                have h_ := hI.low (t / 3) (by omega)
                have e_ : (compactUpTo d d.size).toArray[t / 3]! = dk[t / 3]! := by
                  rw [getElem!_pos _ (t / 3) (by rw [List.size_toArray, hI.len]; omega), List.getElem_toArray]
                  exact (List.getElem?_eq_some_iff.1 h_).2
                rw [e_]
              · rw [W2.out]
                have h_ := setCells_putRow (Sort.ahead w q2) blk 0 zs (kk * 3) (flatK enc34 3 dk) (by rw [size_flatK, hzl]; omega)
                rw [Nat.zero_add] at h_
                exact h_
        · rw [decide_eq_false hdup] at heq
          have HD := Aside0.mk hdup
          clear hdup
          go_wp2_with fail
          go_quiet (fail)
          go_wp2
          go_roundg (d.size - (k + 1))
          case measure => omega
          case rel =>
            refine ⟨k + 1, q + nq, by omega, by omega, Nat.le_refl _, by go_num, by rw [← HW.out, World.drewN_drewN], fun j hj => ?_⟩
            by_cases e : j = k
            · subst e
              exact keeps_pos (by rw [B.out.1, ← HI.out, B.out.2]; exact HD.out)
            · exact A.out j (by omega)
      · have : k = d.size := by omega
        subst this
        go_wp2
        go_ret
        obtain ⟨e1, F, e2, e3, e4⟩ := HS.out q hall
        exact ⟨by rw [e1]; rfl, q, F, e2, e3, e4⟩
end Go.Proofs.YtidlmkdoofcgnaaGreatDoor.PText

