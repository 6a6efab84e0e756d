/- Chapter 02: what the claims share. Part 9 of 11. -/
import Derived.Test.YtabnmkakgcifoaaDoorBLexH
import Derived.Maps.OwnSet
import Derived.Laws.EntriesVeiled
namespace Go.Proofs.YtabnmkakgcifoaaDoor.PLex
open Go.RowKit Go.Proofs.YtabnmkakgcifoaaDoorW.PrintWords Go.Proofs.YtabnmkakgcifoaaDoorW.PrintLast Go.Proofs.YtabnmkakgcifoaaDoorW.PrintMore
set_option maxHeartbeats 4000000 in
set_option maxRecDepth 100000 in
theorem token_end (g : Nat) (s : ByteArray) (a a1 : Nat) (km : Option Nat) (sg : List ByteArray) (f f1 : Bool) (w0 w : World) (hI : IsS48 w0 w g s a km sg f) (hB : Below w0.heap.size w0 w) (hGl : Glob w0)
    (k : Nat) (hb : lsc_before.f k s a km sg f = some (s.extract a a1, s, (a1 : Int), km, f1)) (hend : ((a1 : Int) == (s.size : Int)) = true) (_hs : s.size ≤ 200000) :
    Calls Tryd.prog 31 #[.pointer (some ⟨g, 0, none⟩)] w fun e w' => e = .returned (.agg #[.int .i64 0, .string (s.extract a a1), .string ⟨#[]⟩, .int .i64 a1]) ∧ IsS48 w0 w' g s a1 km sg f1 ∧ Below w0.heap.size w0 w' ∧ KeepBut w w' g none := by
  have C := Lib.hid (fun (W : World) (h1 : IsS48 w0 W g s a km sg f) (h2 : Below w0.heap.size w0 W) => lsc_before.calls k g s a km sg f _ _ _ _ _ w0 W h1 h2 hGl hb)
  have H := Aside0.mk hI
  have HB := Aside0.mk hB
  have hu := Tryd.underlying30
  have hu2 := Tryd.underlying48
  have hgw := hI.lt
  clear hI hB hb hGl
  go_enter Tryd.func31, Tryd.ntmps31
  go_wp2_with fail
  refine (C.out _ (H.out.alloc _) (below_alloc HB.out _)).mono ?_
  rintro e w1 ⟨rfl, h1, h2, h3⟩
  have H1 := Aside0.mk h1
  have H2 := Aside0.mk h2
  have H3 := Aside0.mk h3
  have hR := h3.blk (blk_new w _) (by omega) (by simp)
  have hs1 := h3.1
  simp only [World.size_alloc] at hs1
  obtain ⟨A3, c3, hG, hg3, hr3⟩ := h1
  have hc0 := cellS48_0 hG
  have hc1 := cellS48_1 hG
  have hf0 := blk_frozen hG 0
  have hr0 := (blk_cell hR 0).trans rfl
  have hr1 := (blk_cell hR 1).trans rfl
  have hr2 := (blk_cell hR 2).trans rfl
  have hr3 := (blk_cell hR 3).trans rfl
  have hrf0 := blk_frozen hR 0
  have hrf1 := blk_frozen hR 1
  have hrf2 := blk_frozen hR 2
  have hrf3 := blk_frozen hR 3
  have hgl1 : g < w1.heap.size := by omega
  have hrl1 : w.heap.size < w1.heap.size := by omega
  have HR := Aside0.mk hR
  clear h2 h3 hG hR
  go_wp2
  go_quiet (fail)
  go_wp2
  have hne : g ≠ w.heap.size := by omega
  have hwz : w0.heap.size ≤ w.heap.size := HB.out.size
  refine bodyPost_ret (v := .agg #[.int .i64 0, .string (s.extract a a1), .string ⟨#[]⟩, .int .i64 a1]) ?_ rfl ⟨rfl, ?_, ?_, ?_⟩
  · refine results_cell_row rfl _ _ w.heap.size 30 #[.int .i64 0, .string (s.extract a a1), .string ⟨#[]⟩, .int .i64 a1] (0, 0) _ rfl ?_ Tryd.underlying30 rfl (by kernel_rfl)
    have q := blk_set (blk_set (blk_set (blk_set (blk_drewN (blk_alloc HR.out (Obj.cells #[.int .i64 0, .string (s.extract a a1), .string ⟨#[]⟩, .int .i64 a1] 30)) nq) 0 (.int .i64 0)) 1 (.string (s.extract a a1))) 2 (.string ⟨#[]⟩)) 3 (.int .i64 a1)
    simpa using q
  · exact (((((H1.out.alloc _).drewN nq).far (p := ⟨w.heap.size, 0, none⟩) hne _).far (p := ⟨w.heap.size, 1, none⟩) hne _).far (p := ⟨w.heap.size, 2, none⟩) hne _).far (p := ⟨w.heap.size, 3, none⟩) hne _
  · exact below_set (below_set (below_set (below_set (pw_below_drewN (below_alloc H2.out _) nq) hwz) hwz) hwz) hwz
  · exact keep_far (keep_far (keep_far (keep_far (keep_drewN (keep_alloc ((keep_alloc (KeepBut.refl w g none) _).trans H3.out (.inl rfl)) _) nq) (Nat.le_refl _) _) (Nat.le_refl _) _) (Nat.le_refl _) _) (Nat.le_refl _) _
/-- what the six ask and answer, and the map's answers -/
structure Asks (w0 : World) (g : Nat) (s : ByteArray) (a1 : Nat) (km : Option Nat) (sg : List ByteArray) (f1 : Bool) (fn : Nat) (n : Nat) : Prop where
  ask : ∀ W, IsS48 w0 W g s a1 km sg f1 → Below w0.heap.size w0 W → Calls Tryd.prog fn #[.pointer (some ⟨g, 0, none⟩)] W fun e w' => e = .returned (.int .i64 (n : Int)) ∧ IsS48 w0 w' g s a1 km sg f1 ∧ Below w0.heap.size w0 w' ∧ KeepBut W w' g none
def kindOf (n : Nat → Nat) : Nat × Nat := if 0 < n 0 then (7, n 0) else if 0 < n 1 then (1, n 1) else if 0 < n 2 then (3, n 2) else if 0 < n 3 then (4, n 3) else if 0 < n 4 then (5, n 4) else if 0 < n 5 then (6, n 5) else (8, 1)
/-- a name that is a key is one -/
def keyed (ck : ByteArray → Bool) (s : ByteArray) (a1 : Nat) (n : Nat → Nat) : Nat := if (kindOf n).1 = 1 ∧ ck (s.extract a1 (a1 + (kindOf n).2)) = true then 2 else (kindOf n).1
def kindsCells (g : Nat) : Array Value := #[.int .i64 7, .func (.func 45) #[.pointer (some ⟨g, 0, none⟩)] #[], .int .i64 1, .func (.func 46) #[.pointer (some ⟨g, 0, none⟩)] #[], .int .i64 3, .func (.func 47) #[.pointer (some ⟨g, 0, none⟩)] #[], .int .i64 4, .func (.func 48) #[.pointer (some ⟨g, 0, none⟩)] #[], .int .i64 5, .func (.func 49) #[.pointer (some ⟨g, 0, none⟩)] #[], .int .i64 6, .func (.func 50) #[.pointer (some ⟨g, 0, none⟩)] #[]]
/-- the world while the kinds are tried: the state, the result's block, the token's, the kinds' -/
structure TS (w0 w : World) (g : Nat) (s : ByteArray) (a a1 : Nat) (B : Nat) (sg : List ByteArray) (f1 : Bool) (t r3 : Nat) (K : Nat) (wc : World) : Prop where
  st : IsS48 w0 wc g s a1 (some B) sg f1
  be : Below w0.heap.size w0 wc
  ke : KeepBut w wc g none
  rb : wc.heap[w.heap.size]? = some (.cells #[.int .i64 0, .string ⟨#[]⟩, .string ⟨#[]⟩, .int .i64 0] 30 (0, 0))
  tb : wc.heap[t]? = some (.cells #[.int .i64 K, .string (s.extract a a1), .string ⟨#[]⟩, .int .i64 a1] 30 (0, 0))
  kb : wc.heap[r3]? = some (.cells (kindsCells g) 68 (0, 0))
  lt1 : w.heap.size < t
  lt2 : t < r3
theorem TS.alloc {w0 w : World} {g : Nat} {s : ByteArray} {a a1 B : Nat} {sg : List ByteArray} {f1 : Bool} {t r3 K : Nat} {wc : World} (h : TS w0 w g s a a1 B sg f1 t r3 K wc) (o : Obj) : TS w0 w g s a a1 B sg f1 t r3 K (wc.alloc o) :=
  ⟨h.st.alloc o, below_alloc h.be o, keep_alloc h.ke o, blk_alloc h.rb o, blk_alloc h.tb o, blk_alloc h.kb o, h.lt1, h.lt2⟩
theorem TS.drew {w0 w : World} {g : Nat} {s : ByteArray} {a a1 B : Nat} {sg : List ByteArray} {f1 : Bool} {t r3 K : Nat} {wc : World} (h : TS w0 w g s a a1 B sg f1 t r3 K wc) : TS w0 w g s a a1 B sg f1 t r3 K wc.drew :=
  ⟨h.st.drew, below_drew h.be, keep_drew h.ke, h.rb, h.tb, h.kb, h.lt1, h.lt2⟩
theorem TS.kind {w0 w : World} {g : Nat} {s : ByteArray} {a a1 B : Nat} {sg : List ByteArray} {f1 : Bool} {t r3 K : Nat} {wc : World} (h : TS w0 w g s a a1 B sg f1 t r3 K wc) (hg : g < w.heap.size) (hz : w0.heap.size ≤ w.heap.size) (K' : Nat) : TS w0 w g s a a1 B sg f1 t r3 K' (wc.setCell ⟨t, 0, none⟩ (.int .i64 K')) :=
  have l1 := h.lt1
  have l2 := h.lt2
  ⟨h.st.far (p := ⟨t, 0, none⟩) (by show g ≠ t; omega) _, below_set h.be (by omega), keep_far h.ke (by show w.heap.size ≤ t; omega) _, blk_far h.rb (p := ⟨t, 0, none⟩) (by show w.heap.size ≠ t; omega) _, by simpa using blk_set h.tb 0 (.int .i64 K'), blk_far h.kb (p := ⟨t, 0, none⟩) (by show r3 ≠ t; omega) _, h.lt1, h.lt2⟩
/-- a call that keeps all but the state's block -/
theorem TS.call {w0 w : World} {g : Nat} {s : ByteArray} {a a1 B : Nat} {sg : List ByteArray} {f1 : Bool} {t r3 K : Nat} {wc w' : World} (h : TS w0 w g s a a1 B sg f1 t r3 K wc) (hg : g < w.heap.size)
    (h1 : IsS48 w0 w' g s a1 (some B) sg f1) (h2 : Below w0.heap.size w0 w') (h3 : KeepBut wc w' g none) : TS w0 w g s a a1 B sg f1 t r3 K w' :=
  have l1 := h.lt1
  have l2 := h.lt2
  ⟨h1, h2, h.ke.trans h3 (.inl rfl), h3.blk h.rb (by omega) (by simp), h3.blk h.tb (by omega) (by simp), h3.blk h.kb (by omega) (by simp), h.lt1, h.lt2⟩
/-- the world behind the token's text -/
structure TT (w0 w : World) (g : Nat) (s : ByteArray) (a a1 : Nat) (B : Nat) (sg : List ByteArray) (f1 : Bool) (t : Nat) (K : Nat) (tx : ByteArray) (wc : World) : Prop where
  st : IsS48 w0 wc g s a1 (some B) sg f1
  be : Below w0.heap.size w0 wc
  ke : KeepBut w wc g none
  rb : wc.heap[w.heap.size]? = some (.cells #[.int .i64 0, .string ⟨#[]⟩, .string ⟨#[]⟩, .int .i64 0] 30 (0, 0))
  tb : wc.heap[t]? = some (.cells #[.int .i64 K, .string (s.extract a a1), .string tx, .int .i64 a1] 30 (0, 0))
  lt1 : w.heap.size < t
theorem TT.drew {w0 w : World} {g : Nat} {s : ByteArray} {a a1 B : Nat} {sg : List ByteArray} {f1 : Bool} {t K : Nat} {tx : ByteArray} {wc : World} (h : TT w0 w g s a a1 B sg f1 t K tx wc) : TT w0 w g s a a1 B sg f1 t K tx wc.drew :=
  ⟨h.st.drew, below_drew h.be, keep_drew h.ke, h.rb, h.tb, h.lt1⟩
theorem TT.drewN {w0 w : World} {g : Nat} {s : ByteArray} {a a1 B : Nat} {sg : List ByteArray} {f1 : Bool} {t K : Nat} {tx : ByteArray} {wc : World} (h : TT w0 w g s a a1 B sg f1 t K tx wc) (m : Nat) : TT w0 w g s a a1 B sg f1 t K tx (wc.drewN m) :=
  ⟨h.st.drewN m, pw_below_drewN h.be m, keep_drewN h.ke m, blk_drewN h.rb m, blk_drewN h.tb m, h.lt1⟩
theorem TT.kind {w0 w : World} {g : Nat} {s : ByteArray} {a a1 B : Nat} {sg : List ByteArray} {f1 : Bool} {t K : Nat} {tx : ByteArray} {wc : World} (h : TT w0 w g s a a1 B sg f1 t K tx wc) (hg : g < w.heap.size) (hz : w0.heap.size ≤ w.heap.size) (K' : Nat) : TT w0 w g s a a1 B sg f1 t K' tx (wc.setCell ⟨t, 0, none⟩ (.int .i64 K')) :=
  have l1 := h.lt1
  ⟨h.st.far (p := ⟨t, 0, none⟩) (by show g ≠ t; omega) _, below_set h.be (by omega), keep_far h.ke (by show w.heap.size ≤ t; omega) _, blk_far h.rb (p := ⟨t, 0, none⟩) (by show w.heap.size ≠ t; omega) _, by simpa using blk_set h.tb 0 (.int .i64 K'), h.lt1⟩
theorem TS.text {w0 w : World} {g : Nat} {s : ByteArray} {a a1 B : Nat} {sg : List ByteArray} {f1 : Bool} {t r3 K : Nat} {wc : World} (h : TS w0 w g s a a1 B sg f1 t r3 K wc) (hg : g < w.heap.size) (hz : w0.heap.size ≤ w.heap.size) (tx : ByteArray) : TT w0 w g s a a1 B sg f1 t K tx (wc.setCell ⟨t, 2, none⟩ (.string tx)) :=
  have l1 := h.lt1
  have l2 := h.lt2
  ⟨h.st.far (p := ⟨t, 2, none⟩) (by show g ≠ t; omega) _, below_set h.be (by omega), keep_far h.ke (by show w.heap.size ≤ t; omega) _, blk_far h.rb (p := ⟨t, 2, none⟩) (by show w.heap.size ≠ t; omega) _, by simpa using blk_set h.tb 2 (.string tx), h.lt1⟩
/-- the world that token leaves -/
abbrev tokOut (g r : Nat) (k a1 n : Int) (b tx : ByteArray) (wc : World) : World :=
  (((((wc.setCell ⟨g, 1, none⟩ (.int .i64 n)).setCell ⟨g, 4, none⟩ (.bool false)).setCell ⟨r, 0, none⟩ (.int .i64 k)).setCell ⟨r, 1, none⟩ (.string b)).setCell ⟨r, 2, none⟩ (.string tx)).setCell ⟨r, 3, none⟩ (.int .i64 a1)
theorem TT.out {w0 w : World} {g : Nat} {s : ByteArray} {a a1 B : Nat} {sg : List ByteArray} {f1 : Bool} {t K : Nat} {tx : ByteArray} {wc : World} (h : TT w0 w g s a a1 B sg f1 t K tx wc) (hg : g < w.heap.size) (hz : w0.heap.size ≤ w.heap.size) (n : Int) :
    IsS48 w0 (tokOut g w.heap.size K a1 n (s.extract a a1) tx wc) g s n (some B) sg false ∧ Below w0.heap.size w0 (tokOut g w.heap.size K a1 n (s.extract a a1) tx wc) ∧ KeepBut w (tokOut g w.heap.size K a1 n (s.extract a a1) tx wc) g none
      ∧ (tokOut g w.heap.size K a1 n (s.extract a a1) tx wc).heap[w.heap.size]? = some (.cells #[.int .i64 K, .string (s.extract a a1), .string tx, .int .i64 a1] 30 (0, 0)) := by
  have l1 := h.lt1
  have hgz : w0.heap.size ≤ g := h.st.ge
  have hne : g ≠ w.heap.size := by omega
  refine ⟨?_, ?_, ?_, ?_⟩
  · exact ((((h.st.set_1 n).set_4 false).far (p := ⟨w.heap.size, 0, none⟩) hne _).far (p := ⟨w.heap.size, 1, none⟩) hne _ |>.far (p := ⟨w.heap.size, 2, none⟩) hne _).far (p := ⟨w.heap.size, 3, none⟩) hne _
  · exact below_set (below_set (below_set (below_set (below_set (below_set h.be hgz) hgz) hz) hz) hz) hz
  · exact keep_far (keep_far (keep_far (keep_far ((h.ke.set_ 1 _).set_ 4 _) (Nat.le_refl _) _) (Nat.le_refl _) _) (Nat.le_refl _) _) (Nat.le_refl _) _
  · have q := blk_set (blk_set (blk_set (blk_set (blk_far (blk_far h.rb (p := ⟨g, 1, none⟩) (fun e => hne e.symm) (.int .i64 n)) (p := ⟨g, 4, none⟩) (fun e => hne e.symm) (.bool false)) 0 (.int .i64 K)) 1 (.string (s.extract a a1))) 2 (.string tx)) 3 (.int .i64 a1)
    simpa using q
set_option maxHeartbeats 4000000 in
set_option maxRecDepth 100000 in
theorem token_go (g : Nat) (s : ByteArray) (a a1 : Nat) (B : Nat) (o : Obj) (sg : List ByteArray) (f f1 : Bool) (w0 w : World) (hI : IsS48 w0 w g s a (some B) sg f) (hB : Below w0.heap.size w0 w) (hGl : Glob w0)
    (k : Nat) (hb : lsc_before.f k s a (some B) sg f = some (s.extract a a1, s, (a1 : Int), some B, f1)) (hend : ((a1 : Int) == (s.size : Int)) = false) (hs : s.size ≤ 200000) (ha1 : a1 < s.size)
    (n : Nat → Nat) (hn0 : Asks w0 g s a1 (some B) sg f1 45 (n 0)) (hn1 : Asks w0 g s a1 (some B) sg f1 46 (n 1)) (hn2 : Asks w0 g s a1 (some B) sg f1 47 (n 2)) (hn3 : Asks w0 g s a1 (some B) sg f1 48 (n 3)) (hn4 : Asks w0 g s a1 (some B) sg f1 49 (n 4)) (hn5 : Asks w0 g s a1 (some B) sg f1 50 (n 5))
    (hle : a1 + (kindOf n).2 ≤ s.size) (ck : ByteArray → Bool) (hob : w.heap[B]? = some o) (hBg : B ≠ g)
    (hlook : ∀ W' : World, W'.heap[B]? = some o → ∀ key : ByteArray, key.size ≤ 200000 → (Instr.lookup 46 (.map (some B)) (.string key) false).run Tryd.prog W' = .ok (.bool (ck key)) W') :
    Calls Tryd.prog 31 #[.pointer (some ⟨g, 0, none⟩)] w fun e w' => e = .returned (.agg #[.int .i64 (keyed ck s a1 n : Nat), .string (s.extract a a1), .string (s.extract a1 (a1 + (kindOf n).2)), .int .i64 a1]) ∧ IsS48 w0 w' g s ((a1 + (kindOf n).2 : Nat) : Int) (some B) sg false ∧ Below w0.heap.size w0 w' ∧ KeepBut w w' g none := by
  have C := Lib.hid (fun (W : World) (h1 : IsS48 w0 W g s a (some B) sg f) (h2 : Below w0.heap.size w0 W) => lsc_before.calls k g s a (some B) sg f _ _ _ _ _ w0 W h1 h2 hGl hb)
  have H := Aside0.mk hI
  have HB := Aside0.mk hB
  have hu := Tryd.underlying30
  have hu2 := Tryd.underlying48
  have hgw := hI.lt
  have hmf : ∀ (fn : Fn) (first cap : Array Value) (w : World), (Instr.makeFunc fn first cap).run Tryd.prog w = .ok (.func fn first cap) w := fun _ _ _ _ => rfl
  have HLE := Lib.hid hle
  have HLOOK := Lib.hid hlook
  have HOB := Lib.hid hob
  have hBl : B < w.heap.size := blk_lt hob
  clear hI hB hb hGl hle hlook hob
  go_enter Tryd.func31, Tryd.ntmps31
  go_wp2_with fail
  refine (C.out _ (H.out.alloc _) (below_alloc HB.out _)).mono ?_
  rintro e w1 ⟨rfl, h1, h2, h3⟩
  have H1 := Aside0.mk h1
  have H2 := Aside0.mk h2
  have H3 := Aside0.mk h3
  have hR := h3.blk (blk_new w _) (by omega) (by simp)
  have hs1 := h3.1
  simp only [World.size_alloc] at hs1
  obtain ⟨A3, c3, hG, hg3, hr3⟩ := h1
  have hc0 := cellS48_0 hG
  have hc1 := cellS48_1 hG
  have hf0 := blk_frozen hG 0
  have hgl1 : g < w1.heap.size := by omega
  have hrl1 : w.heap.size < w1.heap.size := by omega
  have HR := Aside0.mk hR
  clear h2 h3 hG hR hr3 hg3
  go_wp2
  go_quiet (fail)
  go_upto_block 0 with (fail)
  have hne1 : g ≠ w1.heap.size := by omega
  have hwz : w0.heap.size ≤ w.heap.size := HB.out.size
  have T0 : Aside0 (TS w0 w g s a a1 B sg f1 w1.heap.size (w1.heap.size + 1) 8 ((((w1.alloc (.cells #[.int .i64 0, .string (s.extract a a1), .string ⟨#[]⟩, .int .i64 a1] 30)).drewN nq).setCell ⟨w1.heap.size, 0, none⟩ (.int .i64 8)).alloc (.cells (kindsCells g) 68))) := by
    have q1 := blk_set (blk_drewN (blk_new w1 (.cells #[.int .i64 0, .string (s.extract a a1), .string ⟨#[]⟩, .int .i64 a1] 30)) nq) 0 (.int .i64 8)
    refine ⟨⟨((H1.out.alloc _).drewN nq |>.far (p := ⟨w1.heap.size, 0, none⟩) hne1 _).alloc _, below_alloc (below_set (pw_below_drewN (below_alloc H2.out _) nq) H2.out.size) _, keep_alloc (keep_far (keep_drewN (keep_alloc ((keep_alloc (KeepBut.refl w g none) _).trans H3.out (.inl rfl)) _) nq) (by show w.heap.size ≤ w1.heap.size; omega) _) _, ?_, ?_, ?_, by omega, by omega⟩⟩
    · exact blk_alloc (blk_far (blk_drewN (blk_alloc HR.out _) nq) (p := ⟨w1.heap.size, 0, none⟩) (by show w.heap.size ≠ w1.heap.size; omega) _) _
    · exact blk_alloc (by simpa using q1) _
    · have q := blk_new ((((w1.alloc (.cells #[.int .i64 0, .string (s.extract a a1), .string ⟨#[]⟩, .int .i64 a1] 30)).drewN nq).setCell ⟨w1.heap.size, 0, none⟩ (.int .i64 8))) (.cells (kindsCells g) 68)
      simpa using q
  clear hc0 hc1 hf0
  go_cut [5] (fun v5 wc => v5 = .int .i64 (((kindOf n).2 : Nat) : Int) ∧ Aside0 (TS w0 w g s a a1 B sg f1 w1.heap.size (w1.heap.size + 1) (kindOf n).1 wc))
  case first =>
    go_wp2_with fail
    go_loopg [5, 49] 6 (fun kq v5 v49 w' => ∃ i : Nat, v5 = .int .i64 1 ∧ v49 = .int .i64 (i : Int) ∧ Aside0 (kq + i = 6) ∧ Aside0 (∀ j, j < i → n j = 0) ∧ Aside0 (TS w0 w g s a a1 B sg f1 w1.heap.size (w1.heap.size + 1) 8 w'))
    case atStart => exact ⟨0, rfl, rfl, ⟨rfl⟩, ⟨fun j hj => by omega⟩, T0⟩
    case round =>
      obtain ⟨i, rfl, rfl, HK1, HZ, HT⟩ := hrel
      have hi6 : i ≤ 6 := by have := HK1.out; omega
      have hk := HT.out.kb
      have htb := HT.out.tb
      have hgw1 : g < wr.heap.size := HT.out.st.lt
      have hr3l : w1.heap.size + 1 < wr.heap.size := blk_lt hk
      have hr3f : ∀ j, wr.frozen? ⟨w1.heap.size + 1, j, none⟩ = false := fun j => blk_frozen hk j
      have htl : w1.heap.size < wr.heap.size := by omega
      clear T0
      rcases (by omega : i = 0 ∨ i = 1 ∨ i = 2 ∨ i = 3 ∨ i = 4 ∨ i = 5 ∨ i = 6) with rfl | rfl | rfl | rfl | rfl | rfl | rfl
      · have c0 : wr.cell? ⟨w1.heap.size + 1, 0, none⟩ = some (.int .i64 7) := (blk_cell hk 0).trans rfl
        have c1 : wr.cell? ⟨w1.heap.size + 1, 1, none⟩ = some (.func (.func 45) #[.pointer (some ⟨g, 0, none⟩)] #[]) := (blk_cell hk 1).trans rfl
        clear hk htb
        go_wp2_with fail
        refine (hn0.ask _ (HT.out.st.alloc _) (below_alloc HT.out.be _)).mono ?_
        rintro e w2 ⟨rfl, p1, p2, p3⟩
        have T2 := Aside0.mk (TS.call (HT.out.alloc _) hgw p1 p2 p3)
        have hv := p3.blk (blk_new wr _) (by omega) (by simp)
        have v0 : w2.cell? ⟨wr.heap.size, 0, none⟩ = some (.int .i64 7) := (blk_cell hv 0).trans rfl
        have t0 : w2.cell? ⟨w1.heap.size, 0, none⟩ = some (.int .i64 8) := (blk_cell T2.out.tb 0).trans rfl
        have tf0 : w2.frozen? ⟨w1.heap.size, 0, none⟩ = false := blk_frozen T2.out.tb 0
        clear p1 p2 p3 hv c0 c1
        by_cases hp : 0 < n 0
        · have hpb : decide ((0 : Int) < (n 0 : Int)) = true := by simp; omega
          have HP := Lib.hid hp
          clear hp
          go_wp2
          go_region
          all_goals
            go_wp2
            go_meet
            case rel =>
              have hp := HP.out
              exact ⟨by simp [kindOf, hp], by simpa [kindOf, hp] using Aside0.mk (TS.kind T2.out hgw hwz 7).drew⟩
        · have hpb : decide ((0 : Int) < (n 0 : Int)) = false := by simp; omega
          have HP := Lib.hid hp
          clear hp
          go_wp2
          obtain ⟨k1, hk1⟩ : ∃ k1, gk = k1 + 1 := ⟨gk - 1, by have := HK1.out; omega⟩
          go_roundg k1
          case measure => omega
          case rel => exact ⟨1, rfl, by simp, ⟨by have := HK1.out; omega⟩, ⟨fun j hj => by
            have hp := HP.out
            rcases Nat.lt_or_ge j 0 with h | h
            · exact HZ.out j h
            · obtain rfl : j = 0 := by omega
              omega⟩, T2⟩
      · have c0 : wr.cell? ⟨w1.heap.size + 1, 2, none⟩ = some (.int .i64 1) := (blk_cell hk 2).trans rfl
        have c1 : wr.cell? ⟨w1.heap.size + 1, 3, none⟩ = some (.func (.func 46) #[.pointer (some ⟨g, 0, none⟩)] #[]) := (blk_cell hk 3).trans rfl
        clear hk htb
        go_wp2_with fail
        refine (hn1.ask _ (HT.out.st.alloc _) (below_alloc HT.out.be _)).mono ?_
        rintro e w2 ⟨rfl, p1, p2, p3⟩
        have T2 := Aside0.mk (TS.call (HT.out.alloc _) hgw p1 p2 p3)
        have hv := p3.blk (blk_new wr _) (by omega) (by simp)
        have v0 : w2.cell? ⟨wr.heap.size, 0, none⟩ = some (.int .i64 1) := (blk_cell hv 0).trans rfl
        have t0 : w2.cell? ⟨w1.heap.size, 0, none⟩ = some (.int .i64 8) := (blk_cell T2.out.tb 0).trans rfl
        have tf0 : w2.frozen? ⟨w1.heap.size, 0, none⟩ = false := blk_frozen T2.out.tb 0
        clear p1 p2 p3 hv c0 c1
        by_cases hp : 0 < n 1
        · have hpb : decide ((0 : Int) < (n 1 : Int)) = true := by simp; omega
          have HP := Lib.hid hp
          clear hp
          go_wp2
          go_region
          all_goals
            go_wp2
            go_meet
            case rel =>
              have hp := HP.out
              have z0 := HZ.out 0 (by omega)
              exact ⟨by simp [kindOf, z0, hp], by simpa [kindOf, z0, hp] using Aside0.mk (TS.kind T2.out hgw hwz 1).drew⟩
        · have hpb : decide ((0 : Int) < (n 1 : Int)) = false := by simp; omega
          have HP := Lib.hid hp
          clear hp
          go_wp2
          obtain ⟨k1, hk1⟩ : ∃ k1, gk = k1 + 1 := ⟨gk - 1, by have := HK1.out; omega⟩
          go_roundg k1
          case measure => omega
          case rel => exact ⟨2, rfl, by simp, ⟨by have := HK1.out; omega⟩, ⟨fun j hj => by
            have hp := HP.out
            rcases Nat.lt_or_ge j 1 with h | h
            · exact HZ.out j h
            · obtain rfl : j = 1 := by omega
              omega⟩, T2⟩
      · have c0 : wr.cell? ⟨w1.heap.size + 1, 4, none⟩ = some (.int .i64 3) := (blk_cell hk 4).trans rfl
        have c1 : wr.cell? ⟨w1.heap.size + 1, 5, none⟩ = some (.func (.func 47) #[.pointer (some ⟨g, 0, none⟩)] #[]) := (blk_cell hk 5).trans rfl
        clear hk htb
        go_wp2_with fail
        refine (hn2.ask _ (HT.out.st.alloc _) (below_alloc HT.out.be _)).mono ?_
        rintro e w2 ⟨rfl, p1, p2, p3⟩
        have T2 := Aside0.mk (TS.call (HT.out.alloc _) hgw p1 p2 p3)
        have hv := p3.blk (blk_new wr _) (by omega) (by simp)
        have v0 : w2.cell? ⟨wr.heap.size, 0, none⟩ = some (.int .i64 3) := (blk_cell hv 0).trans rfl
        have t0 : w2.cell? ⟨w1.heap.size, 0, none⟩ = some (.int .i64 8) := (blk_cell T2.out.tb 0).trans rfl
        have tf0 : w2.frozen? ⟨w1.heap.size, 0, none⟩ = false := blk_frozen T2.out.tb 0
        clear p1 p2 p3 hv c0 c1
        by_cases hp : 0 < n 2
        · have hpb : decide ((0 : Int) < (n 2 : Int)) = true := by simp; omega
          have HP := Lib.hid hp
          clear hp
          go_wp2
          go_region
          all_goals
            go_wp2
            go_meet
            case rel =>
              have hp := HP.out
              have z0 := HZ.out 0 (by omega)
              have z1 := HZ.out 1 (by omega)
              exact ⟨by simp [kindOf, z0, z1, hp], by simpa [kindOf, z0, z1, hp] using Aside0.mk (TS.kind T2.out hgw hwz 3).drew⟩
        · have hpb : decide ((0 : Int) < (n 2 : Int)) = false := by simp; omega
          have HP := Lib.hid hp
          clear hp
          go_wp2
          obtain ⟨k1, hk1⟩ : ∃ k1, gk = k1 + 1 := ⟨gk - 1, by have := HK1.out; omega⟩
          go_roundg k1
          case measure => omega
          case rel => exact ⟨3, rfl, by simp, ⟨by have := HK1.out; omega⟩, ⟨fun j hj => by
            have hp := HP.out
            rcases Nat.lt_or_ge j 2 with h | h
            · exact HZ.out j h
            · obtain rfl : j = 2 := by omega
              omega⟩, T2⟩
      · have c0 : wr.cell? ⟨w1.heap.size + 1, 6, none⟩ = some (.int .i64 4) := (blk_cell hk 6).trans rfl
        have c1 : wr.cell? ⟨w1.heap.size + 1, 7, none⟩ = some (.func (.func 48) #[.pointer (some ⟨g, 0, none⟩)] #[]) := (blk_cell hk 7).trans rfl
        clear hk htb
        go_wp2_with fail
        refine (hn3.ask _ (HT.out.st.alloc _) (below_alloc HT.out.be _)).mono ?_
        rintro e w2 ⟨rfl, p1, p2, p3⟩
        have T2 := Aside0.mk (TS.call (HT.out.alloc _) hgw p1 p2 p3)
        have hv := p3.blk (blk_new wr _) (by omega) (by simp)
        have v0 : w2.cell? ⟨wr.heap.size, 0, none⟩ = some (.int .i64 4) := (blk_cell hv 0).trans rfl
        have t0 : w2.cell? ⟨w1.heap.size, 0, none⟩ = some (.int .i64 8) := (blk_cell T2.out.tb 0).trans rfl
        have tf0 : w2.frozen? ⟨w1.heap.size, 0, none⟩ = false := blk_frozen T2.out.tb 0
        clear p1 p2 p3 hv c0 c1
        by_cases hp : 0 < n 3
        · have hpb : decide ((0 : Int) < (n 3 : Int)) = true := by simp; omega
          have HP := Lib.hid hp
          clear hp
          go_wp2
          go_region
          all_goals
            go_wp2
            go_meet
            case rel =>
              have hp := HP.out
              have z0 := HZ.out 0 (by omega)
              have z1 := HZ.out 1 (by omega)
              have z2 := HZ.out 2 (by omega)
              exact ⟨by simp [kindOf, z0, z1, z2, hp], by simpa [kindOf, z0, z1, z2, hp] using Aside0.mk (TS.kind T2.out hgw hwz 4).drew⟩
        · have hpb : decide ((0 : Int) < (n 3 : Int)) = false := by simp; omega
          have HP := Lib.hid hp
          clear hp
          go_wp2
          obtain ⟨k1, hk1⟩ : ∃ k1, gk = k1 + 1 := ⟨gk - 1, by have := HK1.out; omega⟩
          go_roundg k1
          case measure => omega
          case rel => exact ⟨4, rfl, by simp, ⟨by have := HK1.out; omega⟩, ⟨fun j hj => by
            have hp := HP.out
            rcases Nat.lt_or_ge j 3 with h | h
            · exact HZ.out j h
            · obtain rfl : j = 3 := by omega
              omega⟩, T2⟩
      · have c0 : wr.cell? ⟨w1.heap.size + 1, 8, none⟩ = some (.int .i64 5) := (blk_cell hk 8).trans rfl
        have c1 : wr.cell? ⟨w1.heap.size + 1, 9, none⟩ = some (.func (.func 49) #[.pointer (some ⟨g, 0, none⟩)] #[]) := (blk_cell hk 9).trans rfl
        clear hk htb
        go_wp2_with fail
        refine (hn4.ask _ (HT.out.st.alloc _) (below_alloc HT.out.be _)).mono ?_
        rintro e w2 ⟨rfl, p1, p2, p3⟩
        have T2 := Aside0.mk (TS.call (HT.out.alloc _) hgw p1 p2 p3)
        have hv := p3.blk (blk_new wr _) (by omega) (by simp)
        have v0 : w2.cell? ⟨wr.heap.size, 0, none⟩ = some (.int .i64 5) := (blk_cell hv 0).trans rfl
        have t0 : w2.cell? ⟨w1.heap.size, 0, none⟩ = some (.int .i64 8) := (blk_cell T2.out.tb 0).trans rfl
        have tf0 : w2.frozen? ⟨w1.heap.size, 0, none⟩ = false := blk_frozen T2.out.tb 0
        clear p1 p2 p3 hv c0 c1
        by_cases hp : 0 < n 4
        · have hpb : decide ((0 : Int) < (n 4 : Int)) = true := by simp; omega
          have HP := Lib.hid hp
          clear hp
          go_wp2
          go_region
          all_goals
            go_wp2
            go_meet
            case rel =>
              have hp := HP.out
              have z0 := HZ.out 0 (by omega)
              have z1 := HZ.out 1 (by omega)
              have z2 := HZ.out 2 (by omega)
              have z3 := HZ.out 3 (by omega)
              exact ⟨by simp [kindOf, z0, z1, z2, z3, hp], by simpa [kindOf, z0, z1, z2, z3, hp] using Aside0.mk (TS.kind T2.out hgw hwz 5).drew⟩
        · have hpb : decide ((0 : Int) < (n 4 : Int)) = false := by simp; omega
          have HP := Lib.hid hp
          clear hp
          go_wp2
          obtain ⟨k1, hk1⟩ : ∃ k1, gk = k1 + 1 := ⟨gk - 1, by have := HK1.out; omega⟩
          go_roundg k1
          case measure => omega
          case rel => exact ⟨5, rfl, by simp, ⟨by have := HK1.out; omega⟩, ⟨fun j hj => by
            have hp := HP.out
            rcases Nat.lt_or_ge j 4 with h | h
            · exact HZ.out j h
            · obtain rfl : j = 4 := by omega
              omega⟩, T2⟩
      · have c0 : wr.cell? ⟨w1.heap.size + 1, 10, none⟩ = some (.int .i64 6) := (blk_cell hk 10).trans rfl
        have c1 : wr.cell? ⟨w1.heap.size + 1, 11, none⟩ = some (.func (.func 50) #[.pointer (some ⟨g, 0, none⟩)] #[]) := (blk_cell hk 11).trans rfl
        clear hk htb
        go_wp2_with fail
        refine (hn5.ask _ (HT.out.st.alloc _) (below_alloc HT.out.be _)).mono ?_
        rintro e w2 ⟨rfl, p1, p2, p3⟩
        have T2 := Aside0.mk (TS.call (HT.out.alloc _) hgw p1 p2 p3)
        have hv := p3.blk (blk_new wr _) (by omega) (by simp)
        have v0 : w2.cell? ⟨wr.heap.size, 0, none⟩ = some (.int .i64 6) := (blk_cell hv 0).trans rfl
        have t0 : w2.cell? ⟨w1.heap.size, 0, none⟩ = some (.int .i64 8) := (blk_cell T2.out.tb 0).trans rfl
        have tf0 : w2.frozen? ⟨w1.heap.size, 0, none⟩ = false := blk_frozen T2.out.tb 0
        clear p1 p2 p3 hv c0 c1
        by_cases hp : 0 < n 5
        · have hpb : decide ((0 : Int) < (n 5 : Int)) = true := by simp; omega
          have HP := Lib.hid hp
          clear hp
          go_wp2
          go_region
          all_goals
            go_wp2
            go_meet
            case rel =>
              have hp := HP.out
              have z0 := HZ.out 0 (by omega)
              have z1 := HZ.out 1 (by omega)
              have z2 := HZ.out 2 (by omega)
              have z3 := HZ.out 3 (by omega)
              have z4 := HZ.out 4 (by omega)
              exact ⟨by simp [kindOf, z0, z1, z2, z3, z4, hp], by simpa [kindOf, z0, z1, z2, z3, z4, hp] using Aside0.mk (TS.kind T2.out hgw hwz 6).drew⟩
        · have hpb : decide ((0 : Int) < (n 5 : Int)) = false := by simp; omega
          have HP := Lib.hid hp
          clear hp
          go_wp2
          obtain ⟨k1, hk1⟩ : ∃ k1, gk = k1 + 1 := ⟨gk - 1, by have := HK1.out; omega⟩
          go_roundg k1
          case measure => omega
          case rel => exact ⟨6, rfl, by simp, ⟨by have := HK1.out; omega⟩, ⟨fun j hj => by
            have hp := HP.out
            rcases Nat.lt_or_ge j 5 with h | h
            · exact HZ.out j h
            · obtain rfl : j = 5 := by omega
              omega⟩, T2⟩
      · go_wp2
        go_meet
        case rel =>
          have z0 := HZ.out 0 (by omega)
          have z1 := HZ.out 1 (by omega)
          have z2 := HZ.out 2 (by omega)
          have z3 := HZ.out 3 (by omega)
          have z4 := HZ.out 4 (by omega)
          have z5 := HZ.out 5 (by omega)
          exact ⟨by simp [kindOf, z0, z1, z2, z3, z4, z5], by simpa [kindOf, z0, z1, z2, z3, z4, z5] using HT⟩
  case rest =>
    obtain ⟨rfl, HT⟩ := hcut
    clear T0
    obtain ⟨A4, c4, hG, hg4, hr4⟩ := HT.out.st
    have hc0 := cellS48_0 hG
    have hc1 := cellS48_1 hG
    have hc2 := cellS48_2 hG
    have hf1 := blk_frozen hG 1
    have hf4 := blk_frozen hG 4
    have t0 := (blk_cell HT.out.tb 0).trans rfl
    have t2 : wc.cell? ⟨w1.heap.size, 2, none⟩ = some (.string ⟨#[]⟩) := (blk_cell HT.out.tb 2).trans rfl
    have tf2 : wc.frozen? ⟨w1.heap.size, 2, none⟩ = false := blk_frozen HT.out.tb 2
    have hle := HLE.out
    have b1 : (0 : Int) ≤ (a1 : Int) := by omega
    have b2 : (a1 : Int) ≤ (a1 : Int) + ((kindOf n).2 : Int) := by omega
    have b3 : (a1 : Int) + ((kindOf n).2 : Int) ≤ (s.size : Int) := by omega
    clear hG hg4 hr4
    have hmB := HT.out.ke.blk HOB.out hBg (by simp)
    have htl : w1.heap.size < wc.heap.size := blk_lt HT.out.tb
    have hgl : g < wc.heap.size := HT.out.st.lt
    have htx : (s.extract a1 (a1 + (kindOf n).2)).size ≤ 200000 := by rw [← bl_length, extract_bl, List.length_take, List.length_drop, bl_length]; omega
    have HW2 : Hid ((Instr.lookup 46 (.map (some B)) (.string (s.extract a1 (a1 + (kindOf n).2))) false).run Tryd.prog (wc.setCell ⟨w1.heap.size, 2, none⟩ (.string (s.extract a1 (a1 + (kindOf n).2)))).drew.drew = .ok (.bool (ck (s.extract a1 (a1 + (kindOf n).2)))) (wc.setCell ⟨w1.heap.size, 2, none⟩ (.string (s.extract a1 (a1 + (kindOf n).2)))).drew.drew) :=
      Lib.hid (HLOOK.out _ (blk_drew (blk_drew ((Below.heap_setCell wc ⟨w1.heap.size, 2, none⟩ _ B (by show B ≠ w1.heap.size; omega)).trans hmB))) _ htx)
    clear hmB
    have tf0 : wc.frozen? ⟨w1.heap.size, 0, none⟩ = false := blk_frozen HT.out.tb 0
    have TX := Aside0.mk (TS.text HT.out hgw hwz (s.extract a1 (a1 + (kindOf n).2)))
    clear HT
    go_wp2
    go_region
    go_wp2
    go_cut [90] (fun v90 wd => v90 = .bool (decide ((kindOf n).1 = 1) && ck (s.extract a1 (a1 + (kindOf n).2))) ∧ Aside0 (TT w0 w g s a a1 B sg f1 w1.heap.size (kindOf n).1 (s.extract a1 (a1 + (kindOf n).2)) wd))
    case first =>
      by_cases hk1 : (kindOf n).1 = 1
      · have hkb : (((kindOf n).1 : Int) == 1) = true := by simp [hk1]
        have hlk := HW2.out
        have HK1 := Lib.hid hk1
        clear hk1
        go_region
        go_wp2
        go_meet
        case rel => exact ⟨by simp [HK1.out], ⟨by simpa using TX.out.drew.drew⟩⟩
      · have hkb : (((kindOf n).1 : Int) == 1) = false := by rw [beq_eq_false_iff_ne]; omega
        have HK1 := Lib.hid hk1
        clear hk1
        go_quiet (fail)
        go_wp2
        go_meet
        case rel => exact ⟨by simp [HK1.out], ⟨by simpa using (TX.out.drew.drewN nq)⟩⟩
    case rest =>
      obtain ⟨rfl, HX⟩ := hcut
      clear TX HW2
      clear hc0 hc1 hc2 hf1 hf4 t0 t2 tf2 tf0 b1 htl hgl
      obtain ⟨A5, c5, hG5, -, -⟩ := HX.out.st
      have hc1 := cellS48_1 hG5
      have hf1 := blk_frozen hG5 1
      have hf4 := blk_frozen hG5 4
      have hc4 := cellS48_4 hG5
      have hb5 := HX.out.tb
      have hr5 := HX.out.rb
      have t0 : wc.cell? ⟨w1.heap.size, 0, none⟩ = some (.int .i64 (kindOf n).1) := (blk_cell hb5 0).trans rfl
      have t1 : wc.cell? ⟨w1.heap.size, 1, none⟩ = some (.string (s.extract a a1)) := (blk_cell hb5 1).trans rfl
      have t2 : wc.cell? ⟨w1.heap.size, 2, none⟩ = some (.string (s.extract a1 (a1 + (kindOf n).2))) := (blk_cell hb5 2).trans rfl
      have t3 : wc.cell? ⟨w1.heap.size, 3, none⟩ = some (.int .i64 a1) := (blk_cell hb5 3).trans rfl
      have tf0 : wc.frozen? ⟨w1.heap.size, 0, none⟩ = false := blk_frozen hb5 0
      have hr0 := (blk_cell hr5 0).trans rfl
      have hr1 := (blk_cell hr5 1).trans rfl
      have hr2 := (blk_cell hr5 2).trans rfl
      have hr3 := (blk_cell hr5 3).trans rfl
      have hrf0 := blk_frozen hr5 0
      have hrf1 := blk_frozen hr5 1
      have hrf2 := blk_frozen hr5 2
      have hrf3 := blk_frozen hr5 3
      have hgl : g < wc.heap.size := HX.out.st.lt
      have htl : w1.heap.size < wc.heap.size := blk_lt hb5
      have hrl : w.heap.size < wc.heap.size := blk_lt hr5
      have hne2 : w.heap.size ≠ w1.heap.size := by omega
      have hne3 : g ≠ w.heap.size := by omega
      clear hG5 hb5 hr5
      cases hkv : (decide ((kindOf n).1 = 1) && ck (s.extract a1 (a1 + (kindOf n).2)))
      · go_wp2
        have O := TT.out HX.out hgw hwz ((a1 : Int) + ((kindOf n).2 : Int))
        have hkd : keyed ck s a1 n = (kindOf n).1 := by
          rw [keyed, if_neg]
          rintro ⟨e1, e2⟩
          simp [e1, e2] at hkv
        refine bodyPost_ret (v := .agg #[.int .i64 (kindOf n).1, .string (s.extract a a1), .string (s.extract a1 (a1 + (kindOf n).2)), .int .i64 a1]) ?_ rfl ⟨by rw [hkd], by rw [Int.natCast_add]; exact O.1, O.2.1, O.2.2.1⟩
        exact results_cell_row rfl _ _ w.heap.size 30 #[.int .i64 (kindOf n).1, .string (s.extract a a1), .string (s.extract a1 (a1 + (kindOf n).2)), .int .i64 a1] (0, 0) _ rfl O.2.2.2 Tryd.underlying30 rfl (by kernel_rfl)
      · go_wp2
        have O := TT.out (TT.kind HX.out hgw hwz 2) hgw hwz ((a1 : Int) + ((kindOf n).2 : Int))
        have hkd : keyed ck s a1 n = 2 := by
          rw [keyed, if_pos]
          simpa using hkv
        refine bodyPost_ret (v := .agg #[.int .i64 2, .string (s.extract a a1), .string (s.extract a1 (a1 + (kindOf n).2)), .int .i64 a1]) ?_ rfl ⟨by rw [hkd]; rfl, by rw [Int.natCast_add]; exact O.1, O.2.1, O.2.2.1⟩
        exact results_cell_row rfl _ _ w.heap.size 30 #[.int .i64 2, .string (s.extract a a1), .string (s.extract a1 (a1 + (kindOf n).2)), .int .i64 a1] (0, 0) _ rfl O.2.2.2 Tryd.underlying30 rfl (by kernel_rfl)
end Go.Proofs.YtabnmkakgcifoaaDoor.PLex

namespace Go.Proofs.YtabnmkakgcifoaaDoor.PLex
open Go.RowKit Go.Proofs.YtabnmkakgcifoaaDoorW.PrintWords Go.Proofs.YtabnmkakgcifoaaDoorW.PrintLast Go.Proofs.YtabnmkakgcifoaaDoorW.PrintMore
def keysT' : List ByteArray := (Lib.fields keysT).map fun x => (⟨x.toArray⟩ : ByteArray)
def signsT' : List ByteArray := (Lib.fields signsT).map fun x => (⟨x.toArray⟩ : ByteArray)
theorem keys_f : lex_Keys.f = some keysT' := keys_eq
theorem signs_f : lex_Signs.f = some signsT' := signs_eq
def keysL : List (List UInt8) := ((rf2_Keys.f).getD []).map (·.data.toList)
def signsL : List (List UInt8) := ((rf2_Signs.f).getD []).map (·.data.toList)
theorem keysL_eq : keysL = keysT'.map (·.data.toList) := by rw [keysL, keys_eq]; rfl
theorem signsL_eq : signsL = signsT'.map (·.data.toList) := by rw [signsL, signs_eq]; rfl
theorem signs_size : signsT'.length ≤ 1000 ∧ ∀ t ∈ signsT', t.size ≤ 1000 := by
  refine ⟨by decide +kernel, ?_⟩
  have h : ∀ x ∈ Lib.fields signsT, x.length ≤ 1000 := by decide +kernel
  intro t ht
  obtain ⟨x, hx, rfl⟩ := List.mem_map.mp ht
  simpa [ByteArray.size] using h x hx
theorem signs_heads : (∀ s ∈ signsL, s.head? ≠ some 39) ∧ ∀ s ∈ signsL, s.head? ≠ some 34 := by
  rw [signsL_eq]
  have h : ∀ x ∈ Lib.fields signsT, x.head? ≠ some 39 ∧ x.head? ≠ some 34 := by decide +kernel
  have g : ∀ s ∈ signsT'.map (·.data.toList), s ∈ Lib.fields signsT := by
    intro s hs
    obtain ⟨t, ht, rfl⟩ := List.mem_map.mp hs
    obtain ⟨x, hx, rfl⟩ := List.mem_map.mp ht
    simpa using hx
  exact ⟨fun s hs => (h s (g s hs)).1, fun s hs => (h s (g s hs)).2⟩
/-- the next token, where the reading stands then, and whether the line is clear -/
def tokStep (s : ByteArray) (a : Nat) (f : Bool) : (Nat × ByteArray × ByteArray × Nat) × Nat × Bool :=
  let l := (bl s).drop a
  let p := Lx.pre l.length l f
  if l.drop p.1 = [] then ((0, s.extract a (a + p.1), ⟨#[]⟩, a + p.1), a + p.1, p.2)
  else
    let t := Lx.tok keysL signsL p.2 (l.drop p.1)
    ((t.1, s.extract a (a + p.1), s.extract (a + p.1) (a + p.1 + t.2), a + p.1), a + p.1 + t.2, false)
theorem bl_inj {x y : ByteArray} (h : bl x = bl y) : x = y := by
  have h' : x.data.toList = y.data.toList := h
  cases x; cases y
  congr 1
  exact Array.toList_inj.mp h'
theorem kinds_kindOf (n : Nat → Nat) : kindOf n = Lx.kinds n := rfl
theorem pre_le : ∀ (n : Nat) (l : List UInt8) (f : Bool), (Lx.pre n l f).1 ≤ l.length := by
  intro n
  induction n with
  | zero => intro l f; simp [Lx.pre]
  | succ n ih =>
    intro l f
    unfold Lx.pre
    dsimp only
    split
    · simp
    · have h1 := piece_le l
      have h2 := ih (l.drop (Lx.piece l)) (Lx.clearAfter l (Lx.piece l) f)
      simp only [List.length_drop] at h2
      show Lx.piece l + _ ≤ _
      omega
set_option maxHeartbeats 1000000 in
theorem token_calls (g : Nat) (s : ByteArray) (a B : Nat) (o : Obj) (f : Bool) (w0 w : World) (hI : IsS48 w0 w g s a (some B) signsT' f) (hB : Below w0.heap.size w0 w) (hGl : Glob w0)
    (hs : s.size ≤ 200000) (ha : a ≤ s.size) (hob : w.heap[B]? = some o) (hBg : B ≠ g)
    (hlook : ∀ W' : World, W'.heap[B]? = some o → ∀ key : ByteArray, key.size ≤ 200000 → (Instr.lookup 46 (.map (some B)) (.string key) false).run Tryd.prog W' = .ok (.bool (keysL.contains key.data.toList)) W') :
    Calls Tryd.prog 31 #[.pointer (some ⟨g, 0, none⟩)] w fun e w' => e = .returned (.agg #[.int .i64 ((tokStep s a f).1.1 : Nat), .string (tokStep s a f).1.2.1, .string (tokStep s a f).1.2.2.1, .int .i64 ((tokStep s a f).1.2.2.2 : Nat)])
      ∧ IsS48 w0 w' g s ((tokStep s a f).2.1 : Nat) (some B) signsT' (tokStep s a f).2.2 ∧ Below w0.heap.size w0 w' ∧ KeepBut w w' g none := by
  obtain ⟨k, hk⟩ := before_eq s hs a ha (some B) signsT' f
  unfold tokStep
  dsimp only
  generalize hp : Lx.pre ((bl s).drop a).length ((bl s).drop a) f = p at hk
  have hple : p.1 ≤ s.size - a := by
    have := pre_le ((bl s).drop a).length ((bl s).drop a) f
    rw [hp] at this
    simpa [bl_length] using this
  generalize ha1 : a + p.1 = a1 at hk
  have hl1 : ((bl s).drop a).drop p.1 = (bl s).drop a1 := by rw [List.drop_drop, ha1]
  rw [hl1]
  have ha1s : a1 ≤ s.size := by omega
  by_cases hend : (bl s).drop a1 = []
  · have hsz : a1 = s.size := by
      have := congrArg List.length hend
      simp only [List.length_drop, bl_length, List.length_nil] at this
      omega
    rw [if_pos hend]
    exact token_end g s a a1 (some B) signsT' f p.2 w0 w hI hB hGl k hk (by simp [hsz]) hs
  · rw [if_neg hend]
    obtain ⟨c, r, hcr⟩ : ∃ c r, (bl s).drop a1 = c :: r := by
      cases h : (bl s).drop a1 with
      | nil => exact absurd h hend
      | cons c r => exact ⟨c, r, rfl⟩
    have hlen : r.length + 1 = s.size - a1 := by
      have := congrArg List.length hcr
      simp only [List.length_drop, bl_length, List.length_cons] at this
      omega
    rw [hcr]
    have T := Lx.tok_kinds keysL signsL p.2 c r signs_heads.1 signs_heads.2
    generalize ht : Lx.tok keysL signsL p.2 (c :: r) = t at T
    obtain ⟨t1, t2, t3, t4⟩ := T
    have hx : s.extract a1 (a1 + t.2) = ⟨((c :: r).take t.2).toArray⟩ := by
      apply bl_inj
      rw [extract_bl, hcr, Nat.add_sub_cancel_left]
    have A0 : Asks w0 g s a1 (some B) signsT' p.2 45 (Lx.nOf signsL p.2 c r 0) := by
      obtain ⟨k0, h0⟩ := (line_eq s hs a1 ha1s (some B) signsT' p.2 _ hcr c r rfl).rounds
      exact ⟨fun W h1 h2 => lsc_line.calls k0 g s a1 (some B) signsT' p.2 _ _ _ _ _ w0 W h1 h2 h0⟩
    have A1 : Asks w0 g s a1 (some B) signsT' p.2 46 (Lx.nOf signsL p.2 c r 1) := by
      obtain ⟨k0, h0⟩ := (name_eq s hs a1 ha1s (some B) signsT' p.2 _ hcr).rounds
      exact ⟨fun W h1 h2 => lsc_name.calls k0 g s a1 (some B) signsT' p.2 _ _ _ _ _ w0 W h1 h2 h0⟩
    have A2 : Asks w0 g s a1 (some B) signsT' p.2 47 (Lx.nOf signsL p.2 c r 2) := by
      obtain ⟨k0, h0⟩ := (number_eq s hs a1 ha1s (some B) signsT' p.2 _ hcr c r rfl).rounds
      exact ⟨fun W h1 h2 => lsc_number.calls k0 g s a1 (some B) signsT' p.2 _ _ _ _ _ w0 W h1 h2 h0⟩
    have A3 : Asks w0 g s a1 (some B) signsT' p.2 48 (Lx.nOf signsL p.2 c r 3) := by
      obtain ⟨k0, h0⟩ := (quoted_eq s hs a1 ha1s (some B) signsT' p.2 _ hcr 39 (by decide) c r rfl).rounds
      have h1 : lsc_char.f k0 s a1 (some B) signsT' p.2 = some (((Lx.nOf signsL p.2 c r 3 : Nat) : Int), s, (a1 : Int), some B, p.2) := by
        unfold lsc_char.f
        refine (congrArg (fun q => Option.bind q _) h0).trans ?_
        rw [Option.bind_some]
        cases hq : Lx.quoted 39 r <;> simp [Lx.nOf, Lx.qlen, qend, hq]
      exact ⟨fun W h1' h2 => lsc_char.calls k0 g s a1 (some B) signsT' p.2 _ _ _ _ _ w0 W h1' h2 h1⟩
    have A4 : Asks w0 g s a1 (some B) signsT' p.2 49 (Lx.nOf signsL p.2 c r 4) := by
      obtain ⟨k0, h0⟩ := (quoted_eq s hs a1 ha1s (some B) signsT' p.2 _ hcr 34 (by decide) c r rfl).rounds
      have h1 : lsc_text.f k0 s a1 (some B) signsT' p.2 = some (((Lx.nOf signsL p.2 c r 4 : Nat) : Int), s, (a1 : Int), some B, p.2) := by
        unfold lsc_text.f
        refine (congrArg (fun q => Option.bind q _) h0).trans ?_
        rw [Option.bind_some]
        cases hq : Lx.quoted 34 r <;> simp [Lx.nOf, Lx.qlen, qend, hq]
      exact ⟨fun W h1' h2 => lsc_text.calls k0 g s a1 (some B) signsT' p.2 _ _ _ _ _ w0 W h1' h2 h1⟩
    have A5 : Asks w0 g s a1 (some B) signsT' p.2 50 (Lx.nOf signsL p.2 c r 5) := by
      obtain ⟨k0, h0⟩ := (sign_eq s a1 ha1s (some B) signsT' p.2 _ hcr signs_size.1 signs_size.2).rounds
      have e : signsOf signsT' = signsL := signsL_eq.symm
      rw [e] at h0
      exact ⟨fun W h1 h2 => lsc_sign.calls k0 g s a1 (some B) signsT' p.2 _ _ _ _ _ w0 W h1 h2 h0⟩
    have G := token_go g s a a1 B o signsT' f p.2 w0 w hI hB hGl k hk (by rw [beq_eq_false_iff_ne]; omega) hs (by omega) _ A0 A1 A2 A3 A4 A5
      (by rw [kinds_kindOf, ← t1]; omega) (fun x => keysL.contains x.data.toList) hob hBg hlook
    rw [kinds_kindOf, ← t1] at G
    have hkd : keyed (fun x => keysL.contains x.data.toList) s a1 (Lx.nOf signsL p.2 c r) = t.1 := by
      rw [keyed, kinds_kindOf, ← t1, hx, t2, ← t1]
    rw [hkd] at G
    exact G
end Go.Proofs.YtabnmkakgcifoaaDoor.PLex

namespace Go.Proofs.YtabnmkakgcifoaaDoor.PLex
open Go.RowKit Go.Proofs.YtabnmkakgcifoaaDoorW.PrintWords Go.Proofs.YtabnmkakgcifoaaDoorW.PrintLast Go.Proofs.YtabnmkakgcifoaaDoorW.PrintMore
def toS (t : Lx.Tok) : S30 := ⟨t.kind, ⟨t.before.toArray⟩, ⟨t.text.toArray⟩, t.at_⟩
def tokS (x : Nat × ByteArray × ByteArray × Nat) : S30 := ⟨x.1, x.2.1, x.2.2.1, x.2.2.2⟩
theorem kinds_ne (n : Nat → Nat) : (Lx.kinds n).1 ≠ 0 := by
  unfold Lx.kinds
  repeat' split
  all_goals simp
theorem mk_bl (x : ByteArray) (l : List UInt8) (h : bl x = l) : (⟨l.toArray⟩ : ByteArray) = x := bl_inj (by rw [h])
theorem go_succ (keys signs : List (List UInt8)) (k : Nat) (l : List UInt8) (at_ : Nat) (f : Bool) : Lx.go keys signs (k + 1) l at_ f =
    (if l.drop (Lx.pre l.length l f).1 = [] then [⟨0, l, [], at_ + l.length⟩]
     else ⟨(Lx.tok keys signs (Lx.pre l.length l f).2 (l.drop (Lx.pre l.length l f).1)).1, l.take (Lx.pre l.length l f).1, (l.drop (Lx.pre l.length l f).1).take (Lx.tok keys signs (Lx.pre l.length l f).2 (l.drop (Lx.pre l.length l f).1)).2, at_ + (Lx.pre l.length l f).1⟩ ::
      Lx.go keys signs k ((l.drop (Lx.pre l.length l f).1).drop (Lx.tok keys signs (Lx.pre l.length l f).2 (l.drop (Lx.pre l.length l f).1)).2) (at_ + (Lx.pre l.length l f).1 + (Lx.tok keys signs (Lx.pre l.length l f).2 (l.drop (Lx.pre l.length l f).1)).2) false) := rfl
theorem tokStep_end (s : ByteArray) (a : Nat) (f : Bool) (p : Nat × Bool) (hp : Lx.pre ((bl s).drop a).length ((bl s).drop a) f = p) (h : (bl s).drop (a + p.1) = []) :
    tokStep s a f = ((0, s.extract a (a + p.1), ⟨#[]⟩, a + p.1), a + p.1, p.2) := by
  subst hp
  unfold tokStep
  dsimp only
  rw [if_pos (by rw [List.drop_drop]; exact h)]
theorem tokStep_go (s : ByteArray) (a : Nat) (f : Bool) (p t) (hp : Lx.pre ((bl s).drop a).length ((bl s).drop a) f = p) (h : (bl s).drop (a + p.1) ≠ []) (ht : Lx.tok keysL signsL p.2 ((bl s).drop (a + p.1)) = t) :
    tokStep s a f = ((t.1, s.extract a (a + p.1), s.extract (a + p.1) (a + p.1 + t.2), a + p.1), a + p.1 + t.2, false) := by
  subst hp ht
  unfold tokStep
  dsimp only
  rw [if_neg (by rw [List.drop_drop]; exact h), List.drop_drop]
theorem go_end (k : Nat) (s : ByteArray) (a : Nat) (f : Bool) (p : Nat × Bool) (hp : Lx.pre ((bl s).drop a).length ((bl s).drop a) f = p) (h : (bl s).drop (a + p.1) = []) :
    Lx.go keysL signsL (k + 1) ((bl s).drop a) a f = [⟨0, (bl s).drop a, [], a + ((bl s).drop a).length⟩] := by
  subst hp
  rw [go_succ, if_pos (by rw [List.drop_drop]; exact h)]
theorem go_go (k : Nat) (s : ByteArray) (a : Nat) (f : Bool) (p t) (hp : Lx.pre ((bl s).drop a).length ((bl s).drop a) f = p) (h : (bl s).drop (a + p.1) ≠ []) (ht : Lx.tok keysL signsL p.2 ((bl s).drop (a + p.1)) = t) :
    Lx.go keysL signsL (k + 1) ((bl s).drop a) a f = ⟨t.1, ((bl s).drop a).take p.1, ((bl s).drop (a + p.1)).take t.2, a + p.1⟩ :: Lx.go keysL signsL k ((bl s).drop (a + p.1 + t.2)) (a + p.1 + t.2) false := by
  subst hp ht
  rw [go_succ, if_neg (by rw [List.drop_drop]; exact h), List.drop_drop, List.drop_drop]
theorem go_step (s : ByteArray) (a : Nat) (f : Bool) (k : Nat) (ha : a ≤ s.size) :
    (Lx.go keysL signsL (k + 1) ((bl s).drop a) a f).map toS = tokS (tokStep s a f).1 :: (if (tokStep s a f).1.1 = 0 then [] else (Lx.go keysL signsL k ((bl s).drop (tokStep s a f).2.1) (tokStep s a f).2.1 (tokStep s a f).2.2).map toS)
    ∧ a ≤ (tokStep s a f).2.1 ∧ (tokStep s a f).2.1 ≤ s.size ∧ ((tokStep s a f).1.1 ≠ 0 → a < (tokStep s a f).2.1) := by
  have hll : ((bl s).drop a).length = s.size - a := by rw [List.length_drop, bl_length]
  obtain ⟨p, hp⟩ : ∃ p, Lx.pre ((bl s).drop a).length ((bl s).drop a) f = p := ⟨_, rfl⟩
  have hple : p.1 ≤ s.size - a := by
    have := pre_le ((bl s).drop a).length ((bl s).drop a) f
    rw [hp] at this
    omega
  by_cases hend : (bl s).drop (a + p.1) = []
  · have hsz : a + p.1 = s.size := by
      have := congrArg List.length hend
      simp only [List.length_drop, bl_length, List.length_nil] at this
      omega
    rw [tokStep_end s a f p hp hend, go_end k s a f p hp hend]
    refine ⟨?_, by show a ≤ a + p.1; omega, by show a + p.1 ≤ s.size; omega, fun h => absurd rfl h⟩
    have e1 : bl (s.extract a (a + p.1)) = (bl s).drop a := by rw [extract_bl, Nat.add_sub_cancel_left, List.take_of_length_le (by omega)]
    have e2 : a + ((bl s).drop a).length = a + p.1 := by omega
    simp only [List.map_cons, List.map_nil, toS, tokS, e2, mk_bl _ _ e1]
    rfl
  · obtain ⟨c, r, hcr⟩ : ∃ c r, (bl s).drop (a + p.1) = c :: r := by
      cases h : (bl s).drop (a + p.1) with
      | nil => exact absurd h hend
      | cons c r => exact ⟨c, r, rfl⟩
    have hlen : r.length + 1 = s.size - (a + p.1) := by
      have := congrArg List.length hcr
      simp only [List.length_drop, bl_length, List.length_cons] at this
      omega
    have T := Lx.tok_kinds keysL signsL p.2 c r signs_heads.1 signs_heads.2
    rw [← hcr] at T
    obtain ⟨t, ht⟩ : ∃ t, Lx.tok keysL signsL p.2 ((bl s).drop (a + p.1)) = t := ⟨_, rfl⟩
    rw [ht] at T
    obtain ⟨t1, t2, t3, t4⟩ := T
    have hk0 : t.1 ≠ 0 := by
      rw [t2]
      split
      · simp
      · exact kinds_ne _
    rw [tokStep_go s a f p t hp hend ht, go_go k s a f p t hp hend ht]
    dsimp only
    rw [if_neg hk0]
    have e1 : bl (s.extract a (a + p.1)) = ((bl s).drop a).take p.1 := by rw [extract_bl, Nat.add_sub_cancel_left]
    have e2 : bl (s.extract (a + p.1) (a + p.1 + t.2)) = ((bl s).drop (a + p.1)).take t.2 := by rw [extract_bl, Nat.add_sub_cancel_left]
    refine ⟨?_, by omega, by omega, fun _ => by omega⟩
    rw [List.map_cons]
    congr 1
    simp only [toS, tokS, mk_bl _ _ e1, mk_bl _ _ e2]
end Go.Proofs.YtabnmkakgcifoaaDoor.PLex

namespace Go.Proofs.YtabnmkakgcifoaaDoor.PLex
open Go.RowKit Go.Proofs.YtabnmkakgcifoaaDoorW.PrintWords Go.Proofs.YtabnmkakgcifoaaDoorW.PrintLast Go.Proofs.YtabnmkakgcifoaaDoorW.PrintMore
/-- the byte at a place, 0 behind the end -/
def B (s : ByteArray) (i : Nat) : UInt8 := ((bl s).drop i).headD 0
theorem bt_B (s : ByteArray) (i : Nat) (h : i < s.size) : bt s (i : Int) = ((B s i).toNat : Int) := by
  cases hd : (bl s).drop i with
  | nil => have := drop_nil hd; omega
  | cons c r =>
    rw [(drop_cons hd).2.1, B, hd]; rfl
theorem drop_B (s : ByteArray) (i : Nat) (h : i < s.size) : (bl s).drop i = B s i :: (bl s).drop (i + 1) := by
  cases hd : (bl s).drop i with
  | nil => have := drop_nil hd; omega
  | cons c r => rw [(drop_cons hd).2.2.1, B, hd]; rfl
theorem drop_end (s : ByteArray) (i : Nat) (h : s.size ≤ i) : (bl s).drop i = [] := by
  rw [List.drop_eq_nil_iff, bl_length]; exact h
theorem nI (c d : UInt8) : ((c.toNat : Int) = (d.toNat : Int)) ↔ c = d := by rw [← UInt8.toNat_inj]; omega
section
variable (s : ByteArray) (hs : s.size ≤ 140737488355328)
include hs
theorem rnumber_j1 (i : Nat) (hi : i ≤ s.size) (c : UInt8) (b : Bool) (k : Nat) : rf2_number.j1 (k + 1) s i (c.toNat : Int) b = if (Lx.isLD c || c == 46 || b) = true then rf2_number.l0 k s ((i + 1 : Nat) : Int) else some (i : Int) := by
  rw [rf2_number.j1, rletter_eq, Option.bind_some, rdigit_eq, Option.bind_some, w64 (by omega) (by omega)]
  simp only [ci46]
  by_cases h1 : Lx.isL c = true
  · rw [if_pos h1, if_pos (by simp [Lx.isLD, h1])]; rfl
  rw [if_neg h1]
  by_cases h2 : Lx.isD c = true
  · rw [if_pos h2, if_pos (by simp [Lx.isLD, h2])]; rfl
  rw [if_neg h2]
  by_cases h3 : c = 46
  · rw [if_pos h3, if_pos (by simp [Lx.isLD, h3])]; rfl
  rw [if_neg h3]
  by_cases h4 : b = true
  · rw [if_pos h4, if_pos (by simp [Lx.isLD, h4])]; rfl
  rw [if_neg h4, if_neg (by simp [Lx.isLD, h1, h2, h3, h4])]
theorem rnumber_ev : ∀ (m i : Nat), s.size < i + m → 1 ≤ i → i ≤ s.size → Ev (fun k => rf2_number.l0 k s i) ((i + Lx.numRest (B s (i - 1)) ((bl s).drop i) : Nat) : Int) := by
  intro m
  induction m with
  | zero => intro i hm h1 hi; omega
  | succ m ih =>
    intro i hm h1 hi
    by_cases hlt : i < s.size
    · have e := ih (i + 1) (by omega) (by omega) (by omega)
      rw [Nat.add_sub_cancel] at e
      have hB := bt_B s i hlt
      have hB1 := bt_B s (i - 1) (by omega)
      rw [drop_B s i hlt]
      generalize B s i = c at *
      generalize B s (i - 1) = p at *
      have head : ∀ k, rf2_number.l0 (k + 1) s i = rf2_number.j1 k s i (c.toNat : Int) ((c == 43 || c == 45) && (p == 101 || p == 69)) := by
        intro k
        rw [rf2_number.l0, if_pos (by omega), if_pos (by omega), w64 (by omega) (by omega), show ((i : Int) - 1) = ((i - 1 : Nat) : Int) by omega, hB, hB1, if_pos (show (0 : Int) ≤ ((i - 1 : Nat) : Int) by omega), if_pos (show ((i - 1 : Nat) : Int) < (s.size : Int) by omega)]
        simp only [ci43, ci45, ci101]
        rw [show ((p.toNat : Int) == 69) = (p == 69) by rw [Bool.eq_iff_iff, beq_iff_eq, beq_iff_eq]; exact ci69 p]
        by_cases h43 : c = 43
        · rw [if_pos h43]
          by_cases h101 : p = 101
          · rw [if_pos h101]; simp [h43, h101]
          · rw [if_neg h101, bf h101]; simp [h43]
        · rw [if_neg h43]
          by_cases h45 : c = 45
          · rw [if_pos h45]
            by_cases h101 : p = 101
            · rw [if_pos h101]; simp [h45, h101]
            · rw [if_neg h101, bf h101]; simp [h45]
          · rw [if_neg h45, bf h43, bf h45]; rfl
      unfold Lx.numRest
      by_cases hc : (Lx.isLD c || c == 46 || ((c == 43 || c == 45) && (p == 101 || p == 69))) = true
      · rw [if_pos hc]
        rw [show i + (Lx.numRest c ((bl s).drop (i + 1)) + 1) = i + 1 + Lx.numRest c ((bl s).drop (i + 1)) by omega]
        exact Ev.step head (Ev.step (fun k => (rnumber_j1 s hs i hi c _ k).trans (if_pos hc)) e)
      · rw [if_neg hc]
        exact Ev.step head (Ev.step (fun k => (rnumber_j1 s hs i hi c _ k).trans (if_neg hc)) (Ev.now _))
    · rw [drop_end s i (by omega)]
      refine Ev.step (fun k => ?_) (Ev.now _)
      rw [rf2_number.l0, if_neg (by omega)]
      rfl
theorem rnumber_eq (a : Nat) (ha : a < s.size) : Ev (fun k => rf2_number.f k s a) ((a + (Lx.numRest (B s a) ((bl s).drop (a + 1)) + 1) : Nat) : Int) := by
  have e := rnumber_ev s hs (s.size + 1) (a + 1) (by omega) (by omega) (by omega)
  rw [Nat.add_sub_cancel] at e
  rw [show a + (Lx.numRest (B s a) ((bl s).drop (a + 1)) + 1) = a + 1 + Lx.numRest (B s a) ((bl s).drop (a + 1)) by omega]
  refine Ev.congr (fun k => ?_) e
  unfold rf2_number.f
  rw [w64 (by omega) (by omega)]
  rfl
def qat (a i : Nat) : Option Nat → Nat
  | some q => i + q
  | none => a
theorem rquoted_ev (a : Nat) (ha : a < s.size) (hm10 : B s a ≠ 10) : ∀ (m i : Nat), s.size + 1 < i + m → i ≤ s.size + 1 → Ev (fun k => rf2_quoted.l0 k s a i) ((qat a i (Lx.quoted (B s a) ((bl s).drop i)) : Nat) : Int) := by
  have hBa := bt_B s a ha
  intro m
  induction m with
  | zero => intro i hm hi; omega
  | succ m ih =>
    intro i hm hi
    by_cases hlt : i < s.size
    · have hB := bt_B s i hlt
      have head : ∀ k, rf2_quoted.l0 (k + 1) s a i = rf2_quoted.j1 k s a i (B s i != 10) := by
        intro k
        rw [rf2_quoted.l0, if_pos (by omega), if_pos (by omega), hB]
        congr 1
        rw [Bool.eq_iff_iff, bne_iff_ne, bne_iff_ne, ne_eq, ci10]
      by_cases h10 : B s i = 10
      · have hq : Lx.quoted (B s a) ((bl s).drop i) = none := by
          rw [drop_B s i hlt, h10]
          cases hd : (bl s).drop (i + 1) with
          | nil => unfold Lx.quoted; rw [if_neg (fun h => hm10 h.symm)]
          | cons d r => unfold Lx.quoted; rw [if_neg (fun h => hm10 h.symm), if_pos rfl]
        rw [hq]
        refine Ev.step head (Ev.step (fun k => ?_) (Ev.now _))
        rw [rf2_quoted.j1, h10, if_neg (by decide)]
        rfl
      · have hn : (B s i != 10) = true := by simpa using h10
        have j1 : ∀ k, rf2_quoted.j1 (k + 1) s a i (B s i != 10) = if B s i = B s a then some ((i + 1 : Nat) : Int) else if B s i = 92 then (if i + 1 < s.size then (if B s (i + 1) = 10 then some (a : Int) else rf2_quoted.l0 k s a ((i + 2 : Nat) : Int)) else rf2_quoted.l0 k s a ((i + 2 : Nat) : Int)) else rf2_quoted.l0 k s a ((i + 1 : Nat) : Int) := by
          intro k
          rw [rf2_quoted.j1, if_pos hn, if_pos (by omega), if_pos (by omega), if_pos (by omega), if_pos (by omega), hB, hBa, w64 (by omega) (by omega), w64 (by omega) (by omega)]
          simp only [nI, ci92]
          rw [show ((i : Int) + 1) = ((i + 1 : Nat) : Int) by omega, show (((i + 1 : Nat) : Int) + 1) = ((i + 2 : Nat) : Int) by omega]
          by_cases hc : B s i = B s a
          · rw [if_pos hc, if_pos hc]
          · rw [if_neg hc, if_neg hc]
            by_cases h92 : B s i = 92
            · rw [if_pos h92, if_pos h92]
              by_cases hl2 : i + 1 < s.size
              · rw [if_pos (by omega), if_pos (by omega), if_pos hl2, bt_B s (i + 1) hl2]
                simp only [ci10]
              · rw [if_neg (by omega), if_neg hl2]
            · rw [if_neg h92, if_neg h92]
        refine Ev.step head ?_
        rw [drop_B s i hlt]
        by_cases hc : B s i = B s a
        · have hq : Lx.quoted (B s a) (B s i :: (bl s).drop (i + 1)) = some 1 := by
            cases hd : (bl s).drop (i + 1) with
            | nil => unfold Lx.quoted; rw [if_pos hc]
            | cons d r => unfold Lx.quoted; rw [if_pos hc]
          rw [hq]
          exact Ev.step (fun k => (j1 k).trans (if_pos hc)) (Ev.now _)
        · by_cases h92 : B s i = 92
          · by_cases hl2 : i + 1 < s.size
            · rw [drop_B s (i + 1) hl2]
              by_cases hd10 : B s (i + 1) = 10
              · have hq : Lx.quoted (B s a) (B s i :: B s (i + 1) :: (bl s).drop (i + 1 + 1)) = none := by
                  unfold Lx.quoted
                  rw [if_neg hc, if_neg h10, if_pos h92, if_pos hd10]
                rw [hq]
                exact Ev.step (fun k => (j1 k).trans ((if_neg hc).trans ((if_pos h92).trans ((if_pos hl2).trans (if_pos hd10))))) (Ev.now _)
              · have e := ih (i + 2) (by omega) (by omega)
                have hq : Lx.quoted (B s a) (B s i :: B s (i + 1) :: (bl s).drop (i + 1 + 1)) = (Lx.quoted (B s a) ((bl s).drop (i + 2))).map (· + 2) := by
                  rw [Lx.quoted, if_neg hc, if_neg h10, if_pos h92, if_neg hd10]
                rw [hq]
                rw [show qat a i ((Lx.quoted (B s a) ((bl s).drop (i + 2))).map (· + 2)) = qat a (i + 2) (Lx.quoted (B s a) ((bl s).drop (i + 2))) by
                  cases Lx.quoted (B s a) ((bl s).drop (i + 2)) with
                  | none => rfl
                  | some q => show i + (q + 2) = i + 2 + q; omega]
                exact Ev.step (fun k => (j1 k).trans ((if_neg hc).trans ((if_pos h92).trans ((if_pos hl2).trans (if_neg hd10))))) e
            · have e := ih (i + 2) (by omega) (by omega)
              rw [drop_end s (i + 2) (by omega)] at e
              rw [drop_end s (i + 1) (by omega)]
              have hq : Lx.quoted (B s a) [B s i] = none := by unfold Lx.quoted; rw [if_neg hc]
              rw [hq]
              exact Ev.step (fun k => (j1 k).trans ((if_neg hc).trans ((if_pos h92).trans (if_neg hl2)))) e
          · have e := ih (i + 1) (by omega) (by omega)
            have hq : qat a i (Lx.quoted (B s a) (B s i :: (bl s).drop (i + 1))) = qat a (i + 1) (Lx.quoted (B s a) ((bl s).drop (i + 1))) := by
              cases hd : (bl s).drop (i + 1) with
              | nil =>
                rw [show Lx.quoted (B s a) [B s i] = none by unfold Lx.quoted; rw [if_neg hc]]
                rfl
              | cons d r =>
                rw [Lx.quoted, if_neg hc, if_neg h10, if_neg h92]
                cases Lx.quoted (B s a) (d :: r) with
                | none => rfl
                | some q => show i + (q + 1) = i + 1 + q; omega
            rw [hq]
            exact Ev.step (fun k => (j1 k).trans ((if_neg hc).trans (if_neg h92))) e
    · rw [drop_end s i (by omega)]
      refine Ev.step (f := fun k => rf2_quoted.j1 k s a i false) (fun k => ?_) (Ev.step (fun k => ?_) (Ev.now _))
      · rw [rf2_quoted.l0, if_neg (by omega)]
      · rw [rf2_quoted.j1, if_neg (by decide)]
        rfl
theorem rquoted_eq (a : Nat) (ha : a < s.size) (hm10 : B s a ≠ 10) : Ev (fun k => rf2_quoted.f k s a) ((qat a (a + 1) (Lx.quoted (B s a) ((bl s).drop (a + 1))) : Nat) : Int) := by
  refine Ev.congr (fun k => ?_) (rquoted_ev s hs a ha hm10 (s.size + 2) (a + 1) (by omega) (by omega))
  unfold rf2_quoted.f
  rw [w64 (by omega) (by omega)]
  rfl
end
end Go.Proofs.YtabnmkakgcifoaaDoor.PLex

namespace Go.Proofs.YtabnmkakgcifoaaDoor.PLex
open Go.RowKit Go.Proofs.YtabnmkakgcifoaaDoorW.PrintWords Go.Proofs.YtabnmkakgcifoaaDoorW.PrintLast Go.Proofs.YtabnmkakgcifoaaDoorW.PrintMore
/-- a line's end, without a byte 13 ahead of its line feed -/
def lineFin (s : ByteArray) (e : Nat) : Nat := if e < s.size ∧ B s (e - 1) = 13 then e - 1 else e
/-- the choice of a round of line -/
def lineRound (x1 x5 C P Q : Int) (next : Option Int) (sz : Int) : Option Int :=
  if x5 < sz then (if 0 ≤ x5 then (if C = 10 then (if 0 ≤ x5 - 1 then (if x5 - 1 < sz then (if P = 92 then next else (if x5 - 2 ≥ x1 then (if P = 13 then (if 0 ≤ x5 - 2 then (if x5 - 2 < sz then (if Q = 92 then next else (if x5 - 1 > x1 then (some (x5 - 1)) else (some x5))) else (none)) else (none)) else (if x5 - 1 > x1 then (some x5) else (some x5))) else (if x5 - 1 > x1 then (if P = 13 then (some (x5 - 1)) else (some x5)) else (some x5)))) else (none)) else (none)) else next) else (none)) else (some x5)
theorem rline_head (s : ByteArray) (hs : s.size ≤ 140737488355328) (a i : Nat) (_hai : a ≤ i) (hi : i ≤ s.size) (k : Nat) :
    rf2_line.l0 (k + 1) s a i = lineRound a i (bt s i) (bt s ((i : Int) - 1)) (bt s ((i : Int) - 2)) (rf2_line.l0 k s a ((i : Int) + 1)) s.size := by
  rw [rf2_line.l0, w64 (x := (i : Int) - 1) (by omega) (by omega), w64 (x := (i : Int) - 2) (by omega) (by omega), w64 (x := (i : Int) + 1) (by omega) (by omega)]
  rfl
theorem lr_end {x1 x5 C P Q : Int} {next : Option Int} {sz : Int} (h : ¬ x5 < sz) : lineRound x1 x5 C P Q next sz = some x5 := if_neg h
theorem lr_next {x1 x5 C P Q : Int} {next : Option Int} {sz : Int} (h : x5 < sz) (h0 : 0 ≤ x5) (hC : C ≠ 10) : lineRound x1 x5 C P Q next sz = next := by
  unfold lineRound
  rw [if_pos h, if_pos h0, if_neg hC]
theorem lr_back {x1 x5 C P Q : Int} {next : Option Int} {sz : Int} (h : x5 < sz) (h0 : 1 ≤ x5) (hC : C = 10) (hP : P = 92) : lineRound x1 x5 C P Q next sz = next := by
  unfold lineRound
  rw [if_pos h, if_pos (by omega), if_pos hC, if_pos (by omega), if_pos (by omega), if_pos hP]
theorem lr_first {x1 x5 C P Q : Int} {next : Option Int} {sz : Int} (h : x5 < sz) (h0 : 1 ≤ x5) (hC : C = 10) (hP : P ≠ 92) (h1 : x5 - 1 = x1) : lineRound x1 x5 C P Q next sz = some x5 := by
  unfold lineRound
  rw [if_pos h, if_pos (by omega), if_pos hC, if_pos (by omega), if_pos (by omega), if_neg hP, if_neg (by omega), if_neg (by omega)]
theorem lr_plain {x1 x5 C P Q : Int} {next : Option Int} {sz : Int} (h : x5 < sz) (h0 : 2 ≤ x5) (hC : C = 10) (hP : P ≠ 92) (h1 : x1 ≤ x5 - 2) (hP2 : P ≠ 13) : lineRound x1 x5 C P Q next sz = some x5 := by
  unfold lineRound
  rw [if_pos h, if_pos (by omega), if_pos hC, if_pos (by omega), if_pos (by omega), if_neg hP, if_pos h1, if_neg hP2, if_pos (by omega)]
theorem lr_join {x1 x5 C P Q : Int} {next : Option Int} {sz : Int} (h : x5 < sz) (h0 : 2 ≤ x5) (hC : C = 10) (hP : P ≠ 92) (h1 : x1 ≤ x5 - 2) (hP2 : P = 13) (hQ : Q = 92) : lineRound x1 x5 C P Q next sz = next := by
  unfold lineRound
  rw [if_pos h, if_pos (by omega), if_pos hC, if_pos (by omega), if_pos (by omega), if_neg hP, if_pos h1, if_pos hP2, if_pos (by omega), if_pos (by omega), if_pos hQ]
theorem lr_cut {x1 x5 C P Q : Int} {next : Option Int} {sz : Int} (h : x5 < sz) (h0 : 2 ≤ x5) (hC : C = 10) (hP : P ≠ 92) (h1 : x1 ≤ x5 - 2) (hP2 : P = 13) (hQ : Q ≠ 92) : lineRound x1 x5 C P Q next sz = some (x5 - 1) := by
  unfold lineRound
  rw [if_pos h, if_pos (by omega), if_pos hC, if_pos (by omega), if_pos (by omega), if_neg hP, if_pos h1, if_pos hP2, if_pos (by omega), if_pos (by omega), if_neg hQ, if_pos (by omega)]
section
variable (s : ByteArray) (hs : s.size ≤ 140737488355328)
include hs
theorem rline_ev (a : Nat) (h35 : B s a = 35) : ∀ (m i : Nat), s.size < i + m → a + 1 ≤ i → i ≤ s.size → Ev (fun k => rf2_line.l0 k s a i) ((lineFin s (i + Lx.ln (if i = a + 1 then 0 else B s (i - 2)) (B s (i - 1)) ((bl s).drop i)) : Nat) : Int) := by
  intro m
  induction m with
  | zero => intro i hm h1 hi; omega
  | succ m ih =>
    intro i hm h1 hi
    have head := rline_head s hs a i (by omega) hi
    by_cases hlt : i < s.size
    · have e := ih (i + 1) (by omega) (by omega) (by omega)
      rw [if_neg (by omega), Nat.add_sub_cancel, show i + 1 - 2 = i - 1 by omega] at e
      have hB := bt_B s i hlt
      have hB1 := bt_B s (i - 1) (by omega)
      rw [hB, show ((i : Int) - 1) = ((i - 1 : Nat) : Int) by omega, hB1] at head
      rw [drop_B s i hlt]
      have next : ∀ q, Lx.ln q (B s (i - 1)) (B s i :: (bl s).drop (i + 1)) = Lx.ln (B s (i - 1)) (B s i) ((bl s).drop (i + 1)) + 1 → (∀ k, rf2_line.l0 (k + 1) s a i = rf2_line.l0 k s a ((i : Int) + 1)) → Ev (fun k => rf2_line.l0 k s a i) ((lineFin s (i + Lx.ln q (B s (i - 1)) (B s i :: (bl s).drop (i + 1))) : Nat) : Int) := by
        intro q hq hh
        rw [hq, show i + (Lx.ln (B s (i - 1)) (B s i) ((bl s).drop (i + 1)) + 1) = i + 1 + Lx.ln (B s (i - 1)) (B s i) ((bl s).drop (i + 1)) by omega]
        exact Ev.step hh e
      by_cases h10 : B s i = 10
      · by_cases h92 : B s (i - 1) = 92
        · refine next _ (by rw [Lx.ln, if_neg (fun h => h.2 (.inl h92))]) (fun k => (head k).trans (lr_back (by omega) (by omega) ((ci10 _).mpr h10) ((ci92 _).mpr h92)))
        · have n92 : ((B s (i - 1)).toNat : Int) ≠ 92 := fun h => h92 ((ci92 _).mp h)
          by_cases hfirst : i = a + 1
          · have h35' : B s (i - 1) = 35 := by rw [show i - 1 = a by omega]; exact h35
            rw [if_pos hfirst, show Lx.ln 0 (B s (i - 1)) (B s i :: (bl s).drop (i + 1)) = 0 by
              rw [Lx.ln, if_pos ⟨h10, fun h => h.elim h92 (fun h => absurd h.2 (by decide))⟩]]
            rw [Nat.add_zero, show lineFin s i = i by unfold lineFin; rw [if_neg (fun h => by rw [h35'] at h; exact absurd h.2 (by decide))]]
            exact Ev.step (fun k => (head k).trans (lr_first (by omega) (by omega) ((ci10 _).mpr h10) n92 (by omega))) (Ev.now _)
          · have hB2 := bt_B s (i - 2) (by omega)
            rw [show ((i : Int) - 2) = ((i - 2 : Nat) : Int) by omega, hB2] at head
            rw [if_neg hfirst]
            by_cases h13 : B s (i - 1) = 13
            · by_cases hq : B s (i - 2) = 92
              · exact next _ (by rw [Lx.ln, if_neg (fun h => h.2 (.inr ⟨h13, hq⟩))]) (fun k => (head k).trans (lr_join (by omega) (by omega) ((ci10 _).mpr h10) n92 (by omega) ((ci13 _).mpr h13) ((ci92 _).mpr hq)))
              · rw [show Lx.ln (B s (i - 2)) (B s (i - 1)) (B s i :: (bl s).drop (i + 1)) = 0 by
                  rw [Lx.ln, if_pos ⟨h10, fun h => h.elim h92 (fun h => hq h.2)⟩]]
                rw [Nat.add_zero, show lineFin s i = i - 1 by unfold lineFin; rw [if_pos ⟨hlt, h13⟩]]
                refine Ev.step (fun k => (head k).trans ((lr_cut (by omega) (by omega) ((ci10 _).mpr h10) n92 (by omega) ((ci13 _).mpr h13) (fun h => hq ((ci92 _).mp h))).trans ?_)) (Ev.now _)
                rw [show ((i : Int) - 1) = ((i - 1 : Nat) : Int) by omega]
            · rw [show Lx.ln (B s (i - 2)) (B s (i - 1)) (B s i :: (bl s).drop (i + 1)) = 0 by
                rw [Lx.ln, if_pos ⟨h10, fun h => h.elim h92 (fun h => h13 h.1)⟩]]
              rw [Nat.add_zero, show lineFin s i = i by unfold lineFin; rw [if_neg (fun h => h13 h.2)]]
              exact Ev.step (fun k => (head k).trans (lr_plain (by omega) (by omega) ((ci10 _).mpr h10) n92 (by omega) (fun h => h13 ((ci13 _).mp h)))) (Ev.now _)
      · exact next _ (by rw [Lx.ln, if_neg (fun h => h10 h.1)]) (fun k => (head k).trans (lr_next (by omega) (by omega) (fun h => h10 ((ci10 _).mp h))))
    · rw [drop_end s i (by omega)]
      rw [show Lx.ln (if i = a + 1 then 0 else B s (i - 2)) (B s (i - 1)) [] = 0 from rfl, Nat.add_zero, show lineFin s i = i by unfold lineFin; rw [if_neg (fun h => hlt h.1)]]
      exact Ev.step (fun k => (head k).trans (lr_end (by omega))) (Ev.now _)
theorem rline_eq (a : Nat) (ha : a < s.size) (h35 : B s a = 35) : Ev (fun k => rf2_line.f k s a) ((a + Lx.lineLen ((bl s).drop (a + 1)) : Nat) : Int) := by
  have e := rline_ev s hs a h35 (s.size + 1) (a + 1) (by omega) (by omega) (by omega)
  rw [if_pos rfl, Nat.add_sub_cancel, h35] at e
  have hfin : lineFin s (a + 1 + Lx.ln 0 35 ((bl s).drop (a + 1))) = a + Lx.lineLen ((bl s).drop (a + 1)) := by
    have hle := Lx.ln_le ((bl s).drop (a + 1)) 0 35
    have hl : ((bl s).drop (a + 1)).length = s.size - (a + 1) := by rw [List.length_drop, bl_length]
    have hd := drop_B s a ha
    rw [h35] at hd
    unfold lineFin Lx.lineLen
    generalize Lx.ln 0 35 ((bl s).drop (a + 1)) = n at *
    dsimp only
    have hlast : ((35 :: (bl s).drop (a + 1)).take (n + 1)).getLastD 0 = B s (a + 1 + n - 1) := by
      rw [← hd, show a + 1 + n - 1 = a + n by omega]
      have hlen : n < ((bl s).drop a).length := by rw [List.length_drop, bl_length]; omega
      rw [List.take_succ_eq_append_getElem hlen]
      unfold B
      rw [← List.drop_drop, List.drop_eq_getElem_cons hlen]
      simp
    rw [hlast, hl]
    by_cases h : a + 1 + n < s.size ∧ B s (a + 1 + n - 1) = 13
    · rw [if_pos h, if_pos ⟨by omega, h.2⟩]; omega
    · rw [if_neg h, if_neg (fun q => h ⟨by omega, q.2⟩)]; omega
  rw [hfin] at e
  have head := rline_head s hs a a (Nat.le_refl _) (by omega)
  unfold rf2_line.f
  refine Ev.step (fun k => (head k).trans (lr_next (by omega) (by omega) ?_)) e
  rw [bt_B s a ha, h35]
  decide
end
end Go.Proofs.YtabnmkakgcifoaaDoor.PLex

namespace Go.Proofs.YtabnmkakgcifoaaDoor.PLex
open Go.RowKit Go.Proofs.YtabnmkakgcifoaaDoorW.PrintWords Go.Proofs.YtabnmkakgcifoaaDoorW.PrintLast Go.Proofs.YtabnmkakgcifoaaDoorW.PrintMore
/-- the longer sign that begins a text -/
def longer (l : List UInt8) (b t : ByteArray) : ByteArray := if b.size < t.size ∧ (bl t).isPrefixOf l = true then t else b
theorem longer_size (l : List UInt8) : ∀ (sg : List ByteArray) (b : ByteArray), (sg.foldl (longer l) b).size = (sg.map bl).foldl (fun n s => if n < s.length ∧ s.isPrefixOf l then s.length else n) b.size := by
  intro sg
  induction sg with
  | nil => intro b; rfl
  | cons t sg ih =>
    intro b
    rw [List.foldl_cons, List.map_cons, List.foldl_cons, ih, bl_length]
    congr 1
    unfold longer
    by_cases h : b.size < t.size ∧ (bl t).isPrefixOf l = true
    · rw [if_pos h, if_pos h]
    · rw [if_neg h, if_neg h]
theorem longer_signLen (l : List UInt8) (sg : List ByteArray) : (sg.foldl (longer l) ⟨#[]⟩).size = Lx.signLen (sg.map bl) l := longer_size l sg ⟨#[]⟩
theorem toList_nil_iff (x : ByteArray) : x.toList = ([] : List UInt8) ↔ x.size = 0 := by
  rw [toList_bl, ← List.length_eq_zero_iff, bl_length]
section
variable (s : ByteArray) (hs : s.size ≤ 140737488355328)
include hs
theorem rsign_ev (a : Nat) (ha : a ≤ s.size) (sg : List ByteArray) (h4 : ∀ t ∈ sg, t.size ≤ 1000) (h3 : sg.length ≤ 1000) : ∀ (m i : Nat), sg.length < i + m → i ≤ sg.length →
    Ev (fun k => rf2_sign.l0 k s a ((sg.take i).foldl (longer ((bl s).drop a)) ⟨#[]⟩) sg i) (sg.foldl (longer ((bl s).drop a)) ⟨#[]⟩) := by
  intro m
  induction m with
  | zero => intro i h1 h2; omega
  | succ m ih =>
    intro i h1 h2
    rcases Nat.lt_or_ge i sg.length with hi | hi
    · have e := ih (i + 1) (by omega) (by omega)
      rw [List.take_succ_eq_append_getElem hi, List.foldl_append, List.foldl_cons, List.foldl_nil] at e
      generalize (sg.take i).foldl (longer ((bl s).drop a)) ⟨#[]⟩ = b at *
      have hr : rdOf ByteArray.empty sg (i : Int) = sg[i] := by
        unfold rdOf
        rw [Int.toNat_natCast, List.getD_eq_getElem?_getD, List.getElem?_eq_getElem hi]; rfl
      have hw : wrap64 ((i : Int) + 1) = ((i + 1 : Nat) : Int) := by rw [w64 (by omega) (by omega)]; omega
      refine Ev.step (fun k => ?_) e
      rw [rf2_sign.l0, if_pos (by omega), if_pos (by omega), hr, hw]
      unfold longer
      by_cases hgt : b.size < sg[i].size
      · rw [if_pos (by omega), begins_eq s sg[i] a hs ha (h4 _ (List.getElem_mem hi)), Option.bind_some]
        by_cases hp : (bl sg[i]).isPrefixOf ((bl s).drop a) = true
        · rw [if_pos hp, if_pos ⟨hgt, hp⟩]
        · rw [if_neg hp, if_neg (fun h => hp h.2)]
      · rw [if_neg (by omega), if_neg (fun h => hgt h.1)]
    · obtain rfl : i = sg.length := by omega
      refine Ev.step (fun k => ?_) (Ev.now _)
      rw [rf2_sign.l0, if_neg (by omega), List.take_of_length_le (Nat.le_refl _)]
theorem rsign_eq (a : Nat) (ha : a ≤ s.size) : Ev (fun k => rf2_sign.f k s a) (signsT'.foldl (longer ((bl s).drop a)) ⟨#[]⟩) := by
  have e := rsign_ev s hs a ha signsT' signs_size.2 signs_size.1 1001 0 (by have := signs_size.1; omega) (by omega)
  refine Ev.congr (fun k => ?_) e
  unfold rf2_sign.f
  rw [show rf2_Signs.f = some signsT' from signs_eq, Option.bind_some]
  rfl
omit hs in
theorem rhas_ev (l : List ByteArray) (x : ByteArray) (hl : l.length ≤ 1000) : ∀ (m i : Nat), l.length < i + m → i ≤ l.length →
    ∃ r : Int, Ev (fun k => rf0_Has.l0 k l x i) r ∧ (r ≥ 0 ↔ ((l.drop i).map bl).contains (bl x) = true) := by
  intro m
  induction m with
  | zero => intro i h1 h2; omega
  | succ m ih =>
    intro i h1 h2
    rcases Nat.lt_or_ge i l.length with hi | hi
    · obtain ⟨r, e, hr⟩ := ih (i + 1) (by omega) (by omega)
      have hrd : rdOf ByteArray.empty l (i : Int) = l[i] := by
        unfold rdOf
        rw [Int.toNat_natCast, List.getD_eq_getElem?_getD, List.getElem?_eq_getElem hi]; rfl
      have hw : wrap64 ((i : Int) + 1) = ((i + 1 : Nat) : Int) := by rw [w64 (by omega) (by omega)]; omega
      rw [List.drop_eq_getElem_cons hi]
      have head : ∀ k, rf0_Has.l0 (k + 1) l x i = if bl l[i] = bl x then some (i : Int) else rf0_Has.l0 k l x ((i + 1 : Nat) : Int) := by
        intro k
        rw [rf0_Has.l0, if_pos (by omega), if_pos (by omega), hrd, hw, toList_bl, toList_bl]
      by_cases h : bl l[i] = bl x
      · exact ⟨i, Ev.step (fun k => (head k).trans (if_pos h)) (Ev.now _), by rw [List.map_cons, List.contains_cons, h]; simp⟩
      · refine ⟨r, Ev.step (fun k => (head k).trans (if_neg h)) e, hr.trans ?_⟩
        rw [List.map_cons, List.contains_cons, show (bl x == bl l[i]) = false from beq_eq_false_iff_ne.mpr (Ne.symm h), Bool.false_or]
    · refine ⟨-1, Ev.step (fun k => ?_) (Ev.now _), ?_⟩
      · rw [rf0_Has.l0, if_neg (by omega)]
      · rw [List.drop_of_length_le hi]; simp
omit hs in
theorem rhas_eq (l : List ByteArray) (x : ByteArray) (hl : l.length ≤ 1000) : ∃ r : Int, Ev (fun k => rf0_Has.f k l x) r ∧ (r ≥ 0 ↔ (l.map bl).contains (bl x) = true) := by
  obtain ⟨r, e, h⟩ := rhas_ev l x hl (l.length + 1) 0 (by omega) (by omega)
  exact ⟨r, e, h⟩
theorem rword_ev (a : Nat) (w : Int × Int) : ∀ (m i : Nat), s.size < i + m → i ≤ s.size →
    Ev (fun k => rf2_word.j1 k s a ((i + (((bl s).drop i).takeWhile Lx.isLD).length : Nat) : Int)) w →
    Ev (fun k => rf2_word.l0 k s a i) w := by
  intro m
  induction m with
  | zero => intro i h1 h2; omega
  | succ m ih =>
    intro i h1 h2 hj
    rcases Nat.lt_or_ge i s.size with hi | hi
    · have hB := bt_B s i hi
      have hw : wrap64 ((i : Int) + 1) = ((i + 1 : Nat) : Int) := by rw [w64 (by omega) (by omega)]; omega
      rw [drop_B s i hi] at hj
      have head : ∀ k, rf2_word.l0 (k + 1) s a i = if Lx.isLD (B s i) = true then rf2_word.l0 k s a ((i + 1 : Nat) : Int) else rf2_word.j1 k s a i := by
        intro k
        rw [rf2_word.l0, if_pos (by omega), if_pos (by omega), hB, rletter_eq, Option.bind_some, rdigit_eq, Option.bind_some, hw]
        by_cases hL : Lx.isL (B s i) = true
        · rw [if_pos hL, if_pos (by simp [Lx.isLD, hL])]
        · rw [if_neg hL]
          by_cases hD : Lx.isD (B s i) = true
          · rw [if_pos hD, if_pos (by simp [Lx.isLD, hD])]
          · rw [if_neg hD, if_neg (by simp [Lx.isLD, hL, hD])]
      by_cases hc : Lx.isLD (B s i) = true
      · rw [List.takeWhile_cons_of_pos hc, List.length_cons] at hj
        refine Ev.step (fun k => (head k).trans (if_pos hc)) (ih (i + 1) (by omega) (by omega) ?_)
        rw [show i + 1 + (((bl s).drop (i + 1)).takeWhile Lx.isLD).length = i + ((((bl s).drop (i + 1)).takeWhile Lx.isLD).length + 1) by omega]
        exact hj
      · rw [List.takeWhile_cons_of_neg hc] at hj
        exact Ev.step (fun k => (head k).trans (if_neg hc)) hj
    · rw [drop_end s i hi] at hj
      exact Ev.step (fun k => by rw [rf2_word.l0, if_neg (by omega)]; rfl) hj
theorem rword_eq (a : Nat) (ha : a ≤ s.size) : Ev (fun k => rf2_word.f k s a) (((if keysL.contains (((bl s).drop a).takeWhile Lx.isLD) then 2 else 1 : Nat) : Int), ((a + Lx.nameLen ((bl s).drop a) : Nat) : Int)) := by
  have hn : a + (((bl s).drop a).takeWhile Lx.isLD).length ≤ s.size := by
    have := Lx.nameLen_le ((bl s).drop a)
    unfold Lx.nameLen at this
    rw [List.length_drop, bl_length] at this
    omega
  have hx : bl (s.extract a (a + (((bl s).drop a).takeWhile Lx.isLD).length)) = ((bl s).drop a).takeWhile Lx.isLD := by
    rw [extract_bl, Nat.add_sub_cancel_left]
    exact (List.prefix_iff_eq_take.mp (List.takeWhile_prefix _)).symm
  obtain ⟨r, er, hr⟩ := rhas_eq keysT' (s.extract a (a + (((bl s).drop a).takeWhile Lx.isLD).length)) (by decide +kernel)
  rw [hx, show keysT'.map bl = keysL from keysL_eq.symm] at hr
  unfold Lx.nameLen
  refine Ev.congr (fun k => by unfold rf2_word.f; rfl) (rword_ev s hs a _ (s.size + 1) a (by omega) ha ?_)
  have han : a ≤ a + (((bl s).drop a).takeWhile Lx.isLD).length := Nat.le_add_right _ _
  generalize a + (((bl s).drop a).takeWhile Lx.isLD).length = n at *
  refine Ev.step (fun k => ?_) (Ev.bind er (f := fun _ t => if t ≥ 0 then some (2, (n : Int)) else some (1, (n : Int))) ?_)
  · rw [rf2_word.j1, show rf2_Keys.f = some keysT' from keys_eq, Option.bind_some, if_pos (by omega), if_pos (by omega), if_pos (by omega)]
    rfl
  · by_cases h : keysL.contains (((bl s).drop a).takeWhile Lx.isLD) = true
    · rw [if_pos h]
      exact Ev.congr (fun k => if_pos (hr.mpr h)) (Ev.now _)
    · rw [if_neg h]
      exact Ev.congr (fun k => if_neg (fun q => h (hr.mp q))) (Ev.now _)
theorem rtoken_eq (a : Nat) (ha : a < s.size) (f : Bool) : Ev (fun k => rf2_token.f k s a f) (((Lx.tok keysL signsL f ((bl s).drop a)).1 : Int), ((a + (Lx.tok keysL signsL f ((bl s).drop a)).2 : Nat) : Int)) := by
  have hB := bt_B s a ha
  have hw : wrap64 ((a : Int) + 1) = ((a + 1 : Nat) : Int) := by rw [w64 (by omega) (by omega)]; omega
  have hd := drop_B s a ha
  have hword := rword_eq s hs a (by omega)
  rw [hd] at hword ⊢
  rw [Lx.tok_cons]
  have hf : ∀ k, rf2_token.f k s a f = rf2_token.j0 k s a ((B s a).toNat : Int) (decide (B s a = 35) && f) := by
    intro k
    unfold rf2_token.f
    rw [if_pos (by omega), if_pos (by omega), hB]
    by_cases h : B s a = 35
    · rw [if_pos ((ci35 _).mpr h)]; simp [h]
    · rw [if_neg (fun q => h ((ci35 _).mp q))]; simp [h]
  refine Ev.congr hf ?_
  by_cases h1 : B s a = 35 ∧ f = true
  · rw [if_pos h1]
    have hb : (decide (B s a = 35) && f) = true := by simp [h1]
    refine Ev.step (fun k => ?_) (Ev.bind (rline_eq s hs a ha h1.1) (f := fun _ t => some ((7 : Int), t)) (Ev.now _))
    rw [rf2_token.j0, if_pos hb]
  · rw [if_neg h1]
    have hb : ¬ (decide (B s a = 35) && f) = true := by simpa using h1
    by_cases h2 : Lx.isL (B s a) = true
    · rw [if_pos h2]
      refine Ev.step (fun k => ?_) (Ev.bind hword (f := fun _ t => some (t.1, t.2)) ?_)
      · rw [rf2_token.j0, if_neg hb, rletter_eq, Option.bind_some, if_pos h2]
      · refine Ev.congr (fun k => ?_) (Ev.now _)
        rfl
    · rw [if_neg h2]
      have j0 : ∀ k, rf2_token.j0 (k + 1) s a ((B s a).toNat : Int) (decide (B s a = 35) && f) = rf2_token.j1 k s a ((B s a).toNat : Int) (Lx.isD (B s a) || (B s a == 46 && Lx.isD (((bl s).drop (a + 1)).headD 0))) := by
        intro k
        rw [rf2_token.j0, if_neg hb, rletter_eq, Option.bind_some, if_neg h2, rdigit_eq, Option.bind_some, hw, byteAt_eq, Option.bind_some, rdigit_eq, Option.bind_some]
        by_cases hD : Lx.isD (B s a) = true
        · rw [if_pos hD]; simp [hD]
        · rw [if_neg hD]
          by_cases h46 : B s a = 46
          · rw [if_pos ((ci46 _).mpr h46)]; simp [h46, show Lx.isD 46 = false from rfl]
          · rw [if_neg (fun q => h46 ((ci46 _).mp q))]
            have hD' : Lx.isD (B s a) = false := by simpa using hD
            rw [hD', bf h46]; rfl
      refine Ev.step j0 ?_
      by_cases h3 : (Lx.isD (B s a) || (B s a == 46 && Lx.isD (((bl s).drop (a + 1)).headD 0))) = true
      · rw [if_pos h3]
        refine Ev.step (fun k => ?_) (Ev.bind (rnumber_eq s hs a ha) (f := fun _ t => some ((3 : Int), t)) (Ev.now _))
        rw [rf2_token.j1, if_pos h3]
      · rw [if_neg h3]
        have j1 : ∀ k, rf2_token.j1 (k + 1) s a ((B s a).toNat : Int) (Lx.isD (B s a) || (B s a == 46 && Lx.isD (((bl s).drop (a + 1)).headD 0))) = rf2_token.j2 k s a ((B s a).toNat : Int) (decide (B s a = 39 ∨ B s a = 34)) := by
          intro k
          rw [rf2_token.j1, if_neg h3]
          by_cases h39 : B s a = 39
          · rw [if_pos ((ci39 _).mpr h39)]; simp [h39]
          · rw [if_neg (fun q => h39 ((ci39 _).mp q)), bi34]
            congr 1
            rw [Bool.eq_iff_iff, beq_iff_eq, decide_eq_true_eq]
            exact ⟨fun h => .inr h, fun h => h.resolve_left h39⟩
        refine Ev.step j1 ?_
        by_cases h4 : B s a = 39 ∨ B s a = 34
        · rw [if_pos h4]
          have hm10 : B s a ≠ 10 := by rcases h4 with h | h <;> rw [h] <;> decide
          have eq := rquoted_eq s hs a ha hm10
          have j2 : ∀ k, rf2_token.j2 (k + 1) s a ((B s a).toNat : Int) (decide (B s a = 39 ∨ B s a = 34)) = (rf2_quoted.f k s a).bind fun t => if t = (a : Int) then some ((8 : Int), ((a + 1 : Nat) : Int)) else if B s a = 34 then some ((5 : Int), t) else some ((4 : Int), t) := by
            intro k
            rw [rf2_token.j2, if_pos (by simpa using h4), hw]
            simp only [ci34]
          cases hq : Lx.quoted (B s a) ((bl s).drop (a + 1)) with
          | none =>
            rw [hq] at eq
            refine Ev.step j2 (Ev.bind eq (f := fun _ t => if t = (a : Int) then some ((8 : Int), ((a + 1 : Nat) : Int)) else if B s a = 34 then some ((5 : Int), t) else some ((4 : Int), t)) ?_)
            exact Ev.congr (fun k => if_pos rfl) (Ev.now _)
          | some q =>
            rw [hq] at eq
            refine Ev.step j2 (Ev.bind eq (f := fun _ t => if t = (a : Int) then some ((8 : Int), ((a + 1 : Nat) : Int)) else if B s a = 34 then some ((5 : Int), t) else some ((4 : Int), t)) ?_)
            have hne : ¬ (((qat a (a + 1) (some q) : Nat) : Int) = (a : Int)) := by show ¬ (((a + 1 + q : Nat) : Int) = (a : Int)); omega
            have hval : ((qat a (a + 1) (some q) : Nat) : Int) = ((a + (q + 1) : Nat) : Int) := by show (((a + 1 + q : Nat) : Int) = _); omega
            by_cases h34 : B s a = 34
            · refine Ev.congr (fun k => (if_neg hne).trans ((if_pos h34).trans ?_)) (Ev.now _)
              simp only [hval, if_pos h34]
              rfl
            · refine Ev.congr (fun k => (if_neg hne).trans ((if_neg h34).trans ?_)) (Ev.now _)
              simp only [hval, if_neg h34]
              rfl
        · rw [if_neg h4]
          have es := rsign_eq s hs a (by omega)
          rw [hd] at es
          have hsz := longer_signLen (B s a :: (bl s).drop (a + 1)) signsT'
          rw [show signsT'.map bl = signsL from signsL_eq.symm] at hsz
          have hle := Lx.signLen_le signsL (B s a :: (bl s).drop (a + 1))
          rw [List.length_cons, List.length_drop, bl_length] at hle
          generalize signsT'.foldl (longer (B s a :: (bl s).drop (a + 1))) ⟨#[]⟩ = g at *
          generalize Lx.signLen signsL (B s a :: (bl s).drop (a + 1)) = z at *
          refine Ev.step (fun k => ?_) (Ev.bind es (f := fun _ t => if t.toList = ([] : List UInt8) then some ((8 : Int), ((a + 1 : Nat) : Int)) else some ((6 : Int), wrap64 ((a : Int) + (t.size : Int)))) ?_)
          · rw [rf2_token.j2, if_neg (by simpa using h4), hw]
          · by_cases h0 : z = 0
            · rw [if_pos h0]
              exact Ev.congr (fun k => if_pos ((toList_nil_iff g).mpr (by omega))) (Ev.now _)
            · rw [if_neg h0]
              refine Ev.congr (fun k => (if_neg (fun q => h0 (by have := (toList_nil_iff g).mp q; omega))).trans ?_) (Ev.now _)
              rw [hsz, w64 (by omega) (by omega)]
              rfl
end
end Go.Proofs.YtabnmkakgcifoaaDoor.PLex

namespace Go.Proofs.YtabnmkakgcifoaaDoor.PLex
open Go.RowKit Go.Proofs.YtabnmkakgcifoaaDoorW.PrintWords Go.Proofs.YtabnmkakgcifoaaDoorW.PrintLast Go.Proofs.YtabnmkakgcifoaaDoorW.PrintMore
section
variable (s : ByteArray) (hs : s.size ≤ 1000000000000)
include hs
omit hs in
theorem rall_j2 (outs : List S30) (fr : Int) (g : Bool) (nx : Int) (b : Bool) (k : Nat) : rf2_All.j2 (k + 1) s outs fr g nx b = rf2_All.l0 k s outs fr nx (if b = true then false else g) := by
  rw [rf2_All.j2]
  by_cases h : b = true
  · rw [if_pos h, if_pos h]
  · rw [if_neg h, if_neg h]
theorem rall_l1 (outs : List S30) (fr : Int) (a n : Nat) (ha : a < s.size) (hn : n ≤ s.size) (R : List S30) : ∀ (m i : Nat) (f : Bool), n < i + m → i ≤ n →
    Ev (fun k => rf2_All.l0 k s outs fr (n : Int) (if (n = a + 1 ∧ Lx.isFF (B s a) = true) then false else (f || (((bl s).drop i).take (n - i)).contains 10))) R →
    Ev (fun k => rf2_All.l1 k s outs fr a f (n : Int) (i : Int)) R := by
  have hw : wrap64 ((a : Int) + 1) = ((a + 1 : Nat) : Int) := by rw [w64 (by omega) (by omega)]; omega
  intro m
  induction m with
  | zero => intro i f h1 h2; omega
  | succ m ih =>
    intro i f h1 h2 hR
    rcases Nat.lt_or_ge i n with hi | hi
    · have hB := bt_B s i (by omega)
      have hwi : wrap64 ((i : Int) + 1) = ((i + 1 : Nat) : Int) := by rw [w64 (by omega) (by omega)]; omega
      rw [drop_B s i (by omega), show n - i = (n - (i + 1)) + 1 by omega, List.take_succ_cons, List.contains_cons] at hR
      have head : ∀ k, rf2_All.l1 (k + 1) s outs fr a f (n : Int) (i : Int) = rf2_All.l1 k s outs fr a (f || (10 == B s i)) (n : Int) ((i + 1 : Nat) : Int) := by
        intro k
        rw [rf2_All.l1, if_pos (by omega), if_pos (by omega), if_pos (by omega), hB, hwi]
        by_cases h : B s i = 10
        · rw [if_pos ((ci10 _).mpr h)]; simp [h]
        · rw [if_neg (fun q => h ((ci10 _).mp q)), show ((10 : UInt8) == B s i) = false from beq_eq_false_iff_ne.mpr (Ne.symm h), Bool.or_false]
      refine Ev.step head (ih (i + 1) _ (by omega) (by omega) ?_)
      rw [Bool.or_assoc]
      exact hR
    · obtain rfl : i = n := by omega
      rw [Nat.sub_self, List.take_zero] at hR
      have hc : (f || List.contains ([] : List UInt8) 10) = f := by simp
      rw [hc] at hR
      have hB := bt_B s a ha
      by_cases hn1 : i = a + 1
      · refine Ev.step (f := fun k => rf2_All.j2 k s outs fr f (i : Int) (Lx.isFF (B s a))) (fun k => ?_) (Ev.step (rall_j2 s _ _ _ _ _) ?_)
        · rw [rf2_All.l1, if_neg (by omega), hw, if_pos (by omega), if_pos (by omega), if_pos (by omega), hB]
          generalize B s a = c
          have hff : Lx.isFF c = true ↔ 11 ≤ c.toNat ∧ c.toNat ≤ 13 := by
            simp only [Lx.isFF, Bool.or_eq_true, beq_iff_eq, ← UInt8.toNat_inj]
            show ((c.toNat = 11 ∨ c.toNat = 12) ∨ c.toNat = 13) ↔ _
            omega
          by_cases h11 : (c.toNat : Int) ≥ 11
          · rw [if_pos h11]
            congr 1
            rw [Bool.eq_iff_iff, decide_eq_true_eq, hff]
            omega
          · rw [if_neg h11]
            congr 1
            rw [Bool.eq_iff_iff, hff]
            constructor
            · intro h; cases h
            · intro h; omega
        · by_cases hf : Lx.isFF (B s a) = true
          · rw [if_pos hf]; rw [if_pos ⟨hn1, hf⟩] at hR; exact hR
          · rw [if_neg hf]; rw [if_neg (fun q => hf q.2)] at hR; exact hR
      · rw [if_neg (fun q => hn1 q.1)] at hR
        refine Ev.step (f := fun k => rf2_All.j2 k s outs fr f (i : Int) false) (fun k => ?_) (Ev.step (rall_j2 s _ _ _ _ _) ?_)
        · rw [rf2_All.l1, if_neg (by omega), hw, if_neg (by omega)]
        · rw [if_neg (by decide)]; exact hR
/-- what All does where no piece stands -/
def allStop (s : ByteArray) (outs : List S30) (fr a : Int) (f : Bool) (k : Nat) : Option (List S30) :=
  if a = (s.size : Int) then (if 0 ≤ fr then (if fr ≤ (s.size : Int) then (if outs.length < 2932031007402 then (some (outs ++ [(⟨0, s.extract (fr : Int).toNat s.size, (⟨#[]⟩ : ByteArray), a⟩ : S30)])) else (none)) else (none)) else (none)) else ((rf2_token.f k s a f).bind fun bt184 => (if 0 ≤ fr then (if fr ≤ a then (if a ≤ (s.size : Int) then (if 0 ≤ a then (if a ≤ bt184.2 then (if bt184.2 ≤ (s.size : Int) then (if outs.length < 2932031007402 then (rf2_All.l0 k s (outs ++ [(⟨bt184.1, s.extract (fr : Int).toNat (a : Int).toNat, s.extract (a : Int).toNat (bt184.2 : Int).toNat, a⟩ : S30)]) bt184.2 bt184.2 false) else (none)) else (none)) else (none)) else (none)) else (none)) else (none)) else (none)))
theorem rall_pre (outs : List S30) (fr : Int) (R : List S30) : ∀ (m a : Nat) (f : Bool), s.size < a + m → a ≤ s.size →
    Ev (allStop s outs fr ((a + (Lx.pre ((bl s).drop a).length ((bl s).drop a) f).1 : Nat) : Int) (Lx.pre ((bl s).drop a).length ((bl s).drop a) f).2) R →
    Ev (fun k => rf2_All.l0 k s outs fr a f) R := by
  intro m
  induction m with
  | zero => intro a f h1 h2; omega
  | succ m ih =>
    intro a f h1 h2 hR
    have ep := rpiece_eq s (by omega) a h2
    rcases Nat.eq_zero_or_pos (Lx.piece ((bl s).drop a)) with h0 | hp
    · rw [pre_stop _ _ h0, Nat.add_zero] at hR
      rw [h0, Nat.add_zero] at ep
      refine Ev.step (f := fun k => (rf2_piece.f k s a).bind fun t => if t > (a : Int) then rf2_All.l1 k s outs fr a f t a else allStop s outs fr a f k) (fun k => ?_) (Ev.bind ep ?_)
      · rw [rf2_All.l0]; rfl
      · exact Ev.congr (fun k => if_neg (by omega)) hR
    · have hle := piece_le ((bl s).drop a)
      rw [List.length_drop, bl_length] at hle
      generalize hn : Lx.piece ((bl s).drop a) = n at *
      rw [pre_step _ f n hn hp, ← Nat.add_assoc] at hR
      rw [List.drop_drop] at hR
      have e := ih (a + n) (Lx.clearAfter ((bl s).drop a) n f) (by omega) (by omega) hR
      refine Ev.step (f := fun k => (rf2_piece.f k s a).bind fun t => if t > (a : Int) then rf2_All.l1 k s outs fr a f t a else allStop s outs fr a f k) (fun k => ?_) (Ev.bind ep ?_)
      · rw [rf2_All.l0]; rfl
      · refine Ev.congr (fun k => if_pos (by omega)) (rall_l1 s hs outs fr a (a + n) (by omega) (by omega) R (n + 1) a f (by omega) (by omega) ?_)
        have hc : Lx.clearAfter ((bl s).drop a) n f = if (a + n = a + 1 ∧ Lx.isFF (B s a) = true) then false else (f || (((bl s).drop a).take (a + n - a)).contains 10) := by
          unfold Lx.clearAfter B
          rw [Nat.add_sub_cancel_left]
          by_cases hx : n = 1 ∧ Lx.isFF (((bl s).drop a).headD 0) = true
          · rw [if_pos hx, if_pos ⟨by omega, hx.2⟩]
          · rw [if_neg hx, if_neg (fun q => hx ⟨by omega, q.2⟩)]
        rw [hc] at e
        exact e
theorem rall_ev : ∀ (m a : Nat) (f : Bool) (outs : List S30), s.size < a + m → a ≤ s.size → outs.length ≤ a →
    Ev (fun k => rf2_All.l0 k s outs a a f) (outs ++ (Lx.go keysL signsL m ((bl s).drop a) a f).map toS) := by
  intro m
  induction m with
  | zero => intro a f outs h1 h2; omega
  | succ m ih =>
    intro a f outs h1 h2 h3
    refine rall_pre s hs outs a _ (s.size + 1) a f (by omega) h2 ?_
    have hll : ((bl s).drop a).length = s.size - a := by rw [List.length_drop, bl_length]
    obtain ⟨p, hp⟩ : ∃ p, Lx.pre ((bl s).drop a).length ((bl s).drop a) f = p := ⟨_, rfl⟩
    have hple : p.1 ≤ s.size - a := by
      have := pre_le ((bl s).drop a).length ((bl s).drop a) f
      rw [hp] at this
      omega
    rw [hp]
    by_cases hend : (bl s).drop (a + p.1) = []
    · have hsz : a + p.1 = s.size := by
        have := congrArg List.length hend
        simp only [List.length_drop, bl_length, List.length_nil] at this
        omega
      rw [go_end m s a f p hp hend]
      refine Ev.congr (fun k => ?_) (Ev.now _)
      unfold allStop
      rw [hsz, if_pos rfl, if_pos (by omega), if_pos (by omega), if_pos (by omega)]
      have e1 : bl (s.extract a s.size) = (bl s).drop a := by rw [extract_bl, List.take_of_length_le (by omega)]
      have e2 : a + ((bl s).drop a).length = s.size := by omega
      simp only [List.map_cons, List.map_nil, toS, e2, mk_bl _ _ e1, Int.toNat_natCast]
      rfl
    · obtain ⟨c, r, hcr⟩ : ∃ c r, (bl s).drop (a + p.1) = c :: r := by
        cases h : (bl s).drop (a + p.1) with
        | nil => exact absurd h hend
        | cons c r => exact ⟨c, r, rfl⟩
      have hlen : r.length + 1 = s.size - (a + p.1) := by
        have := congrArg List.length hcr
        simp only [List.length_drop, bl_length, List.length_cons] at this
        omega
      have T := Lx.tok_kinds keysL signsL p.2 c r signs_heads.1 signs_heads.2
      rw [← hcr] at T
      have et := rtoken_eq s (by omega) (a + p.1) (by omega) p.2
      obtain ⟨t, ht⟩ : ∃ t, Lx.tok keysL signsL p.2 ((bl s).drop (a + p.1)) = t := ⟨_, rfl⟩
      rw [ht] at T et
      obtain ⟨-, -, t3, t4⟩ := T
      rw [go_go m s a f p t hp hend ht]
      have e1 : bl (s.extract a (a + p.1)) = ((bl s).drop a).take p.1 := by rw [extract_bl, Nat.add_sub_cancel_left]
      have e2 : bl (s.extract (a + p.1) (a + p.1 + t.2)) = ((bl s).drop (a + p.1)).take t.2 := by rw [extract_bl, Nat.add_sub_cancel_left]
      have e := ih (a + p.1 + t.2) false (outs ++ [⟨(t.1 : Int), s.extract a (a + p.1), s.extract (a + p.1) (a + p.1 + t.2), ((a + p.1 : Nat) : Int)⟩]) (by omega) (by omega) (by rw [List.length_append, List.length_singleton]; omega)
      have hne : ¬ (((a + p.1 : Nat) : Int) = (s.size : Int)) := by omega
      refine Ev.congr (fun k => if_neg hne) (Ev.bind et ?_)
      rw [List.append_assoc] at e
      have hgoal : (outs ++ ((⟨(t.1 : Int), s.extract a (a + p.1), s.extract (a + p.1) (a + p.1 + t.2), ((a + p.1 : Nat) : Int)⟩ : S30) :: [] ++ (Lx.go keysL signsL m ((bl s).drop (a + p.1 + t.2)) (a + p.1 + t.2) false).map toS)) = outs ++ (({ kind := t.1, before := ((bl s).drop a).take p.1, text := ((bl s).drop (a + p.1)).take t.2, at_ := a + p.1 } : Lx.Tok) :: Lx.go keysL signsL m ((bl s).drop (a + p.1 + t.2)) (a + p.1 + t.2) false).map toS := by
        rw [List.map_cons]
        simp only [toS, mk_bl _ _ e1, mk_bl _ _ e2]
        rfl
      rw [hgoal] at e
      refine Ev.congr (fun k => ?_) e
      dsimp only
      rw [if_pos (by omega), if_pos (by omega), if_pos (by omega), if_pos (by omega), if_pos (by omega), if_pos (by omega), if_pos (by omega)]
      simp only [Int.toNat_natCast]
theorem rall_eq : Ev (fun k => rf2_All.f k s) ((Lx.tokens keysL signsL (bl s)).map toS) := by
  have e := rall_ev s hs (s.size + 1) 0 true [] (by omega) (by omega) (by simp)
  rw [List.nil_append] at e
  refine Ev.congr (fun k => by unfold rf2_All.f; rfl) ?_
  rw [Lx.tokens, bl_length]
  exact e
end
end Go.Proofs.YtabnmkakgcifoaaDoor.PLex

