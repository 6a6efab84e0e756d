/- PastCommits holds: for all steps and every number the statement answers true. Part 11 of 20. -/
import Derived.Test.YthimblhfjfngiaaGreatBCommitsJ
import Derived.RangeFuncNested
import Derived.RangeFuncBound
import Derived.RangeFuncCalls
import Derived.RangeFuncLeaves
import Derived.Shelf.SlGeneric
import Derived.Shelf.SlLaysF0
import Derived.Shelf.SlLaysH0
import Derived.Ground.SlsfProg
import Derived.Ground.SlgfProg
import Derived.Shelf.Strings.Builder1
import Derived.Shelf.Small.Bits
import Derived.Shelf.Small.Strs
import Derived.Shelf.Small.Wraps
import Derived.Shelf.Strings.BuilderF
import Derived.Shelf.Strings.BuilderK
import Derived.Shelf.Strconv.Itoa0
import Derived.Shelf.Strings.Search1
import Derived.Shelf.Sort.Plain
import Derived.Shelf.Slices.Turned
import Derived.Ground.Names2Prog
import Derived.Shelf.Slices.SearchI
import Derived.Shelf.Slices.In.SortNone
import Derived.Shelf.SlSortCmp.NoneTotal
import Derived.Shelf.SlicesQ.IndexFunc
namespace Go.Proofs.YthimblhfjfngiaaGreat.PText
open Go Go.RowKit
/-- the box Bc is kept, whatever it holds -/
def KeepsBox (Bc : Nat) (t : TypeId) (W W' : World) : Prop := ∀ v, Boxed W Bc t v → Boxed W' Bc t v
theorem KeepsBox.trans {Bc : Nat} {t : TypeId} {A B C : World} (h : KeepsBox Bc t A B) (k : KeepsBox Bc t B C) : KeepsBox Bc t A C := fun v q => k v (h v q)
theorem KeepsBox.putObj {Bc : Nat} {t : TypeId} (W : World) {l : Nat} {o : Obj} (o' : Obj) (h : W.heap[l]? = some o) (hc : o.isCells = false) : KeepsBox Bc t W (W.putObj l o') := fun v q =>
  q.kept (grownBy_putObj' W l o') (fun e => by cases e; rw [show W.heap[Bc]? = _ from q] at h; cases h; cases hc)
/-- the contract of such an iterator: whatever J tells of the world and abides new blocks and stores into the box, each round adds an element, and J comes to hold of all of them -/
def SeqCell {α : Type} (F : Fence) (n : Nat) (P : Program) (g : Nat) (lb : Array Value) (encs : α → Array Value) (Bc : Nat) (t : TypeId) (v0 : Value) (xs : List α) : Prop :=
  ∀ (l : Nat) (J : List α → World → Prop) (W : World), AbidesFrom W.heap.size J → (∀ s W v, J s W → J s (W.setCell ⟨Bc, 0, none⟩ v)) →
    (∀ pre x W1, (∃ post, pre ++ x :: post = xs) → J pre W1 → YieldAt F (n - 1) P l (encs x) W1 fun e W' => e = .returned (.bool true) ∧ J (pre ++ [x]) W' ∧ KeepsBox Bc t W1 W') →
    Boxed W Bc t v0 → J [] W →
    CallsIn F n P g (#[.func (.yield l) #[] #[]] ++ lb) W fun e W' => (∃ v, e = .returned v) ∧ J xs W'
variable {F : Fence} {n : Nat} {P : Program}
def cellPost {α : Type} (Bc : Nat) (t : TypeId) (I : List α → World → Prop) (xs : List α) (W : World) : Exit → Act → World → Prop
  | .normal, _, W' => KeepsOthers W W' ∧ KeepsBox Bc t W W' ∧ I xs W'
  | _, _, _ => False
theorem wpIn_rangeFunc_cell {α : Type} {g : Operand} {ps : Array Tmp} {assign body : Code} {Q : Exit → Act → World → Prop} {a : Act} {w : World}
    (hro : F.round = none) (h1 : 1 ≤ n) {gf : Nat} {lb : Array Value} (hg : a.eval g = .func (.func gf) #[] lb) (hFg : F.fn gf) (eg : ∀ args w, (callFunc gf args).run P w = .ok (.enter gf args) w)
    {encs : α → Array Value} {Bc : Nat} {t : TypeId} {v0 : Value} {xs : List α} (hseq : SeqCell F (n - 1) P gf lb encs Bc t v0 xs) (hbox : Boxed w Bc t v0)
    (hps : ∀ x, (encs x).size = ps.size)
    (I : List α → World → Prop) (hI : OwnFrom w.heap.size I) (hIc : ∀ s W v, I s W → I s (W.setCell ⟨Bc, 0, none⟩ v)) (h0 : I [] w) (a₁ : α → Act)
    (hassign : ∀ (l : Nat) (x : α) (W : World) (K : Act → World → Prop), K (a₁ x) W →
      assign.wpIn (F.inRound l) (n - 1 - 1) P (Exit.then K (fun _ _ _ => False)) { tmps := (ps.zip (encs x)).foldl (fun t (p, v) => t.setIfInBounds p v) a.tmps, defers := [] } W)
    (hbody : ∀ (l : Nat) (pre : List α) (x : α) (W : World), (∃ post, pre ++ x :: post = xs) → I pre W → body.wpIn (F.inRound l) (n - 1 - 1) P (cellPost Bc t I (pre ++ [x]) W) (a₁ x) W)
    (hdone : ∀ (D : Nat) (W : World), w.heap.size ≤ D → I xs W → W.heap[D]? = some (.deferred (some [])) → Q .normal { a with defers := { target := .collected D, args := #[] } :: a.defers } W) :
    (Code.rangeFunc g ps assign body).wpIn F n P Q a w := by
  refine wpIn_rangeFunc ?_
  intro fn hfn
  rw [hro]
  obtain ⟨rec, hrec⟩ : ∃ rec : LoopState → Option Code → Loop, rec = fun st pe => { state := st, pending := pe, fn, tmps := a.tmps, params := ps, assign, body, defers := w.heap.size } := ⟨_, rfl⟩
  obtain ⟨W1, hW1⟩ : ∃ W1, (w.alloc (.deferred (some []))).alloc (.loop (rec .ready none)) = W1 := ⟨_, rfl⟩
  have hL1 : W1.heap[w.heap.size + 1]? = some (.loop (rec .ready none)) := by
    rw [← hW1]; have := World.alloc_heap_new (w.alloc (.deferred (some []))) (.loop (rec .ready none)); rwa [World.size_alloc] at this
  have hK1 : W1.heap[w.heap.size]? = some (.deferred (some [])) := by
    rw [← hW1]; exact (Below.heap_alloc _ _ _ (by simp)).trans (World.alloc_heap_new w _)
  have hI1 : I [] W1 := by rw [← hW1]; exact hI.alloc _ (hI.alloc _ h0)
  have hx1 : Boxed W1 Bc t v0 := by rw [← hW1]; exact (hbox.alloc _).alloc _
  have hBc := hbox.lt
  refine ⟨w.heap.size + 1, [{ target := .collected w.heap.size, args := #[] }], W1, { target := .fn (.func gf) lb, args := #[.func (.yield (w.heap.size + 1)) #[] #[]] }, W1, gf,
    #[.func (.yield (w.heap.size + 1)) #[] #[]] ++ lb, W1, ?_, ?_, ?_, ?_, fun _ => h1, ?_⟩
  · rw [← hW1, hrec]; exact run_enterLoop_outer _ _ _ _ _
  · simp only [resolve, hg]
    simp [go_sem]
  · intro f' hf'; simp [Target.leads] at hf'; subst hf'; exact hFg
  · simp [invoke, go_sem, eg]
  · have hnw : ∀ {A B : World} {row : Option Nat}, (∀ r, row = some r → W1.heap.size ≤ r ∧ ∃ o : Obj, A.heap[r]? = some o ∧ o.isWalk = true) → (∀ r, row = some r → w.heap.size ≤ r ∧ ∃ o : Obj, A.heap[r]? = some o ∧ o.isCells = false) :=
      fun hr r e => by obtain ⟨hB, o, ho, hw⟩ := hr r e; exact ⟨by rw [← hW1] at hB; simp at hB; omega, o, ho, Obj.not_cells_of_walk hw⟩
    have hset : ∀ (W : World) (v : Value) (k : Nat) (o : Obj), w.heap.size ≤ k → W.heap[k]? = some o → (W.setCell ⟨Bc, 0, none⟩ v).heap[k]? = some o := fun W v k o hk ho =>
      (Below.heap_setCell _ _ _ k (fun e => by simp at e; omega)).trans ho
    refine (hseq (w.heap.size + 1)
      (fun pre W => I pre W ∧ W.heap[w.heap.size + 1]? = some (.loop (rec .ready none)) ∧ W.heap[w.heap.size]? = some (.deferred (some [])))
      W1
      (fun s A B row hs hg' hr => ⟨hI s A B row hs.1 hg' (hnw (B := B) hr), (grownBy_keeps hg' (fun r e => (hr r e).2) hs.2.1 rfl).trans hs.2.1, (grownBy_keeps hg' (fun r e => (hr r e).2) hs.2.2 rfl).trans hs.2.2⟩)
      (fun s A v hs => ⟨hIc s A v hs.1, hset A v _ _ (by omega) hs.2.1, hset A v _ _ (Nat.le_refl _) hs.2.2⟩)
      ?_ hx1 ⟨hI1, hL1, hK1⟩).mono ?_
    · rintro pre x W hpost ⟨hi, hl, hk⟩
      have hlt : w.heap.size + 1 < W.heap.size := (Array.getElem?_eq_some_iff.1 hl).1
      have hy := run_yield (P := P) (args := encs x) hl (by rw [hrec]; exact hps x)
      rw [hrec] at hy
      refine ⟨fn, _, assign, body, hy, roundIn_of_wpIn hfn (hassign _ x W _ ⟨_, run_beginRound hl (by rw [hrec]), ?_⟩)⟩
      have hl2 : (W.putObj (w.heap.size + 1) (.loop { rec .ready none with state := .busy })).heap[w.heap.size + 1]? = some (.loop { rec .ready none with state := .busy }) := World.putObj_heap_same hlt
      have hk2 : (W.putObj (w.heap.size + 1) (.loop { rec .ready none with state := .busy })).heap[w.heap.size]? = some (.deferred (some [])) := (World.putObj_heap_other (by omega)).trans hk
      have hw2 : KeepsBox Bc t W (W.putObj (w.heap.size + 1) (.loop { rec .ready none with state := .busy })) := KeepsBox.putObj _ _ hl rfl
      refine wpIn_mono (hbody _ pre x _ hpost (hI.putObj _ hi (by omega) hl rfl)) ?_
      rintro e a3 W3 hp
      cases e with
      | normal =>
        obtain ⟨hk3, hkp3, hi3⟩ := hp
        have hl3 := hk3.same _ _ hl2 rfl
        have hr := run_endRound (P := P) none hl3
        rw [hrec] at hr
        refine ⟨_, _, hr, rfl, ⟨hI.putObj _ hi3 (by omega) hl3 rfl, ?_, (World.putObj_heap_other (by omega)).trans (hk3.same _ _ hk2 rfl)⟩, hw2.trans (hkp3.trans (KeepsBox.putObj _ _ hl3 rfl))⟩
        rw [hrec]
        exact World.putObj_heap_same (Array.getElem?_eq_some_iff.1 hl3).1
      | ret => exact hp.elim
      | exit id => exact hp.elim
      | goto t => exact hp.elim
      | panic ch => exact hp.elim
      | outgrown => exact hp.elim
    · rintro e W2 ⟨⟨v, rfl⟩, hi, hl, hk⟩
      exact ⟨none, _, by have := run_endLoop (P := P) hl (by rw [hrec]; simp); rw [hrec] at this; exact this, hdone _ _ (Nat.le_refl _) (hI.putObj _ hi (by omega) hl rfl) ((World.putObj_heap_other (by omega)).trans hk)⟩
end Go.Proofs.YthimblhfjfngiaaGreat.PText

namespace Go.Proofs
open Go.Shelf
def Tryz.lays170_ren : Go.Shelf.Ren := ⟨fun | 170 => 77 | n => n, fun | 70 => 128 | 3 => 3 | 0 => 0 | 72 => 131 | 37 => 129 | 5 => 5 | n => n, fun | n => n⟩
theorem Tryz.lays170 : Go.Proofs.Lays.n170 Tryz.prog Tryz.lays170_ren := {
  mixed := by kernel_rfl
  f170 := Tryz.func77.trans (congrArg some (by kernel_rfl))
  t0 := Tryz.underlying0
  a0 := Tryz.isAgg0
  z0 := Tryz.sizeOf0
  v0 := Tryz.zeroValue0
  t3 := Tryz.underlying3
  a3 := Tryz.isAgg3
  z3 := Tryz.sizeOf3
  v3 := Tryz.zeroValue3
  t37 := Tryz.underlying129
  a37 := Tryz.isAgg129
  z37 := Tryz.sizeOf129
  v37 := Tryz.zeroValue129
  t70 := Tryz.underlying128
  a70 := Tryz.isAgg128
  z70 := Tryz.sizeOf128
  v70 := Tryz.zeroValue128
  t72 := Tryz.underlying131
  a72 := Tryz.isAgg131
  z72 := Tryz.sizeOf131
  v72 := Tryz.zeroValue131 }
def Tryz.lays169_ren : Go.Shelf.Ren := ⟨fun | 169 => 78 | n => n, fun | 70 => 128 | 9 => 9 | 0 => 0 | 72 => 131 | 37 => 129 | 127 => 163 | 3 => 3 | 5 => 5 | n => n, fun | n => n⟩
theorem Tryz.lays169 : Go.Proofs.Lays.n169 Tryz.prog Tryz.lays169_ren := {
  mixed := by kernel_rfl
  f169 := Tryz.func78.trans (congrArg some (by kernel_rfl))
  t0 := Tryz.underlying0
  a0 := Tryz.isAgg0
  z0 := Tryz.sizeOf0
  v0 := Tryz.zeroValue0
  t3 := Tryz.underlying3
  a3 := Tryz.isAgg3
  z3 := Tryz.sizeOf3
  v3 := Tryz.zeroValue3
  t9 := Tryz.underlying9
  a9 := Tryz.isAgg9
  z9 := Tryz.sizeOf9
  v9 := Tryz.zeroValue9
  t37 := Tryz.underlying129
  a37 := Tryz.isAgg129
  z37 := Tryz.sizeOf129
  v37 := Tryz.zeroValue129
  t70 := Tryz.underlying128
  a70 := Tryz.isAgg128
  z70 := Tryz.sizeOf128
  v70 := Tryz.zeroValue128
  t72 := Tryz.underlying131
  a72 := Tryz.isAgg131
  z72 := Tryz.sizeOf131
  v72 := Tryz.zeroValue131
  t127 := Tryz.underlying163
  a127 := Tryz.isAgg163
  z127 := Tryz.sizeOf163
  v127 := Tryz.zeroValue163 }
theorem Tryz.Builder_Extra_169 : Builder.Extra Tryz.prog Tryz.lays169_ren := {
  sizeBuilder := by kernel_rfl
  liesBuilder := by kernel_rfl
  t5 := Tryz.underlying5
  a5 := Tryz.isAgg5
  z5 := Tryz.sizeOf5
  v5 := Tryz.zeroValue5
  infoByte := by kernel_rfl
  cellsByte := by kernel_rfl
  sizeByte := by kernel_rfl
  neB5 := by decide }
def Tryz.lays137_ren : Go.Shelf.Ren := ⟨fun | 137 => 71 | 217 => 102 | 266 => 121 | n => n, fun | 9 => 9 | 5 => 5 | 3 => 3 | n => n, fun | n => n⟩
theorem Tryz.lays137 : Go.Proofs.Lays.n137 Tryz.prog Tryz.lays137_ren := {
  mixed := by kernel_rfl
  f137 := Tryz.func71.trans (congrArg some (by kernel_rfl))
  f217 := Tryz.func102.trans (congrArg some (by kernel_rfl))
  f266 := Tryz.func121.trans (congrArg some (by kernel_rfl))
  t3 := Tryz.underlying3
  a3 := Tryz.isAgg3
  z3 := Tryz.sizeOf3
  v3 := Tryz.zeroValue3
  t5 := Tryz.underlying5
  a5 := Tryz.isAgg5
  z5 := Tryz.sizeOf5
  v5 := Tryz.zeroValue5
  t9 := Tryz.underlying9
  a9 := Tryz.isAgg9
  z9 := Tryz.sizeOf9
  v9 := Tryz.zeroValue9 }
open Go.RowKit in
theorem Tryz.strings_IndexByte (s : ByteArray) (c : Int) (w : World) :
    Calls Tryz.prog 71 #[.string s, .int .u8 c] w fun e w' => e = .returned (.int .i64 (Lib.indexByte s.data.toList c.toNat.toUInt8)) ∧ w' = w := Any.strings_IndexByte Tryz.lays137 s c w
def Tryz.lays215_ren : Go.Shelf.Ren := ⟨fun | 215 => 137 | n => n, fun | 3 => 3 | 4 => 4 | n => n, fun | n => n⟩
theorem Tryz.lays215 : Go.Proofs.Lays.n215 Tryz.prog Tryz.lays215_ren := {
  mixed := by kernel_rfl
  f215 := Tryz.func137.trans (congrArg some (by kernel_rfl))
  t3 := Tryz.underlying3
  a3 := Tryz.isAgg3
  z3 := Tryz.sizeOf3
  v3 := Tryz.zeroValue3
  t4 := Tryz.underlying4
  a4 := Tryz.isAgg4
  z4 := Tryz.sizeOf4
  v4 := Tryz.zeroValue4 }
open Go.RowKit in
theorem Tryz.cmp_isNaN_int (x : Int) (w : World) :
    Calls Tryz.prog 137 #[.int .i64 x] w fun e w' => e = .returned (.bool false) ∧ w' = w := Any.cmp_isNaN_int Tryz.lays215 x w
def Tryz.lays122_ren : Go.Shelf.Ren := ⟨fun | 122 => 124 | 215 => 137 | n => n, fun | 3 => 3 | 4 => 4 | n => n, fun | n => n⟩
theorem Tryz.lays122 : Go.Proofs.Lays.n122 Tryz.prog Tryz.lays122_ren := {
  mixed := by kernel_rfl
  f122 := Tryz.func124.trans (congrArg some (by kernel_rfl))
  f215 := Tryz.func137.trans (congrArg some (by kernel_rfl))
  t3 := Tryz.underlying3
  a3 := Tryz.isAgg3
  z3 := Tryz.sizeOf3
  v3 := Tryz.zeroValue3
  t4 := Tryz.underlying4
  a4 := Tryz.isAgg4
  z4 := Tryz.sizeOf4
  v4 := Tryz.zeroValue4 }
open Go.RowKit in
theorem Tryz.cmp_Compare_int (x y : Int) (w : World) :
    Calls Tryz.prog 124 #[.int .i64 x, .int .i64 y] w fun e w' => e = .returned (.int .i64 (Lib.compareInt x y)) ∧ w' = w := Any.cmp_Compare_int Tryz.lays122 x y w
open Go.RowKit in
theorem Tryz.Builder_Len_f (B b : Nat) (bs : List Value) (w : World) (h : Lib.IsBuilderF 131 5 B b bs w) :
    Calls Tryz.prog 77 #[.pointer (some ⟨b, 0, none⟩)] w fun e w' => e = .returned (.int .i64 bs.length) ∧ w' = w := Any.Builder_Len_f Tryz.lays170 B b bs w h
open Go.RowKit in
theorem Tryz.Builder_String_any_k (B b : Nat) (l : List UInt8) (w : World) (h : Lib.IsBuilderF 131 5 B b (Lib.byteCells l) w) (hBw : B ≤ w.heap.size) :
    Calls Tryz.prog 78 #[.pointer (some ⟨b, 0, none⟩)] w fun e w' => e = .returned (.string ⟨l.toArray⟩) ∧ (Lib.IsBuilderF 131 5 B b (Lib.byteCells l) w' ∧ Below B w w' ∧ Lib.OthersKept 5 (some b) w w') := Any.Builder_String_any_k Tryz.lays169 Tryz.Builder_Extra_169 B b l w h hBw
def Tryz.lays190_ren : Go.Shelf.Ren := ⟨fun | 190 => 42 | 125 => 66 | 258 => 65 | 128 => 91 | 129 => 92 | 302 => 82 | 303 => 83 | 304 => 84 | 305 => 85 | 306 => 86 | 307 => 87 | 308 => 88 | 309 => 89 | 310 => 90 | 333 => 113 | 329 => 114 | 330 => 115 | 334 => 116 | 335 => 117 | 336 => 68 | 344 => 127 | n => n, fun | 31 => 47 | 9 => 9 | 3 => 3 | 46 => 112 | 0 => 0 | 51 => 150 | 53 => 152 | 4 => 4 | 183 => 143 | 182 => 142 | 131 => 147 | 5 => 5 | 218 => 164 | 222 => 168 | 228 => 177 | 229 => 178 | n => n, fun | n => n⟩
theorem Tryz.lays190 : Go.Proofs.Lays.n190 Tryz.prog Tryz.lays190_ren := {
  mixed := by kernel_rfl
  f125 := Tryz.func66.trans (congrArg some (by kernel_rfl))
  f128 := Tryz.func91.trans (congrArg some (by kernel_rfl))
  f129 := Tryz.func92.trans (congrArg some (by kernel_rfl))
  f190 := Tryz.func42.trans (congrArg some (by kernel_rfl))
  f258 := Tryz.func65.trans (congrArg some (by kernel_rfl))
  f302 := Tryz.func82.trans (congrArg some (by kernel_rfl))
  f303 := Tryz.func83.trans (congrArg some (by kernel_rfl))
  f304 := Tryz.func84.trans (congrArg some (by kernel_rfl))
  f305 := Tryz.func85.trans (congrArg some (by kernel_rfl))
  f306 := Tryz.func86.trans (congrArg some (by kernel_rfl))
  f307 := Tryz.func87.trans (congrArg some (by kernel_rfl))
  f308 := Tryz.func88.trans (congrArg some (by kernel_rfl))
  f309 := Tryz.func89.trans (congrArg some (by kernel_rfl))
  f310 := Tryz.func90.trans (congrArg some (by kernel_rfl))
  f329 := Tryz.func114.trans (congrArg some (by kernel_rfl))
  f330 := Tryz.func115.trans (congrArg some (by kernel_rfl))
  f333 := Tryz.func113.trans (congrArg some (by kernel_rfl))
  f334 := Tryz.func116.trans (congrArg some (by kernel_rfl))
  f335 := Tryz.func117.trans (congrArg some (by kernel_rfl))
  f336 := Tryz.func68.trans (congrArg some (by kernel_rfl))
  f344 := Tryz.func127.trans (congrArg some (by kernel_rfl))
  t0 := Tryz.underlying0
  a0 := Tryz.isAgg0
  z0 := Tryz.sizeOf0
  v0 := Tryz.zeroValue0
  t3 := Tryz.underlying3
  a3 := Tryz.isAgg3
  z3 := Tryz.sizeOf3
  v3 := Tryz.zeroValue3
  t4 := Tryz.underlying4
  a4 := Tryz.isAgg4
  z4 := Tryz.sizeOf4
  v4 := Tryz.zeroValue4
  t5 := Tryz.underlying5
  a5 := Tryz.isAgg5
  z5 := Tryz.sizeOf5
  v5 := Tryz.zeroValue5
  t9 := Tryz.underlying9
  a9 := Tryz.isAgg9
  z9 := Tryz.sizeOf9
  v9 := Tryz.zeroValue9
  t31 := Tryz.underlying47
  a31 := Tryz.isAgg47
  z31 := Tryz.sizeOf47
  v31 := Tryz.zeroValue47
  t46 := Tryz.underlying112
  a46 := Tryz.isAgg112
  z46 := Tryz.sizeOf112
  v46 := Tryz.zeroValue112
  t51 := Tryz.underlying150
  a51 := Tryz.isAgg150
  z51 := Tryz.sizeOf150
  v51 := Tryz.zeroValue150
  t53 := Tryz.underlying152
  a53 := Tryz.isAgg152
  z53 := Tryz.sizeOf152
  v53 := Tryz.zeroValue152
  t131 := Tryz.underlying147
  a131 := Tryz.isAgg147
  z131 := Tryz.sizeOf147
  v131 := Tryz.zeroValue147
  t182 := Tryz.underlying142
  a182 := Tryz.isAgg142
  z182 := Tryz.sizeOf142
  v182 := Tryz.zeroValue142
  t183 := Tryz.underlying143
  a183 := Tryz.isAgg143
  z183 := Tryz.sizeOf143
  v183 := Tryz.zeroValue143
  t218 := Tryz.underlying164
  a218 := Tryz.isAgg164
  z218 := Tryz.sizeOf164
  v218 := Tryz.zeroValue164
  t222 := Tryz.underlying168
  a222 := Tryz.isAgg168
  z222 := Tryz.sizeOf168
  v222 := Tryz.zeroValue168
  t228 := Tryz.underlying177
  a228 := Tryz.isAgg177
  z228 := Tryz.sizeOf177
  v228 := Tryz.zeroValue177
  t229 := Tryz.underlying178
  a229 := Tryz.isAgg178
  z229 := Tryz.sizeOf178
  v229 := Tryz.zeroValue178 }
open Go.Sort Go.RowKit in
theorem Tryz.slices_Sort_string (blk off cap : Nat) (ss : List (List UInt8)) (w : World) (hH : Holds encStr w blk off ss.toArray) (hblk : blk < w.heap.size) (hsz : ss.length < 4611686018427387904) :
    Calls Tryz.prog 42 #[.slice (some ⟨blk, off, none⟩) ss.length cap] w fun e w' =>
      e = .returned (.tuple #[]) ∧ ∃ n os, w' = grow (putRow encStr (Sort.ahead w n) blk off (ss.mergeSort fun x y => decide (x ≤ y)).toArray) os := Any.slices_Sort_string Tryz.lays190 blk off cap ss w hH hblk hsz
open Go.RowKit Go.Sort in
theorem Tryz.slices_Sort_string_none (p : Option Addr) (cap : Nat) (w : World) :
    Calls Tryz.prog 42 #[.slice p 0 cap] w fun e w' => e = .returned (.tuple #[]) ∧ w' = w := Any.slices_Sort_string_none Tryz.lays190 p cap w
def Tryz.sortEd_ren : Go.Shelf.Ren := ⟨fun | 6 => 107 | 15 => 66 | 14 => 122 | 28 => 91 | 29 => 92 | 20 => 129 | 21 => 130 | 22 => 131 | 23 => 132 | 24 => 133 | 25 => 134 | 26 => 135 | 27 => 136 | 46 => 138 | 47 => 114 | 48 => 115 | 49 => 139 | 50 => 140 | 57 => 141 | n => n, fun | 22 => 68 | 24 => 91 | 25 => 162 | 3 => 3 | 39 => 112 | 0 => 0 | 53 => 150 | 55 => 152 | 4 => 4 | 46 => 143 | 45 => 142 | 50 => 147 | 5 => 5 | 9 => 9 | 66 => 164 | 70 => 168 | 76 => 177 | 77 => 178 | n => n, fun | n => n⟩
theorem Tryz.sortEd : Go.Proofs.SlLaysF0.n6 Tryz.prog Tryz.sortEd_ren := {
  mixed := by kernel_rfl
  f6 := ⟨Tryz.f107.name, by decide, Tryz.func107.trans (congrArg some (by kernel_rfl))⟩
  f14 := ⟨Tryz.f122.name, by decide, Tryz.func122.trans (congrArg some (by kernel_rfl))⟩
  f15 := Tryz.func66.trans (congrArg some (by kernel_rfl))
  f20 := ⟨Tryz.f129.name, by decide, Tryz.func129.trans (congrArg some (by kernel_rfl))⟩
  f21 := ⟨Tryz.f130.name, by decide, Tryz.func130.trans (congrArg some (by kernel_rfl))⟩
  f22 := ⟨Tryz.f131.name, by decide, Tryz.func131.trans (congrArg some (by kernel_rfl))⟩
  f23 := ⟨Tryz.f132.name, by decide, Tryz.func132.trans (congrArg some (by kernel_rfl))⟩
  f24 := ⟨Tryz.f133.name, by decide, Tryz.func133.trans (congrArg some (by kernel_rfl))⟩
  f25 := ⟨Tryz.f134.name, by decide, Tryz.func134.trans (congrArg some (by kernel_rfl))⟩
  f26 := ⟨Tryz.f135.name, by decide, Tryz.func135.trans (congrArg some (by kernel_rfl))⟩
  f27 := ⟨Tryz.f136.name, by decide, Tryz.func136.trans (congrArg some (by kernel_rfl))⟩
  f28 := Tryz.func91.trans (congrArg some (by kernel_rfl))
  f29 := Tryz.func92.trans (congrArg some (by kernel_rfl))
  f46 := ⟨Tryz.f138.name, by decide, Tryz.func138.trans (congrArg some (by kernel_rfl))⟩
  f47 := Tryz.func114.trans (congrArg some (by kernel_rfl))
  f48 := Tryz.func115.trans (congrArg some (by kernel_rfl))
  f49 := ⟨Tryz.f139.name, by decide, Tryz.func139.trans (congrArg some (by kernel_rfl))⟩
  f50 := ⟨Tryz.f140.name, by decide, Tryz.func140.trans (congrArg some (by kernel_rfl))⟩
  f57 := ⟨Tryz.f141.name, by decide, Tryz.func141.trans (congrArg some (by kernel_rfl))⟩
  t0 := Tryz.underlying0
  a0 := Tryz.isAgg0
  z0 := Tryz.sizeOf0
  v0 := Tryz.zeroValue0
  t3 := Tryz.underlying3
  a3 := Tryz.isAgg3
  z3 := Tryz.sizeOf3
  v3 := Tryz.zeroValue3
  t4 := Tryz.underlying4
  a4 := Tryz.isAgg4
  z4 := Tryz.sizeOf4
  v4 := Tryz.zeroValue4
  t5 := Tryz.underlying5
  a5 := Tryz.isAgg5
  z5 := Tryz.sizeOf5
  v5 := Tryz.zeroValue5
  t9 := Tryz.underlying9
  a9 := Tryz.isAgg9
  z9 := Tryz.sizeOf9
  v9 := Tryz.zeroValue9
  t22 := Tryz.underlying68
  a22 := Tryz.isAgg68
  z22 := Tryz.sizeOf68
  v22 := Tryz.zeroValue68
  t25 := Tryz.underlying162
  a25 := Tryz.isAgg162
  z25 := Tryz.sizeOf162
  v25 := Tryz.zeroValue162
  t39 := Tryz.underlying112
  a39 := Tryz.isAgg112
  z39 := Tryz.sizeOf112
  v39 := Tryz.zeroValue112
  t45 := Tryz.underlying142
  a45 := Tryz.isAgg142
  z45 := Tryz.sizeOf142
  v45 := Tryz.zeroValue142
  t46 := Tryz.underlying143
  a46 := Tryz.isAgg143
  z46 := Tryz.sizeOf143
  v46 := Tryz.zeroValue143
  t50 := Tryz.underlying147
  a50 := Tryz.isAgg147
  z50 := Tryz.sizeOf147
  v50 := Tryz.zeroValue147
  t53 := Tryz.underlying150
  a53 := Tryz.isAgg150
  z53 := Tryz.sizeOf150
  v53 := Tryz.zeroValue150
  t55 := Tryz.underlying152
  a55 := Tryz.isAgg152
  z55 := Tryz.sizeOf152
  v55 := Tryz.zeroValue152
  t66 := Tryz.underlying164
  a66 := Tryz.isAgg164
  z66 := Tryz.sizeOf164
  v66 := Tryz.zeroValue164
  t70 := Tryz.underlying168
  a70 := Tryz.isAgg168
  z70 := Tryz.sizeOf168
  v70 := Tryz.zeroValue168
  t76 := Tryz.underlying177
  a76 := Tryz.isAgg177
  z76 := Tryz.sizeOf177
  v76 := Tryz.zeroValue177
  t77 := Tryz.underlying178
  a77 := Tryz.isAgg178
  z77 := Tryz.sizeOf178
  v77 := Tryz.zeroValue178 }
def Tryz.containsEd_ren : Go.Shelf.Ren := ⟨fun | 8 => 58 | 6 => 72 | n => n, fun | 22 => 68 | 23 => 91 | 25 => 104 | 4 => 4 | 3 => 3 | 0 => 0 | n => n, fun | n => n⟩
theorem Tryz.containsEd : Go.Proofs.SlLaysH0.n8 Tryz.prog Tryz.containsEd_ren := {
  mixed := by kernel_rfl
  f6 := ⟨Tryz.f72.name, by decide, Tryz.func72.trans (congrArg some (by kernel_rfl))⟩
  f8 := ⟨Tryz.f58.name, by decide, Tryz.func58.trans (congrArg some (by kernel_rfl))⟩
  t0 := Tryz.underlying0
  a0 := Tryz.isAgg0
  z0 := Tryz.sizeOf0
  v0 := Tryz.zeroValue0
  t3 := Tryz.underlying3
  a3 := Tryz.isAgg3
  z3 := Tryz.sizeOf3
  v3 := Tryz.zeroValue3
  t4 := Tryz.underlying4
  a4 := Tryz.isAgg4
  z4 := Tryz.sizeOf4
  v4 := Tryz.zeroValue4
  t22 := Tryz.underlying68
  a22 := Tryz.isAgg68
  z22 := Tryz.sizeOf68
  v22 := Tryz.zeroValue68
  t25 := Tryz.underlying104
  a25 := Tryz.isAgg104
  z25 := Tryz.sizeOf104
  v25 := Tryz.zeroValue104 }
def Tryz.sortFi_ren : Go.Shelf.Ren := ⟨fun | 6 => 44 | 15 => 66 | 14 => 67 | 28 => 91 | 29 => 92 | 20 => 93 | 21 => 94 | 22 => 95 | 23 => 96 | 24 => 97 | 25 => 98 | 26 => 99 | 27 => 100 | 46 => 118 | 47 => 114 | 48 => 115 | 49 => 119 | 50 => 120 | 57 => 128 | n => n, fun | 22 => 37 | 24 => 41 | 25 => 86 | 3 => 3 | 39 => 112 | 0 => 0 | 53 => 150 | 55 => 152 | 4 => 4 | 46 => 143 | 45 => 142 | 50 => 147 | 5 => 5 | 9 => 9 | 66 => 164 | 70 => 168 | 76 => 177 | 77 => 178 | n => n, fun | n => n⟩
theorem Tryz.sortFi : Go.Proofs.SlLaysF0.n6 Tryz.prog Tryz.sortFi_ren := {
  mixed := by kernel_rfl
  f6 := ⟨Tryz.f44.name, by decide, Tryz.func44.trans (congrArg some (by kernel_rfl))⟩
  f14 := ⟨Tryz.f67.name, by decide, Tryz.func67.trans (congrArg some (by kernel_rfl))⟩
  f15 := Tryz.func66.trans (congrArg some (by kernel_rfl))
  f20 := ⟨Tryz.f93.name, by decide, Tryz.func93.trans (congrArg some (by kernel_rfl))⟩
  f21 := ⟨Tryz.f94.name, by decide, Tryz.func94.trans (congrArg some (by kernel_rfl))⟩
  f22 := ⟨Tryz.f95.name, by decide, Tryz.func95.trans (congrArg some (by kernel_rfl))⟩
  f23 := ⟨Tryz.f96.name, by decide, Tryz.func96.trans (congrArg some (by kernel_rfl))⟩
  f24 := ⟨Tryz.f97.name, by decide, Tryz.func97.trans (congrArg some (by kernel_rfl))⟩
  f25 := ⟨Tryz.f98.name, by decide, Tryz.func98.trans (congrArg some (by kernel_rfl))⟩
  f26 := ⟨Tryz.f99.name, by decide, Tryz.func99.trans (congrArg some (by kernel_rfl))⟩
  f27 := ⟨Tryz.f100.name, by decide, Tryz.func100.trans (congrArg some (by kernel_rfl))⟩
  f28 := Tryz.func91.trans (congrArg some (by kernel_rfl))
  f29 := Tryz.func92.trans (congrArg some (by kernel_rfl))
  f46 := ⟨Tryz.f118.name, by decide, Tryz.func118.trans (congrArg some (by kernel_rfl))⟩
  f47 := Tryz.func114.trans (congrArg some (by kernel_rfl))
  f48 := Tryz.func115.trans (congrArg some (by kernel_rfl))
  f49 := ⟨Tryz.f119.name, by decide, Tryz.func119.trans (congrArg some (by kernel_rfl))⟩
  f50 := ⟨Tryz.f120.name, by decide, Tryz.func120.trans (congrArg some (by kernel_rfl))⟩
  f57 := ⟨Tryz.f128.name, by decide, Tryz.func128.trans (congrArg some (by kernel_rfl))⟩
  t0 := Tryz.underlying0
  a0 := Tryz.isAgg0
  z0 := Tryz.sizeOf0
  v0 := Tryz.zeroValue0
  t3 := Tryz.underlying3
  a3 := Tryz.isAgg3
  z3 := Tryz.sizeOf3
  v3 := Tryz.zeroValue3
  t4 := Tryz.underlying4
  a4 := Tryz.isAgg4
  z4 := Tryz.sizeOf4
  v4 := Tryz.zeroValue4
  t5 := Tryz.underlying5
  a5 := Tryz.isAgg5
  z5 := Tryz.sizeOf5
  v5 := Tryz.zeroValue5
  t9 := Tryz.underlying9
  a9 := Tryz.isAgg9
  z9 := Tryz.sizeOf9
  v9 := Tryz.zeroValue9
  t22 := Tryz.underlying37
  a22 := Tryz.isAgg37
  z22 := Tryz.sizeOf37
  v22 := Tryz.zeroValue37
  t25 := Tryz.underlying86
  a25 := Tryz.isAgg86
  z25 := Tryz.sizeOf86
  v25 := Tryz.zeroValue86
  t39 := Tryz.underlying112
  a39 := Tryz.isAgg112
  z39 := Tryz.sizeOf112
  v39 := Tryz.zeroValue112
  t45 := Tryz.underlying142
  a45 := Tryz.isAgg142
  z45 := Tryz.sizeOf142
  v45 := Tryz.zeroValue142
  t46 := Tryz.underlying143
  a46 := Tryz.isAgg143
  z46 := Tryz.sizeOf143
  v46 := Tryz.zeroValue143
  t50 := Tryz.underlying147
  a50 := Tryz.isAgg147
  z50 := Tryz.sizeOf147
  v50 := Tryz.zeroValue147
  t53 := Tryz.underlying150
  a53 := Tryz.isAgg150
  z53 := Tryz.sizeOf150
  v53 := Tryz.zeroValue150
  t55 := Tryz.underlying152
  a55 := Tryz.isAgg152
  z55 := Tryz.sizeOf152
  v55 := Tryz.zeroValue152
  t66 := Tryz.underlying164
  a66 := Tryz.isAgg164
  z66 := Tryz.sizeOf164
  v66 := Tryz.zeroValue164
  t70 := Tryz.underlying168
  a70 := Tryz.isAgg168
  z70 := Tryz.sizeOf168
  v70 := Tryz.zeroValue168
  t76 := Tryz.underlying177
  a76 := Tryz.isAgg177
  z76 := Tryz.sizeOf177
  v76 := Tryz.zeroValue177
  t77 := Tryz.underlying178
  a77 := Tryz.isAgg178
  z77 := Tryz.sizeOf178
  v77 := Tryz.zeroValue178 }
def Tryz.indexFi_ren : Go.Shelf.Ren := ⟨fun | 6 => 48 | n => n, fun | 22 => 37 | 23 => 41 | 25 => 88 | 3 => 3 | 0 => 0 | 4 => 4 | n => n, fun | n => n⟩
theorem Tryz.indexFi : Go.Proofs.SlLaysH0.n6 Tryz.prog Tryz.indexFi_ren := {
  mixed := by kernel_rfl
  f6 := ⟨Tryz.f48.name, by decide, Tryz.func48.trans (congrArg some (by kernel_rfl))⟩
  t0 := Tryz.underlying0
  a0 := Tryz.isAgg0
  z0 := Tryz.sizeOf0
  v0 := Tryz.zeroValue0
  t3 := Tryz.underlying3
  a3 := Tryz.isAgg3
  z3 := Tryz.sizeOf3
  v3 := Tryz.zeroValue3
  t4 := Tryz.underlying4
  a4 := Tryz.isAgg4
  z4 := Tryz.sizeOf4
  v4 := Tryz.zeroValue4
  t22 := Tryz.underlying37
  a22 := Tryz.isAgg37
  z22 := Tryz.sizeOf37
  v22 := Tryz.zeroValue37
  t25 := Tryz.underlying88
  a25 := Tryz.isAgg88
  z25 := Tryz.sizeOf88
  v25 := Tryz.zeroValue88 }
end Go.Proofs

namespace Go.Proofs
open Go.Shelf
def Tryz.lays166_ren : Go.Shelf.Ren := ⟨fun | 166 => 76 | 240 => 110 | 276 => 125 | n => n, fun | 0 => 0 | 3 => 3 | 4 => 4 | 5 => 5 | 9 => 9 | 20 => 20 | 37 => 129 | 70 => 128 | 72 => 131 | 75 => 133 | 80 => 137 | 164 => 175 | n => n, fun | n => n⟩
theorem Tryz.lays166 : Go.Proofs.Lays.n166 Tryz.prog Tryz.lays166_ren := {
  mixed := by kernel_rfl
  f166 := Tryz.func76.trans (congrArg some (by kernel_rfl))
  f240 := Tryz.func110.trans (congrArg some (by kernel_rfl))
  f276 := Tryz.func125.trans (congrArg some (by kernel_rfl))
  t0 := Tryz.underlying0
  a0 := Tryz.isAgg0
  z0 := Tryz.sizeOf0
  v0 := Tryz.zeroValue0
  t3 := Tryz.underlying3
  a3 := Tryz.isAgg3
  z3 := Tryz.sizeOf3
  v3 := Tryz.zeroValue3
  t4 := Tryz.underlying4
  a4 := Tryz.isAgg4
  z4 := Tryz.sizeOf4
  v4 := Tryz.zeroValue4
  t9 := Tryz.underlying9
  a9 := Tryz.isAgg9
  z9 := Tryz.sizeOf9
  v9 := Tryz.zeroValue9
  t20 := Tryz.underlying20
  a20 := Tryz.isAgg20
  z20 := Tryz.sizeOf20
  v20 := Tryz.zeroValue20
  t37 := Tryz.underlying129
  a37 := Tryz.isAgg129
  z37 := Tryz.sizeOf129
  v37 := Tryz.zeroValue129
  t70 := Tryz.underlying128
  a70 := Tryz.isAgg128
  z70 := Tryz.sizeOf128
  v70 := Tryz.zeroValue128
  t72 := Tryz.underlying131
  a72 := Tryz.isAgg131
  z72 := Tryz.sizeOf131
  v72 := Tryz.zeroValue131
  t75 := Tryz.underlying133
  a75 := Tryz.isAgg133
  z75 := Tryz.sizeOf133
  v75 := Tryz.zeroValue133
  t164 := Tryz.underlying175
  a164 := Tryz.isAgg175
  z164 := Tryz.sizeOf175
  v164 := Tryz.zeroValue175 }
theorem Tryz.Builder_Extra_166 : Builder.Extra Tryz.prog Tryz.lays166_ren := {
  sizeBuilder := by kernel_rfl
  liesBuilder := by kernel_rfl
  t5 := Tryz.underlying5
  a5 := Tryz.isAgg5
  z5 := Tryz.sizeOf5
  v5 := Tryz.zeroValue5
  infoByte := by kernel_rfl
  cellsByte := by kernel_rfl
  sizeByte := by kernel_rfl
  neB5 := by decide }
open Go.RowKit in
theorem Tryz.Builder_WriteString_k (B b : Nat) (bs : List Value) (s : ByteArray) (w : World) (h : Lib.IsBuilderF 131 5 B b bs w) (hlen : bs.length + s.size ≤ 140737488355328) (hBw : B ≤ w.heap.size) :
    Calls Tryz.prog 76 #[.pointer (some ⟨b, 0, none⟩), .string s] w fun e w' => e = .returned (.tuple #[.int .i64 s.size, .nilIface]) ∧ (Lib.BuilderAtF 131 5 B b (.pointer (some ⟨b, 0, none⟩)) (bs ++ Lib.strCells s) w' ∧ Below B w w' ∧ Lib.OthersKept 5 (some b) w w') := Any.Builder_WriteString_k Tryz.lays166 Tryz.Builder_Extra_166 B b bs s w h hlen hBw
end Go.Proofs

namespace Go.Proofs.YthimblhfjfngiaaGreat.PText
open Go.RowKit Go.Lib Go.Proofs.YthimblhfjfngiaaGreatW.PrintWords Go.Proofs.YthimblhfjfngiaaGreatW.PrintLast Go.Proofs.YthimblhfjfngiaaGreatW.PrintMore
set_option linter.unusedVariables false
set_option linter.unusedSimpArgs false
def text_sorted.f (l0 : List S91) : Option (List S91) := if l0.length ≤ 10000 then some (Tx.ord eltS l0) else none
theorem isAgg34 : ∀ w, (isAgg 91).run Tryz.prog w = .ok true w := fun w => by simp [isAgg, run_underlying Tryz.underlying91]
theorem sizeOf34 : ∀ w, (Go.sizeOf 91).run Tryz.prog w = .ok 3 w := fun w => by
  obtain ⟨i0, hi, hz0, hz1, hz2⟩ := info_parts info91
  simp [Go.sizeOf, typeInfo, hi, hz1]
theorem ltOf_cfE' : ltOf cfE = eltS := by
  funext x y
  exact ltOf_cfE x y
theorem eltS_swo : Sort.SWO eltS where
  irrefl x := eltS_lin.irr x
  trans x y z h1 h2 := eltS_lin.tr h1 h2
  ntrans x y z h1 h2 := by
    cases q : eltS x z with
    | false => rfl
    | true =>
      cases q1 : eltS y x with
      | true => rw [eltS_lin.tr q1 q] at h2; cases h2
      | false =>
        have e := eltS_lin.tri h1 q1
        rw [e] at q; rw [q] at h2; cases h2
/-- slices.SortFunc, at a row that is not empty -/
theorem sort_calls (g cap : Nat) (l : List S91) (w : World) (hH : Sort.HoldsK enc34 3 w g 0 l.toArray) (hb : g < w.heap.size) (hl : l.length ≤ 10000) :
    Calls Tryz.prog 107 #[.slice (some ⟨g, 0, none⟩) l.length cap, .func (.func 108) #[] #[]] w fun e w' => e = .returned (.tuple #[]) ∧
      ∃ (d' : Array S91) (n : Nat) (os : Array Obj), d'.size = l.length ∧ (∀ a, a ∈ d'.toList ↔ a ∈ l) ∧ (∀ i j, i < j → j < d'.size → eltS d'[j]! d'[i]! = false) ∧ w' = Sort.grow (Sort.putRowK enc34 3 (Sort.ahead w n) g 0 d') os := by
  have eg : ∀ args w, (callFunc 108 args).run Tryz.prog w = .ok (.enter 108 args) w := enters_of Tryz.func108 (by kernel_rfl) rfl
  have hcmp : CmpLays Tryz.prog 108 #[] enc34 3 cfE g 0 l.toArray.size w := fun m os dk _ x y => text_order.grows 8 x.f0 x.f1 x.f2 y.f0 y.f1 y.f2 (cfE x y) _ (order_f x y)
  have h := AnyQ.slices_SortFunc Tryz.sortEd 3 isAgg34 sizeOf34 enc34 enc34_len enc34_one cfE (by rw [ltOf_cfE']; exact eltS_swo) 108 #[] g 0 cap l.toArray w eg hcmp hH hb (by rw [List.size_toArray]; omega)
  rw [List.size_toArray] at h
  refine h.mono ?_
  rintro e w' ⟨he, d', n, os, hp, hs, hw⟩
  obtain ⟨p1, _, p3⟩ := hp
  replace p1 : d'.size = l.length := p1.trans (by simp)
  refine ⟨he, d', n, os, p1, fun a => ?_, fun i j hij hj => ?_, hw⟩
  · have e1 : (d'.extract 0 l.length).toList = d'.toList := by rw [show l.length = d'.size from p1.symm]; simp
    have e2 : (l.toArray.extract 0 l.length).toList = l := by simp
    rw [e1, e2] at p3
    exact p3.mem_iff
  · have := hs i j (Nat.zero_le _) hij (by omega)
    rwa [ltOf_cfE'] at this
theorem sort_none (p : Option Addr) (cap : Nat) (w : World) : Calls Tryz.prog 107 #[.slice p 0 cap, .func (.func 108) #[] #[]] w fun e w' => e = .returned (.tuple #[]) ∧ w' = w :=
  AnyF.slices_SortFunc_none Tryz.sortEd p cap (.func (.func 108) #[] #[]) w
set_option maxHeartbeats 2000000 in
set_option maxRecDepth 100000 in
theorem compact_none (p : Option Addr) (cap : Nat) (w : World) : Calls Tryz.prog 109 #[.slice p 0 cap] w fun e w' => e = .returned (.slice p 0 cap) ∧ w' = w := by
  go_enter Tryz.func109, Tryz.ntmps109
  go_wp2
  go_ret
  exact ⟨rfl, rfl⟩
theorem clone_row (A0 : Option Addr) (c0 : Nat) (l0 : List S91) (w : World) (hr0 : Kd.C k91 w A0 l0.length l0) (hl : l0.length ≤ 10000) (hp : 0 < l0.length) :
    Calls Tryz.prog 106 #[.slice A0 l0.length c0] w fun e w' => ∃ (g cap : Nat) (cur : Array Value), e = .returned (.slice (some ⟨g, 0, none⟩) l0.length cap) ∧ w.heap.size ≤ g ∧ g < w'.heap.size ∧
      w'.heap[g]? = some (.cells cur 91 (0, 0)) ∧ l0.length ≤ cap ∧ cap ≤ maxLen ∧ cur.size = cap * 3 ∧ Sort.HoldsK enc34 3 w' g 0 l0.toArray ∧ Below w.heap.size w w' := by
  refine (clone_calls A0 c0 l0 w hr0 hl).mono ?_
  rintro e w' ⟨v0, rfl, ho, hb⟩
  obtain ⟨inner, hlen, ⟨_, hz⟩ | ⟨g, cap, cur, rfl, g1, g2, g3, g4, g5, _⟩⟩ := Kd.R_own ho
  · omega
  · exact ⟨g, cap, cur, rfl, g1, (Array.getElem?_eq_some_iff.1 g2).1, g2, g3, g4, g5, holds_of_row ho ⟨cur, g2⟩, hb⟩
theorem compact_row (g cap n : Nat) (d : Array S91) (w : World) (hs : d.size = n) (hH : Sort.HoldsK enc34 3 w g 0 d) (hn : n ≤ 10000) (hc : n ≤ cap) :
    Calls Tryz.prog 109 #[.slice (some ⟨g, 0, none⟩) n cap] w fun e w' => e = .returned (.slice (some ⟨g, 0, none⟩) (compactUpTo d d.size).length cap) ∧
      ∃ q F, F.size = d.size * 3 ∧ (∀ t, t < (compactUpTo d d.size).length * 3 → F[t]! = (Sort.flatK enc34 3 (compactUpTo d d.size).toArray)[t]!) ∧ w' = Sort.putRow id (Sort.ahead w q) g 0 F := by
  subst hs
  exact compact_calls g cap d w hH (by omega) hc
theorem sorted_holds {w1 : World} {g n : Nat} {os : Array Obj} {l0 : List S91} {d : Array S91} {cur : Array Value} (hh : w1.heap[g]? = some (.cells cur 91 (0, 0))) (hH : Sort.HoldsK enc34 3 w1 g 0 l0.toArray) (hd : d.size = l0.length) :
    Sort.HoldsK enc34 3 (Sort.grow (Sort.putRowK enc34 3 (Sort.ahead w1 n) g 0 d) os) g 0 d := by
  have hh0 : (Sort.ahead w1 n).heap[g]? = some (.cells cur 91 (0, 0)) := hh
  obtain ⟨cur1, hh1, s1⟩ := putRow_heap id (off := 0) (F := Sort.flatK enc34 3 d) hh0
  exact Sort.holdsK_grow enc34 3 _ os g 0 d (Array.getElem?_eq_some_iff.1 hh1).1 (Sort.holdsK_putRowK enc34 3 _ g 0 l0.toArray d (Sort.holdsK_ahead enc34 3 w1 n g 0 _ hH) (by rw [hd]; simp))
/-- what lies behind the sort and the compaction -/
theorem sorted_row {w w1 : World} {g cap n q : Nat} {os : Array Obj} {l0 : List S91} {d : Array S91} {F cur : Array Value} (hl : l0.length ≤ 10000) (hg : w.heap.size ≤ g) (hh : w1.heap[g]? = some (.cells cur 91 (0, 0))) (hcap : l0.length ≤ cap) (hmax : cap ≤ maxLen) (hsz : cur.size = cap * 3)
    (hH : Sort.HoldsK enc34 3 w1 g 0 l0.toArray) (hb : Below w.heap.size w w1) (hd : d.size = l0.length) (hm : ∀ a, a ∈ d.toList ↔ a ∈ l0) (ho : ∀ i j, i < j → j < d.size → eltS d[j]! d[i]! = false)
    (hF : F.size = d.size * 3) (hF2 : ∀ t, t < (compactUpTo d d.size).length * 3 → F[t]! = (Sort.flatK enc34 3 (compactUpTo d d.size).toArray)[t]!) :
    Kd.R k91 91 (Sort.putRow id (Sort.ahead (Sort.grow (Sort.putRowK enc34 3 (Sort.ahead w1 n) g 0 d) os) q) g 0 F) w.heap.size (fun _ => True) (.slice (some ⟨g, 0, none⟩) (compactUpTo d d.size).length cap) (Tx.ord eltS l0) ∧
      Below w.heap.size w (Sort.putRow id (Sort.ahead (Sort.grow (Sort.putRowK enc34 3 (Sort.ahead w1 n) g 0 d) os) q) g 0 F) := by
  have e := Tx.compact_ord eltS_lin d l0 ho hm
  have hlen : (compactUpTo d d.size).length ≤ l0.length := by rw [e]; exact Tx.ord_len l0
  have hh0 : (Sort.ahead w1 n).heap[g]? = some (.cells cur 91 (0, 0)) := hh
  obtain ⟨cur1, hh1, s1⟩ := putRow_heap id (off := 0) (F := Sort.flatK enc34 3 d) hh0
  have hh2 : (Sort.ahead (Sort.grow (Sort.putRowK enc34 3 (Sort.ahead w1 n) g 0 d) os) q).heap[g]? = some (.cells cur1 91 (0, 0)) := grow_heap os hh1
  obtain ⟨cur2, hh3, s2⟩ := putRow_heap id (off := 0) (F := F) hh2
  have hlt : g < w1.heap.size := (Array.getElem?_eq_some_iff.1 hh).1
  have H1 : Sort.HoldsK enc34 3 (Sort.putRowK enc34 3 (Sort.ahead w1 n) g 0 d) g 0 d := Sort.holdsK_putRowK enc34 3 _ g 0 l0.toArray d (Sort.holdsK_ahead enc34 3 w1 n g 0 _ hH) (by rw [hd]; simp)
  have H2 : Sort.HoldsK enc34 3 (Sort.grow (Sort.putRowK enc34 3 (Sort.ahead w1 n) g 0 d) os) g 0 d := Sort.holdsK_grow enc34 3 _ os g 0 d (Array.getElem?_eq_some_iff.1 hh1).1 H1
  have H3 := Sort.holds_putRow id (Sort.ahead (Sort.grow (Sort.putRowK enc34 3 (Sort.ahead w1 n) g 0 d) os) q) g 0 (Sort.flatK enc34 3 d) F (Sort.holdsK_ahead enc34 3 _ q g 0 d H2) (by rw [hF, Sort.size_flatK])
  constructor
  · rw [e] at hlen hF2 ⊢
    refine row34 (cur := cur2) hh3 hg (by omega) hmax (by omega) fun t ht => ?_
    rw [← hF2 t ht]
    have h4 := (H3 t (by omega)).1
    have ht2 : t < cur2.size := by omega
    simp only [World.cell?, hh3, Nat.zero_add] at h4
    have h5 : cur2[t]? = some F[t]! := h4
    rw [getElem!_pos cur2 t ht2]
    rw [Array.getElem?_eq_getElem ht2] at h5
    exact Option.some.inj h5
  · refine hb.trans (((below_ahead _ w1 n).trans ((below_putRow id _ 0 (Sort.flatK enc34 3 d) hg).trans ?_)).trans (below_putRow id _ 0 F hg))
    refine (below_grow ?_ os).trans (below_ahead _ _ q)
    have := (Array.getElem?_eq_some_iff.1 hh1).1
    show w.heap.size ≤ (Sort.putRow id _ g 0 _).heap.size
    omega
set_option maxHeartbeats 8000000 in
set_option maxRecDepth 100000 in
theorem text_sorted.calls (A0 : Option Addr) (c0 : Nat) (l0 : List S91) (r : List S91) (w : World) (hr0 : Kd.C k91 w A0 l0.length l0) (hc0 : l0.length ≤ c0) (h : text_sorted.f l0 = some r) :
    Calls Tryz.prog 75 #[.slice A0 l0.length c0] w fun e w' => ∃ v0_ : Value, e = .returned v0_ ∧ Kd.R k91 91 w' w.heap.size (fun _ => True) v0_ r ∧ Below w.heap.size w w' := by
  unfold text_sorted.f at h
  by_cases hl : l0.length ≤ 10000
  · rw [if_pos hl] at h
    have hr := Option.some.inj h
    clear h
    have h1 := clone_calls A0 c0 l0 w hr0 hl
    have h1r := Aside0.mk (clone_row A0 c0 l0 w hr0 hl)
    have H1 := Aside0.mk h1
    have HR := Aside0.mk hr
    have HL := Aside0.mk hl
    clear h1 hr hr0 hl
    by_cases hp : l0.length = 0
    · obtain rfl := List.eq_nil_of_length_eq_zero hp
      clear hp
      have H2 := Aside0.mk (fun p cap w => sort_none p cap w)
      have H3 := Aside0.mk (fun p cap w => compact_none p cap w)
      go_enter Tryz.func75, Tryz.ntmps75
      go_wp2_with (first
        | (go_at_call 106; refine H1.out.mono ?_; rintro e w1 ⟨v0, rfl, ho, hb⟩; obtain ⟨A1, c1, rfl⟩ := Kd.R_slice ho; have HO := Aside0.mk ho; have HB := Aside0.mk hb; clear ho hb H1)
        | (go_at_call 107; refine (H2.out _ _ _).mono ?_; rintro e w1 ⟨rfl, rfl⟩; clear H2)
        | (go_at_call 109; refine (H3.out _ _ _).mono ?_; rintro e w1 ⟨rfl, rfl⟩; clear H3))
      go_ret
      refine ⟨_, rfl, ?_, HB.out⟩
      rw [← HR.out]
      exact HO.out
    · replace hp : 0 < l0.length := by omega
      have H2 := Aside0.mk (fun g cap w1 h1 h2 => sort_calls g cap l0 w1 h1 h2 HL.out)
      have H3 := Aside0.mk (fun g cap d w2 hs h1 hc => compact_row g cap l0.length d w2 hs h1 HL.out hc)
      have H1R := Aside0.mk (h1r.out hp)
      clear h1r H1
      go_enter Tryz.func75, Tryz.ntmps75
      go_wp2_with (first
        | (go_at_call 106; refine H1R.out.mono ?_; rintro e w1 ⟨g, cap, cur, rfl, g1, g2, g3, g4, g5, g6, g7, g8⟩; have G := Aside0.mk (And.intro g1 (And.intro g2 (And.intro g3 (And.intro g4 (And.intro g5 (And.intro g6 (And.intro g7 g8))))))); clear g1 g2 g3 g4 g5 g6 g7 g8 H1R)
        | (go_at_call 107; refine (H2.out g cap w1 G.out.2.2.2.2.2.2.1 G.out.2.1).mono ?_; rintro e w2 ⟨rfl, d', n, os, s1, s2, s3, rfl⟩; have S := Aside0.mk (And.intro s1 (And.intro s2 s3)); clear s1 s2 s3 H2)
        | (go_at_call 109; refine (H3.out g cap d' _ S.out.1 (sorted_holds G.out.2.2.1 G.out.2.2.2.2.2.2.1 S.out.1) G.out.2.2.2.1).mono ?_; rintro e w3 ⟨rfl, q, F, f1, f2, rfl⟩; have FF := Aside0.mk (And.intro f1 f2); clear f1 f2 H3))
      go_ret
      have R := sorted_row (n := n) (os := os) (q := q) HL.out G.out.1 G.out.2.2.1 G.out.2.2.2.1 G.out.2.2.2.2.1 G.out.2.2.2.2.2.1 G.out.2.2.2.2.2.2.1 G.out.2.2.2.2.2.2.2 S.out.1 S.out.2.1 S.out.2.2 FF.out.1 FF.out.2
      rw [← HR.out]
      exact ⟨_, rfl, R.1, R.2⟩
  · rw [if_neg hl] at h; cases h
end Go.Proofs.YthimblhfjfngiaaGreat.PText

namespace Go.Proofs.YthimblhfjfngiaaGreat.PText
open Go.RowKit Go.Lib Go.Sort Go.Proofs.YthimblhfjfngiaaGreatW.PrintWords Go.Proofs.YthimblhfjfngiaaGreatW.PrintLast Go.Proofs.YthimblhfjfngiaaGreatW.PrintMore
set_option linter.unusedVariables false
set_option linter.unusedSimpArgs false
instance : Inhabited S41 := ⟨z41⟩
theorem S41.ext' {a b : S41} (h0 : a.f0 = b.f0) (h1 : a.f1 = b.f1) : a = b := by cases a; cases b; simp_all
instance : DecidableEq S41 := fun a b => decidable_of_iff (a.f0 = b.f0 ∧ a.f1 = b.f1) ⟨fun h => S41.ext' h.1 h.2, fun h => by subst h; exact ⟨rfl, rfl⟩⟩
def enc53 (x : S41) : List Value := [.string x.f0, .string x.f1]
theorem enc53_len (x : S41) : (enc53 x).length = 2 := rfl
theorem enc53_one (x : S41) : ∀ v ∈ enc53 x, v.oneCell' = true := by
  intro v hv
  simp [enc53] at hv
  rcases hv with rfl | rfl <;> rfl
theorem isAgg53 : ∀ w, (isAgg 41).run Tryz.prog w = .ok true w := fun w => by simp [isAgg, run_underlying Tryz.underlying41]
theorem sizeOf53 : ∀ w, (Go.sizeOf 41).run Tryz.prog w = .ok 2 w := fun w => by
  obtain ⟨i0, hi, hz0, hz1, hz2⟩ := info_parts info41
  simp [Go.sizeOf, typeInfo, hi, hz1]
/-- a row of one's own, out of its cells -/
theorem row53 {W : World} {base g cap : Nat} {cur : Array Value} {r : List S41} (hh : W.heap[g]? = some (.cells cur 41 (0, 0))) (hb : base ≤ g) (hl : r.length ≤ cap) (hm : cap ≤ maxLen) (hs : cur.size = cap * 2)
    (hc : ∀ t, t < r.length * 2 → cur[t]! = (Sort.flatK enc53 2 r.toArray)[t]!) : Kd.R k41 41 W base (fun _ => True) (.slice (some ⟨g, 0, none⟩) r.length cap) r := by
  have hle : r.length * 2 ≤ cur.size := by omega
  refine ⟨fun _ _ => trivial, cur.toList.take (r.length * 2), ⟨by rw [List.length_take, Nat.min_eq_left (by rw [Array.length_toList]; exact hle)]; rfl, Or.inr ⟨g, cap, cur, rfl, hb, hh, hl, hm, hs, rfl⟩⟩, by rw [List.length_take, Nat.min_eq_left (by rw [Array.length_toList]; exact hle)]; rfl, fun j p hp => ?_⟩
  obtain ⟨hj, rfl⟩ := List.getElem?_eq_some_iff.1 hp
  have key : ((cur.toList.take (r.length * 2)).drop (j * 2)).take 2 = [.string r[j].f0, .string r[j].f1] := by
    have one : ∀ c, c < 2 → cur[j * 2 + c]? = some (enc53 r[j])[c]! := by
      intro c hcc
      have h1 := hc (j * 2 + c) (by omega)
      rw [Sort.get_flatK _ _ _ _ (by rw [List.size_toArray]; omega), show (j * 2 + c) / 2 = j by omega, show (j * 2 + c) % 2 = c by omega] at h1
      rw [Array.getElem?_eq_getElem (by omega), ← getElem!_pos cur (j * 2 + c) (by omega), h1, getElem!_pos r.toArray j (by rw [List.size_toArray]; exact hj), List.getElem_toArray]
    have z0 := one 0 (by omega)
    have z1 := one 1 (by omega)
    apply List.ext_getElem?
    intro c
    rw [List.getElem?_take]
    by_cases h3 : c < 2
    · rw [if_pos h3, List.getElem?_drop, List.getElem?_take, if_pos (by omega), Array.getElem?_toList]
      have : c = 0 ∨ c = 1 := by omega
      rcases this with rfl | rfl
      · rw [z0]; rfl
      · rw [z1]; rfl
    · rw [if_neg h3, List.getElem?_eq_none (by simp; omega)]
  show k41.M W base _ r[j] (((cur.toList.take (r.length * 2)).drop (j * 2)).take 2)
  rw [key]
  exact k41_mkM _ _ _ _
/-- the cells of a row of one's own -/
theorem holds_of_row53 {W : World} {base g cap : Nat} {ok : Nat → Prop} {l : List S41} (h : Kd.R k41 41 W base ok (.slice (some ⟨g, 0, none⟩) l.length cap) l) (hg : ∃ cur, W.heap[g]? = some (.cells cur 41 (0, 0))) : Sort.HoldsK enc53 2 W g 0 l.toArray := by
  intro t ht
  rw [Sort.size_flatK, List.size_toArray] at ht
  have hC := (Kd.R_reads' h).2.2
  obtain ⟨ad, e, h0, h1⟩ := at_T41 hC ((t / 2 : Nat) : Int) (by omega) (by omega)
  cases e
  obtain ⟨cur, hcur⟩ := hg
  refine ⟨?_, by simp [World.frozen?, hcur]⟩
  rw [Sort.get_flatK _ _ _ _ (by rw [List.size_toArray]; exact ht)]
  have hx : (l.toArray)[t / 2]! = rd_T41 l ((t / 2 : Nat) : Int) := by
    unfold rd_T41
    rw [Int.toNat_natCast, getElem!_pos l.toArray (t / 2) (by rw [List.size_toArray]; omega), List.getElem_toArray, List.getD_eq_getElem?_getD, List.getElem?_eq_getElem (by omega)]
    rfl
  rw [hx]
  simp only [Int.toNat_natCast, add_plain] at h0 h1
  have : t % 2 = 0 ∨ t % 2 = 1 := by omega
  rcases this with c | c
  · rw [c, show 0 + t = t / 2 * 2 by omega]; exact h0
  · rw [c, show 0 + t = t / 2 * 2 + 1 by omega]; exact h1
theorem C_none53 {w : World} {l : List S41} (h : Kd.C k41 w none l.length l) : l = [] := by
  cases l with
  | nil => rfl
  | cons x r =>
    obtain ⟨ad, _, q, _⟩ := Kd.C_get h z41 0 (Int.le_refl _) (by rw [List.length_cons]; omega)
    cases q
set_option maxHeartbeats 8000000 in
set_option maxRecDepth 100000 in
theorem clone53_calls (A0 : Option Addr) (c0 : Nat) (l0 : List S41) (w : World) (hr0 : Kd.C k41 w A0 l0.length l0) (hl : l0.length ≤ 10000) :
    Calls Tryz.prog 40 #[.slice A0 l0.length c0] w fun e w' => ∃ v0_ : Value, e = .returned v0_ ∧ Kd.R k41 41 w' w.heap.size (fun _ => True) v0_ l0 ∧ Below w.heap.size w w' := by
  have hnil : ∀ w', Sem.run Tryz.prog (binOp .eql 37 (.slice A0 l0.length c0) (.slice none 0 0)) w' = .ok (.bool A0.isNone) w' := fun w' => Go.Lib.run_eql_slice_nil w' 37 41 A0 l0.length c0 0 0 Tryz.underlying37
  have HR1 := Aside0.mk hr0
  clear hr0
  cases hA : A0.isNone with
  | true =>
    obtain rfl : A0 = none := by cases A0 with | none => rfl | some a => cases hA
    obtain rfl := C_none53 HR1.out
    rw [hA] at hnil
    simp only [List.length_nil] at hnil ⊢
    go_enter Tryz.func40, Tryz.ntmps40
    go_wp2
    go_ret
    exact ⟨_, rfl, Kd.R_nil _ _ _ _ _, Below.refl _ _⟩
  | false =>
    rw [hA] at hnil
    have HB := Aside0.mk (Below.refl w.heap.size w)
    obtain ⟨y467, hy467⟩ : ∃ y_ : List (S41), y_ = (([] : List (S41))) := ⟨_, rfl⟩
    have Ny467 := Aside0.mk hy467
    have LMc8 := Aside0.mk (show y467.length + l0.length < 4398046511104 by rw [hy467]; simp; omega)
    clear hy467
    obtain ⟨y470, hy470⟩ : ∃ y_ : List (S41), y_ = (y467 ++ l0) := ⟨_, rfl⟩
    have Ny470 := Aside0.mk hy470
    clear hy470
    go_enter Tryz.func40, Tryz.ntmps40
    go_wp2_with (first | ((with_reducible refine gate_dst (N := 5) rfl ?_); refine Kd.R_lit k41 _ 41 ?hg (N := 5) ?hd (xs := ([] : List (S41))) (inner := []) (ok := fun _ => True) (okp := fun _ => True) ?hr ?hp (fun _ hk => hk) trivial (Below.refl _ _) (Nat.le_refl _) (by simp) ?_; (case hd => rfl); (case hg => rfl); (case hr => first | (go_simp; done) | (go_simp; rfl)); (case hp => exact (Reps.none _ _)); intro v468 w13 ho14 hb hg_ hnew_; clear hg_ hnew_; (first | rw [← Ny467.out] at ho14 | (simp only [Int.reduceToNat] at ho14; rw [← Ny467.out] at ho14)); have n0_ := Aside0.mk (Kd.R_lower ho14 (below_size (by repeat (first | (with_reducible first | exact HB.out | apply below_alloc | apply pw_below_drewN | apply below_drew1) | exact HB.out)))); have n1_ := Aside0.mk (below_step (by repeat (first | (with_reducible first | exact HB.out | apply below_alloc | apply pw_below_drewN | apply below_drew1) | exact HB.out)) hb); clear HB; have HO469 := n0_; have HB := n1_; clear n0_ n1_; clear hb ho14) | ((with_reducible refine gate_builtin (b := .append) (xs := #[.tmp 5, .tmp 6]) rfl ?_); at_builtin; refine Kd.R_append_rows k41 (w0 := w) w.heap.size rfl (.tmp 5) (.tmp 6) 37 41 (.agg #[(.string ⟨#[]⟩), (.string ⟨#[]⟩)]) 32 rfl Tryz.underlying37 info41 rfl (by decide) (by omega) v468 y467 l0 _ _ _ (fun _ => True) (fun _ => False) rfl rfl ?aO ?aR (fun _ _ h => h) (fun _ h => h.elim) ?aF ?aB ?aS ?aL ?_; (case aR => repeat (first | exact (Kd.C_below HR1.out HB.out) | (with_reducible refine Kd.C_alloc ?_ _) | (with_reducible refine Kd.C_drewN ?_ _) | (with_reducible refine Kd.C_drew ?_))); (case aB => exact (by repeat (first | (with_reducible first | exact HB.out | apply below_alloc | apply pw_below_drewN | apply below_drew1) | exact HB.out))); (case aF => exact (fun _ _ => trivial)); (case aO => exact (by (with_reducible repeat (first | apply Kd.R_alloc | apply Kd.R_drewN | apply Kd.R_drew)); exact HO469.out)); (case aS => exact (below_size (by repeat (first | (with_reducible first | exact HB.out | apply below_alloc | apply pw_below_drewN | apply below_drew1) | exact HB.out)))); (case aL => have := LMc8.out; omega); intro v471 w15 ho hb hg hat; rw [← Ny470.out] at ho; have n0_ := Aside0.mk (hb); have n1_ := Aside0.mk (ho); clear HB; clear HO469; have HB := n0_; have HO472 := n1_; clear n0_ n1_; clear ho hb hg hat))
    go_ret
    have e : y470 = l0 := by rw [Ny470.out, Ny467.out]; rfl
    rw [e] at HO472
    exact ⟨_, rfl, HO472.out, HB.out⟩
/-- the order of files: by their names -/
def cfF (x y : S41) : Int := cS x.f0.toList y.f0.toList
def ltF (x y : S41) : Bool := decide (x.f0.toList < y.f0.toList)
theorem ltOf_cfF : ltOf cfF = ltF := by
  funext x y
  show decide (cfF x y < 0) = ltF x y
  unfold cfF cS ltF
  by_cases h : x.f0.toList < y.f0.toList
  · rw [if_pos h, decide_eq_true h]; rfl
  · rw [if_neg h, decide_eq_false h]
    by_cases h2 : y.f0.toList < x.f0.toList
    · rw [if_pos h2]; rfl
    · rw [if_neg h2]; rfl
theorem ltF_swo : Sort.SWO ltF where
  irrefl x := decide_eq_false (List.lt_irrefl _)
  trans x y z h1 h2 := decide_eq_true (List.lt_trans (of_decide_eq_true h1) (of_decide_eq_true h2))
  ntrans x y z h1 h2 := decide_eq_false (fun q => by
    have a1 := of_decide_eq_false h1
    have a2 := of_decide_eq_false h2
    have b1 : y.f0.toList ≤ x.f0.toList := List.not_lt.1 a1
    have b2 : z.f0.toList ≤ y.f0.toList := List.not_lt.1 a2
    exact absurd q (List.not_lt.2 (List.le_trans b2 b1)))
theorem order53_grows (x y : S41) (w : World) : Calls Tryz.prog 45 #[.agg #[.string x.f0, .string x.f1], .agg #[.string y.f0, .string y.f1]] w fun e w' => e = .returned (.int .i64 (cfF x y)) ∧ ∃ q os', w' = Sort.grow (w.drewN q) os' := by
  go_enter Tryz.func45, Tryz.ntmps45
  go_wp2_with (go_at_call 46; refine (cmp_Compare_string.calls x.f0 y.f0 (cfF x y) _ (cmpS_f x.f0 y.f0)).mono ?_; rintro e w2 ⟨rfl, hd⟩)
  go_ret
  obtain ⟨q, rfl⟩ := hd
  exact ⟨rfl, grow_of_below (pw_below_drewN (((Below.refl _ w).alloc (Nat.le_refl _) _).alloc (by simp) _) _) (by simp [World.drewN])⟩
theorem sort53_calls (g cap : Nat) (l : List S41) (w : World) (hH : Sort.HoldsK enc53 2 w g 0 l.toArray) (hb : g < w.heap.size) (hl : l.length ≤ 10000) :
    Calls Tryz.prog 44 #[.slice (some ⟨g, 0, none⟩) l.length cap, .func (.func 45) #[] #[]] w fun e w' => e = .returned (.tuple #[]) ∧
      ∃ (d' : Array S41) (n : Nat) (os : Array Obj), d'.size = l.length ∧ d'.toList.Perm l ∧ (∀ i j, i < j → j < d'.size → ltF d'[j]! d'[i]! = false) ∧ w' = Sort.grow (Sort.putRowK enc53 2 (Sort.ahead w n) g 0 d') os := by
  have eg : ∀ args w, (callFunc 45 args).run Tryz.prog w = .ok (.enter 45 args) w := enters_of Tryz.func45 (by kernel_rfl) rfl
  have hcmp : CmpLays Tryz.prog 45 #[] enc53 2 cfF g 0 l.toArray.size w := fun m os dk _ x y => order53_grows x y _
  have h := AnyQ.slices_SortFunc Tryz.sortFi 2 isAgg53 sizeOf53 enc53 enc53_len enc53_one cfF (by rw [ltOf_cfF]; exact ltF_swo) 45 #[] g 0 cap l.toArray w eg hcmp hH hb (by rw [List.size_toArray]; omega)
  rw [List.size_toArray] at h
  refine h.mono ?_
  rintro e w' ⟨he, d', n, os, hp, hs, hw⟩
  obtain ⟨p1, _, p3⟩ := hp
  replace p1 : d'.size = l.length := p1.trans (by simp)
  refine ⟨he, d', n, os, p1, ?_, fun i j hij hj => ?_, hw⟩
  · have e1 : (d'.extract 0 l.length).toList = d'.toList := by rw [show l.length = d'.size from p1.symm]; simp
    have e2 : (l.toArray.extract 0 l.length).toList = l := by simp
    rw [e1, e2] at p3
    exact p3
  · have := hs i j (Nat.zero_le _) hij (by omega)
    rwa [ltOf_cfF] at this
/-- a row of one's own, sorted -/
theorem sort53_row (A : Option Addr) (cap : Nat) (l : List S41) (w : World) (base : Nat) (h : Kd.R k41 41 w base (fun _ => True) (.slice A l.length cap) l) (hl : l.length ≤ 10000) :
    Calls Tryz.prog 44 #[.slice A l.length cap, .func (.func 45) #[] #[]] w fun e w' => e = .returned (.tuple #[]) ∧
      ∃ d : List S41, d.length = l.length ∧ d.Perm l ∧ (∀ i j, i < j → ∀ hj : j < d.length, ∀ hi : i < d.length, ltF d[j] d[i] = false) ∧ Kd.R k41 41 w' base (fun _ => True) (.slice A l.length cap) d ∧ Below base w w' := by
  by_cases h0 : l = []
  · subst h0
    refine (AnyF.slices_SortFunc_none Tryz.sortFi A cap (.func (.func 45) #[] #[]) w).mono ?_
    rintro e w' ⟨rfl, rfl⟩
    exact ⟨rfl, [], rfl, List.Perm.refl _, fun i j h1 hj => absurd hj (Nat.not_lt_zero _), h, Below.refl _ _⟩
  · obtain ⟨inner, hlen, hz | ⟨g, cap', cur, e, g1, g2, g3, g4, g5, _⟩⟩ := Kd.R_own h
    · exact absurd (List.eq_nil_of_length_eq_zero hz.2) h0
    · cases e
      replace g5 : cur.size = cap * 2 := g5
      have hg := (Array.getElem?_eq_some_iff.1 g2).1
      have hH := holds_of_row53 h ⟨cur, g2⟩
      refine (sort53_calls g cap l w hH hg hl).mono ?_
      rintro e w' ⟨he, d', n, os, p1, p2, p3, rfl⟩
      have hh0 : (Sort.ahead w n).heap[g]? = some (.cells cur 41 (0, 0)) := g2
      obtain ⟨cur1, hh1, s1⟩ := putRow_heap id (off := 0) (F := Sort.flatK enc53 2 d') hh0
      have H1 : Sort.HoldsK enc53 2 (Sort.putRowK enc53 2 (Sort.ahead w n) g 0 d') g 0 d' := Sort.holdsK_putRowK enc53 2 _ g 0 l.toArray d' (Sort.holdsK_ahead enc53 2 w n g 0 _ hH) (by rw [p1]; simp)
      have hh2 : (Sort.grow (Sort.putRowK enc53 2 (Sort.ahead w n) g 0 d') os).heap[g]? = some (.cells cur1 41 (0, 0)) := grow_heap os hh1
      have H2 : Sort.HoldsK enc53 2 (Sort.grow (Sort.putRowK enc53 2 (Sort.ahead w n) g 0 d') os) g 0 d' := Sort.holdsK_grow enc53 2 _ os g 0 d' (Array.getElem?_eq_some_iff.1 hh1).1 H1
      have hlen' : d'.toList.length = l.length := by rw [Array.length_toList, p1]
      refine ⟨he, d'.toList, hlen', p2, fun i j hij hj hi => ?_, ?_, ?_⟩
      · have := p3 i j hij (by simpa using hj)
        rw [getElem!_pos d' j (by simpa using hj), getElem!_pos d' i (by simpa using hi)] at this
        simpa using this
      · have := row53 (W := Sort.grow (Sort.putRowK enc53 2 (Sort.ahead w n) g 0 d') os) (base := base) (g := g) (cap := cap) (cur := cur1) (r := d'.toList) hh2 g1 (by omega) g4 (by rw [s1, g5]) (fun t ht => by
          have h4 := (H2 t (by rw [Sort.size_flatK]; simpa using ht)).1
          have ht2 : t < cur1.size := by rw [s1, g5]; rw [hlen'] at ht; omega
          simp only [World.cell?, hh2, Nat.zero_add] at h4
          have h5 : cur1[t]? = some (Sort.flatK enc53 2 d')[t]! := h4
          rw [getElem!_pos cur1 t ht2]
          rw [Array.getElem?_eq_getElem ht2] at h5
          simpa using Option.some.inj h5)
        rw [hlen'] at this
        exact this
      · refine ((below_ahead _ w n).trans ((below_putRow id _ 0 (Sort.flatK enc53 2 d') g1).trans ?_))
        refine below_grow ?_ os
        have := (Array.getElem?_eq_some_iff.1 hh1).1
        show base ≤ (Sort.putRow id _ g 0 _).heap.size
        omega
end Go.Proofs.YthimblhfjfngiaaGreat.PText

namespace Go.Proofs.YthimblhfjfngiaaGreat.PText
open Go.RowKit Go.Lib Go.Proofs.YthimblhfjfngiaaGreatW.PrintWords Go.Proofs.YthimblhfjfngiaaGreatW.PrintLast Go.Proofs.YthimblhfjfngiaaGreatW.PrintMore
set_option linter.unusedVariables false
set_option linter.unusedSimpArgs false
def text_Fine.f (a0 : ByteArray) (l1 : List S91) : Option Int := some (fineE a0.size l1)
theorem fine_pred (s : ByteArray) (B : Nat) (w : World) (hB : B < w.heap.size) (hcell : w.cell? ⟨B, 0, none⟩ = some (.string s)) :
    PredBelow Tryz.prog 104 #[.pointer (some ⟨B, 0, none⟩)] (fun x => .agg (enc34 x).toArray) (badE s.size) w := fun W x hb => by
  have hc : W.cell? ⟨B, 0, none⟩ = some (.string s) := (hb.cell (p := ⟨B, 0, none⟩) hB).trans hcell
  have hBW : B < W.heap.size := Nat.lt_of_lt_of_le hB hb.size
  have hne : B ≠ W.heap.size := by omega
  have hu34 := Tryz.underlying91
  show Calls Tryz.prog 104 #[.agg #[.int .i64 x.f0, .int .i64 x.f1, .string x.f2], .pointer (some ⟨B, 0, none⟩)] W _
  unfold badE
  by_cases h1 : x.f0 < 0
  · go_enter Tryz.func104, Tryz.ntmps104
    go_wp2
    go_ret
    exact ⟨by simp [h1], hb.alloc hb.size _⟩
  · by_cases h2 : (s.size : Int) < x.f1
    · go_enter Tryz.func104, Tryz.ntmps104
      go_wp2
      go_ret
      exact ⟨by simp [h1, h2], hb.alloc hb.size _⟩
    · go_enter Tryz.func104, Tryz.ntmps104
      go_wp2
      go_ret
      exact ⟨by first | (simp [h1, h2]; done) | (simp; omega), hb.alloc hb.size _⟩
set_option maxHeartbeats 1000000 in
theorem index_empty (p : Option Addr) (c g : Nat) (lb : Array Value) (w : World) : Calls Tryz.prog 72 #[.slice p 0 c, .func (.func g) #[] lb] w fun e w' => e = .returned (.int .i64 (-1)) ∧ Below w.heap.size w w' := by
  go_enter Tryz.func72, Tryz.ntmps72
  go_wp2
  go_loopg [5, 8] 0 (fun _ _ s8 wr => s8 = .int .i64 0 ∧ wr = w)
  case atStart => exact ⟨rfl, rfl⟩
  case round =>
    obtain ⟨rfl, rfl⟩ := hrel
    go_wp2
    go_ret
    exact ⟨rfl, Below.refl _ _⟩
set_option maxHeartbeats 1000000 in
theorem contains_empty (p : Option Addr) (c g : Nat) (lb : Array Value) (w : World) : Calls Tryz.prog 58 #[.slice p 0 c, .func (.func g) #[] lb] w fun e w' => e = .returned (.bool false) ∧ Below w.heap.size w w' := by
  go_enter Tryz.func58, Tryz.ntmps58
  go_wp2_with (go_at_call 72; refine (index_empty p c g lb _).mono ?_; rintro e w' ⟨rfl, hb⟩)
  go_ret
  exact ⟨rfl, hb⟩
theorem C_addr34 {w : World} {A : Option Addr} {l : List S91} (h : Kd.C k91 w A l.length l) (hp : 0 < l.length) :
    ∃ b o, A = some ⟨b, o, none⟩ ∧ b < w.heap.size ∧ ∀ j, j < l.length → ∀ i v, (enc34 l[j]!)[i]? = some v → w.cell? ⟨b, o + j * 3 + i, none⟩ = some v := by
  obtain ⟨⟨b, o, sp⟩, rfl, h0, _⟩ := at_T91 h 0 (by omega) (by omega)
  have hsp : sp = none := by
    cases sp with
    | none => rfl
    | some q =>
      unfold World.cell? at h0
      simp only [Addr.add] at h0
      split at h0 <;> simp at h0
  subst hsp
  have hb : b < w.heap.size := World.block_lt_of_cell? w _ h0
  refine ⟨b, o, rfl, hb, fun j hj i v hv => ?_⟩
  obtain ⟨ad, e, h1, h2, h3⟩ := at_T91 h (j : Int) (by omega) (by omega)
  cases e
  rw [rd34_at l j hj] at h1 h2 h3
  rw [getElem!_pos l j hj] at hv
  simp only [Int.toNat_natCast, Addr.add_lit] at h1 h2 h3
  match i, hv with
  | 0, hv => simp [enc34] at hv; subst hv; exact h1
  | 1, hv => simp [enc34] at hv; subst hv; exact h2
  | 2, hv => simp [enc34] at hv; subst hv; exact h3
  | i + 3, hv => simp [enc34] at hv
theorem contains_calls (a0 : ByteArray) (A1 : Option Addr) (c1 B : Nat) (l1 : List S91) (w : World) (hC : Kd.C k91 w A1 l1.length l1) (hB : B < w.heap.size) (hcell : w.cell? ⟨B, 0, none⟩ = some (.string a0)) (hl : l1.length ≤ 10000) :
    Calls Tryz.prog 58 #[.slice A1 l1.length c1, .func (.func 104) #[] #[.pointer (some ⟨B, 0, none⟩)]] w fun e w' => e = .returned (.bool (l1.any (badE a0.size))) ∧ Below w.heap.size w w' := by
  by_cases hp : l1.length = 0
  · obtain rfl := List.eq_nil_of_length_eq_zero hp
    exact contains_empty A1 c1 104 _ w
  · obtain ⟨b, o, rfl, hb, hc⟩ := C_addr34 hC (by omega)
    have eg : ∀ args w, (callFunc 104 args).run Tryz.prog w = .ok (.enter 104 args) w := enters_of Tryz.func104 (by kernel_rfl) rfl
    have h := AnyQ.slices_ContainsFunc Tryz.containsEd 3 isAgg34 sizeOf34 enc34 enc34_len (badE a0.size) 104 #[.pointer (some ⟨B, 0, none⟩)] eg b o l1.length c1 l1 w (fine_pred a0 B w hB hcell) (Nat.le_refl _) (by omega) hb hc
    rw [List.take_length] at h
    exact h
set_option maxHeartbeats 8000000 in
set_option maxRecDepth 100000 in
theorem text_Fine.calls (a0 : ByteArray) (A1 : Option Addr) (c1 : Nat) (l1 : List S91) (r : Int) (w : World) (hr1 : Kd.C k91 w A1 l1.length l1) (hc1 : l1.length ≤ c1) (h : text_Fine.f a0 l1 = some r) :
    Calls Tryz.prog 74 #[.string a0, .slice A1 l1.length c1] w fun e w' => e = .returned (.int .i64 r) ∧ Below w.heap.size w w' := by
  have hr := Option.some.inj h
  clear h
  have HR := Aside0.mk hr
  have HC := Aside0.mk hr1
  have HL := Aside0.mk hc1
  clear hr hr1 hc1
  by_cases g1 : 200000 < a0.size
  · go_enter Tryz.func74, Tryz.ntmps74
    go_wp2
    go_ret
    refine ⟨?_, (Below.refl _ w).alloc (Nat.le_refl _) _⟩
    rw [← HR.out]
    unfold fineE
    rw [if_pos (Or.inl g1)]
    rfl
  · by_cases g2 : 10000 < l1.length
    · go_enter Tryz.func74, Tryz.ntmps74
      go_wp2
      go_ret
      refine ⟨?_, (Below.refl _ w).alloc (Nat.le_refl _) _⟩
      rw [← HR.out]
      unfold fineE
      rw [if_pos (Or.inr g2)]
      rfl
    · have W1 := Aside0.mk ((Below.refl w.heap.size w).alloc (Nat.le_refl _) (.cells #[.string a0] 9))
      have H37 := Aside0.mk (contains_calls a0 A1 c1 w.heap.size l1 (w.alloc (.cells #[.string a0] 9)) (Kd.C_below HC.out W1.out) (by simp) (by simp) (by omega))
      have H32 := Aside0.mk (fun w2 (h2 : Kd.C k91 w2 A1 l1.length l1) => text_sorted.calls A1 c1 l1 (Tx.ord eltS l1) w2 h2 HL.out (by unfold text_sorted.f; rw [if_pos (by omega)]))
      have hlo : (Tx.ord eltS l1).length ≤ 10000 := Nat.le_trans (Tx.ord_len l1) (by omega)
      have HLO := Aside0.mk hlo
      clear hlo
      obtain ⟨cl, hcl⟩ : ∃ b, b = Tx.clash 0 (-1) ((Tx.ord eltS l1).map toE) := ⟨_, rfl⟩
      have H39 := Aside0.mk (fun A c w3 (h3 : Kd.C k91 w3 A (Tx.ord eltS l1).length (Tx.ord eltS l1)) (h4 : (Tx.ord eltS l1).length ≤ c) => text_clash.calls 20001 A c (Tx.ord eltS l1) cl w3 h3 h4 (by rw [clash_f _ HLO.out, hcl]))
      have HCL := Aside0.mk hcl
      clear hcl
      cases hany : l1.any (badE a0.size) with
      | true =>
        rw [hany] at H37
        have HA := Aside0.mk hany
        clear hany H32 H39
        go_enter Tryz.func74, Tryz.ntmps74
        go_wp2_with (go_at_call 58; refine H37.out.mono ?_; rintro e w2 ⟨rfl, hb⟩; have HB := Aside0.mk hb; clear hb H37)
        go_ret
        refine ⟨?_, W1.out.trans (HB.out.mono (by simp))⟩
        rw [← HR.out]
        unfold fineE
        rw [if_neg (by omega), if_pos HA.out]
        rfl
      | false =>
        rw [hany] at H37
        have HA := Aside0.mk hany
        clear hany
        have fin : (if cl = true then (10 : Int) else 0) = r := by
          rw [← HR.out]
          unfold fineE
          rw [if_neg (show ¬ (200000 < a0.size ∨ 10000 < l1.length) by omega), if_neg (show ¬ (l1.any (badE a0.size) = true) by rw [HA.out]; decide), ← HCL.out]
        have FIN := Aside0.mk fin
        clear fin
        cases cl with
        | true =>
          go_enter Tryz.func74, Tryz.ntmps74
          go_wp2_with (first
            | (go_at_call 58; refine H37.out.mono ?_; rintro e w2 ⟨rfl, hb⟩; have HB := Aside0.mk (W1.out.trans (hb.mono (by simp))); clear hb H37)
            | (go_at_call 75; refine (H32.out w2 (Kd.C_below HC.out HB.out)).mono ?_; rintro e w3 ⟨v3, rfl, ho, hb⟩; obtain ⟨A3, c3, rfl⟩ := Kd.R_slice ho; have HO := Aside0.mk ho; have HB3 := Aside0.mk (HB.out.trans (hb.mono HB.out.size)); clear ho hb H32)
            | (go_at_call 105; refine (H39.out A3 c3 w3 (Kd.R_reads' HO.out).2.2 (Kd.R_reads' HO.out).2.1).mono ?_; rintro e w4 ⟨rfl, hb⟩; have HB4 := Aside0.mk (HB3.out.trans (hb.mono HB3.out.size)); clear hb H39))
          go_ret
          exact ⟨by rw [← FIN.out]; rfl, HB4.out⟩
        | false =>
          go_enter Tryz.func74, Tryz.ntmps74
          go_wp2_with (first
            | (go_at_call 58; refine H37.out.mono ?_; rintro e w2 ⟨rfl, hb⟩; have HB := Aside0.mk (W1.out.trans (hb.mono (by simp))); clear hb H37)
            | (go_at_call 75; refine (H32.out w2 (Kd.C_below HC.out HB.out)).mono ?_; rintro e w3 ⟨v3, rfl, ho, hb⟩; obtain ⟨A3, c3, rfl⟩ := Kd.R_slice ho; have HO := Aside0.mk ho; have HB3 := Aside0.mk (HB.out.trans (hb.mono HB.out.size)); clear ho hb H32)
            | (go_at_call 105; refine (H39.out A3 c3 w3 (Kd.R_reads' HO.out).2.2 (Kd.R_reads' HO.out).2.1).mono ?_; rintro e w4 ⟨rfl, hb⟩; have HB4 := Aside0.mk (HB3.out.trans (hb.mono HB3.out.size)); clear hb H39))
          go_ret
          exact ⟨by rw [← FIN.out]; rfl, HB4.out⟩
end Go.Proofs.YthimblhfjfngiaaGreat.PText

