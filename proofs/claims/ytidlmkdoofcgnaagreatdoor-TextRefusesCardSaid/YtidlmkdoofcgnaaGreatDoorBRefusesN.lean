/- TextRefuses holds: for every two texts the statement answers true, where the seven listed package variables hold what the program's text lays. Part 14 of 21. -/
import Derived.Test.YtidlmkdoofcgnaaGreatDoorBRefusesM
import Derived.Shelf.SlSortCmp.NoneTotal
namespace Go.Proofs
open Go.Shelf
def Tryz.lays166_ren : Go.Shelf.Ren := ⟨fun | 166 => 43 | 240 => 68 | 276 => 94 | n => n, fun | 0 => 0 | 3 => 3 | 4 => 4 | 5 => 5 | 9 => 9 | 20 => 20 | 37 => 55 | 70 => 70 | 72 => 72 | 75 => 83 | 80 => 75 | 164 => 137 | n => n, fun | n => n⟩
theorem Tryz.lays166 : Go.Proofs.Lays.n166 Tryz.prog Tryz.lays166_ren := {
  mixed := by kernel_rfl
  f166 := Tryz.func43.trans (congrArg some (by kernel_rfl))
  f240 := Tryz.func68.trans (congrArg some (by kernel_rfl))
  f276 := Tryz.func94.trans (congrArg some (by kernel_rfl))
  t0 := Tryz.underlying0
  a0 := Tryz.isAgg0
  z0 := Tryz.sizeOf0
  v0 := Tryz.zeroValue0
  t3 := Tryz.underlying3
  a3 := Tryz.isAgg3
  z3 := Tryz.sizeOf3
  v3 := Tryz.zeroValue3
  t4 := Tryz.underlying4
  a4 := Tryz.isAgg4
  z4 := Tryz.sizeOf4
  v4 := Tryz.zeroValue4
  t9 := Tryz.underlying9
  a9 := Tryz.isAgg9
  z9 := Tryz.sizeOf9
  v9 := Tryz.zeroValue9
  t20 := Tryz.underlying20
  a20 := Tryz.isAgg20
  z20 := Tryz.sizeOf20
  v20 := Tryz.zeroValue20
  t37 := Tryz.underlying55
  a37 := Tryz.isAgg55
  z37 := Tryz.sizeOf55
  v37 := Tryz.zeroValue55
  t70 := Tryz.underlying70
  a70 := Tryz.isAgg70
  z70 := Tryz.sizeOf70
  v70 := Tryz.zeroValue70
  t72 := Tryz.underlying72
  a72 := Tryz.isAgg72
  z72 := Tryz.sizeOf72
  v72 := Tryz.zeroValue72
  t75 := Tryz.underlying83
  a75 := Tryz.isAgg83
  z75 := Tryz.sizeOf83
  v75 := Tryz.zeroValue83
  t164 := Tryz.underlying137
  a164 := Tryz.isAgg137
  z164 := Tryz.sizeOf137
  v164 := Tryz.zeroValue137 }
theorem Tryz.Builder_Extra_166 : Builder.Extra Tryz.prog Tryz.lays166_ren := {
  sizeBuilder := by kernel_rfl
  liesBuilder := by kernel_rfl
  t5 := Tryz.underlying5
  a5 := Tryz.isAgg5
  z5 := Tryz.sizeOf5
  v5 := Tryz.zeroValue5
  infoByte := by kernel_rfl
  cellsByte := by kernel_rfl
  sizeByte := by kernel_rfl
  neB5 := by decide }
open Go.RowKit in
theorem Tryz.Builder_WriteString_k (B b : Nat) (bs : List Value) (s : ByteArray) (w : World) (h : Lib.IsBuilderF 72 5 B b bs w) (hlen : bs.length + s.size ≤ 140737488355328) (hBw : B ≤ w.heap.size) :
    Calls Tryz.prog 43 #[.pointer (some ⟨b, 0, none⟩), .string s] w fun e w' => e = .returned (.tuple #[.int .i64 s.size, .nilIface]) ∧ (Lib.BuilderAtF 72 5 B b (.pointer (some ⟨b, 0, none⟩)) (bs ++ Lib.strCells s) w' ∧ Below B w w' ∧ Lib.OthersKept 5 (some b) w w') := Any.Builder_WriteString_k Tryz.lays166 Tryz.Builder_Extra_166 B b bs s w h hlen hBw
end Go.Proofs

namespace Go.Proofs
open Go.Shelf
def Tryz.lays167_ren : Go.Shelf.Ren := ⟨fun | 167 => 59 | 240 => 68 | 276 => 94 | n => n, fun | 0 => 0 | 3 => 3 | 4 => 4 | 5 => 5 | 9 => 9 | 20 => 20 | 37 => 55 | 70 => 70 | 72 => 72 | 75 => 83 | 80 => 75 | 164 => 137 | n => n, fun | n => n⟩
theorem Tryz.lays167 : Go.Proofs.Lays.n167 Tryz.prog Tryz.lays167_ren := {
  mixed := by kernel_rfl
  f167 := Tryz.func59.trans (congrArg some (by kernel_rfl))
  f240 := Tryz.func68.trans (congrArg some (by kernel_rfl))
  f276 := Tryz.func94.trans (congrArg some (by kernel_rfl))
  t0 := Tryz.underlying0
  a0 := Tryz.isAgg0
  z0 := Tryz.sizeOf0
  v0 := Tryz.zeroValue0
  t4 := Tryz.underlying4
  a4 := Tryz.isAgg4
  z4 := Tryz.sizeOf4
  v4 := Tryz.zeroValue4
  t5 := Tryz.underlying5
  a5 := Tryz.isAgg5
  z5 := Tryz.sizeOf5
  v5 := Tryz.zeroValue5
  t9 := Tryz.underlying9
  a9 := Tryz.isAgg9
  z9 := Tryz.sizeOf9
  v9 := Tryz.zeroValue9
  t20 := Tryz.underlying20
  a20 := Tryz.isAgg20
  z20 := Tryz.sizeOf20
  v20 := Tryz.zeroValue20
  t37 := Tryz.underlying55
  a37 := Tryz.isAgg55
  z37 := Tryz.sizeOf55
  v37 := Tryz.zeroValue55
  t70 := Tryz.underlying70
  a70 := Tryz.isAgg70
  z70 := Tryz.sizeOf70
  v70 := Tryz.zeroValue70
  t72 := Tryz.underlying72
  a72 := Tryz.isAgg72
  z72 := Tryz.sizeOf72
  v72 := Tryz.zeroValue72
  t75 := Tryz.underlying83
  a75 := Tryz.isAgg83
  z75 := Tryz.sizeOf83
  v75 := Tryz.zeroValue83
  t164 := Tryz.underlying137
  a164 := Tryz.isAgg137
  z164 := Tryz.sizeOf137
  v164 := Tryz.zeroValue137 }
theorem Tryz.Builder_Extra_167 : Builder.Extra Tryz.prog Tryz.lays167_ren := {
  sizeBuilder := by kernel_rfl
  liesBuilder := by kernel_rfl
  t5 := Tryz.underlying5
  a5 := Tryz.isAgg5
  z5 := Tryz.sizeOf5
  v5 := Tryz.zeroValue5
  infoByte := by kernel_rfl
  cellsByte := by kernel_rfl
  sizeByte := by kernel_rfl
  neB5 := by decide }
open Go.RowKit in
theorem Tryz.Builder_WriteByte_k (B b : Nat) (bs : List Value) (c : Int) (w : World) (h : Lib.IsBuilderF 72 5 B b bs w) (hlen : bs.length + 1 ≤ 140737488355328) (hBw : B ≤ w.heap.size) :
    Calls Tryz.prog 59 #[.pointer (some ⟨b, 0, none⟩), .int .u8 c] w fun e w' => e = .returned .nilIface ∧ (Lib.BuilderAtF 72 5 B b (.pointer (some ⟨b, 0, none⟩)) (bs ++ [.int .u8 c]) w' ∧ Below B w w' ∧ Lib.OthersKept 5 (some b) w w') := Any.Builder_WriteByte_k Tryz.lays167 Tryz.Builder_Extra_167 B b bs c w h hlen hBw
end Go.Proofs

namespace Go.Proofs.YtidlmkdoofcgnaaGreatDoor.PText
open Go.RowKit Go.Lib Go.Proofs.YtidlmkdoofcgnaaGreatDoorW.PrintWords Go.Proofs.YtidlmkdoofcgnaaGreatDoorW.PrintLast Go.Proofs.YtidlmkdoofcgnaaGreatDoorW.PrintMore
set_option linter.unusedVariables false
set_option linter.unusedSimpArgs false
def text_sorted.f (l0 : List S24) : Option (List S24) := if l0.length ≤ 10000 then some (Tx.ord eltS l0) else none
theorem isAgg34 : ∀ w, (isAgg 24).run Tryz.prog w = .ok true w := fun w => by simp [isAgg, run_underlying Tryz.underlying24]
theorem sizeOf34 : ∀ w, (Go.sizeOf 24).run Tryz.prog w = .ok 3 w := fun w => by
  obtain ⟨i0, hi, hz0, hz1, hz2⟩ := info_parts info24
  simp [Go.sizeOf, typeInfo, hi, hz1]
theorem ltOf_cfE' : ltOf cfE = eltS := by
  funext x y
  exact ltOf_cfE x y
theorem eltS_swo : Sort.SWO eltS where
  irrefl x := eltS_lin.irr x
  trans x y z h1 h2 := eltS_lin.tr h1 h2
  ntrans x y z h1 h2 := by
    cases q : eltS x z with
    | false => rfl
    | true =>
      cases q1 : eltS y x with
      | true => rw [eltS_lin.tr q1 q] at h2; cases h2
      | false =>
        have e := eltS_lin.tri h1 q1
        rw [e] at q; rw [q] at h2; cases h2
/-- slices.SortFunc, at a row that is not empty -/
theorem sort_calls (g cap : Nat) (l : List S24) (w : World) (hH : Sort.HoldsK enc34 3 w g 0 l.toArray) (hb : g < w.heap.size) (hl : l.length ≤ 10000) :
    Calls Tryz.prog 65 #[.slice (some ⟨g, 0, none⟩) l.length cap, .func (.func 66) #[] #[]] w fun e w' => e = .returned (.tuple #[]) ∧
      ∃ (d' : Array S24) (n : Nat) (os : Array Obj), d'.size = l.length ∧ (∀ a, a ∈ d'.toList ↔ a ∈ l) ∧ (∀ i j, i < j → j < d'.size → eltS d'[j]! d'[i]! = false) ∧ w' = Sort.grow (Sort.putRowK enc34 3 (Sort.ahead w n) g 0 d') os := by
  have eg : ∀ args w, (callFunc 66 args).run Tryz.prog w = .ok (.enter 66 args) w := enters_of Tryz.func66 (by kernel_rfl) rfl
  have hcmp : CmpLays Tryz.prog 66 #[] enc34 3 cfE g 0 l.toArray.size w := fun m os dk _ x y => text_order.grows 8 x.f0 x.f1 x.f2 y.f0 y.f1 y.f2 (cfE x y) _ (order_f x y)
  have h := AnyQ.slices_SortFunc Tryz.sortEd 3 isAgg34 sizeOf34 enc34 enc34_len enc34_one cfE (by rw [ltOf_cfE']; exact eltS_swo) 66 #[] g 0 cap l.toArray w eg hcmp hH hb (by rw [List.size_toArray]; omega)
  rw [List.size_toArray] at h
  refine h.mono ?_
  rintro e w' ⟨he, d', n, os, hp, hs, hw⟩
  obtain ⟨p1, _, p3⟩ := hp
  replace p1 : d'.size = l.length := p1.trans (by simp)
  refine ⟨he, d', n, os, p1, fun a => ?_, fun i j hij hj => ?_, hw⟩
  · have e1 : (d'.extract 0 l.length).toList = d'.toList := by rw [show l.length = d'.size from p1.symm]; simp
    have e2 : (l.toArray.extract 0 l.length).toList = l := by simp
    rw [e1, e2] at p3
    exact p3.mem_iff
  · have := hs i j (Nat.zero_le _) hij (by omega)
    rwa [ltOf_cfE'] at this
theorem sort_none (p : Option Addr) (cap : Nat) (w : World) : Calls Tryz.prog 65 #[.slice p 0 cap, .func (.func 66) #[] #[]] w fun e w' => e = .returned (.tuple #[]) ∧ w' = w :=
  AnyF.slices_SortFunc_none Tryz.sortEd p cap (.func (.func 66) #[] #[]) w
set_option maxHeartbeats 2000000 in
set_option maxRecDepth 100000 in
theorem compact_none (p : Option Addr) (cap : Nat) (w : World) : Calls Tryz.prog 67 #[.slice p 0 cap] w fun e w' => e = .returned (.slice p 0 cap) ∧ w' = w := by
  go_enter Tryz.func67, Tryz.ntmps67
  go_wp2
  go_ret
  exact ⟨rfl, rfl⟩
theorem clone_row (A0 : Option Addr) (c0 : Nat) (l0 : List S24) (w : World) (hr0 : Kd.C k24 w A0 l0.length l0) (hl : l0.length ≤ 10000) (hp : 0 < l0.length) :
    Calls Tryz.prog 64 #[.slice A0 l0.length c0] w fun e w' => ∃ (g cap : Nat) (cur : Array Value), e = .returned (.slice (some ⟨g, 0, none⟩) l0.length cap) ∧ w.heap.size ≤ g ∧ g < w'.heap.size ∧
      w'.heap[g]? = some (.cells cur 24 (0, 0)) ∧ l0.length ≤ cap ∧ cap ≤ maxLen ∧ cur.size = cap * 3 ∧ Sort.HoldsK enc34 3 w' g 0 l0.toArray ∧ Below w.heap.size w w' := by
  refine (clone_calls A0 c0 l0 w hr0 hl).mono ?_
  rintro e w' ⟨v0, rfl, ho, hb⟩
  obtain ⟨inner, hlen, ⟨_, hz⟩ | ⟨g, cap, cur, rfl, g1, g2, g3, g4, g5, _⟩⟩ := Kd.R_own ho
  · omega
  · exact ⟨g, cap, cur, rfl, g1, (Array.getElem?_eq_some_iff.1 g2).1, g2, g3, g4, g5, holds_of_row ho ⟨cur, g2⟩, hb⟩
theorem compact_row (g cap n : Nat) (d : Array S24) (w : World) (hs : d.size = n) (hH : Sort.HoldsK enc34 3 w g 0 d) (hn : n ≤ 10000) (hc : n ≤ cap) :
    Calls Tryz.prog 67 #[.slice (some ⟨g, 0, none⟩) n cap] w fun e w' => e = .returned (.slice (some ⟨g, 0, none⟩) (compactUpTo d d.size).length cap) ∧
      ∃ q F, F.size = d.size * 3 ∧ (∀ t, t < (compactUpTo d d.size).length * 3 → F[t]! = (Sort.flatK enc34 3 (compactUpTo d d.size).toArray)[t]!) ∧ w' = Sort.putRow id (Sort.ahead w q) g 0 F := by
  subst hs
  exact compact_calls g cap d w hH (by omega) hc
theorem sorted_holds {w1 : World} {g n : Nat} {os : Array Obj} {l0 : List S24} {d : Array S24} {cur : Array Value} (hh : w1.heap[g]? = some (.cells cur 24 (0, 0))) (hH : Sort.HoldsK enc34 3 w1 g 0 l0.toArray) (hd : d.size = l0.length) :
    Sort.HoldsK enc34 3 (Sort.grow (Sort.putRowK enc34 3 (Sort.ahead w1 n) g 0 d) os) g 0 d := by
  have hh0 : (Sort.ahead w1 n).heap[g]? = some (.cells cur 24 (0, 0)) := hh
  obtain ⟨cur1, hh1, s1⟩ := putRow_heap id (off := 0) (F := Sort.flatK enc34 3 d) hh0
  exact Sort.holdsK_grow enc34 3 _ os g 0 d (Array.getElem?_eq_some_iff.1 hh1).1 (Sort.holdsK_putRowK enc34 3 _ g 0 l0.toArray d (Sort.holdsK_ahead enc34 3 w1 n g 0 _ hH) (by rw [hd]; simp))
/-- what lies behind the sort and the compaction -/
theorem sorted_row {w w1 : World} {g cap n q : Nat} {os : Array Obj} {l0 : List S24} {d : Array S24} {F cur : Array Value} (hl : l0.length ≤ 10000) (hg : w.heap.size ≤ g) (hh : w1.heap[g]? = some (.cells cur 24 (0, 0))) (hcap : l0.length ≤ cap) (hmax : cap ≤ maxLen) (hsz : cur.size = cap * 3)
    (hH : Sort.HoldsK enc34 3 w1 g 0 l0.toArray) (hb : Below w.heap.size w w1) (hd : d.size = l0.length) (hm : ∀ a, a ∈ d.toList ↔ a ∈ l0) (ho : ∀ i j, i < j → j < d.size → eltS d[j]! d[i]! = false)
    (hF : F.size = d.size * 3) (hF2 : ∀ t, t < (compactUpTo d d.size).length * 3 → F[t]! = (Sort.flatK enc34 3 (compactUpTo d d.size).toArray)[t]!) :
    Kd.R k24 24 (Sort.putRow id (Sort.ahead (Sort.grow (Sort.putRowK enc34 3 (Sort.ahead w1 n) g 0 d) os) q) g 0 F) w.heap.size (fun _ => True) (.slice (some ⟨g, 0, none⟩) (compactUpTo d d.size).length cap) (Tx.ord eltS l0) ∧
      Below w.heap.size w (Sort.putRow id (Sort.ahead (Sort.grow (Sort.putRowK enc34 3 (Sort.ahead w1 n) g 0 d) os) q) g 0 F) := by
  have e := Tx.compact_ord eltS_lin d l0 ho hm
  have hlen : (compactUpTo d d.size).length ≤ l0.length := by rw [e]; exact Tx.ord_len l0
  have hh0 : (Sort.ahead w1 n).heap[g]? = some (.cells cur 24 (0, 0)) := hh
  obtain ⟨cur1, hh1, s1⟩ := putRow_heap id (off := 0) (F := Sort.flatK enc34 3 d) hh0
  have hh2 : (Sort.ahead (Sort.grow (Sort.putRowK enc34 3 (Sort.ahead w1 n) g 0 d) os) q).heap[g]? = some (.cells cur1 24 (0, 0)) := grow_heap os hh1
  obtain ⟨cur2, hh3, s2⟩ := putRow_heap id (off := 0) (F := F) hh2
  have hlt : g < w1.heap.size := (Array.getElem?_eq_some_iff.1 hh).1
  have H1 : Sort.HoldsK enc34 3 (Sort.putRowK enc34 3 (Sort.ahead w1 n) g 0 d) g 0 d := Sort.holdsK_putRowK enc34 3 _ g 0 l0.toArray d (Sort.holdsK_ahead enc34 3 w1 n g 0 _ hH) (by rw [hd]; simp)
  have H2 : Sort.HoldsK enc34 3 (Sort.grow (Sort.putRowK enc34 3 (Sort.ahead w1 n) g 0 d) os) g 0 d := Sort.holdsK_grow enc34 3 _ os g 0 d (Array.getElem?_eq_some_iff.1 hh1).1 H1
  have H3 := Sort.holds_putRow id (Sort.ahead (Sort.grow (Sort.putRowK enc34 3 (Sort.ahead w1 n) g 0 d) os) q) g 0 (Sort.flatK enc34 3 d) F (Sort.holdsK_ahead enc34 3 _ q g 0 d H2) (by rw [hF, Sort.size_flatK])
  constructor
  · rw [e] at hlen hF2 ⊢
    refine row34 (cur := cur2) hh3 hg (by omega) hmax (by omega) fun t ht => ?_
    rw [← hF2 t ht]
    have h4 := (H3 t (by omega)).1
    have ht2 : t < cur2.size := by omega
    simp only [World.cell?, hh3, Nat.zero_add] at h4
    have h5 : cur2[t]? = some F[t]! := h4
    rw [getElem!_pos cur2 t ht2]
    rw [Array.getElem?_eq_getElem ht2] at h5
    exact Option.some.inj h5
  · refine hb.trans (((below_ahead _ w1 n).trans ((below_putRow id _ 0 (Sort.flatK enc34 3 d) hg).trans ?_)).trans (below_putRow id _ 0 F hg))
    refine (below_grow ?_ os).trans (below_ahead _ _ q)
    have := (Array.getElem?_eq_some_iff.1 hh1).1
    show w.heap.size ≤ (Sort.putRow id _ g 0 _).heap.size
    omega
set_option maxHeartbeats 8000000 in
set_option maxRecDepth 100000 in
theorem text_sorted.calls (A0 : Option Addr) (c0 : Nat) (l0 : List S24) (r : List S24) (w : World) (hr0 : Kd.C k24 w A0 l0.length l0) (hc0 : l0.length ≤ c0) (h : text_sorted.f l0 = some r) :
    Calls Tryz.prog 42 #[.slice A0 l0.length c0] w fun e w' => ∃ v0_ : Value, e = .returned v0_ ∧ Kd.R k24 24 w' w.heap.size (fun _ => True) v0_ r ∧ Below w.heap.size w w' := by
  unfold text_sorted.f at h
  by_cases hl : l0.length ≤ 10000
  · rw [if_pos hl] at h
    have hr := Option.some.inj h
    clear h
    have h1 := clone_calls A0 c0 l0 w hr0 hl
    have h1r := Aside0.mk (clone_row A0 c0 l0 w hr0 hl)
    have H1 := Aside0.mk h1
    have HR := Aside0.mk hr
    have HL := Aside0.mk hl
    clear h1 hr hr0 hl
    by_cases hp : l0.length = 0
    · obtain rfl := List.eq_nil_of_length_eq_zero hp
      clear hp
      have H2 := Aside0.mk (fun p cap w => sort_none p cap w)
      have H3 := Aside0.mk (fun p cap w => compact_none p cap w)
      go_enter Tryz.func42, Tryz.ntmps42
      go_wp2_with (first
        | (go_at_call 64; refine H1.out.mono ?_; rintro e w1 ⟨v0, rfl, ho, hb⟩; obtain ⟨A1, c1, rfl⟩ := Kd.R_slice ho; have HO := Aside0.mk ho; have HB := Aside0.mk hb; clear ho hb H1)
        | (go_at_call 65; refine (H2.out _ _ _).mono ?_; rintro e w1 ⟨rfl, rfl⟩; clear H2)
        | (go_at_call 67; refine (H3.out _ _ _).mono ?_; rintro e w1 ⟨rfl, rfl⟩; clear H3))
      go_ret
      refine ⟨_, rfl, ?_, HB.out⟩
      rw [← HR.out]
      exact HO.out
    · replace hp : 0 < l0.length := by omega
      have H2 := Aside0.mk (fun g cap w1 h1 h2 => sort_calls g cap l0 w1 h1 h2 HL.out)
      have H3 := Aside0.mk (fun g cap d w2 hs h1 hc => compact_row g cap l0.length d w2 hs h1 HL.out hc)
      have H1R := Aside0.mk (h1r.out hp)
      clear h1r H1
      go_enter Tryz.func42, Tryz.ntmps42
      go_wp2_with (first
        | (go_at_call 64; refine H1R.out.mono ?_; rintro e w1 ⟨g, cap, cur, rfl, g1, g2, g3, g4, g5, g6, g7, g8⟩; have G := Aside0.mk (And.intro g1 (And.intro g2 (And.intro g3 (And.intro g4 (And.intro g5 (And.intro g6 (And.intro g7 g8))))))); clear g1 g2 g3 g4 g5 g6 g7 g8 H1R)
        | (go_at_call 65; refine (H2.out g cap w1 G.out.2.2.2.2.2.2.1 G.out.2.1).mono ?_; rintro e w2 ⟨rfl, d', n, os, s1, s2, s3, rfl⟩; have S := Aside0.mk (And.intro s1 (And.intro s2 s3)); clear s1 s2 s3 H2)
        | (go_at_call 67; refine (H3.out g cap d' _ S.out.1 (sorted_holds G.out.2.2.1 G.out.2.2.2.2.2.2.1 S.out.1) G.out.2.2.2.1).mono ?_; rintro e w3 ⟨rfl, q, F, f1, f2, rfl⟩; have FF := Aside0.mk (And.intro f1 f2); clear f1 f2 H3))
      go_ret
      have R := sorted_row (n := n) (os := os) (q := q) HL.out G.out.1 G.out.2.2.1 G.out.2.2.2.1 G.out.2.2.2.2.1 G.out.2.2.2.2.2.1 G.out.2.2.2.2.2.2.1 G.out.2.2.2.2.2.2.2 S.out.1 S.out.2.1 S.out.2.2 FF.out.1 FF.out.2
      rw [← HR.out]
      exact ⟨_, rfl, R.1, R.2⟩
  · rw [if_neg hl] at h; cases h
end Go.Proofs.YtidlmkdoofcgnaaGreatDoor.PText

