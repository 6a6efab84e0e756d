/- LexTexts holds of every list of tokens and every number that together are of bulk at most 1,048,576 (the second form), where the two listed package variables hold what the program's text lays. Part 4 of 5. -/
import Derived.Test.YtabnmkakgcifoaaDoorBTextsC
import Derived.Test.YtabnmkakgcifoaaDoorRows
import Derived.Deep.Slices
import Derived.ChangeArms
namespace Go.Proofs.YtabnmkakgcifoaaDoor.PLex
open Go.RowKit Go.ChangeShapes Go.WideShapes Go.Proofs.YtabnmkakgcifoaaDoorW.PrintWords Go.Proofs.YtabnmkakgcifoaaDoorW.PrintLast Go.Proofs.YtabnmkakgcifoaaDoorW.PrintMore
theorem bulk_one {H : Type} (d : DataW H) : 1 ≤ Rows.uptoBulk d := by
  cases d with
  | lit l => cases l <;> simp [Rows.uptoBulk]
  | nil => simp [Rows.uptoBulk]
  | ptr d => simp [Rows.uptoBulk]
  | slice elems spare => simp [Rows.uptoBulk]
  | agg parts => simp [Rows.uptoBulk]
  | iface t d => simp [Rows.uptoBulk]
  | map entries => simp [Rows.uptoBulk]
  | held h => simp [Rows.uptoBulk]
/-- a token as data -/
def tokD {H : Type} (t : S30) : DataW H := .agg [.lit (.int .i64 t.f0), .lit (.string t.f1.data.toList), .lit (.string t.f2.data.toList), .lit (.int .i64 t.f3)]
theorem tok_bulk {H : Type} : ∀ l : List S30, l.length + (textL l).length ≤ Rows.uptoBulkAll (l.map (tokD (H := H)))
  | [] => by simp [Rows.uptoBulkAll, textL]
  | t :: l => by
    have ih := tok_bulk (H := H) l
    have h1 : (textL (t :: l)).length = t.f1.data.toList.length + t.f2.data.toList.length + (textL l).length := by
      simp only [textL, List.map_cons, List.flatten_cons, List.length_append]
    rw [List.map_cons, List.length_cons, h1]
    simp only [Rows.uptoBulkAll, tokD, Rows.uptoBulk]
    omega
theorem cells30 : Tryd.prog.cellsOf 30 = 4 := by kernel_rfl
theorem cells3 : Tryd.prog.cellsOf 3 = 1 := by kernel_rfl
theorem cells9 : Tryd.prog.cellsOf 9 = 1 := by kernel_rfl
theorem one_cell {α : Type} {l : List α} {n : Nat} (i : Nat) (h : l.length = n) (hi : i < n) : ∃ v, l[i]? = some v ∧ (l.drop i).take 1 = [v] := by
  refine ⟨l[i], List.getElem?_eq_getElem (by omega), ?_⟩
  rw [List.drop_eq_getElem_cons (by omega)]
  rfl
/-- one token of a slice that is read -/
theorem open_token {H : Type} {enc : TypeId × Value → H} {W : World} {base : Nat} {sp : Nat → Bool} {held : Bool} {n : Nat} {a : Addr} {cs : List Value} {x : DataW H × List MemPlace}
    (h1 : W.cells? base a 4 = some cs) (h2 : DataW.trod enc Tryd.prog W base sp held n 30 cs = some x) :
    ∃ t : S30, x.1 = tokD t ∧ ∀ i u, [Value.int .i64 t.f0, .string t.f1, .string t.f2, .int .i64 t.f3][i]? = some u → W.cell? (a.add i) = some u := by
  obtain ⟨_, hlen, hcell⟩ := World.cells?_some h1
  obtain ⟨xs, k, -, rfl, -, hxl, hf⟩ := DataW.trod_struct Tryd.underlying30 h2
  obtain ⟨v0, e0, d0⟩ := one_cell 0 hlen (by omega)
  obtain ⟨v1, e1, d1⟩ := one_cell 1 hlen (by omega)
  obtain ⟨v2, e2, d2⟩ := one_cell 2 hlen (by omega)
  obtain ⟨v3, e3, d3⟩ := one_cell 3 hlen (by omega)
  match xs, hxl with
  | [y0, y1, y2, y3], _ =>
    have g0 : DataW.trod enc Tryd.prog W base sp held k 3 ((cs.drop 0).take (Tryd.prog.cellsOf 3)) = some y0 := hf 0 _ rfl
    have g1 : DataW.trod enc Tryd.prog W base sp held k 9 ((cs.drop 1).take (Tryd.prog.cellsOf 9)) = some y1 := hf 1 _ rfl
    have g2 : DataW.trod enc Tryd.prog W base sp held k 9 ((cs.drop 2).take (Tryd.prog.cellsOf 9)) = some y2 := hf 2 _ rfl
    have g3 : DataW.trod enc Tryd.prog W base sp held k 3 ((cs.drop 3).take (Tryd.prog.cellsOf 3)) = some y3 := hf 3 _ rfl
    rw [cells3, d0] at g0
    rw [cells9, d1] at g1
    rw [cells9, d2] at g2
    rw [cells3, d3] at g3
    obtain ⟨m0, q0, z0, -⟩ := DataW.trod_int Tryd.underlying3 g0
    obtain ⟨m1, q1, z1, -⟩ := DataW.trod_string Tryd.underlying9 g1
    obtain ⟨m2, q2, z2, -⟩ := DataW.trod_string Tryd.underlying9 g2
    obtain ⟨m3, q3, z3, -⟩ := DataW.trod_int Tryd.underlying3 g3
    obtain rfl : v0 = .int .i64 m0 := by simpa using q0
    obtain rfl : v1 = .string m1 := by simpa using q1
    obtain rfl : v2 = .string m2 := by simpa using q2
    obtain rfl : v3 = .int .i64 m3 := by simpa using q3
    refine ⟨⟨m0, m1, m2, m3⟩, by rw [z0, z1, z2, z3]; rfl, ?_⟩
    intro i u hu
    match i, hu with
    | 0, hu => rw [hcell 0 (by omega), e0]; exact hu
    | 1, hu => rw [hcell 1 (by omega), e1]; exact hu
    | 2, hu => rw [hcell 2 (by omega), e2]; exact hu
    | 3, hu => rw [hcell 3 (by omega), e3]; exact hu
    | (i + 4), hu => simp at hu
instance : Inhabited S30 := ⟨z30⟩
/-- a slice of tokens that is read: a list -/
theorem open_tokens {H : Type} {enc : TypeId × Value → H} {W : World} {base : Nat} {sp : Nat → Bool} {held : Bool} {A : Option Addr} {len cap : Nat} {d : DataW H} {p : List MemPlace}
    (h : DataW.Trod enc Tryd.prog W base sp held 22 (.slice A len cap) d p) :
    ∃ l : List S30, l.length = len ∧ len ≤ cap ∧ Kd.C k30 W A len l ∧ l.length + (textL l).length ≤ Rows.uptoBulk d := by
  obtain ⟨fuel, hf⟩ := h
  rcases Deep.open_slice Tryd.underlying22 hf with ⟨hcs, hx⟩ | ⟨a, len', cap', m, n, D, Pl, hcs, hb, hl, hm, hmm, hx, hel⟩
  · simp [Value.cells] at hcs
    obtain ⟨rfl, rfl, rfl⟩ := hcs
    exact ⟨[], rfl, Nat.le_refl _, ⟨rfl, by omega, fun h => absurd h (by omega)⟩, by simp [textL]⟩
  · simp [Value.cells] at hcs
    obtain ⟨rfl, rfl, rfl⟩ := hcs
    have hlm : len ≤ m := by rw [hmm]; split <;> omega
    obtain ⟨q, hq⟩ := Deep.choose_lt (α := S30) (n := len) (p := fun i t => D i = tokD t ∧ ∀ j u, [Value.int .i64 t.f0, .string t.f1, .string t.f2, .int .i64 t.f3][j]? = some u → W.cell? ((a.add (i * 4)).add j) = some u) (fun i hi => by
      obtain ⟨cs', h1, h2⟩ := hel i (by omega)
      rw [cells30] at h1
      obtain ⟨t, t1, t2⟩ := open_token h1 h2
      exact ⟨t, t1, t2⟩)
    have hlen : ((List.range len).map q).length = len := by simp
    refine ⟨(List.range len).map q, hlen, hl, ⟨hlen, by unfold maxLen at hm; omega, fun _ => ⟨a, rfl, fun j t hj => ?_⟩⟩, ?_⟩
    · have hj2 : j < len := by
        rcases Nat.lt_or_ge j len with h | h
        · exact h
        · rw [List.getElem?_eq_none (by rw [hlen]; exact h)] at hj; cases hj
      have ht : t = q j := by
        rw [List.getElem?_map, List.getElem?_range hj2] at hj
        exact (Option.some.inj hj).symm
      subst ht
      refine ⟨_, rfl, k30_mk W (q j), fun i u hu => ?_⟩
      have := (hq j hj2).2 i u hu
      rw [Deep.add_add] at this
      exact this
    · have hD : (List.range len).map D = ((List.range len).map q).map tokD := by
        rw [List.map_map]
        exact List.map_congr_left fun i hi => (hq i (List.mem_range.1 hi)).1
      have hd : d = .slice ((List.range len).map D) ((List.range (m - len)).map fun j => D (len + j)) := congrArg Prod.fst hx
      have := tok_bulk (H := H) ((List.range len).map q)
      rw [hd, hD]
      simp only [Rows.uptoBulk]
      omega
end Go.Proofs.YtabnmkakgcifoaaDoor.PLex

