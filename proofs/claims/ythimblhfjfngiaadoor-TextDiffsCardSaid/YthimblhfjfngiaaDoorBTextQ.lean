/- Chapter 01: what the claims share. Part 17 of 24. -/
import Derived.Test.YthimblhfjfngiaaDoorBTextP
import Derived.Deep.Slices
import Derived.ChangeArms
import Derived.ChangeOld
namespace Go.Proofs.YthimblhfjfngiaaDoor.PText
open Go.RowKit Go.ChangeShapes Go.WideShapes Go.Proofs.YthimblhfjfngiaaDoorW.PrintWords Go.Proofs.YthimblhfjfngiaaDoorW.PrintLast Go.Proofs.YthimblhfjfngiaaDoorW.PrintMore
/-- an edit as data -/
def edD {H : Type} (x : S34) : DataW H := .agg [.lit (.int .i64 x.f0), .lit (.int .i64 x.f1), .lit (.string x.f2.data.toList)]
theorem r_cells34 : Tryd.prog.cellsOf 34 = 3 := by kernel_rfl
theorem r_cells3 : Tryd.prog.cellsOf 3 = 1 := by kernel_rfl
theorem r_cells9 : Tryd.prog.cellsOf 9 = 1 := by kernel_rfl
theorem r_cells5 : Tryd.prog.cellsOf 5 = 1 := by kernel_rfl
theorem r_bytes34 : Tryd.prog.bytesOf 34 = 32 := by kernel_rfl
theorem r_one_cell {α : Type} {l : List α} {n : Nat} (i : Nat) (h : l.length = n) (hi : i < n) : ∃ v, l[i]? = some v ∧ (l.drop i).take 1 = [v] := by
  refine ⟨l[i], List.getElem?_eq_getElem (by omega), ?_⟩
  rw [List.drop_eq_getElem_cons (by omega)]
  rfl
/-- one edit of a slice that is read -/
theorem open_edit {H : Type} {enc : TypeId × Value → H} {W : World} {base : Nat} {sp : Nat → Bool} {held : Bool} {n : Nat} {a : Addr} {cs : List Value} {x : DataW H × List MemPlace}
    (h1 : W.cells? base a 3 = some cs) (h2 : DataW.trod enc Tryd.prog W base sp held n 34 cs = some x) :
    ∃ t : S34, x.1 = edD t ∧ ∀ i u, [Value.int .i64 t.f0, .int .i64 t.f1, .string t.f2][i]? = some u → W.cell? (a.add i) = some u := by
  obtain ⟨_, hlen, hcell⟩ := World.cells?_some h1
  obtain ⟨xs, k, -, rfl, -, hxl, hf⟩ := DataW.trod_struct Tryd.underlying34 h2
  obtain ⟨v0, e0, d0⟩ := r_one_cell 0 hlen (by omega)
  obtain ⟨v1, e1, d1⟩ := r_one_cell 1 hlen (by omega)
  obtain ⟨v2, e2, d2⟩ := r_one_cell 2 hlen (by omega)
  match xs, hxl with
  | [y0, y1, y2], _ =>
    have g0 : DataW.trod enc Tryd.prog W base sp held k 3 ((cs.drop 0).take (Tryd.prog.cellsOf 3)) = some y0 := hf 0 _ rfl
    have g1 : DataW.trod enc Tryd.prog W base sp held k 3 ((cs.drop 1).take (Tryd.prog.cellsOf 3)) = some y1 := hf 1 _ rfl
    have g2 : DataW.trod enc Tryd.prog W base sp held k 9 ((cs.drop 2).take (Tryd.prog.cellsOf 9)) = some y2 := hf 2 _ rfl
    rw [r_cells3, d0] at g0
    rw [r_cells3, d1] at g1
    rw [r_cells9, d2] at g2
    obtain ⟨m0, q0, z0, -⟩ := DataW.trod_int Tryd.underlying3 g0
    obtain ⟨m1, q1, z1, -⟩ := DataW.trod_int Tryd.underlying3 g1
    obtain ⟨m2, q2, z2, -⟩ := DataW.trod_string Tryd.underlying9 g2
    obtain rfl : v0 = .int .i64 m0 := by simpa using q0
    obtain rfl : v1 = .int .i64 m1 := by simpa using q1
    obtain rfl : v2 = .string m2 := by simpa using q2
    refine ⟨⟨m0, m1, m2⟩, by rw [z0, z1, z2]; rfl, ?_⟩
    intro i u hu
    match i, hu with
    | 0, hu => rw [hcell 0 (by omega), e0]; exact hu
    | 1, hu => rw [hcell 1 (by omega), e1]; exact hu
    | 2, hu => rw [hcell 2 (by omega), e2]; exact hu
    | (i + 3), hu => simp at hu
theorem weight_all {H : Type} {P : Program} {e : TypeId} {n : Nat} : ∀ {l : List (DataW H)} {d : DataW H}, d ∈ l → n ∈ d.weights P e → n ∈ DataW.weightsAll P e l
  | x :: l, d, h, hn => by
    simp only [DataW.weightsAll, List.mem_append]
    rcases List.mem_cons.1 h with h | h
    · subst h; exact .inl hn
    · exact .inr (weight_all h hn)
/-- a slice of edits that is read: a list; its length and its texts' lengths are among what is bounded -/
theorem open_edits {H : Type} {enc : TypeId × Value → H} {W : World} {base : Nat} {sp : Nat → Bool} {held : Bool} {A : Option Addr} {len cap : Nat} {d : DataW H} {p : List MemPlace}
    (h : DataW.Trod enc Tryd.prog W base sp held 22 (.slice A len cap) d p) :
    ∃ l : List S34, l.length = len ∧ len ≤ cap ∧ Kd.C k34 W A len l ∧ ∀ B : Nat, (∀ n ∈ d.weights Tryd.prog 22, n ≤ B) → l.length ≤ B ∧ ∀ x ∈ l, x.f2.size ≤ B := by
  have hinh : Inhabited S34 := ⟨z34⟩
  obtain ⟨fuel, hf⟩ := h
  rcases Deep.open_slice Tryd.underlying22 hf with ⟨hcs, hx⟩ | ⟨a, len', cap', m, n, D, Pl, hcs, hb, hl, hm, hmm, hx, hel⟩
  · simp [Value.cells] at hcs
    obtain ⟨rfl, rfl, rfl⟩ := hcs
    exact ⟨[], rfl, Nat.le_refl _, ⟨rfl, by omega, fun h => absurd h (by omega)⟩, fun B _ => ⟨Nat.zero_le _, fun x hx => by cases hx⟩⟩
  · simp [Value.cells] at hcs
    obtain ⟨rfl, rfl, rfl⟩ := hcs
    have hlm : len ≤ m := by rw [hmm]; split <;> omega
    obtain ⟨q, hq⟩ := Deep.choose_lt (α := S34) (n := len) (p := fun i t => D i = edD t ∧ ∀ j u, [Value.int .i64 t.f0, .int .i64 t.f1, .string t.f2][j]? = some u → W.cell? ((a.add (i * 3)).add j) = some u) (fun i hi => by
      obtain ⟨cs', h1, h2⟩ := hel i (by omega)
      rw [r_cells34] at h1
      obtain ⟨t, t1, t2⟩ := open_edit h1 h2
      exact ⟨t, t1, t2⟩)
    have hlen : ((List.range len).map q).length = len := by simp
    refine ⟨(List.range len).map q, hlen, hl, ⟨hlen, by unfold maxLen at hm; omega, fun _ => ⟨a, rfl, fun j t hj => ?_⟩⟩, ?_⟩
    · have hj2 : j < len := by
        rcases Nat.lt_or_ge j len with h | h
        · exact h
        · rw [List.getElem?_eq_none (by rw [hlen]; exact h)] at hj; cases hj
      have ht : t = q j := by
        rw [List.getElem?_map, List.getElem?_range hj2] at hj
        exact (Option.some.inj hj).symm
      subst ht
      refine ⟨_, rfl, k34_mk W (q j), fun i u hu => ?_⟩
      have := (hq j hj2).2 i u hu
      rw [Deep.add_add] at this
      exact this
    · intro B hB
      have hd : d = .slice ((List.range len).map D) ((List.range (m - len)).map fun j => D (len + j)) := congrArg Prod.fst hx
      rw [hd] at hB
      simp only [DataW.weights, Tryd.underlying22] at hB
      constructor
      · have := hB _ List.mem_cons_self
        rw [r_bytes34, List.length_map, List.length_range] at this
        rw [hlen]
        omega
      · intro x hx
        obtain ⟨i, hi, rfl⟩ := List.mem_map.1 hx
        have hi' := List.mem_range.1 hi
        refine hB _ (List.mem_cons_of_mem _ (List.mem_append_left _ (weight_all (List.mem_map.2 ⟨i, hi, rfl⟩) ?_)))
        rw [(hq i hi').1]
        have e : (q i).f2.size = (q i).f2.data.toList.length := by rw [Array.length_toList]; rfl
        rw [e]
        simp only [edD, DataW.weights, Tryd.underlying34]
        simp [DataW.weightsEach, DataW.weights]
/-- a slice of bytes that is read: a list of numbers of a byte -/
theorem open_seeds {H : Type} {enc : TypeId × Value → H} {W : World} {base : Nat} {sp : Nat → Bool} {held : Bool} {A : Option Addr} {len cap : Nat} {d : DataW H} {p : List MemPlace}
    (h : DataW.Trod enc Tryd.prog W base sp held 32 (.slice A len cap) d p) :
    ∃ l : List Int, l.length = len ∧ len ≤ cap ∧ Kd.C (Kd.int .u8) W A len l ∧ ∀ v ∈ l, 0 ≤ v ∧ v ≤ 255 := by
  obtain ⟨fuel, hf⟩ := h
  rcases open_ints Tryd.underlying32 Tryd.underlying5 r_cells5 hf with ⟨hcs, -⟩ | ⟨a, len', cap', zs, hcs, hb, hl, hm, hzl, -, hc, hw⟩
  · simp [Value.cells] at hcs
    obtain ⟨rfl, rfl, rfl⟩ := hcs
    exact ⟨[], rfl, Nat.le_refl _, ⟨rfl, by omega, fun h => absurd h (by omega)⟩, fun v hv => by cases hv⟩
  · simp [Value.cells] at hcs
    obtain ⟨rfl, rfl, rfl⟩ := hcs
    have hlm : len ≤ zs.length := by rw [hzl]; split <;> omega
    have hlen : (zs.take len).length = len := by rw [List.length_take]; omega
    refine ⟨zs.take len, hlen, hl, ⟨hlen, by unfold maxLen at hm; omega, fun _ => ⟨a, rfl, fun j v hj => ?_⟩⟩, fun v hv => ?_⟩
    · have hj2 : j < len := by
        rcases Nat.lt_or_ge j len with h | h
        · exact h
        · rw [List.getElem?_eq_none (by rw [hlen]; exact h)] at hj; cases hj
      rw [List.getElem?_take_of_lt hj2] at hj
      have hj3 : j < zs.length := by omega
      have hv : zs.getD j 0 = v := by rw [List.getD_eq_getElem?_getD, hj]; rfl
      refine ⟨[.int .u8 v], rfl, rfl, fun i u hu => ?_⟩
      match i, hu with
      | 0, hu =>
        have := hc j hj3
        rw [hv] at this
        show W.cell? (a.add (j * 1 + 0)) = some u
        rw [Nat.mul_one, Nat.add_zero, this]
        exact hu
      | (i + 1), hu => simp at hu
    · have := hw v (List.mem_of_mem_take hv)
      simp only [Lit.wf, Bool.and_eq_true, decide_eq_true_eq] at this
      have e1 : IntKind.u8.min = 0 := by decide
      have e2 : IntKind.u8.max = 255 := by decide
      omega
end Go.Proofs.YthimblhfjfngiaaDoor.PText

