/- PastNil holds: for every number and every text the statement answers true. Part 9 of 19. -/
import Derived.Test.YthimblhfjfngiaaGreatBNilH
namespace Go.Proofs.YthimblhfjfngiaaGreat.PText
open Go.RowKit Go.Lib Go.Proofs.YthimblhfjfngiaaGreatW.PrintWords Go.Proofs.YthimblhfjfngiaaGreatW.PrintLast Go.Proofs.YthimblhfjfngiaaGreatW.PrintMore
set_option linter.unusedVariables false
set_option linter.unusedSimpArgs false
theorem below_ahead (B : Nat) (w : World) (n : Nat) : Below B w (Sort.ahead w n) := ⟨rfl, rfl, rfl, Nat.le_refl _, fun _ _ => rfl⟩
theorem below_grow {B : Nat} {w : World} (h : B ≤ w.heap.size) (os : Array Obj) : Below B w (Sort.grow w os) :=
  ⟨rfl, rfl, rfl, by show w.heap.size ≤ (w.heap ++ os).size; rw [Array.size_append]; omega, fun k hk => by
    show (w.heap ++ os)[k]? = _
    rw [Array.getElem?_append_left (by omega)]⟩
theorem below_putRow {B blk : Nat} {α : Type} [Inhabited α] (enc : α → Value) (w : World) (off : Nat) (F : Array α) (h : B ≤ blk) : Below B w (Sort.putRow enc w blk off F) :=
  ⟨rfl, rfl, rfl, by show w.heap.size ≤ (w.heap.modify blk _).size; rw [Array.size_modify]; exact Nat.le_refl _, fun k hk => by
    show (w.heap.modify blk _)[k]? = _
    rw [Array.getElem?_modify, if_neg (by omega)]⟩
theorem putRow_heap {α : Type} [Inhabited α] (enc : α → Value) {w : World} {blk off : Nat} {F : Array α} {cur : Array Value} {e : TypeId} {fr : Nat × Nat} (h : w.heap[blk]? = some (.cells cur e fr)) :
    ∃ cur', (Sort.putRow enc w blk off F).heap[blk]? = some (.cells cur' e fr) ∧ cur'.size = cur.size := by
  refine ⟨Sort.putCells enc off F cur, ?_, by simp [Sort.putCells]⟩
  show (w.heap.modify blk _)[blk]? = _
  rw [Array.getElem?_modify, if_pos rfl, h]
  rfl
theorem grow_heap {w : World} {blk : Nat} {o : Obj} (os : Array Obj) (h : w.heap[blk]? = some o) : (Sort.grow w os).heap[blk]? = some o := by
  show (w.heap ++ os)[blk]? = _
  rw [Array.getElem?_append_left (Array.getElem?_eq_some_iff.1 h).1, h]
/-- a row of one's own, out of its cells -/
theorem row34 {W : World} {base g cap : Nat} {cur : Array Value} {r : List S91} (hh : W.heap[g]? = some (.cells cur 91 (0, 0))) (hb : base ≤ g) (hl : r.length ≤ cap) (hm : cap ≤ maxLen) (hs : cur.size = cap * 3)
    (hc : ∀ t, t < r.length * 3 → cur[t]! = (Sort.flatK enc34 3 r.toArray)[t]!) : Kd.R k91 91 W base (fun _ => True) (.slice (some ⟨g, 0, none⟩) r.length cap) r := by
  have hle : r.length * 3 ≤ cur.size := by omega
  refine ⟨fun _ _ => trivial, cur.toList.take (r.length * 3), ⟨by rw [List.length_take, Nat.min_eq_left (by rw [Array.length_toList]; exact hle)]; rfl, Or.inr ⟨g, cap, cur, rfl, hb, hh, hl, hm, hs, rfl⟩⟩, by rw [List.length_take, Nat.min_eq_left (by rw [Array.length_toList]; exact hle)]; rfl, fun j p hp => ?_⟩
  obtain ⟨hj, rfl⟩ := List.getElem?_eq_some_iff.1 hp
  have key : ((cur.toList.take (r.length * 3)).drop (j * 3)).take 3 = [.int .i64 r[j].f0, .int .i64 r[j].f1, .string r[j].f2] := by
    have one : ∀ c, c < 3 → cur[j * 3 + c]? = some (enc34 r[j])[c]! := by
      intro c hcc
      have h1 := hc (j * 3 + c) (by omega)
      rw [Sort.get_flatK _ _ _ _ (by rw [List.size_toArray]; omega), show (j * 3 + c) / 3 = j by omega, show (j * 3 + c) % 3 = c by omega] at h1
      rw [Array.getElem?_eq_getElem (by omega), ← getElem!_pos cur (j * 3 + c) (by omega), h1, getElem!_pos r.toArray j (by rw [List.size_toArray]; exact hj), List.getElem_toArray]
    have z0 := one 0 (by omega)
    have z1 := one 1 (by omega)
    have z2 := one 2 (by omega)
    apply List.ext_getElem?
    intro c
    rw [List.getElem?_take]
    by_cases h3 : c < 3
    · rw [if_pos h3, List.getElem?_drop, List.getElem?_take, if_pos (by omega), Array.getElem?_toList]
      have : c = 0 ∨ c = 1 ∨ c = 2 := by omega
      rcases this with rfl | rfl | rfl
      · rw [z0]; rfl
      · rw [z1]; rfl
      · rw [z2]; rfl
    · rw [if_neg h3, List.getElem?_eq_none (by simp; omega)]
  show k91.M W base _ r[j] (((cur.toList.take (r.length * 3)).drop (j * 3)).take 3)
  rw [key]
  exact k91_mkM _ _ _ _
/-- the cells of a row of one's own -/
theorem holds_of_row {W : World} {base g cap : Nat} {ok : Nat → Prop} {l : List S91} (h : Kd.R k91 91 W base ok (.slice (some ⟨g, 0, none⟩) l.length cap) l) (hg : ∃ cur, W.heap[g]? = some (.cells cur 91 (0, 0))) : Sort.HoldsK enc34 3 W g 0 l.toArray := by
  intro t ht
  rw [Sort.size_flatK, List.size_toArray] at ht
  have hC := (Kd.R_reads' h).2.2
  obtain ⟨ad, e, h0, h1, h2⟩ := at_T91 hC ((t / 3 : Nat) : Int) (by omega) (by omega)
  cases e
  obtain ⟨cur, hcur⟩ := hg
  refine ⟨?_, by simp [World.frozen?, hcur]⟩
  rw [Sort.get_flatK _ _ _ _ (by rw [List.size_toArray]; exact ht)]
  have hx : (l.toArray)[t / 3]! = rd_T91 l ((t / 3 : Nat) : Int) := by
    unfold rd_T91
    rw [Int.toNat_natCast, getElem!_pos l.toArray (t / 3) (by rw [List.size_toArray]; omega), List.getElem_toArray, List.getD_eq_getElem?_getD, List.getElem?_eq_getElem (by omega)]
    rfl
  rw [hx]
  simp only [Int.toNat_natCast, add_plain] at h0 h1 h2
  have : t % 3 = 0 ∨ t % 3 = 1 ∨ t % 3 = 2 := by omega
  rcases this with c | c | c
  · rw [c, show 0 + t = t / 3 * 3 by omega]; exact h0
  · rw [c, show 0 + t = t / 3 * 3 + 1 by omega]; exact h1
  · rw [c, show 0 + t = t / 3 * 3 + 2 by omega]; exact h2
end Go.Proofs.YthimblhfjfngiaaGreat.PText

