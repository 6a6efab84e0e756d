/- TextRefuses holds: for every two texts the statement answers true, where the seven listed package variables hold what the program's text lays. Part 16 of 21. -/
import Derived.Test.YtidlmkdoofcgnaaGreatDoorBRefusesO
import Derived.BigCall
import Derived.Lib.OthersKept
import Derived.Lib.Hide
namespace Go.Proofs.YtidlmkdoofcgnaaGreatDoor.PText
open Go.RowKit Go.Lib Go.Proofs.YtidlmkdoofcgnaaGreatDoorW.PrintWords Go.Proofs.YtidlmkdoofcgnaaGreatDoorW.PrintLast Go.Proofs.YtidlmkdoofcgnaaGreatDoorW.PrintMore
/-- the text that edits make, told to a bound that no machine reaches -/
def madeE (s : ByteArray) (l : List S24) : List UInt8 := Tx.ap s.data.toList 0 ((Tx.ord eltS l).map toE)
def text_Apply.f (a0 : ByteArray) (l1 : List S24) : Option (ByteArray × Int) :=
  if fineE a0.size l1 ≠ 0 then some ((⟨#[]⟩ : ByteArray), fineE a0.size l1)
  else if (madeE a0 l1).length ≤ 140737488351232 then (if 200000 < (madeE a0 l1).length then some ((⟨#[]⟩ : ByteArray), 2) else some (⟨(madeE a0 l1).toArray⟩, 0)) else none
/-- fine edits are one behind the other -/
theorem fine_chain (n : Nat) (l : List S24) (h : fineE n l = 0) : l.length ≤ 10000 ∧ n ≤ 200000 ∧ Tx.Ch n 0 ((Tx.ord eltS l).map toE) := by
  unfold fineE at h
  by_cases h1 : 200000 < n ∨ 10000 < l.length
  · rw [if_pos h1] at h; cases h
  · rw [if_neg h1] at h
    by_cases h2 : l.any (badE n) = true
    · rw [if_pos h2] at h; cases h
    · rw [if_neg h2] at h
      by_cases h3 : Tx.clash 0 (-1) ((Tx.ord eltS l).map toE) = true
      · rw [if_pos h3] at h; cases h
      · refine ⟨by omega, by omega, Tx.clash_ch _ 0 (-1) ?_ (by omega) (by simpa using h3)⟩
        intro e he
        obtain ⟨x, hx, rfl⟩ := List.mem_map.1 he
        have hx' := (Tx.mem_ord eltS_lin).1 hx
        have hb : badE n x = false := by
          cases q : badE n x with
          | false => rfl
          | true => exact absurd (List.any_eq_true.2 ⟨x, hx', q⟩) h2
        unfold badE at hb
        simp only [Bool.or_eq_false_iff, decide_eq_false_iff_not] at hb
        show 0 ≤ x.f0 ∧ x.f0 ≤ x.f1 ∧ x.f1 ≤ (n : Int)
        omega
end Go.Proofs.YtidlmkdoofcgnaaGreatDoor.PText

namespace Go.Proofs.YtidlmkdoofcgnaaGreatDoor.PText
open Go.RowKit Go.Lib Go.Proofs.YtidlmkdoofcgnaaGreatDoorW.PrintWords Go.Proofs.YtidlmkdoofcgnaaGreatDoorW.PrintLast Go.Proofs.YtidlmkdoofcgnaaGreatDoorW.PrintMore
theorem size_list (s : ByteArray) : s.size = s.data.toList.length := by rw [Array.length_toList]; rfl
theorem ext_sl (s : ByteArray) (a b : Int) : (s.extract a.toNat b.toNat).data.toList = Tx.sl s.data.toList a b := by
  rw [ByteArray.data_extract, Array.toList_extract, List.extract_eq_take_drop]; rfl
theorem ext_end (s : ByteArray) (a : Int) : (s.extract a.toNat s.size).data.toList = s.data.toList.drop a.toNat := by
  rw [ByteArray.data_extract, Array.toList_extract, List.extract_eq_take_drop]
  exact List.take_of_length_le (by rw [List.length_drop, size_list]; exact Nat.le_refl _)
theorem toE_x (x : S24) : (toE x).x = x.f2.data.toList := Lib.toList_data x.f2
end Go.Proofs.YtidlmkdoofcgnaaGreatDoor.PText

namespace Go.Proofs.YtidlmkdoofcgnaaGreatDoor.PText
open Go.RowKit Go.Proofs.YtidlmkdoofcgnaaGreatDoorW.PrintWords Go.Proofs.YtidlmkdoofcgnaaGreatDoorW.PrintLast Go.Proofs.YtidlmkdoofcgnaaGreatDoorW.PrintMore
structure S64 where
  f0 : Int
  f1 : Int
  a : Option Addr
  n : Nat
  c : Nat
def z64 : S64 := ⟨0, 0, none, 0, 0⟩
def k64 : Kd S64 := Kd.iso (Kd.pair (Kd.int .i64) (Kd.pair (Kd.int .i64) (Kd.scalar (fun x : Option Addr × Nat × Nat => Value.slice x.1 x.2.1 x.2.2) (fun _ => rfl)))) (fun x : S64 => (x.f0, x.f1, x.a, x.n, x.c))
theorem info64 : (Tryz.prog.info? 64).map (fun i => (i.zero, i.size, i.bytes)) = some (some (.agg #[(.int .i64 0), (.int .i64 0), (.slice none 0 0)]), 3, 40) := by kernel_rfl
theorem k64_open {w : World} {x : S64} {cs : List Value} (h : k64.K w x cs) : cs = [.int .i64 x.f0, .int .i64 x.f1, .slice x.a x.n x.c] := by
  obtain ⟨_, _, rfl, rfl, ⟨_, _, rfl, rfl, rfl⟩⟩ := h
  exact rfl
theorem k64_mkM (w : World) (base : Nat) (ok : Nat → Prop) (x : S64) : k64.M w base ok x [.int .i64 x.f0, .int .i64 x.f1, .slice x.a x.n x.c] := ⟨[.int .i64 x.f0], [.int .i64 x.f1, .slice x.a x.n x.c], rfl, rfl, ⟨[.int .i64 x.f1], [.slice x.a x.n x.c], rfl, rfl, rfl⟩⟩
def rd_T64 (xs : List S64) (i : Int) : S64 := xs.getD i.toNat z64
theorem at_T64 {w : World} {A : Option Addr} {n : Nat} {xs : List S64} (h : Kd.C k64 w A n xs) (i : Int) (h0 : 0 ≤ i) (h1 : i < n) : ∃ ad , A = some ad ∧ w.cell? (ad.add (i.toNat * 3)) = some (.int .i64 (rd_T64 xs i).f0) ∧ w.cell? ⟨(ad.add (i.toNat * 3)).block, (ad.add (i.toNat * 3)).off + 1, none⟩ = some (.int .i64 (rd_T64 xs i).f1) ∧ w.cell? ⟨(ad.add (i.toNat * 3)).block, (ad.add (i.toNat * 3)).off + 2, none⟩ = some (.slice (rd_T64 xs i).a (rd_T64 xs i).n (rd_T64 xs i).c) := by
  obtain ⟨ad, c, e, _, hK, hc0⟩ := Kd.C_get h z64 i h0 h1
  have hc : ∀ j u, c[j]? = some u → w.cell? (ad.add (i.toNat * 3 + j)) = some u := hc0
  obtain rfl := k64_open hK
  exact ⟨ad, e, hc 0 _ rfl, by rw [← add_field _ _ 1 (by omega)]; exact hc 1 _ rfl, by rw [← add_field _ _ 2 (by omega)]; exact hc 2 _ rfl⟩
theorem rd70_at (l : List S64) (i : Nat) (h : i < l.length) : rd_T64 l (i : Int) = l[i] := by
  unfold rd_T64
  rw [Int.toNat_natCast, List.getD_eq_getElem?_getD, List.getElem?_eq_getElem h]; rfl
/-- lines of the old text, and of the new one -/
def cA : List S66 → Nat
  | [] => 0
  | x :: l => (if x.f0 = 43 then 0 else 1) + cA l
def cB : List S66 → Nat
  | [] => 0
  | x :: l => (if x.f0 = 45 then 0 else 1) + cB l
theorem cA_le : ∀ l : List S66, cA l ≤ l.length
  | [] => Nat.le_refl _
  | x :: l => by
    have := cA_le l
    show (if x.f0 = 43 then 0 else 1) + cA l ≤ l.length + 1
    split <;> omega
theorem cB_le : ∀ l : List S66, cB l ≤ l.length
  | [] => Nat.le_refl _
  | x :: l => by
    have := cB_le l
    show (if x.f0 = 45 then 0 else 1) + cB l ≤ l.length + 1
    split <;> omega
theorem cA_take (l : List S66) (n : Nat) : cA (l.take n) ≤ l.length := Nat.le_trans (cA_le _) (by rw [List.length_take]; omega)
theorem cB_take (l : List S66) (n : Nat) : cB (l.take n) ≤ l.length := Nat.le_trans (cB_le _) (by rw [List.length_take]; omega)
theorem counts_l0 (l : List S66) (hl : l.length ≤ 1000000) : ∀ (m i k a b : Nat), l.length - i = m → i ≤ l.length → m + 1 ≤ k → a ≤ i → b ≤ i →
    text_counts.l0 k (a : Int) (b : Int) l (l.length : Int) (i : Int) = some (((a + cA (l.drop i) : Nat) : Int), ((b + cB (l.drop i) : Nat) : Int)) := by
  intro m
  induction m with
  | zero =>
    intro i k a b hm hi hk ha hb
    obtain ⟨k, rfl⟩ : ∃ q, k = q + 1 := ⟨k - 1, by omega⟩
    rw [text_counts.l0, if_neg (by omega), List.drop_of_length_le (by omega)]
    rfl
  | succ m ih =>
    intro i k a b hm hi hk ha hb
    obtain ⟨k, rfl⟩ : ∃ q, k = q + 1 := ⟨k - 1, by omega⟩
    have hlt : i < l.length := by omega
    have hd : l.drop i = l[i] :: l.drop (i + 1) := List.drop_eq_getElem_cons hlt
    have eA : cA (l[i] :: l.drop (i + 1)) = (if l[i].f0 = 43 then 0 else 1) + cA (l.drop (i + 1)) := rfl
    have eB : cB (l[i] :: l.drop (i + 1)) = (if l[i].f0 = 45 then 0 else 1) + cB (l.drop (i + 1)) := rfl
    have nxa : ∀ n : Nat, n ≤ 1000000 → wrap64 ((n : Int) + 1) = ((n + 1 : Nat) : Int) := fun n hn => by rw [w64 (by omega) (by omega)]; omega
    rw [text_counts.l0, if_pos (by omega), if_pos (by omega), if_pos (by omega), rd78_at l i hlt, nx i (by omega), hd, eA, eB]
    by_cases c1 : l[i].f0 = 43
    · have c2 : ¬ l[i].f0 = 45 := by omega
      rw [if_pos c1, if_neg c2, if_pos c1, if_neg c2, nxa b (by omega), ih (i + 1) k a (b + 1) (by omega) (by omega) (by omega) (by omega) (by omega), Nat.zero_add, Nat.add_assoc b 1]
    · rw [if_neg c1, if_neg c1]
      by_cases c2 : l[i].f0 = 45
      · rw [if_pos c2, if_pos c2, nxa a (by omega), ih (i + 1) k (a + 1) b (by omega) (by omega) (by omega) (by omega) (by omega), Nat.zero_add, Nat.add_assoc a 1]
      · rw [if_neg c2, if_neg c2, nxa a (by omega), nxa b (by omega), ih (i + 1) k (a + 1) (b + 1) (by omega) (by omega) (by omega) (by omega) (by omega), Nat.add_assoc a 1, Nat.add_assoc b 1]
theorem counts_f (l : List S66) (hl : l.length ≤ 1000000) (k : Nat) (hk : l.length + 1 ≤ k) : text_counts.f k l = some ((cA l : Int), (cB l : Int)) := by
  have h := counts_l0 l hl l.length 0 k 0 0 (by omega) (by omega) hk (Nat.le_refl _) (Nat.le_refl _)
  rw [List.drop_zero, Nat.zero_add, Nat.zero_add] at h
  exact h
theorem counts_take (A : Option Addr) (l : List S66) (m : Nat) (w : World) (hC : Kd.C k66 w A l.length l) (hl : l.length ≤ 1000000) (hm : m ≤ l.length) :
    Calls Tryz.prog 54 #[.slice A m m] w fun e w' => e = .returned (.tuple #[.int .i64 (cA (l.take m) : Int), .int .i64 (cB (l.take m) : Int)]) ∧ Below w.heap.size w w' := by
  have hlen : (l.take m).length = m := by rw [List.length_take]; omega
  have h := text_counts.calls (m + 1) A m (l.take m) _ _ w (Kd.C_take hC hm) (by omega) (counts_f (l.take m) (by omega) (m + 1) (by omega))
  rw [hlen] at h
  exact h
/-- where the last change of a hunk ends: looked on from k -/
def endH (l : List S66) (ctx : Nat) : Nat → Nat → Nat → Nat → Nat
  | 0, _, e, _ => e
  | n + 1, k, e, kept => if kept ≤ 2 * ctx then (if (rd_T66 l (k : Int)).f0 = 32 then endH l ctx n (k + 1) e (kept + 1) else endH l ctx n (k + 1) (k + 1) 0) else e
theorem endH_le (l : List S66) (ctx : Nat) : ∀ (n k e kept : Nat), e ≤ k → n + k ≤ l.length → e ≤ endH l ctx n k e kept ∧ endH l ctx n k e kept ≤ l.length
  | 0, k, e, kept, h1, h2 => ⟨Nat.le_refl _, by show e ≤ _; omega⟩
  | n + 1, k, e, kept, h1, h2 => by
    unfold endH
    split
    · split
      · exact endH_le l ctx n (k + 1) e (kept + 1) (by omega) (by omega)
      · have := endH_le l ctx n (k + 1) (k + 1) 0 (Nat.le_refl _) (by omega)
        exact ⟨by omega, this.2⟩
    · exact ⟨Nat.le_refl _, by omega⟩
/-- the hunks from a place on: where each begins and ends -/
def hkL (l : List S66) (ctx : Nat) : Nat → Nat → List (Nat × Nat)
  | 0, _ => []
  | n + 1, i => if i < l.length then (if (rd_T66 l (i : Int)).f0 = 32 then hkL l ctx n (i + 1) else (i - ctx, min l.length (endH l ctx (l.length - (i + 1)) (i + 1) (i + 1) 0 + ctx)) :: hkL l ctx n (endH l ctx (l.length - (i + 1)) (i + 1) (i + 1) 0)) else []
theorem hkL_fuel (l : List S66) (ctx : Nat) : ∀ (n m i : Nat), l.length - i ≤ n → l.length - i ≤ m → hkL l ctx n i = hkL l ctx m i
  | 0, 0, i, _, _ => rfl
  | 0, m + 1, i, h1, h2 => by
    show [] = hkL l ctx (m + 1) i
    unfold hkL
    rw [if_neg (by omega)]
  | n + 1, 0, i, h1, h2 => by
    show hkL l ctx (n + 1) i = []
    unfold hkL
    rw [if_neg (by omega)]
  | n + 1, m + 1, i, h1, h2 => by
    unfold hkL
    by_cases c : i < l.length
    · rw [if_pos c, if_pos c]
      have he := endH_le l ctx (l.length - (i + 1)) (i + 1) (i + 1) 0 (Nat.le_refl _) (by omega)
      split
      · exact hkL_fuel l ctx n m (i + 1) (by omega) (by omega)
      · rw [hkL_fuel l ctx n m _ (by omega) (by omega)]
    · rw [if_neg c, if_neg c]
def hunkS (ad : Addr) (l : List S66) (p : Nat × Nat) : S64 := ⟨(cA (l.take p.1) : Int), (cB (l.take p.1) : Int), some (ad.add (p.1 * 2)), p.2 - p.1, p.2 - p.1⟩
theorem hkL_in (l : List S66) (ctx : Nat) : ∀ (n i : Nat), ∀ p ∈ hkL l ctx n i, p.1 < p.2 ∧ p.2 ≤ l.length
  | 0, i, p, h => by cases h
  | n + 1, i, p, h => by
    unfold hkL at h
    by_cases c : i < l.length
    · rw [if_pos c] at h
      have he := endH_le l ctx (l.length - (i + 1)) (i + 1) (i + 1) 0 (Nat.le_refl _) (by omega)
      split at h
      · exact hkL_in l ctx n (i + 1) p h
      · rcases List.mem_cons.1 h with h | h
        · subst h
          refine ⟨?_, Nat.min_le_left _ _⟩
          show i - ctx < min _ _
          omega
        · exact hkL_in l ctx n _ p h
    · rw [if_neg c] at h; cases h
theorem hkL_len (l : List S66) (ctx : Nat) : ∀ (n i : Nat), (hkL l ctx n i).length ≤ l.length - i
  | 0, i => Nat.zero_le _
  | n + 1, i => by
    unfold hkL
    by_cases c : i < l.length
    · rw [if_pos c]
      have he := endH_le l ctx (l.length - (i + 1)) (i + 1) (i + 1) 0 (Nat.le_refl _) (by omega)
      split
      · have := hkL_len l ctx n (i + 1); omega
      · have := hkL_len l ctx n (endH l ctx (l.length - (i + 1)) (i + 1) (i + 1) 0)
        rw [List.length_cons]; omega
    · rw [if_neg c]; exact Nat.zero_le _
end Go.Proofs.YtidlmkdoofcgnaaGreatDoor.PText

namespace Go.Proofs.YtidlmkdoofcgnaaGreatDoor.PText
open Go.RowKit Go.Proofs.YtidlmkdoofcgnaaGreatDoorW.PrintWords Go.Proofs.YtidlmkdoofcgnaaGreatDoorW.PrintLast Go.Proofs.YtidlmkdoofcgnaaGreatDoorW.PrintMore
set_option linter.unusedVariables false
set_option linter.unusedSimpArgs false
/-- a builder stays where all that lay stays -/
theorem builder_kept {T e : TypeId} {B b : Nat} {bs : List Value} {W W' : World} (h : Lib.IsBuilderF T e B b bs W) (hb : Below W.heap.size W W') : Lib.IsBuilderF T e B b bs W' := by
  have one : ∀ p, Lib.BuilderAtF T e B b p bs W → Lib.BuilderAtF T e B b p bs W' := by
    rintro p ⟨hB, v, hv, hown, hne⟩
    have hlt : b < W.heap.size := (Array.getElem?_eq_some_iff.1 hv).1
    exact ⟨hB, v, (hb.block b hlt).trans hv, hown.kept (row := none) ⟨hb.os, hb.tape, hb.output, hb.size, fun k hk _ => hb.block k hk⟩ (Classical.em _), hne⟩
  rcases h with h | h
  · exact .inl (one _ h)
  · exact .inr (one _ h)
theorem heap_new (w : World) (o : Obj) : (w.alloc o).heap[w.heap.size]? = some o := by
  show (w.heap.push o)[w.heap.size]? = some o
  exact Array.getElem?_push_size
theorem heap_old {w : World} {k : Nat} {o : Obj} (h : w.heap[k]? = some o) (o' : Obj) : (w.alloc o').heap[k]? = some o := by
  have hk : k < w.heap.size := (Array.getElem?_eq_some_iff.1 h).1
  show (w.heap.push o')[k]? = some o
  rw [Array.getElem?_push, if_neg (by omega), h]
theorem add_block (a : Addr) (n : Nat) : (a.add n).block = a.block := by unfold Addr.add; split <;> rfl
theorem cell_same {w w' : World} {p : Addr} (h : w'.heap[p.block]? = w.heap[p.block]?) : w'.cell? p = w.cell? p := by unfold World.cell?; rw [h]
/-- where the row of some edits lies: a block of cells of their type, or there are none -/
theorem row_block {w : World} {B : Nat} {A : Option Addr} {c : Nat} {l : List S24} (h : Kd.R k24 24 w B (fun _ => True) (.slice A l.length c) l) :
    ∃ (g : Nat) (cs : Array Value), (l ≠ [] → A = some ⟨g, 0, none⟩) ∧ (l = [] ∨ (B ≤ g ∧ w.heap[g]? = some (.cells cs 24 (0, 0)))) := by
  by_cases hl : l = []
  · exact ⟨0, #[], fun q => absurd hl q, .inl hl⟩
  · obtain ⟨g, cap, hv, hb, _, cs, hc⟩ := Kd.R_form h (List.length_pos_iff.2 hl)
    cases hv
    exact ⟨g, cs, fun _ => rfl, .inr ⟨hb, hc⟩⟩
set_option maxHeartbeats 8000000 in
set_option maxRecDepth 100000 in
theorem text_Apply.calls (a0 : ByteArray) (A1 : Option Addr) (c1 : Nat) (l1 : List S24) (r1 : ByteArray) (r2 : Int) (w : World) (hr1 : Kd.C k24 w A1 l1.length l1) (hc1 : l1.length ≤ c1) (h : text_Apply.f a0 l1 = some (r1, r2)) :
    Calls Tryz.prog 22 #[.string a0, .slice A1 l1.length c1] w fun e w' => e = .returned (.tuple #[.string r1, .int .i64 r2]) ∧ Below w.heap.size w w' := by
  have H12 := Aside0.mk (text_Fine.calls a0 A1 c1 l1 (fineE a0.size l1) w hr1 hc1 rfl)
  have HC := Aside0.mk hr1
  have HL := Aside0.mk hc1
  clear hr1 hc1
  unfold text_Apply.f at h
  by_cases hf : fineE a0.size l1 = 0
  · rw [if_neg (by rw [hf]; decide)] at h
    rw [hf] at H12
    have CHN := Aside0.mk (fine_chain a0.size l1 hf)
    have HF := Aside0.mk hf
    clear hf
    have H32 := Aside0.mk (fun w2 (h2 : Kd.C k24 w2 A1 l1.length l1) => text_sorted.calls A1 c1 l1 (Tx.ord eltS l1) w2 h2 HL.out (by unfold text_sorted.f; rw [if_pos CHN.out.1]))
    have HH := Aside0.mk h
    clear h
    have HME := Aside0.mk (show madeE a0 l1 = Tx.ap a0.data.toList 0 ((Tx.ord eltS l1).map toE) from rfl)
    have CH := Aside0.mk CHN.out.2.2
    have HRL := Aside0.mk (Nat.le_trans (Tx.ord_len (lt := eltS) l1) CHN.out.1)
    clear CHN
    generalize Tx.ord eltS l1 = row at H32 CH HME HRL
    generalize madeE a0 l1 = M at HH HME
    have hu34 := Tryz.underlying24
    go_enter Tryz.func22, Tryz.ntmps22
    go_wp2_with (first
      | (go_at_call 41; refine H12.out.mono ?_; rintro e w2 ⟨rfl, hb⟩; have HB := Aside0.mk hb; clear hb H12)
      | (go_at_call 42; refine (H32.out _ (Kd.C_alloc (Kd.C_below HC.out HB.out) _)).mono ?_; rintro e w3 ⟨v3, rfl, ho, hb⟩; obtain ⟨A3, c3, rfl⟩ := Kd.R_slice ho; have HO := Aside0.mk ho; have HB3 := Aside0.mk hb; clear ho hb H32))
    have h0 : Lib.IsBuilderF 72 5 w2.heap.size w2.heap.size [] (w2.alloc (.cells #[.pointer none, .slice none 0 0] 72)) := Lib.IsBuilderF.of (Lib.fresh_isBuilder 72 5 w2)
    have hR := Kd.R_reads' HO.out
    obtain ⟨g, cs, hA, hg⟩ := row_block HO.out
    have hC := Aside0.mk hR.2.2
    have H1 := Aside0.mk (builder_kept h0 HB3.out)
    have HB4 : Aside0 (Below w.heap.size w w3) := ⟨((HB.out.alloc HB.out.size _).trans (HB3.out.mono (by have := HB.out.size; simp; omega)))⟩
    have HG : Aside0 (row = [] ∨ (w2.heap.size < g ∧ w3.heap[g]? = some (.cells cs 24 (0, 0)))) := ⟨hg.imp id (fun q => ⟨by have := q.1; simp at this; omega, q.2⟩)⟩
    have HA := Aside0.mk hA
    have HSZ := Aside0.mk HB3.out.size
    have HW := Aside0.mk HB.out.size
    clear h0 HB HB3 hR hg hA HO
    go_loopg [8, 20] (row.length + 1) (fun kq v8 v20 w' => ∃ (i : Nat) (p : Int) (P : List UInt8), v8 = .int .i64 p ∧ v20 = .int .i64 (i : Int) ∧ Aside0 (row.length - i < kq ∧ i ≤ row.length ∧ 0 ≤ p) ∧ Aside0 (Tx.Ch (a0.size : Int) p ((row.drop i).map toE)) ∧ Aside0 (P ++ Tx.ap a0.data.toList p ((row.drop i).map toE) = M) ∧ Aside0 (Lib.IsBuilderF 72 5 w2.heap.size w2.heap.size (Lib.byteCells P) w') ∧ Aside0 (Below w.heap.size w w') ∧ Aside0 (row = [] ∨ (w2.heap.size < g ∧ w'.heap[g]? = some (.cells cs 24 (0, 0)))) ∧ Aside0 (w2.heap.size < w'.heap.size))
    case atStart => exact ⟨0, 0, [], rfl, rfl, ⟨by omega, by omega, by omega⟩, CH, ⟨by rw [HME.out]; rfl⟩, H1, HB4, HG, ⟨by have := HSZ.out; simp at this; omega⟩⟩
    case round =>
      obtain ⟨i, p, P, rfl, rfl, HI, HC2, HP, HBu, HBe, HGe, HS⟩ := hrel
      obtain ⟨k1, rfl⟩ : ∃ k1, gk = k1 + 1 := ⟨gk - 1, by have := HI.out.1; omega⟩
      by_cases hlt : i < row.length
      · have hb : decide ((i : Int) < (row.length : Int)) = true := by simp; omega
        have hb2 : decide ((0 : Int) ≤ (i : Int)) = true := by simp
        have p0 : (0 : Int) ≤ (i : Int) := by omega
        have q0 : (i : Int) < (row.length : Int) := by omega
        obtain ⟨ad, e0, hx0, hx1, hx2⟩ := at_T24 hC.out (i : Int) p0 q0
        have hblk : ad.block = g := by
          have := HA.out (fun e => by rw [e] at hlt; cases hlt)
          rw [e0] at this; cases this; rfl
        have hgw : wr.heap[g]? = w3.heap[g]? := by
          rcases HG.out with q | q
          · rw [q] at hlt; cases hlt
          · rcases HGe.out with q2 | q2
            · rw [q2] at hlt; cases hlt
            · rw [q.2, q2.2]
        cases e0
        replace hx0 := (cell_same (w' := wr) (p := ad.add ((i : Int).toNat * 3)) (by simp only [add_block]; rw [hblk, hgw])).trans hx0
        replace hx1 := (cell_same (w' := wr) (p := ⟨(ad.add ((i : Int).toNat * 3)).block, (ad.add ((i : Int).toNat * 3)).off + 1, none⟩) (by simp only [add_block]; rw [hblk, hgw])).trans hx1
        replace hx2 := (cell_same (w' := wr) (p := ⟨(ad.add ((i : Int).toNat * 3)).block, (ad.add ((i : Int).toNat * 3)).off + 2, none⟩) (by simp only [add_block]; rw [hblk, hgw])).trans hx2
        rw [Int.toNat_natCast] at hx0 hx1 hx2
        rw [rd34_at row i hlt] at hx0 hx1 hx2
        have hd : row.drop i = row[i] :: row.drop (i + 1) := List.drop_eq_getElem_cons hlt
        have HD := Aside0.mk hd
        clear hd hgw
        generalize row[i] = x at *
        have hc := HC2.out
        rw [HD.out] at hc
        obtain ⟨hc1, hc2, hc3⟩ := hc
        replace hc1 : p ≤ x.f0 := hc1
        replace hc2 : x.f0 ≤ x.f1 := hc2
        have hc4 : x.f1 ≤ (a0.size : Int) := Tx.ch_le hc3
        have HC3 := Aside0.mk hc3
        clear hc3
        have hp0 : 0 ≤ p := HI.out.2.2
        have hf0 : x.f0 ≤ (a0.size : Int) := by omega
        have hap : P ++ (Tx.sl a0.data.toList p x.f0 ++ (toE x).x ++ Tx.ap a0.data.toList x.f1 ((row.drop (i + 1)).map toE)) = M := by
          have := HP.out
          rw [HD.out] at this
          exact this
        have HP2 := Aside0.mk hap
        have hML : M.length ≤ 140737488351232 := by
          have := HH.out
          by_cases q : M.length ≤ 140737488351232
          · exact q
          · rw [if_neg q] at this; cases this
        have hsz : P.length + ((a0.extract p.toNat x.f0.toNat).size + x.f2.size) ≤ 140737488351232 := by
          have h1 := congrArg List.length hap
          rw [List.length_append, List.length_append, List.length_append, ← ext_sl, ← size_list, toE_x, ← size_list] at h1
          omega
        have HML := Aside0.mk hML
        obtain ⟨E, hE⟩ : ∃ E, a0.extract p.toNat x.f0.toNat = E := ⟨_, rfl⟩
        rw [hE] at hsz
        have hcat : (E.size + x.f2.size ≤ 9223372036854775807) = True := eq_true (by omega)
        have hcat2 : decide (E.size + x.f2.size ≤ 9223372036854775807) = true := decide_eq_true (by omega)
        have hcat3 : (9223372036854775807 < E.size + x.f2.size) = False := eq_false (by omega)
        have HSZ2 := Aside0.mk hsz
        clear hap hsz hML hblk
        go_wp2_with fail
        go_region_held3 (fun w' => w'.cell? ⟨wr.heap.size, 0, none⟩ = some (.int .i64 x.f0) ∧ w'.cell? ⟨wr.heap.size, 1, none⟩ = some (.int .i64 x.f1) ∧ w'.cell? ⟨wr.heap.size, 2, none⟩ = some (.string x.f2))
          (first
            | go_keep
            | (refine ⟨?_, ?_, ?_⟩ <;> simp [World.cell?, HK]))
          (first | (go_at_call 43; refine (Tryz.Builder_WriteString_k w2.heap.size w2.heap.size (Lib.byteCells P) (E ++ x.f2) _ ?zb ?zl ?zs).mono ?_; (case zb => exact HBu.out.alloc _); (case zl => (rw [Lib.byteCells_length, ByteArray.size_append]; have := HSZ2.out; omega)); (case zs => (have := HS.out; simp; omega)); rintro e w4 ⟨rfl, hbu, hbel, hok⟩; have HK := hok wr.heap.size (.cells #[.int .i64 x.f0, .int .i64 x.f1, .string x.f2] 24 (0, 0)) (heap_new wr _) (by have := HS.out; intro e; have := Option.some.inj e; omega) (by intro c fz e; cases e)))
        have HB5 : Aside0 (Below w.heap.size w w4) := ⟨(HBe.out.alloc HBe.out.size _).drew.trans (hbel.mono HW.out)⟩
        have HS5 : Aside0 (w2.heap.size < w4.heap.size) := ⟨by have := hbel.size; have := HS.out; simp at *; omega⟩
        have HG5 : Aside0 (row = [] ∨ (w2.heap.size < g ∧ w4.heap[g]? = some (.cells cs 24 (0, 0)))) := ⟨HGe.out.imp id (fun q => ⟨q.1, hok g _ (heap_old q.2 _) (by intro e; have := Option.some.inj e; have := q.1; omega) (by intro c fz e; cases e)⟩)⟩
        have HBu5 : Aside0 (Lib.IsBuilderF 72 5 w2.heap.size w2.heap.size (Lib.byteCells (P ++ (E ++ x.f2).data.toList)) w4) := ⟨by
          rw [Lib.byteCells_append, ← Lib.strCells_eq]
          exact Or.inr hbu⟩
        have HP5 : Aside0 ((P ++ (E ++ x.f2).data.toList) ++ Tx.ap a0.data.toList x.f1 ((row.drop (i + 1)).map toE) = M) := ⟨by
          rw [ByteArray.data_append, Array.toList_append, ← hE, ext_sl, ← toE_x, List.append_assoc, HP2.out]⟩
        have hc1 := cell_same (w' := w4) (w := w4) (p := ⟨wr.heap.size, 1, none⟩) rfl
        have hx1' : w4.cell? ⟨wr.heap.size, 1, none⟩ = some (.int .i64 x.f1) := by simp [World.cell?, HK]
        clear hbu hbel hok HK hc1
        go_wp2_with fail
        go_roundg k1
        case measure => have := HI.out.1; omega
        case rel => exact ⟨i + 1, x.f1, P ++ (E ++ x.f2).data.toList, rfl, congrArg (Value.int .i64) (nx i (by have := HRL.out; omega)), ⟨by have := HI.out.1; omega, by omega, by omega⟩, HC3, HP5, HBu5, HB5, HG5, HS5⟩
      · have hb : decide ((i : Int) < (row.length : Int)) = false := by simp; omega
        have hp0 : 0 ≤ p := HI.out.2.2
        have hd : row.drop i = [] := List.drop_of_length_le (by omega)
        have hc := HC2.out
        rw [hd] at hc
        have hp1 : p ≤ (a0.size : Int) := hc
        have hPM : P ++ a0.data.toList.drop p.toNat = M := by
          have := HP.out
          rw [hd] at this
          exact this
        have HPM := Aside0.mk hPM
        clear hd hc hPM
        have hML : M.length ≤ 140737488351232 := by
          have := HH.out
          by_cases q : M.length ≤ 140737488351232
          · exact q
          · rw [if_neg q] at this; cases this
        have HML := Aside0.mk hML
        clear hML
        go_wp2_with fail
        refine (Tryz.Builder_WriteString_k w2.heap.size w2.heap.size (Lib.byteCells P) (a0.extract p.toNat a0.size) _ HBu.out ?_ (Nat.le_of_lt HS.out)).mono ?_
        · rw [Lib.byteCells_length, size_list, ext_end]
          have h1 := congrArg List.length HPM.out
          rw [List.length_append] at h1
          have := HML.out
          omega
        rintro e w4 ⟨rfl, hbu, hbel, -⟩
        have HB5 : Aside0 (Below w.heap.size w w4) := ⟨HBe.out.trans (hbel.mono HW.out)⟩
        have HS5 : Aside0 (w2.heap.size < w4.heap.size) := ⟨by have := hbel.size; have := HS.out; omega⟩
        have HBu5 : Aside0 (Lib.IsBuilderF 72 5 w2.heap.size w2.heap.size (Lib.byteCells M) w4) := ⟨by
          rw [← HPM.out, Lib.byteCells_append, ← ext_end, ← Lib.strCells_eq]
          exact Or.inr hbu⟩
        have HF := HH.out
        rw [if_pos HML.out] at HF
        clear hbu hbel HBu HBe
        have hlenB : (Lib.byteCells M).length = M.length := Lib.byteCells_length M
        by_cases hbig : 200000 < M.length
        · rw [if_pos hbig] at HF
          have h' := Option.some.inj HF
          have e1 : r1 = ⟨#[]⟩ := (congrArg Prod.fst h').symm
          have e2 : r2 = 2 := (congrArg Prod.snd h').symm
          clear HF h' HH
          subst e1 e2
          have hbg : decide (200000 < (M.length : Int)) = true := by simp; omega
          go_wp2_with (go_at_call 44; refine (Tryz.Builder_Len_f _ _ _ _ HBu5.out).mono ?_; rintro e w5 ⟨rfl, rfl⟩; rw [hlenB])
          go_ret2
          exact ⟨rfl, HB5.out⟩
        · rw [if_neg hbig] at HF
          have h' := Option.some.inj HF
          have e1 : r1 = ⟨M.toArray⟩ := (congrArg Prod.fst h').symm
          have e2 : r2 = 0 := (congrArg Prod.snd h').symm
          clear HF h' HH
          subst e1 e2
          have hbg : decide (200000 < (M.length : Int)) = false := by simp; omega
          go_wp2_with (first
            | (go_at_call 44; refine (Tryz.Builder_Len_f _ _ _ _ HBu5.out).mono ?_; rintro e w5 ⟨rfl, rfl⟩; rw [hlenB])
            | (go_at_call 38; refine (Tryz.Builder_String_any_k w2.heap.size w2.heap.size M _ HBu5.out (Nat.le_of_lt HS5.out)).mono ?_; rintro e w5 ⟨rfl, -, hbel, -⟩; have HB6 := Aside0.mk (HB5.out.trans (hbel.mono HW.out)); clear hbel))
          go_ret2
          exact ⟨rfl, HB6.out⟩
  · rw [if_pos hf] at h
    have h' := Option.some.inj h
    have hr : r1 = ⟨#[]⟩ ∧ r2 = fineE a0.size l1 := ⟨(congrArg Prod.fst h').symm, (congrArg Prod.snd h').symm⟩
    clear h h'
    obtain ⟨rfl, rfl⟩ := hr
    have b1 : (fineE a0.size l1 != 0) = true := by simpa using hf
    have b2 : (fineE a0.size l1 == 0) = false := by simpa using hf
    generalize fineE a0.size l1 = fe at *
    clear hf
    go_enter Tryz.func22, Tryz.ntmps22
    go_wp2_with (go_at_call 41; refine H12.out.mono ?_; rintro e w2 ⟨rfl, hb⟩; have HB := Aside0.mk hb; clear hb H12)
    go_ret2
    exact ⟨rfl, HB.out⟩
end Go.Proofs.YtidlmkdoofcgnaaGreatDoor.PText

