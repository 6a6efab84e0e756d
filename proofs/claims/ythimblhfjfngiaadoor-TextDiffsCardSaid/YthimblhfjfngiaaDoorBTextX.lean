/- Chapter 01: what the claims share. Part 24 of 24. -/
import Derived.Test.YthimblhfjfngiaaDoorBTextW
import Derived.Lib.ItoaMem
namespace Go.Proofs.YthimblhfjfngiaaDoor.PText
open Go.RowKit Go.Lib Go.Proofs.YthimblhfjfngiaaDoorW.PrintWords Go.Proofs.YthimblhfjfngiaaDoorW.PrintLast Go.Proofs.YthimblhfjfngiaaDoorW.PrintMore
set_option linter.unusedVariables false
theorem number_f : ∀ (n k : Nat), n ≤ 100000000 → n + 1 ≤ k → yn_.f k (n : Int) = some (itS n) := by
  intro n
  induction n using Nat.strongRecOn with
  | ind n ih =>
    intro k hn hk
    obtain ⟨k, rfl⟩ : ∃ q, k = q + 1 := ⟨k - 1, by omega⟩
    have one : ∀ d : Nat, d < 10 → strOfNums [wrap64 (48 + (d : Int)) % 256] = ⟨#[UInt8.ofNat (48 + d)]⟩ := by
      intro d hd
      rw [w64 (by omega) (by omega), show (48 + (d : Int)) % 256 = ((48 + d : Nat) : Int) by omega]
      unfold strOfNums
      rw [List.map_cons, List.map_nil, Int.toNat_natCast]
    rw [yn_.f]
    by_cases c : n < 10
    · rw [if_pos (by omega), one n c]
      unfold itS
      rw [Lib.itoa_nonneg, Lib.decDigits_one c]
    · have t1 : Int.tdiv (n : Int) 10 = ((n / 10 : Nat) : Int) := rfl
      have t2 : Int.tmod (n : Int) 10 = ((n % 10 : Nat) : Int) := rfl
      have hs := yub_ (n / 10) (by omega)
      rw [if_neg (by omega), t1, w64 (x := ((n / 10 : Nat) : Int)) (by omega) (by omega), ih (n / 10) (by omega) k (by omega) (by omega), Option.bind_some, Option.bind_some, t2, one (n % 10) (by omega), if_pos (by have e : (⟨#[UInt8.ofNat (48 + n % 10)]⟩ : ByteArray).size = 1 := rfl; omega)]
      apply congrArg some
      apply bL_ext
      unfold itS
      rw [yUb_, bL_mk, bL_mk, Lib.itoa_nonneg, Lib.itoa_nonneg]
      rw [show Lib.decDigits n = Lib.decDigits (n / 10) ++ [UInt8.ofNat (48 + n % 10)] by rw [Lib.decDigits, dif_neg c]]
      rfl
theorem suf_last (x : List UInt8) (c : UInt8) : Lib.hasSuffix (x ++ [c]) [10] = decide (c = 10) := by
  rw [Bool.eq_iff_iff]
  unfold Lib.hasSuffix
  simp
  exact eq_comm
theorem suffix_bt (x : ByteArray) (h : bL x ≠ []) : (bt x ((x.size - 1 : Nat) : Int) = 10) ↔ Lib.hasSuffix (bL x) [10] = true := by
  have hs := bL_size x
  have hp : 0 < (bL x).length := List.length_pos_iff.2 h
  have e : bL x = (bL x).dropLast ++ [(bL x).getLast h] := (List.dropLast_concat_getLast h).symm
  rw [bt_ten, e, suf_last, decide_eq_true_eq]
  have e2 : (bL x)[x.size - 1]? = some ((bL x).getLast h) := by
    rw [hs, List.getLast_eq_getElem, List.getElem?_eq_getElem (by omega)]
  show (bL x)[x.size - 1]? = some 10 ↔ _
  rw [e2, Option.some.injEq]
theorem written_f (o : UInt8) (x : List UInt8) (h : x ≠ []) (hl : x.length ≤ 1000000000) : yE_.f ((o.toNat : Nat) : Int) ⟨x.toArray⟩ = some ⟨(stepT (toSt (o, x))).toArray⟩ := by
  have hs : (⟨x.toArray⟩ : ByteArray).size = x.length := y0b_ _
  have hp : 0 < x.length := List.length_pos_iff.2 h
  have e1 : strOfNums [((o.toNat : Nat) : Int)] = ⟨#[o]⟩ := by
    unfold strOfNums
    rw [List.map_cons, List.map_nil, Int.toNat_natCast, UInt8.ofNat_toNat]
  have e1s : (⟨#[o]⟩ : ByteArray).size = 1 := rfl
  have ho : UInt8.ofNat (toSt (o, x)).f0.toNat = o := by
    show UInt8.ofNat (((o.toNat : Nat) : Int)).toNat = o
    rw [Int.toNat_natCast, UInt8.ofNat_toNat]
  have hx : (toSt (o, x)).f1.data.toList = x := rfl
  have hb := suffix_bt ⟨x.toArray⟩ h
  rw [bL_mk, hs] at hb
  have w : wrap64 (((⟨x.toArray⟩ : ByteArray).size : Int) - 1) = ((x.length - 1 : Nat) : Int) := by rw [hs, w64 (by omega) (by omega)]; omega
  unfold yE_.f stepT
  rw [Option.bind_some, e1, ho, hx, w, if_pos (by omega), if_pos (by omega), if_pos (by rw [hs]; omega)]
  by_cases c : Lib.hasSuffix x [10] = true
  · rw [if_pos (hb.2 c), if_pos c, List.append_nil]
    exact congrArg some (bL_ext (by rw [yUb_]; rfl))
  · rw [if_neg (fun q => c (hb.1 q)), if_neg c, if_pos (by rw [ByteArray.size_append, hs]; omega)]
    exact congrArg some (bL_ext (by rw [yUb_, yUb_]; rfl))
def nb (l : List UInt8) : List Int := l.map fun b => (b.toNat : Int)
theorem nb_bytes (l : List UInt8) : bytesOf ⟨l.toArray⟩ = nb l := rfl
theorem nb_append (a b : List UInt8) : nb (a ++ b) = nb a ++ nb b := List.map_append
theorem nb_len (l : List UInt8) : (nb l).length = l.length := List.length_map _
theorem nb_str (l : List UInt8) : strOfNums (nb l) = ⟨l.toArray⟩ := by
  unfold strOfNums nb
  rw [List.map_map]
  have : (l.map ((fun n : Int => UInt8.ofNat n.toNat) ∘ fun b : UInt8 => ((b.toNat : Nat) : Int))) = l := by
    refine (List.map_congr_left (fun x _ => ?_)).trans (List.map_id _)
    show UInt8.ofNat ((x.toNat : Nat) : Int).toNat = id x
    rw [Int.toNat_natCast, UInt8.ofNat_toNat]; rfl
  rw [this]
theorem cA_append (a b : List S78) : cA (a ++ b) = cA a + cA b := by
  induction a with
  | nil => show cA b = 0 + cA b; omega
  | cons x a ih => show (if x.f0 = 43 then 0 else 1) + cA (a ++ b) = (if x.f0 = 43 then 0 else 1) + cA a + cA b; omega
theorem cB_append (a b : List S78) : cB (a ++ b) = cB a + cB b := by
  induction a with
  | nil => show cB b = 0 + cB b; omega
  | cons x a ih => show (if x.f0 = 45 then 0 else 1) + cB (a ++ b) = (if x.f0 = 45 then 0 else 1) + cB a + cB b; omega
theorem cA_one (x : S78) : cA [x] = if x.f0 = 43 then 0 else 1 := by show (if x.f0 = 43 then 0 else 1) + 0 = _; omega
theorem cB_one (x : S78) : cB [x] = if x.f0 = 45 then 0 else 1 := by show (if x.f0 = 45 then 0 else 1) + 0 = _; omega
theorem seg_succ {α : Type} (l : List α) (fr i : Nat) (h : i < l.length) (hf : fr ≤ i) : (l.take (i + 1)).drop fr = (l.take i).drop fr ++ [l[i]] := by
  rw [List.take_succ_eq_append_getElem h, List.drop_append_of_le_length (by rw [List.length_take]; omega)]
theorem stepT_len (x : S78) : (stepT x).length ≤ x.f1.size + 11 := by
  unfold stepT
  have := ypb_ x.f1
  rw [List.length_cons, List.length_append]
  split
  · rw [List.length_nil]; omega
  · show _ + noEndL.length + 1 ≤ _
    have : noEndL.length = 10 := rfl
    omega
theorem segT_len : ∀ (l : List S78) (M : Nat), (∀ x ∈ l, x.f1.size ≤ M) → ((l.map stepT).flatten).length ≤ l.length * (M + 11)
  | [], M, _ => by simp
  | x :: l, M, h => by
    have h1 := segT_len l M (fun y hy => h y (List.mem_cons_of_mem _ hy))
    have h2 := stepT_len x
    have h3 := h x List.mem_cons_self
    rw [List.map_cons, List.flatten_cons, List.length_append, List.length_cons, Nat.add_mul]
    omega
section
variable (st : List (UInt8 × List UInt8)) (hst : st.length ≤ 100000) (hx : ∀ x ∈ st, (x.1 = 32 ∨ x.1 = 45 ∨ x.1 = 43) ∧ x.2 ≠ [] ∧ x.2.length ≤ 1000000)
include hst hx
theorem rhunk_l0 (fr te : Nat) (hfr : fr ≤ st.length) (K : Nat) : ∀ (m i : Nat), fr - i = m → i ≤ fr →
    yg_.l0 (m + 1 + K) (st.map toSr) (fr : Int) (te : Int) (cA ((st.map toSt).take i) : Int) (cB ((st.map toSt).take i) : Int) (i : Int) = yg_.l1 K (st.map toSr) (te : Int) (cA ((st.map toSt).take fr) : Int) (cB ((st.map toSt).take fr) : Int) 0 0 [] (fr : Int) := by
  intro m
  induction m with
  | zero =>
    intro i hm hi
    obtain rfl : i = fr := by omega
    rw [show 0 + 1 + K = K + 1 by omega, yg_.l0, if_neg (by omega)]
  | succ m ih =>
    intro i hm hi
    have hlt : i < st.length := by omega
    have hl : (st.map toSr).length = st.length := List.length_map _
    have hl2 : (st.map toSt).length = st.length := List.length_map _
    have hA := cA_le ((st.map toSt).take i)
    have hB := cB_le ((st.map toSt).take i)
    rw [List.length_take] at hA hB
    have e := List.take_succ_eq_append_getElem (l := st.map toSt) (i := i) (by omega)
    have hk := (hx st[i] (List.getElem_mem hlt)).1
    have h1 := ih (i + 1) (by omega) (by omega)
    rw [e, cA_append, cB_append, cA_one, cB_one, List.getElem_map, toSt0] at h1
    rw [show m + 1 + 1 + K = (m + 1 + K) + 1 by omega, yg_.l0, if_pos (by omega), if_pos (by omega), if_pos (by omega), rdSr st i hlt, toSr0, nx i (by omega), ← h1]
    have wA : Aside0 (wrap64 ((cA ((st.map toSt).take i) : Int) + 1) = ((cA ((st.map toSt).take i) + 1 : Nat) : Int)) := ⟨nx _ (by omega)⟩
    have wB : Aside0 (wrap64 ((cB ((st.map toSt).take i) : Int) + 1) = ((cB ((st.map toSt).take i) + 1 : Nat) : Int)) := ⟨nx _ (by omega)⟩
    clear h1
    rcases hk with hk | hk | hk
    · rw [hk, if_neg (by decide), if_neg (by decide), wA.out, wB.out, if_neg (by decide), if_neg (by decide)]
    · rw [hk, if_neg (by decide), if_pos (by decide), wA.out, if_neg (by decide), if_pos (by decide)]; rfl
    · rw [hk, if_pos (by decide), if_neg (by decide), wB.out, if_pos (by decide), if_neg (by decide)]; rfl
theorem rhunk_l1 (fr te : Nat) (hte : te ≤ st.length) (K : Nat) (a b : Nat) : ∀ (m i : Nat), te - i = m → fr ≤ i → i ≤ te →
    yg_.l1 (m + 1 + K) (st.map toSr) (te : Int) (a : Int) (b : Int) (cA (((st.map toSt).take i).drop fr) : Int) (cB (((st.map toSt).take i).drop fr) : Int) (nb ((((st.map toSt).take i).drop fr).map stepT).flatten) (i : Int) =
      yg_.l1 (K + 1) (st.map toSr) (te : Int) (a : Int) (b : Int) (cA (((st.map toSt).take te).drop fr) : Int) (cB (((st.map toSt).take te).drop fr) : Int) (nb ((((st.map toSt).take te).drop fr).map stepT).flatten) (te : Int) := by
  intro m
  induction m with
  | zero =>
    intro i hm hf hi
    obtain rfl : i = te := by omega
    rw [show 0 + 1 + K = K + 1 by omega]
  | succ m ih =>
    intro i hm hf hi
    have hlt : i < st.length := by omega
    have hl : (st.map toSr).length = st.length := List.length_map _
    have hl2 : (st.map toSt).length = st.length := List.length_map _
    have hseg : (((st.map toSt).take i).drop fr).length ≤ 100000 := by rw [List.length_drop, List.length_take]; omega
    have hA := cA_le (((st.map toSt).take i).drop fr)
    have hB := cB_le (((st.map toSt).take i).drop fr)
    have e := seg_succ (st.map toSt) fr i (by omega) hf
    obtain ⟨hk, hne, hln⟩ := hx st[i] (List.getElem_mem hlt)
    have hw := written_f st[i].1 st[i].2 hne (by omega)
    have hT := segT_len (((st.map toSt).take i).drop fr) 1000000 (fun x hx' => by
      obtain ⟨y, hy, rfl⟩ := List.mem_map.1 (List.mem_of_mem_take (List.mem_of_mem_drop hx'))
      rw [toSt1]; exact (hx y hy).2.2)
    have hT2 : (((((st.map toSt).take i).drop fr).map stepT).flatten).length ≤ 100000 * 1000011 := Nat.le_trans hT (Nat.mul_le_mul hseg (Nat.le_refl _))
    have hS := stepT_len (toSt st[i])
    rw [toSt1] at hS
    have hsz : (⟨(stepT (toSt (st[i].1, st[i].2))).toArray⟩ : ByteArray).size = (stepT (toSt st[i])).length := y0b_ _
    have h1 := ih (i + 1) (by omega) (by omega) (by omega)
    rw [e, cA_append, cB_append, cA_one, cB_one, List.getElem_map, toSt0, List.map_append, List.flatten_append, List.map_cons, List.map_nil, List.flatten_cons, List.flatten_nil, List.append_nil, nb_append] at h1
    have hg : (nb ((((st.map toSt).take i).drop fr).map stepT).flatten).length + (⟨(stepT (toSt (st[i].1, st[i].2))).toArray⟩ : ByteArray).size < 140737488355328 := by rw [nb_len, hsz]; omega
    rw [show m + 1 + 1 + K = (m + 1 + K) + 1 by omega, yg_.l1, if_pos (by omega), if_pos (by omega), if_pos (by omega), rdSr st i hlt, toSr0, nx i (by omega)]
    rw [show (toSr st[i]).f1 = ⟨st[i].2.toArray⟩ from rfl, hw, Option.bind_some, Option.bind_some, Option.bind_some, Option.bind_some, if_pos hg, if_pos hg, if_pos hg, if_pos hg, nb_bytes, ← h1]
    have wA : Aside0 (wrap64 ((cA (((st.map toSt).take i).drop fr) : Int) + 1) = ((cA (((st.map toSt).take i).drop fr) + 1 : Nat) : Int)) := ⟨nx _ (by omega)⟩
    have wB : Aside0 (wrap64 ((cB (((st.map toSt).take i).drop fr) : Int) + 1) = ((cB (((st.map toSt).take i).drop fr) + 1 : Nat) : Int)) := ⟨nx _ (by omega)⟩
    clear h1 hg hsz hS hT2 hT hw
    rcases hk with hk | hk | hk
    · rw [hk, if_neg (by decide), if_neg (by decide), wA.out, wB.out, if_neg (by decide), if_neg (by decide), ← hk]
    · rw [hk, if_neg (by decide), if_pos (by decide), wA.out, if_neg (by decide), if_pos (by decide), ← hk]; rfl
    · rw [hk, if_pos (by decide), if_neg (by decide), wB.out, if_pos (by decide), if_neg (by decide), ← hk]; rfl
omit hst hx in
theorem rhunk_j3 (a b n m : Nat) (ha : a ≤ 1000000) (hb : b ≤ 1000000) (hn : n ≤ 1000000) (hm : m ≤ 1000000) (T : List UInt8) (hT : T.length ≤ 1000000000000) (k : Nat) (hk : 2000000 ≤ k) :
    yg_.j3 (k + 1) (a : Int) (b : Int) (n : Int) (m : Int) (nb T) = some (⟨#[64, 64, 32]⟩ ++ itS a ++ ⟨#[44]⟩ ++ itS n ++ ⟨#[32]⟩ ++ itS b ++ ⟨#[44]⟩ ++ itS m ++ ⟨#[32, 64, 64, 10]⟩ ++ ⟨T.toArray⟩) := by
  have z1 := yub_ a (by omega)
  have z2 := yub_ n (by omega)
  have z3 := yub_ b (by omega)
  have z4 := yub_ m (by omega)
  have zT : (⟨T.toArray⟩ : ByteArray).size = T.length := y0b_ _
  have c1 : (⟨#[64, 64, 32]⟩ : ByteArray).size = 3 := rfl
  have c2 : (⟨#[44]⟩ : ByteArray).size = 1 := rfl
  have c3 : (⟨#[32]⟩ : ByteArray).size = 1 := rfl
  have c4 : (⟨#[32, 64, 64, 10]⟩ : ByteArray).size = 4 := rfl
  rw [yg_.j3, number_f a k (by omega) (by omega), Option.bind_some, number_f n k (by omega) (by omega), Option.bind_some, number_f b k (by omega) (by omega), Option.bind_some, number_f m k (by omega) (by omega), Option.bind_some, nb_str]
  simp only [ByteArray.size_append, c1, c2, c3, c4, zT]
  rw [if_pos (by omega), if_pos (by omega), if_pos (by omega), if_pos (by omega), if_pos (by omega), if_pos (by omega), if_pos (by omega), if_pos (by omega), if_pos (by omega)]
end
end Go.Proofs.YthimblhfjfngiaaDoor.PText

namespace Go.Proofs.YthimblhfjfngiaaDoor.PText
open Go.RowKit Go.Lib Go.Proofs.YthimblhfjfngiaaDoorW.PrintWords Go.Proofs.YthimblhfjfngiaaDoorW.PrintLast Go.Proofs.YthimblhfjfngiaaDoorW.PrintMore
set_option linter.unusedVariables false
section
variable (st : List (UInt8 × List UInt8)) (hst : st.length ≤ 100000) (hx : ∀ x ∈ st, (x.1 = 32 ∨ x.1 = 45 ∨ x.1 = 43) ∧ x.2 ≠ [] ∧ x.2.length ≤ 1000000)
include hst hx
theorem rhunk_f (fr te : Nat) (h1 : fr < te) (h2 : te ≤ st.length) (k : Nat) (hk : 3000000 ≤ k) : yg_.f k (st.map toSr) (fr : Int) (te : Int) = some ⟨(hunkP (st.map toSt) (fr, te)).toArray⟩ := by
  obtain ⟨K, rfl⟩ : ∃ K, k = fr + 1 + (te - fr + 1 + (K + 2)) := ⟨k - (te + 4), by omega⟩
  unfold yg_.f
  have e0 := rhunk_l0 st hst hx fr te (by omega) (te - fr + 1 + (K + 2)) fr 0 (by omega) (by omega)
  rw [List.take_zero] at e0
  have e1 := rhunk_l1 st hst hx fr te h2 (K + 2) (cA ((st.map toSt).take fr)) (cB ((st.map toSt).take fr)) (te - fr) fr rfl (Nat.le_refl _) (by omega)
  have hz : ((st.map toSt).take fr).drop fr = [] := List.drop_of_length_le (by rw [List.length_take]; omega)
  rw [hz] at e1
  have hl2 : (st.map toSt).length = st.length := List.length_map _
  have hseg : (((st.map toSt).take te).drop fr).length ≤ 100000 := by rw [List.length_drop, List.length_take]; omega
  have hA := cA_le (((st.map toSt).take te).drop fr)
  have hB := cB_le (((st.map toSt).take te).drop fr)
  have hA2 := cA_take (st.map toSt) fr
  have hB2 := cB_take (st.map toSt) fr
  have hT := segT_len (((st.map toSt).take te).drop fr) 1000000 (fun x hx' => by
    obtain ⟨y, hy, rfl⟩ := List.mem_map.1 (List.mem_of_mem_take (List.mem_of_mem_drop hx'))
    rw [toSt1]; exact (hx y hy).2.2)
  have hT2 : (((((st.map toSt).take te).drop fr).map stepT).flatten).length ≤ 100000 * 1000011 := Nat.le_trans hT (Nat.mul_le_mul hseg (Nat.le_refl _))
  refine (show _ = _ from e0).trans ((show _ = _ from e1).trans ?_)
  have hP : hunkP (st.map toSt) (fr, te) = hunkL (cA ((st.map toSt).take fr)) (cB ((st.map toSt).take fr)) (((st.map toSt).take te).drop fr) := rfl
  rw [hP]
  unfold hunkL
  generalize (((st.map toSt).take te).drop fr) = seg at *
  generalize cA ((st.map toSt).take fr) = a at *
  generalize cB ((st.map toSt).take fr) = b at *
  clear e0 e1 hP hT hz
  generalize (seg.map stepT).flatten = T at *
  generalize cA seg = n at *
  generalize cB seg = m at *
  rw [show K + 2 + 1 = K + 3 by omega, yg_.l1, if_neg (by omega)]
  have s1 : (if (n : Int) > 0 then yg_.j2 (K + 2) (wrap64 ((a : Int) + 1)) (b : Int) (n : Int) (m : Int) (nb T) else yg_.j2 (K + 2) (a : Int) (b : Int) (n : Int) (m : Int) (nb T)) = yg_.j2 (K + 2) (firstN a n : Int) (b : Int) (n : Int) (m : Int) (nb T) := by
    unfold firstN
    by_cases c : n = 0
    · rw [if_neg (by omega), if_pos c]
    · rw [if_pos (by omega), if_neg c, nx a (by omega)]
  rw [s1, yg_.j2]
  have s2 : (if (m : Int) > 0 then yg_.j3 (K + 1) (firstN a n : Int) (wrap64 ((b : Int) + 1)) (n : Int) (m : Int) (nb T) else yg_.j3 (K + 1) (firstN a n : Int) (b : Int) (n : Int) (m : Int) (nb T)) = yg_.j3 (K + 1) (firstN a n : Int) (firstN b m : Int) (n : Int) (m : Int) (nb T) := by
    unfold firstN
    by_cases c : m = 0
    · rw [if_neg (by omega), if_pos c]
    · rw [if_pos (by omega), if_neg c, nx b (by omega)]
  have f1 : firstN a n ≤ 1000000 := by unfold firstN; split <;> omega
  have f2 : firstN b m ≤ 1000000 := by unfold firstN; split <;> omega
  rw [s2, rhunk_j3 _ _ n m f1 f2 (by omega) (by omega) T (by omega) K (by omega)]
  apply congrArg some
  apply bL_ext
  rw [yUb_]
  rfl
theorem rdiff_l1 (ctx : Nat) (hc : ctx ≤ 20) (fr : Nat) (out : List Int) : ∀ (n kk e kept k K : Nat), st.length - kk = n → e ≤ kk → kk ≤ st.length → kept ≤ kk → 1 ≤ e → 2 * n + 2 + K ≤ k →
    ∃ k', K ≤ k' ∧ ye_.l1 k (ctx : Int) (st.map toSr) out (fr : Int) ((e : Int) - 1) (kept : Int) (kk : Int) =
      (yg_.f k' (st.map toSr) (fr : Int) ((min st.length (endH (st.map toSt) ctx n kk e kept + ctx) : Nat) : Int)).bind fun t => if out.length + t.size < 140737488355328 then ye_.l0 k' (ctx : Int) (st.map toSr) (out ++ bytesOf t) ((endH (st.map toSt) ctx n kk e kept : Nat) : Int) else none := by
  intro n
  have hl : (st.map toSr).length = st.length := List.length_map _
  have fin : ∀ (e kept kk k K : Nat), e ≤ st.length → 1 ≤ e → K + 1 ≤ k → ∃ k', K ≤ k' ∧ ye_.j5 k (ctx : Int) (st.map toSr) out (fr : Int) ((e : Int) - 1) (kept : Int) (kk : Int) false =
      (yg_.f k' (st.map toSr) (fr : Int) ((min st.length (e + ctx) : Nat) : Int)).bind fun t => if out.length + t.size < 140737488355328 then ye_.l0 k' (ctx : Int) (st.map toSr) (out ++ bytesOf t) (e : Int) else none := by
    intro e kept kk k K he h1 hk
    obtain ⟨k, rfl⟩ : ∃ q, k = q + 1 := ⟨k - 1, by omega⟩
    refine ⟨k, by omega, ?_⟩
    have w1 : Aside0 (wrap64 (((e : Int) - 1) + 1) = (e : Int)) := ⟨by rw [show ((e : Int) - 1) + 1 = (e : Int) by omega, w64 (by omega) (by omega)]⟩
    have w2 : Aside0 (wrap64 ((e : Int) + (ctx : Int)) = ((e + ctx : Nat) : Int)) := ⟨by rw [w64 (by omega) (by omega)]; omega⟩
    rw [ye_.j5, if_neg (by decide), w1.out, w2.out]
    by_cases c : st.length < e + ctx
    · rw [if_pos (by omega), show min st.length (e + ctx) = st.length by omega, hl]
    · rw [if_neg (by omega), show min st.length (e + ctx) = e + ctx by omega]
  induction n with
  | zero =>
    intro kk e kept k K hn he hkk hkp h1 hk
    obtain ⟨k, rfl⟩ : ∃ q, k = q + 1 := ⟨k - 1, by omega⟩
    rw [ye_.l1, if_neg (by omega)]
    exact fin e kept kk k K (by omega) h1 (by omega)
  | succ n ih =>
    intro kk e kept k K hn he hkk hkp h1 hk
    obtain ⟨k, rfl⟩ : ∃ q, k = q + 2 := ⟨k - 2, by omega⟩
    have hlt : kk < st.length := by omega
    have w1 : Aside0 (wrap64 (2 * (ctx : Int)) = 2 * (ctx : Int)) := ⟨w64 (by omega) (by omega)⟩
    have w2 : Aside0 (wrap64 ((kk : Int) + 1) = ((kk + 1 : Nat) : Int)) := ⟨nx kk (by omega)⟩
    have w3 : Aside0 (wrap64 ((kept : Int) + 1) = ((kept + 1 : Nat) : Int)) := ⟨nx kept (by omega)⟩
    rw [ye_.l1, if_pos (by omega), w1.out, endH]
    by_cases c : kept ≤ 2 * ctx
    · have hk2 := (hx st[kk] (List.getElem_mem hlt)).1
      rw [decide_eq_true (by omega), ye_.j5, if_pos rfl, if_pos (by omega), if_pos (by omega), rdSr st kk hlt, toSr0, if_pos c, rdSt st kk hlt, toSt0, w2.out, w3.out]
      by_cases c2 : ((st[kk].1.toNat : Nat) : Int) = 32
      · rw [if_pos c2, if_pos c2]
        exact ih (kk + 1) e (kept + 1) k K (by omega) (by omega) (by omega) (by omega) h1 (by omega)
      · rw [if_neg c2, if_neg c2]
        have := ih (kk + 1) (kk + 1) 0 k K (by omega) (by omega) (by omega) (by omega) (by omega) (by omega)
        rw [show ((kk + 1 : Nat) : Int) - 1 = (kk : Int) by omega] at this
        exact this
    · rw [decide_eq_false (by omega), if_neg c]
      exact fin e kept kk (k + 1) K (by omega) h1 (by omega)
theorem rdiff_l0 (ctx : Nat) (hc : ctx ≤ 20) (C : Nat) (hC : 300000 ≤ C) (F : Nat) (hF : 4000000 ≤ F) : ∀ (n i k : Nat) (P : List UInt8), st.length - i = n → i ≤ st.length → n * C + F ≤ k → (P ++ ((hkL (st.map toSt) ctx n i).map (hunkP (st.map toSt))).flatten).length ≤ 140737488351232 →
    ye_.l0 k (ctx : Int) (st.map toSr) (nb P) (i : Int) = some (⟨(P ++ ((hkL (st.map toSt) ctx n i).map (hunkP (st.map toSt))).flatten).toArray⟩, 0) := by
  intro n
  have hl : (st.map toSr).length = st.length := List.length_map _
  have hl2 : (st.map toSt).length = st.length := List.length_map _
  induction n using Nat.strongRecOn with
  | ind n ih =>
    intro i k P hn hi hk hT
    obtain ⟨k, rfl⟩ : ∃ q, k = q + 2 := ⟨k - 2, by omega⟩
    by_cases hlt : i < st.length
    · obtain ⟨n, rfl⟩ : ∃ q, n = q + 1 := ⟨n - 1, by omega⟩
      rw [Nat.add_mul, Nat.one_mul] at hk
      rw [hkL, if_pos (by omega), rdSt st i hlt, toSt0] at hT ⊢
      have w2 : Aside0 (wrap64 ((i : Int) + 1) = ((i + 1 : Nat) : Int)) := ⟨nx i (by omega)⟩
      rw [ye_.l0, if_pos (by omega), if_pos (by omega), rdSr st i hlt, toSr0]
      by_cases c2 : ((st[i].1.toNat : Nat) : Int) = 32
      · rw [if_pos c2] at hT
        rw [if_pos c2, if_pos c2, w2.out]
        exact ih n (by omega) (i + 1) (k + 1) P (by omega) (by omega) (by omega) hT
      · rw [if_neg c2] at hT
        rw [if_neg c2, if_neg c2]
        have hf : (if wrap64 ((i : Int) - (ctx : Int)) < 0 then ye_.j3 (k + 1) (ctx : Int) (st.map toSr) (nb P) (i : Int) 0 else ye_.j3 (k + 1) (ctx : Int) (st.map toSr) (nb P) (i : Int) (wrap64 ((i : Int) - (ctx : Int)))) = ye_.j3 (k + 1) (ctx : Int) (st.map toSr) (nb P) (i : Int) ((i - ctx : Nat) : Int) := by
          rw [w64 (x := (i : Int) - (ctx : Int)) (by omega) (by omega)]
          by_cases c : i < ctx
          · rw [if_pos (by omega), show i - ctx = 0 by omega]; rfl
          · rw [if_neg (by omega), show (i : Int) - (ctx : Int) = ((i - ctx : Nat) : Int) by omega]
        rw [hf, ye_.j3, w2.out]
        obtain ⟨k', g1, g2⟩ := rdiff_l1 st hst hx ctx hc (i - ctx) (nb P) n (i + 1) (i + 1) 0 k (n * C + F) (by omega) (Nat.le_refl _) (by omega) (by omega) (by omega) (by omega)
        rw [show ((i + 1 : Nat) : Int) - 1 = (i : Int) by omega] at g2
        rw [hl2, show st.length - (i + 1) = n by omega] at hT ⊢
        have hE := endH_le (st.map toSt) ctx n (i + 1) (i + 1) 0 (Nat.le_refl _) (by omega)
        rw [hl2] at hE
        have hN : ∀ m, hkL (st.map toSt) ctx n m = hkL (st.map toSt) ctx (st.length - m) m ∨ st.length - m > n := fun m => by
          rcases Nat.lt_or_ge n (st.length - m) with q | q
          · exact Or.inr q
          · exact Or.inl (hkL_fuel _ _ _ _ _ (by omega) (by omega))
        generalize endH (st.map toSt) ctx n (i + 1) (i + 1) 0 = E at *
        rw [List.map_cons, List.flatten_cons, ← List.append_assoc] at hT ⊢
        have hfue : hkL (st.map toSt) ctx n E = hkL (st.map toSt) ctx (st.length - E) E := by
          rcases hN E with q | q
          · exact q
          · omega
        have hTl := hT
        rw [List.length_append, List.length_append] at hTl
        have hmk : (⟨(hunkP (st.map toSt) (i - ctx, min st.length (E + ctx))).toArray⟩ : ByteArray).size = (hunkP (st.map toSt) (i - ctx, min st.length (E + ctx))).length := y0b_ _
        refine g2.trans ?_
        rw [rhunk_f st hst hx (i - ctx) (min st.length (E + ctx)) (by omega) (by omega) k' (by omega), Option.bind_some, if_pos (by rw [nb_len, hmk]; omega), nb_bytes, ← nb_append]
        rw [hfue] at hT ⊢
        have hm : (st.length - E) * C ≤ n * C := Nat.mul_le_mul_right _ (by omega)
        exact ih (st.length - E) (by omega) E k' _ rfl hE.2 (by omega) hT
    · obtain rfl : n = 0 := by omega
      rw [ye_.l0, if_neg (by omega), nb_str, hkL]
      simp
end
end Go.Proofs.YthimblhfjfngiaaDoor.PText

namespace Go.Proofs.YthimblhfjfngiaaDoor.PText
open Go.RowKit Go.Lib Go.Proofs.YthimblhfjfngiaaDoorW.PrintWords Go.Proofs.YthimblhfjfngiaaDoorW.PrintLast Go.Proofs.YthimblhfjfngiaaDoorW.PrintMore
set_option linter.unusedVariables false
/-- what the difference of two texts is, or the error -/
def diffR (a b : ByteArray) (ctx : Int) : ByteArray × Int := if (sizedR a b ctx).2 = 0 then (⟨(diffT a b ctx).toArray⟩, 0) else (⟨#[]⟩, (sizedR a b ctx).2)
theorem flat_le {α : Type} {M : Nat} : ∀ (l : List (List α)), (∀ x ∈ l, x.length ≤ M) → l.flatten.length ≤ l.length * M
  | [], _ => by simp
  | x :: l, h => by
    have h1 := flat_le l (fun y hy => h y (List.mem_cons_of_mem _ hy))
    have h2 := h x List.mem_cons_self
    rw [List.flatten_cons, List.length_append, List.length_cons, Nat.add_mul]
    omega
theorem hunkP_len (l : List S78) (M : Nat) (hl : l.length ≤ 100000) (hM : ∀ x ∈ l, x.f1.size ≤ M) (p : Nat × Nat) : (hunkP l p).length ≤ 100 + l.length * (M + 11) := by
  have hs : ((l.take p.2).drop p.1).length ≤ l.length := by rw [List.length_drop, List.length_take]; omega
  have h1 := segT_len ((l.take p.2).drop p.1) M (fun x hx => hM x (List.mem_of_mem_take (List.mem_of_mem_drop hx)))
  have h2 : ((l.take p.2).drop p.1).length * (M + 11) ≤ l.length * (M + 11) := Nat.mul_le_mul_right _ hs
  have hA := cA_le ((l.take p.2).drop p.1)
  have hB := cB_le ((l.take p.2).drop p.1)
  have hA2 := cA_take l p.1
  have hB2 := cB_take l p.1
  unfold hunkP hunkL
  rw [List.length_append, ← ypb_]
  unfold headT
  have f1 : firstN (cA (l.take p.1)) (cA ((l.take p.2).drop p.1)) ≤ 10000000 := by unfold firstN; split <;> omega
  have f2 : firstN (cB (l.take p.1)) (cB ((l.take p.2).drop p.1)) ≤ 10000000 := by unfold firstN; split <;> omega
  have z1 := yub_ _ f1
  have z2 := yub_ (cA ((l.take p.2).drop p.1)) (by omega)
  have z3 := yub_ _ f2
  have z4 := yub_ (cB ((l.take p.2).drop p.1)) (by omega)
  have c1 : (⟨#[64, 64, 32]⟩ : ByteArray).size = 3 := rfl
  have c2 : (⟨#[44]⟩ : ByteArray).size = 1 := rfl
  have c3 : (⟨#[32]⟩ : ByteArray).size = 1 := rfl
  have c4 : (⟨#[32, 64, 64, 10]⟩ : ByteArray).size = 4 := rfl
  simp only [ByteArray.size_append, c1, c2, c3, c4]
  omega
theorem diffL_len (l : List S78) (M ctx : Nat) (hl : l.length ≤ 100000) (hM : ∀ x ∈ l, x.f1.size ≤ M) : (diffL l ctx).length ≤ l.length * (100 + l.length * (M + 11)) := by
  unfold diffL
  have h1 := hkL_len l ctx l.length 0
  refine Nat.le_trans (flat_le (M := 100 + l.length * (M + 11)) _ (fun x hx => ?_)) ?_
  · obtain ⟨p, _, rfl⟩ := List.mem_map.1 hx
    exact hunkP_len l M hl hM p
  · rw [List.length_map]
    exact Nat.mul_le_mul_right _ (by omega)
theorem diff_size (a b : ByteArray) (ctx : Int) (ha : a.size ≤ 3000) (hb : b.size ≤ 3000) (h : (sizedR a b ctx).2 = 0) : (diffT a b ctx).length ≤ 140737488351232 ∧ (stT a b).length ≤ 4000 ∧ (sizedR a b ctx).1 = (stT a b).map toSt := by
  obtain ⟨e1, -, -, n1, n2, -, -⟩ := sized_zero h
  have hl := stT_len a b
  unfold diffT
  rw [e1]
  show (diffL (stS (linesB a) (linesB b)) ctx.toNat).length ≤ _ ∧ _ ∧ stS (linesB a) (linesB b) = _
  rw [stT_S]
  have hll : ((stT a b).map toSt).length ≤ 4000 := by rw [List.length_map]; omega
  have := diffL_len ((stT a b).map toSt) 3000 ctx.toNat (by omega) (fun x hx => by
    obtain ⟨y, hy, rfl⟩ := List.mem_map.1 hx
    rw [toSt1]
    have := (stT_ok a b y hy).2.2
    omega)
  refine ⟨Nat.le_trans this (Nat.le_trans (Nat.mul_le_mul hll (Nat.add_le_add_left (Nat.mul_le_mul_right _ hll) _)) (by decide)), by omega, rfl⟩
theorem diff_f (a b : ByteArray) (ctx : Int) (ha : a.size ≤ 3000) (hb : b.size ≤ 3000) : y6_.f a b ctx = some (diffR a b ctx) := by
  unfold y6_.f diffR
  rw [if_pos (by omega)]
  by_cases h : (sizedR a b ctx).2 = 0
  · rw [if_pos h, if_pos h, if_pos (diff_size a b ctx ha hb h).1]
  · rw [if_neg h, if_neg h]
theorem rdiff_f (a b : ByteArray) (ctx : Int) (ha : a.size ≤ 3000) (hb : b.size ≤ 3000) (k : Nat) (hk : 2000000000 ≤ k) : ye_.f k a b ctx = some (diffR a b ctx) := by
  obtain ⟨k, rfl⟩ : ∃ q, k = q + 2 := ⟨k - 2, by omega⟩
  unfold ye_.f diffR
  rw [rlines_f a (by omega) _ (by omega), Option.bind_some, rlines_f b (by omega) _ (by omega), Option.bind_some, if_neg (by omega), if_neg (by omega)]
  have hT : ye_.j0 (k + 2) ctx (linesB a) (linesB b) true = some (⟨#[]⟩, 2) := by rw [ye_.j0, if_pos rfl]
  have hT1 : ye_.j1 (k + 1) ctx (linesB a) (linesB b) true = some (⟨#[]⟩, 1) := by rw [ye_.j1, if_pos rfl]
  by_cases c3 : 2000 < (linesB a).length
  · have e : sizedR a b ctx = ([], 2) := by unfold sizedR; rw [if_pos (Or.inr (Or.inr (Or.inl c3)))]
    rw [if_pos (by omega), hT, e, if_neg (by decide)]
  rw [if_neg (by omega)]
  by_cases c4 : 2000 < (linesB b).length
  · have e : sizedR a b ctx = ([], 2) := by unfold sizedR; rw [if_pos (Or.inr (Or.inr (Or.inr c4)))]
    rw [decide_eq_true (by omega), hT, e, if_neg (by decide)]
  rw [decide_eq_false (by omega), ye_.j0, if_neg (by decide)]
  have big : ¬ (200000 < a.size ∨ 200000 < b.size ∨ 2000 < (linesB a).length ∨ 2000 < (linesB b).length) := by omega
  by_cases c5 : ctx < 0
  · have e : sizedR a b ctx = ([], 1) := by unfold sizedR; rw [if_neg big, if_pos (Or.inl c5)]
    rw [if_pos c5, hT1, e, if_neg (by decide)]
  rw [if_neg c5]
  by_cases c6 : 20 < ctx
  · have e : sizedR a b ctx = ([], 1) := by unfold sizedR; rw [if_neg big, if_pos (Or.inr c6)]
    rw [decide_eq_true c6, hT1, e, if_neg (by decide)]
  have e : sizedR a b ctx = (stS (linesB a) (linesB b), 0) := by unfold sizedR; rw [if_neg big, if_neg (by omega)]
  have hz : (sizedR a b ctx).2 = 0 := by rw [e]
  obtain ⟨z1, z2, z3⟩ := diff_size a b ctx ha hb hz
  have hm : ((linesB a).length + 1) * (2 * (linesB b).length + 4) ≤ 2001 * 4004 := Nat.mul_le_mul (by omega) (by omega)
  rw [decide_eq_false c6, ye_.j1, if_neg (by decide), rsteps_f _ _ (by omega) (by omega) k (by omega), Option.bind_some, if_pos hz, stT_R]
  obtain ⟨n, rfl⟩ : ∃ n : Nat, ctx = (n : Int) := ⟨ctx.toNat, by omega⟩
  unfold diffT at z1 ⊢
  rw [z3, Int.toNat_natCast] at z1 ⊢
  unfold diffL at z1 ⊢
  rw [show ((stT a b).map toSt).length = (stT a b).length from List.length_map _] at z1 ⊢
  obtain ⟨C, hC⟩ : ∃ C : Nat, C = 300000 := ⟨_, rfl⟩
  obtain ⟨F, hF⟩ : ∃ F : Nat, F = 4000000 := ⟨_, rfl⟩
  have hf : (stT a b).length * C ≤ 4000 * C := Nat.mul_le_mul_right _ z2
  have h5 : (stT a b).length * C + F ≤ k := by omega
  have := rdiff_l0 (stT a b) (by omega) (fun x hx => by
    obtain ⟨q1, q2, q3⟩ := stT_ok a b x hx
    exact ⟨q1, q2, by omega⟩) n (by omega) C (by omega) F (by omega) (stT a b).length 0 k [] (by omega) (by omega) h5 (by rw [List.nil_append]; exact z1)
  rw [List.nil_append] at this
  exact this
theorem redits_f (a b : ByteArray) (ha : a.size ≤ 100000) (hb : b.size ≤ 100000) (k : Nat) (hk : 20000000 ≤ k) : yf_.f k a b = some (editsR a b) := by
  obtain ⟨k, rfl⟩ : ∃ q, k = q + 2 := ⟨k - 2, by omega⟩
  unfold yf_.f editsR
  rw [rlines_f a (by omega) _ (by omega), Option.bind_some, rlines_f b (by omega) _ (by omega), Option.bind_some, if_neg (by omega), if_neg (by omega)]
  have hT : yf_.j0 (k + 2) (linesB a) (linesB b) true = some ([], 2) := by rw [yf_.j0, if_pos rfl]
  by_cases c3 : 2000 < (linesB a).length
  · have e : sizedR a b 0 = ([], 2) := by unfold sizedR; rw [if_pos (Or.inr (Or.inr (Or.inl c3)))]
    rw [if_pos (by omega), hT, e, if_neg (by decide)]
  rw [if_neg (by omega)]
  by_cases c4 : 2000 < (linesB b).length
  · have e : sizedR a b 0 = ([], 2) := by unfold sizedR; rw [if_pos (Or.inr (Or.inr (Or.inr c4)))]
    rw [decide_eq_true (by omega), hT, e, if_neg (by decide)]
  have big : ¬ (200000 < a.size ∨ 200000 < b.size ∨ 2000 < (linesB a).length ∨ 2000 < (linesB b).length) := by omega
  have e : sizedR a b 0 = (stS (linesB a) (linesB b), 0) := by unfold sizedR; rw [if_neg big, if_neg (by omega)]
  have hm : ((linesB a).length + 1) * (2 * (linesB b).length + 4) ≤ 2001 * 4004 := Nat.mul_le_mul (by omega) (by omega)
  have hl := stT_len a b
  rw [decide_eq_false (by omega), yf_.j0, if_neg (by decide), rsteps_f _ _ (by omega) (by omega) (k + 1) (by omega), Option.bind_some, e, if_pos rfl, stT_R]
  have := (rEdits_l (stT a b) (by omega) (fun x hx => by have := (stT_ok a b x hx).2.2; omega) (stT a b).length 0 (by omega) (by omega)).1 (k + 1) [] 0 (by omega) (by simp) (by omega) (by omega)
  rw [List.drop_zero, List.nil_append] at this
  exact this
theorem eg_len : ∀ (l : List Tx.St) (a : Int) (c : Option Tx.Ed), (Tx.eg a c l).length ≤ c.toList.length + l.length
  | [], a, c => by show c.toList.length ≤ _; omega
  | (o, x) :: l, a, c => by
    by_cases c1 : o = 32
    · subst c1
      rw [Tx.eg_keep, List.length_append, List.length_cons]
      have := eg_len l (a + x.length) none
      simp only [Option.toList_none, List.length_nil] at this
      omega
    · have one : ∀ d : Tx.Ed, (some d).toList.length = 1 := fun _ => rfl
      by_cases c2 : o = 45
      · subst c2
        rw [Tx.eg_gone, List.length_cons]
        have := eg_len l (a + x.length) (some ⟨(c.getD ⟨a, a, []⟩).f, a + x.length, (c.getD ⟨a, a, []⟩).x⟩)
        rw [one] at this; omega
      · rw [Tx.eg_come a c o x l c1 c2, List.length_cons]
        have := eg_len l a (some ⟨(c.getD ⟨a, a, []⟩).f, (c.getD ⟨a, a, []⟩).t, (c.getD ⟨a, a, []⟩).x ++ x⟩)
        rw [one] at this; omega
theorem editsR_len (a b : ByteArray) : (editsR a b).1.length ≤ 4000 := by
  unfold editsR
  by_cases h : (sizedR a b 0).2 = 0
  · obtain ⟨-, -, -, n1, n2, -, -⟩ := sized_zero h
    have hl := stT_len a b
    have := eg_len (stT a b) 0 none
    rw [if_pos h]
    show (List.map ofE _).length ≤ _
    rw [List.length_map]
    simp only [Option.toList_none, List.length_nil] at this
    omega
  · rw [if_neg h]; exact Nat.zero_le _
theorem large_f (a b : ByteArray) (k : Nat) (hk : 3 ≤ k) : yy_.f k [a, b] = some (decide (3000 < a.size ∨ 3000 < b.size)) := by
  obtain ⟨k, rfl⟩ : ∃ q, k = q + 3 := ⟨k - 3, by omega⟩
  unfold yy_.f
  have e0 : rdOf ByteArray.empty [a, b] 0 = a := rfl
  have e1 : rdOf ByteArray.empty [a, b] 1 = b := rfl
  have n0 : wrap64 (0 + 1) = 1 := w64 (by omega) (by omega)
  have n1 : wrap64 (1 + 1) = 2 := w64 (by omega) (by omega)
  have hl : (([a, b] : List ByteArray).length : Int) = 2 := rfl
  rw [yy_.l0, hl, if_pos (by omega), if_pos (by omega), e0, n0]
  by_cases c : 3000 < a.size
  · rw [if_pos (by omega), decide_eq_true (Or.inl c)]
  · rw [if_neg (by omega), yy_.l0, hl, if_pos (by omega), if_pos (by omega), e1, n1]
    by_cases c2 : 3000 < b.size
    · rw [if_pos (by omega), decide_eq_true (Or.inr c2)]
    · rw [if_neg (by omega), yy_.l0, hl, if_neg (by omega), decide_eq_false (by omega)]
theorem textDiffs_eq (a b : ByteArray) (ctx : Int) : ∃ k, yq_.f k a b ctx = some true := by
  refine ⟨2000000002, ?_⟩
  generalize hk : (2000000002 : Nat) = k
  obtain ⟨k, rfl⟩ : ∃ q, k = q + 2 := ⟨k - 2, by omega⟩
  have hk2 : 2000000000 ≤ k := by omega
  clear hk
  unfold yq_.f
  rw [large_f a b _ (by omega), Option.bind_some]
  by_cases c : 3000 < a.size ∨ 3000 < b.size
  · rw [decide_eq_true c, if_pos rfl]
  · rw [decide_eq_false c, if_neg (by decide), diff_f a b ctx (by omega) (by omega), Option.bind_some, rdiff_f a b ctx (by omega) (by omega) _ (by omega), Option.bind_some, if_pos rfl]
    show yq_.j0 (k + 1 + 1) a b ((diffR a b ctx).2 != (diffR a b ctx).2) = some true
    rw [show ((diffR a b ctx).2 != (diffR a b ctx).2) = false by simp, yq_.j0, if_neg (by decide), edits_f a b (by omega) (by omega) _ (by omega), Option.bind_some, redits_f a b (by omega) (by omega) _ (by omega), Option.bind_some, if_pos rfl]
    have hl := editsR_len a b
    rw [eqEdits_f _ (by omega) _ (by omega), Option.bind_some, if_pos rfl, awake_f, Option.bind_some]
end Go.Proofs.YthimblhfjfngiaaDoor.PText

