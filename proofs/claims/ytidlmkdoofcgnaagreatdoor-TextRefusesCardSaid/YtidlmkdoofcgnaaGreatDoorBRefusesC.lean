/- TextRefuses holds: for every two texts the statement answers true, where the seven listed package variables hold what the program's text lays. Part 3 of 21. -/
import Derived.Test.YtidlmkdoofcgnaaGreatDoorBRefusesB
import Derived.Laws.StructEq
namespace Go.Proofs.YtidlmkdoofcgnaaGreatDoorW.PrintWords
open Go.RowKit
section
variable {P : Program} {d : Nat} {xs ys : Array Value} {f : Field} {fs : List Field} {a b : Value} {r s : Bool} {w : World}
theorem eqf_last (hn : (f.name == "_") = false) (ha : (part f.type xs f.offset).run P w = .ok a w) (hb : (part f.type ys f.offset).run P w = .ok b w) (he : (Op.equalIn d f.type a b).run P w = .ok r w) : (Op.eqFields d xs ys [f]).run P w = .ok r w := by
 have hn' : f.name ≠ "_" := by simpa using hn
 simp only [Op.eqFields, if_pos hn', Sem.run_bind, ha, hb, he, Result.andThen_ok]
 cases r <;> simp
theorem eqf_cons (hn : (f.name == "_") = false) (ha : (part f.type xs f.offset).run P w = .ok a w) (hb : (part f.type ys f.offset).run P w = .ok b w) (he : (Op.equalIn d f.type a b).run P w = .ok r w) (hr : (Op.eqFields d xs ys fs).run P w = .ok s w) : (Op.eqFields d xs ys (f :: fs)).run P w = .ok (r && s) w := by
 have hn' : f.name ≠ "_" := by simpa using hn
 rw [Op.eqFields]
 simp only [if_pos hn', Sem.run_bind, ha, hb, he, Result.andThen_ok]
 cases r
 ·simp
 ·simpa using hr
theorem eqA_of {t : TypeId} {fs : Array Field} (hu : P.underlying t = some (.struct fs)) (hp : P.stoodInHeld t = false) (h : (Op.eqFields d xs ys fs.toList).run P w = .ok r w) : (Op.equalIn (d + 1) t (.agg xs) (.agg ys)).run P w = .ok r w := by
 have hf : P.fieldsOf t = fs := by simp [Program.fieldsOf, hu]
 rw [run_equalIn_struct (P := P) w d t xs ys (by rw [hf]; exact hu) hp, hf]
 exact h
end
end Go.Proofs.YtidlmkdoofcgnaaGreatDoorW.PrintWords

namespace Go.Proofs.YtidlmkdoofcgnaaGreatDoorW.PrintWords
theorem Reps.one {α : Type} {R : α → List Value → Prop} {ps : List α} {cs : List Value} {p : α} {v : Value} (hp : R p [v]) (h : Reps R 1 ps cs) : Reps R 1 (p :: ps) (v :: cs) := by
 refine ⟨by simp [h.1], fun j q hq => ?_⟩
 cases j with
 | zero =>
  simp only [List.getElem?_cons_zero, Option.some.injEq] at hq
  subst hq
  simpa using hp
 | succ j =>
  simp only [List.getElem?_cons_succ] at hq
  have h1 := h.2 j q hq
  simpa [Nat.mul_one] using h1
theorem Reps.front {α : Type} {R : α → List Value → Prop} {size : Nat} {ps : List α} {cs c all : List Value} {p : α} (hp : R p c) (hc : c.length = size) (h : Reps R size ps cs) (ha : c ++ cs = all) : Reps R size (p :: ps) all := by
 subst ha
 refine ⟨by rw [List.length_append, hc, h.1, List.length_cons, Nat.succ_mul, Nat.add_comm], fun j q hq => ?_⟩
 cases j with
 | zero =>
  simp only [List.getElem?_cons_zero, Option.some.injEq] at hq
  subst hq
  rw [Nat.zero_mul, List.drop_zero, List.take_append_of_le_length (by omega), List.take_of_length_le (by omega)]
  exact hp
 | succ j =>
  simp only [List.getElem?_cons_succ] at hq
  have h1 := h.2 j q hq
  rw [Nat.succ_mul, List.drop_append, List.drop_of_length_le (by rw [hc]; exact Nat.le_add_left _ _), List.nil_append, hc, Nat.add_sub_cancel]
  exact h1
theorem Reps.c2 {α : Type} {R : α → List Value → Prop} {ps : List α} {cs : List Value} {p : α} {va vb : Value} (hp : R p [va, vb]) (h : Reps R 2 ps cs) : Reps R 2 (p :: ps) (va :: vb :: cs) := Reps.front hp rfl h rfl
theorem Reps.c3 {α : Type} {R : α → List Value → Prop} {ps : List α} {cs : List Value} {p : α} {va vb vc : Value} (hp : R p [va, vb, vc]) (h : Reps R 3 ps cs) : Reps R 3 (p :: ps) (va :: vb :: vc :: cs) := Reps.front hp rfl h rfl
theorem Reps.c4 {α : Type} {R : α → List Value → Prop} {ps : List α} {cs : List Value} {p : α} {va vb vc vd : Value} (hp : R p [va, vb, vc, vd]) (h : Reps R 4 ps cs) : Reps R 4 (p :: ps) (va :: vb :: vc :: vd :: cs) := Reps.front hp rfl h rfl
theorem Reps.c5 {α : Type} {R : α → List Value → Prop} {ps : List α} {cs : List Value} {p : α} {va vb vc vd ve : Value} (hp : R p [va, vb, vc, vd, ve]) (h : Reps R 5 ps cs) : Reps R 5 (p :: ps) (va :: vb :: vc :: vd :: ve :: cs) := Reps.front hp rfl h rfl
theorem Reps.c6 {α : Type} {R : α → List Value → Prop} {ps : List α} {cs : List Value} {p : α} {va vb vc vd ve vf : Value} (hp : R p [va, vb, vc, vd, ve, vf]) (h : Reps R 6 ps cs) : Reps R 6 (p :: ps) (va :: vb :: vc :: vd :: ve :: vf :: cs) := Reps.front hp rfl h rfl
theorem Reps.c7 {α : Type} {R : α → List Value → Prop} {ps : List α} {cs : List Value} {p : α} {va vb vc vd ve vf vg : Value} (hp : R p [va, vb, vc, vd, ve, vf, vg]) (h : Reps R 7 ps cs) : Reps R 7 (p :: ps) (va :: vb :: vc :: vd :: ve :: vf :: vg :: cs) := Reps.front hp rfl h rfl
theorem Reps.c8 {α : Type} {R : α → List Value → Prop} {ps : List α} {cs : List Value} {p : α} {va vb vc vd ve vf vg vh : Value} (hp : R p [va, vb, vc, vd, ve, vf, vg, vh]) (h : Reps R 8 ps cs) : Reps R 8 (p :: ps) (va :: vb :: vc :: vd :: ve :: vf :: vg :: vh :: cs) := Reps.front hp rfl h rfl
theorem Reps.c9 {α : Type} {R : α → List Value → Prop} {ps : List α} {cs : List Value} {p : α} {va vb vc vd ve vf vg vh vi : Value} (hp : R p [va, vb, vc, vd, ve, vf, vg, vh, vi]) (h : Reps R 9 ps cs) : Reps R 9 (p :: ps) (va :: vb :: vc :: vd :: ve :: vf :: vg :: vh :: vi :: cs) := Reps.front hp rfl h rfl
theorem Reps.c10 {α : Type} {R : α → List Value → Prop} {ps : List α} {cs : List Value} {p : α} {va vb vc vd ve vf vg vh vi vj : Value} (hp : R p [va, vb, vc, vd, ve, vf, vg, vh, vi, vj]) (h : Reps R 10 ps cs) : Reps R 10 (p :: ps) (va :: vb :: vc :: vd :: ve :: vf :: vg :: vh :: vi :: vj :: cs) := Reps.front hp rfl h rfl
end Go.Proofs.YtidlmkdoofcgnaaGreatDoorW.PrintWords

namespace Go.Proofs.YtidlmkdoofcgnaaGreatDoorW.PrintLast
def up (b : Nat → Bool) (i : Nat) : Nat → Bool := fun j => if j = i then true else b j
section
variable {P : Program} {ops : Array Oper} {Q : Exit → Act → World → Prop} {md : Region.Mode} {T : Bool × List (List Nat × List Nat)} {B : List Nat} {O : List Nat} {b : Nat → Bool} {i j n : Nat}
end
end Go.Proofs.YtidlmkdoofcgnaaGreatDoorW.PrintLast

namespace Go.Proofs.YtidlmkdoofcgnaaGreatDoorW.PrintWords
open Go.RowKit
end Go.Proofs.YtidlmkdoofcgnaaGreatDoorW.PrintWords
namespace Go.Proofs.YtidlmkdoofcgnaaGreatDoorW.PrintLast
section
variable {ops : Array Oper} {a : Act} {o og : Oper} {g : Nat} {t : Tmp} {u : Bool}
end
end Go.Proofs.YtidlmkdoofcgnaaGreatDoorW.PrintLast

namespace Go.Proofs.YtidlmkdoofcgnaaGreatDoorW.PrintWords
open Go.RowKit
section
variable {P : Program} {ops : Array Oper} {rest : List Oper} {o : Oper} {a : Act} {Q : Exit → Act → World → Prop} {W : World}
theorem gate_guard (hw : Region.wanted o (yielded ops a.tmps) = true) (h : wpList P ops Q ({ o with guard := none } :: rest) a W) : wpList P ops Q (o :: rest) a W := by
 have h1 : Region.wanted { o with guard := none } (yielded ops a.tmps) = true := rfl
 unfold wpList at h ⊢
 rw [if_pos h1] at h
 rw [if_pos hw]
 exact h
end
end Go.Proofs.YtidlmkdoofcgnaaGreatDoorW.PrintWords

namespace Go.Proofs.YtidlmkdoofcgnaaGreatDoorW.PrintWords
open Go.RowKit
namespace Kd
section
variable {α : Type} {d : Kd α} {e base n cap g : Nat} {ok ok' okp : Nat → Prop} {w w1 W : World} {v v1 : Value} {xs ys : List α}
end
section
variable {P : Program} {ops : Array Oper} {rest : List Oper} {o : Oper} {a : Act} {Q : Exit → Act → World → Prop} {Kc : Act → World → Prop} {α : Type}
end
end Kd
end Go.Proofs.YtidlmkdoofcgnaaGreatDoorW.PrintWords

namespace Go.Proofs.YtidlmkdoofcgnaaGreatDoorW.PrintMore
open Go.RowKit Go.Proofs.YtidlmkdoofcgnaaGreatDoorW.PrintWords
namespace Kd
open Go.Proofs.YtidlmkdoofcgnaaGreatDoorW.PrintWords.Kd
end Kd

namespace Kd
open Go.Proofs.YtidlmkdoofcgnaaGreatDoorW.PrintWords.Kd
section
variable {α : Type} {d : Kd α} {e base g N : Nat} {ok : Nat → Prop} {W w1 : World} {u v : Value} {xs : List α}
end
end Kd
theorem max2_int (k k' : IntKind) (x y : Int) : Builtin.max2 (.int k x) (.int k' y) = pure (.int k (if x < y then y else x)) := by simp only [Builtin.max2, gt_iff_lt]
theorem min2_int (k k' : IntKind) (x y : Int) : Builtin.min2 (.int k x) (.int k' y) = pure (.int k (if y < x then y else x)) := by simp only [Builtin.min2]
theorem max_two (ats : Array TypeId) (ty : TypeId) (a b : Value) : Builtin.max_ ats ty #[a, b] = (Builtin.max2 a b >>= fun s => pure s) := by simp only [Builtin.max_, List.foldlM_cons, List.foldlM_nil]
theorem min_two (ats : Array TypeId) (ty : TypeId) (a b : Value) : Builtin.min_ ats ty #[a, b] = (Builtin.min2 a b >>= fun s => pure s) := by simp only [Builtin.min_, List.foldlM_cons, List.foldlM_nil]
theorem max_three (ats : Array TypeId) (ty : TypeId) (a b c : Value) : Builtin.max_ ats ty #[a, b, c] = (Builtin.max2 a b >>= fun s => Builtin.max2 s c >>= fun s => pure s) := by simp only [Builtin.max_, List.foldlM_cons, List.foldlM_nil]
theorem min_three (ats : Array TypeId) (ty : TypeId) (a b c : Value) : Builtin.min_ ats ty #[a, b, c] = (Builtin.min2 a b >>= fun s => Builtin.min2 s c >>= fun s => pure s) := by simp only [Builtin.min_, List.foldlM_cons, List.foldlM_nil]
theorem max_four (ats : Array TypeId) (ty : TypeId) (a b c d : Value) : Builtin.max_ ats ty #[a, b, c, d] = (Builtin.max2 a b >>= fun s => Builtin.max2 s c >>= fun s => Builtin.max2 s d >>= fun s => pure s) := by simp only [Builtin.max_, List.foldlM_cons, List.foldlM_nil]
theorem min_four (ats : Array TypeId) (ty : TypeId) (a b c d : Value) : Builtin.min_ ats ty #[a, b, c, d] = (Builtin.min2 a b >>= fun s => Builtin.min2 s c >>= fun s => Builtin.min2 s d >>= fun s => pure s) := by simp only [Builtin.min_, List.foldlM_cons, List.foldlM_nil]
end Go.Proofs.YtidlmkdoofcgnaaGreatDoorW.PrintMore
namespace Go.Proofs.YtidlmkdoofcgnaaGreatDoorW.PrintWords
open Go.RowKit
section
variable {P : Program} {ops : Array Oper} {rest : List Oper} {o : Oper} {a : Act} {Q : Exit → Act → World → Prop} {W : World}
theorem gate_callee {f : FuncId} {as : Array Operand} {ts : Array TypeId} (_ho : o.op = .call { callee := .value (.func f), args := as, argTypes := ts }) (h : wpList P ops Q (o :: rest) a W) : wpList P ops Q (o :: rest) a W := h
theorem gate_builtin {b : Builtin} {xs : Array Operand} {ts : Array TypeId} (_ho : o.op = .call { callee := .builtin b, args := xs, argTypes := ts }) (h : wpList P ops Q (o :: rest) a W) : wpList P ops Q (o :: rest) a W := h
end
def mx (a b : Int) : Int := if a < b then b else a
namespace Kd
section
variable {α : Type} {d : Kd α} {e base : Nat} {ok : Nat → Prop} {W w1 : World} {v : Value} {xs : List α}
end
section
variable {α : Type} {d : Kd α} {e base g n cap : Nat} {ok oki okp : Nat → Prop} {W : World} {xs : List α} {i : Int} {c : List Value}
end
section
variable {α : Type} {d : Kd α} {e base b b' g N : Nat} {ok ok1 : Nat → Prop} {W W2 w1 : World} {u v : Value} {xs ys : List α} {S : Nat → Prop}
end
end Kd
end Go.Proofs.YtidlmkdoofcgnaaGreatDoorW.PrintWords
namespace Go.Proofs.YtidlmkdoofcgnaaGreatDoorW.PrintWords
open Go.RowKit
namespace Kd
def V {α : Type} (d : Kd α) (_e : Nat) (W : World) (_base : Nat) (ok : Nat → Prop) (v : Value) (xs : List α) : Prop := ∃ A c, v = .slice A xs.length c ∧ xs.length ≤ c ∧ F d W ok A xs.length xs
section
variable {α β : Type} {d : Kd α} {e base base' n m c g N' lo hi : Nat} {ok ok' S : Nat → Prop} {w W w1 : World} {A : Option Addr} {ad : Addr} {u v v1 : Value} {xs : List α}
theorem V_nil (d : Kd α) (e : Nat) (W : World) (base : Nat) (ok : Nat → Prop) : V d e W base ok (.slice none 0 0) [] := ⟨none, 0, rfl, Nat.le_refl _, F_nil d W ok⟩
end
end Kd
end Go.Proofs.YtidlmkdoofcgnaaGreatDoorW.PrintWords

namespace Go.Proofs.YtidlmkdoofcgnaaGreatDoor.Tx
section
variable {α : Type} [DecidableEq α] {lt : α → α → Bool}
structure Lin (lt : α → α → Bool) : Prop where
  irr : ∀ a, lt a a = false
  tr : ∀ {a b c}, lt a b = true → lt b c = true → lt a c = true
  tri : ∀ {a b}, lt a b = false → lt b a = false → a = b
omit [DecidableEq α] in
theorem Lin.asym (h : Lin lt) {a b : α} (q : lt a b = true) : lt b a = false := by
  cases e : lt b a with
  | false => rfl
  | true => have := h.tr q e; rw [h.irr] at this; cases this
def Asc (lt : α → α → Bool) (l : List α) : Prop := l.Pairwise fun a b => lt a b = true
omit [DecidableEq α] in
theorem Asc.nil : Asc lt ([] : List α) := List.Pairwise.nil
omit [DecidableEq α] in
theorem asc_cons {a : α} {l : List α} : Asc lt (a :: l) ↔ (∀ b ∈ l, lt a b = true) ∧ Asc lt l := List.pairwise_cons
omit [DecidableEq α] in
theorem asc_append {l m : List α} : Asc lt (l ++ m) ↔ Asc lt l ∧ Asc lt m ∧ ∀ a ∈ l, ∀ b ∈ m, lt a b = true := List.pairwise_append
omit [DecidableEq α] in
theorem asc_unique (h : Lin lt) : ∀ {l m : List α}, Asc lt l → Asc lt m → (∀ a, a ∈ l ↔ a ∈ m) → l = m
  | [], [], _, _, _ => rfl
  | [], b :: m, _, _, q => by have := (q b).2 List.mem_cons_self; cases this
  | a :: l, [], _, _, q => by have := (q a).1 List.mem_cons_self; cases this
  | a :: l, b :: m, p1, p2, q => by
    obtain ⟨u1, v1⟩ := asc_cons.1 p1
    obtain ⟨u2, v2⟩ := asc_cons.1 p2
    have e : a = b := by
      rcases List.mem_cons.1 ((q a).1 List.mem_cons_self) with e | e
      · exact e
      rcases List.mem_cons.1 ((q b).2 List.mem_cons_self) with e' | e'
      · exact e'.symm
      have := h.asym (u2 a e)
      rw [u1 b e'] at this; cases this
    subst e
    rw [asc_unique h v1 v2 fun c => ⟨fun k => ?_, fun k => ?_⟩]
    · rcases List.mem_cons.1 ((q c).1 (List.mem_cons_of_mem _ k)) with e | e
      · subst e; have := u1 c k; rw [h.irr] at this; cases this
      · exact e
    · rcases List.mem_cons.1 ((q c).2 (List.mem_cons_of_mem _ k)) with e | e
      · subst e; have := u2 c k; rw [h.irr] at this; cases this
      · exact e
/-- each of equal neighbours once -/
def dd : List α → List α
  | [] => []
  | [a] => [a]
  | a :: b :: l => if a = b then dd (b :: l) else a :: dd (b :: l)
/-- The ascending list of a list's members. -/
def ord (lt : α → α → Bool) : List α → List α
  | [] => []
  | a :: l => ins a (ord lt l)
where ins (a : α) : List α → List α
  | [] => [a]
  | b :: l => if lt a b then a :: b :: l else if a = b then b :: l else b :: ins a l
theorem mem_ins (h : Lin lt) {a c : α} : ∀ {l : List α}, c ∈ ord.ins lt a l ↔ c = a ∨ c ∈ l
  | [] => by simp [ord.ins]
  | b :: l => by
    unfold ord.ins
    by_cases e : lt a b = true
    · rw [if_pos e, List.mem_cons]
    · rw [if_neg e]
      by_cases e' : a = b
      · rw [if_pos e']; subst e'; simp
      · rw [if_neg e', List.mem_cons, mem_ins h, List.mem_cons]
        constructor <;> rintro (k | k | k) <;> simp [k]
theorem asc_ins (h : Lin lt) {a : α} : ∀ {l : List α}, Asc lt l → Asc lt (ord.ins lt a l)
  | [], _ => List.pairwise_singleton _ _
  | b :: l, q => by
    obtain ⟨u, v⟩ := asc_cons.1 q
    unfold ord.ins
    by_cases e : lt a b = true
    · rw [if_pos e]
      exact asc_cons.2 ⟨fun c hc => (List.mem_cons.1 hc).elim (fun k => k ▸ e) fun k => h.tr e (u c k), q⟩
    · rw [if_neg e]
      by_cases e' : a = b
      · rw [if_pos e']; exact q
      · rw [if_neg e']
        refine asc_cons.2 ⟨fun c hc => ?_, asc_ins h v⟩
        rcases (mem_ins h).1 hc with k | k
        · subst k
          cases k : lt b c with
          | true => rfl
          | false => exact absurd (h.tri (by simpa using e) k) e'
        · exact u c k
theorem mem_ord (h : Lin lt) {c : α} : ∀ {l : List α}, c ∈ ord lt l ↔ c ∈ l
  | [] => Iff.rfl
  | a :: l => by unfold ord; rw [mem_ins h, mem_ord h, List.mem_cons]
theorem asc_ord (h : Lin lt) : ∀ {l : List α}, Asc lt (ord lt l)
  | [] => List.Pairwise.nil
  | a :: l => by unfold ord; exact asc_ins h (asc_ord h)
theorem ord_of_asc (h : Lin lt) {l m : List α} (q : Asc lt m) (k : ∀ a, a ∈ m ↔ a ∈ l) : m = ord lt l :=
  asc_unique h q (asc_ord h) fun a => by rw [mem_ord h]; exact k a
theorem ord_len (l : List α) : (ord lt l).length ≤ l.length := by
  have hi : ∀ (a : α) (m : List α), (ord.ins lt a m).length ≤ m.length + 1 := by
    intro a m
    induction m with
    | nil => simp [ord.ins]
    | cons b m ih =>
      unfold ord.ins
      split
      · simp
      split
      · simp
      · simp only [List.length_cons]; omega
  induction l with
  | nil => exact Nat.le_refl _
  | cons a l ih => unfold ord; have := hi a (ord lt l); simp only [List.length_cons]; omega
end
end Go.Proofs.YtidlmkdoofcgnaaGreatDoor.Tx

namespace Go.Proofs.YtidlmkdoofcgnaaGreatDoor.Tx
structure Ed where
  f : Int
  t : Int
  x : List UInt8
theorem Ed.ext' {a b : Ed} (h1 : a.f = b.f) (h2 : a.t = b.t) (h3 : a.x = b.x) : a = b := by cases a; cases b; simp_all
instance : DecidableEq Ed := fun a b => decidable_of_iff (a.f = b.f ∧ a.t = b.t ∧ a.x = b.x) ⟨fun h => Ed.ext' h.1 h.2.1 h.2.2, fun h => by subst h; exact ⟨rfl, rfl, rfl⟩⟩
/-- the order of edits -/
def elt (a b : Ed) : Bool := decide (a.f < b.f) || (decide (a.f = b.f) && (decide (a.t < b.t) || (decide (a.t = b.t) && decide (a.x < b.x))))
theorem elt_iff {a b : Ed} : elt a b = true ↔ a.f < b.f ∨ (a.f = b.f ∧ (a.t < b.t ∨ (a.t = b.t ∧ a.x < b.x))) := by
  unfold elt
  simp only [Bool.or_eq_true, Bool.and_eq_true, decide_eq_true_eq]
theorem elt_lin : Lin elt where
  irr a := by
    cases h : elt a a with
    | false => rfl
    | true =>
      rcases elt_iff.1 h with k | ⟨_, k | ⟨_, k⟩⟩
      · omega
      · omega
      · exact absurd k (List.lt_irrefl _)
  tr := by
    intro a b c h1 h2
    rw [elt_iff] at h1 h2 ⊢
    rcases h1 with h1 | ⟨e1, h1 | ⟨e1', h1⟩⟩
    · rcases h2 with h2 | ⟨e2, h2⟩
      · exact Or.inl (by omega)
      · exact Or.inl (by omega)
    · rcases h2 with h2 | ⟨e2, h2 | ⟨e2', h2⟩⟩
      · exact Or.inl (by omega)
      · exact Or.inr ⟨by omega, Or.inl (by omega)⟩
      · exact Or.inr ⟨by omega, Or.inl (by omega)⟩
    · rcases h2 with h2 | ⟨e2, h2 | ⟨e2', h2⟩⟩
      · exact Or.inl (by omega)
      · exact Or.inr ⟨by omega, Or.inl (by omega)⟩
      · exact Or.inr ⟨by omega, Or.inr ⟨by omega, List.lt_trans h1 h2⟩⟩
  tri := by
    intro a b h1 h2
    have n1 : ¬ (elt a b = true) := by rw [h1]; decide
    have n2 : ¬ (elt b a = true) := by rw [h2]; decide
    rw [elt_iff] at n1 n2
    have ef : a.f = b.f := by
      rcases Int.lt_trichotomy a.f b.f with k | k | k
      · exact absurd (Or.inl k) n1
      · exact k
      · exact absurd (Or.inl k) n2
    have et : a.t = b.t := by
      rcases Int.lt_trichotomy a.t b.t with k | k | k
      · exact absurd (Or.inr ⟨ef, Or.inl k⟩) n1
      · exact k
      · exact absurd (Or.inr ⟨ef.symm, Or.inl k⟩) n2
    have n1' : ¬ a.x < b.x := fun k => n1 (Or.inr ⟨ef, Or.inr ⟨et, k⟩⟩)
    have n2' : ¬ b.x < a.x := fun k => n2 (Or.inr ⟨ef.symm, Or.inr ⟨et.symm, k⟩⟩)
    exact Ed.ext' ef et (List.le_antisymm (List.not_lt.1 n2') (List.not_lt.1 n1'))
/-- two edits touch -/
def touch (a b : Ed) : Bool :=
  if a.f = a.t ∧ b.f = b.t then decide (a.f = b.f)
  else if a.f = a.t then decide (b.f < a.f) && decide (a.f < b.t)
  else if b.f = b.t then decide (a.f < b.f) && decide (b.f < a.t)
  else decide (a.f < b.t) && decide (b.f < a.t)
def Okay (n : Int) (l : List Ed) : Prop := ∀ e ∈ l, 0 ≤ e.f ∧ e.f ≤ e.t ∧ e.t ≤ n
/-- does one of the sorted edits touch one before it -/
def clash (e last : Int) : List Ed → Bool
  | [] => false
  | x :: l => if x.f < e ∨ (x.f = x.t ∧ x.f = last) then true else clash (max e x.t) (if x.f = x.t then x.f else last) l
/-- edits one behind the other -/
def Ch (n : Int) : Int → List Ed → Prop
  | p, [] => p ≤ n
  | p, e :: l => p ≤ e.f ∧ e.f ≤ e.t ∧ Ch n e.t l
theorem clash_ch {n : Int} : ∀ (l : List Ed) (e last : Int), Okay n l → e ≤ n → clash e last l = false → Ch n e l
  | [], e, last, _, h, _ => h
  | x :: l, e, last, ho, hn, hc => by
    have hx := ho x List.mem_cons_self
    unfold clash at hc
    by_cases k : x.f < e ∨ (x.f = x.t ∧ x.f = last)
    · rw [if_pos k] at hc; cases hc
    · rw [if_neg k] at hc
      have e1 : max e x.t = x.t := by omega
      rw [e1] at hc
      exact ⟨by omega, hx.2.1, clash_ch l x.t _ (fun a m => ho a (List.mem_cons_of_mem _ m)) hx.2.2 hc⟩
end Go.Proofs.YtidlmkdoofcgnaaGreatDoor.Tx

namespace Go.Proofs.YtidlmkdoofcgnaaGreatDoor.Tx
/-- a part of a text -/
def sl (s : List UInt8) (a b : Int) : List UInt8 := (s.drop a.toNat).take (b.toNat - a.toNat)
/-- the text from a place on, behind edits -/
def ap (s : List UInt8) : Int → List Ed → List UInt8
  | p, [] => s.drop p.toNat
  | p, e :: l => sl s p e.f ++ e.x ++ ap s e.t l
theorem ch_le {n : Int} : ∀ {l : List Ed} {p : Int}, Ch n p l → p ≤ n
  | [], _, h => h
  | e :: l, p, h => by have := ch_le h.2.2; have := h.1; have := h.2.1; omega
end Go.Proofs.YtidlmkdoofcgnaaGreatDoor.Tx

namespace Go.Proofs.YtidlmkdoofcgnaaGreatDoor.Tx
end Go.Proofs.YtidlmkdoofcgnaaGreatDoor.Tx

namespace Go.Proofs.YtidlmkdoofcgnaaGreatDoor.Tx
/-- the lines of a text, the first part of the first one is told -/
def lgo (cur : List UInt8) : List UInt8 → List (List UInt8)
  | [] => if cur = [] then [] else [cur]
  | c :: r => if c = 10 then (cur ++ [c]) :: lgo [] r else lgo (cur ++ [c]) r
def lines (s : List UInt8) : List (List UInt8) := lgo [] s
theorem lgo_flat : ∀ (s cur : List UInt8), (lgo cur s).flatten = cur ++ s
  | [], cur => by
    unfold lgo
    by_cases h : cur = []
    · rw [if_pos h, h]; rfl
    · rw [if_neg h]; simp
  | c :: r, cur => by
    unfold lgo
    by_cases h : c = 10
    · rw [if_pos h, List.flatten_cons, lgo_flat r []]; simp
    · rw [if_neg h, lgo_flat r]; simp
theorem lines_flat (s : List UInt8) : (lines s).flatten = s := lgo_flat s []
theorem lgo_ne : ∀ (s cur : List UInt8), ∀ x ∈ lgo cur s, x ≠ []
  | [], cur, x, hx => by
    unfold lgo at hx
    by_cases h : cur = []
    · rw [if_pos h] at hx; cases hx
    · rw [if_neg h] at hx; rw [List.mem_singleton.1 hx]; exact h
  | c :: r, cur, x, hx => by
    unfold lgo at hx
    by_cases h : c = 10
    · rw [if_pos h] at hx
      rcases List.mem_cons.1 hx with k | k
      · subst k; simp
      · exact lgo_ne r [] x k
    · rw [if_neg h] at hx; exact lgo_ne r _ x hx
theorem lines_ne (s : List UInt8) : ∀ x ∈ lines s, x ≠ [] := lgo_ne s []
/-- a first line that ends -/
theorem lgo_line : ∀ (a cur r : List UInt8), (10 : UInt8) ∉ a → lgo cur (a ++ 10 :: r) = (cur ++ a ++ [10]) :: lgo [] r
  | [], cur, r, _ => by
    have e : lgo cur (10 :: r) = if (10 : UInt8) = 10 then (cur ++ [10]) :: lgo [] r else lgo (cur ++ [10]) r := rfl
    rw [List.nil_append, e, if_pos rfl, List.append_nil]
  | c :: a, cur, r, h => by
    have hc : c ≠ 10 := fun e => h (e ▸ List.mem_cons_self)
    show lgo cur (c :: (a ++ 10 :: r)) = _
    rw [lgo, if_neg hc, lgo_line a _ r fun k => h (List.mem_cons_of_mem _ k)]
    simp only [List.append_assoc, List.cons_append, List.nil_append]
section
variable {α : Type} [DecidableEq α]
/-- how many can be kept -/
def lcs : List α → List α → Nat
  | a :: l, b :: m => if a = b then lcs l m + 1 else max (lcs l (b :: m)) (lcs (a :: l) m)
  | _, _ => 0
termination_by l m => l.length + m.length
theorem lcs_nil_l (m : List α) : lcs [] m = 0 := by rw [lcs]; intro a l b m' h; cases h
theorem lcs_nil_r (l : List α) : lcs l [] = 0 := by rw [lcs]; intro a l' b m' _ h; cases h
theorem lcs_cons (a b : α) (l m : List α) : lcs (a :: l) (b :: m) = if a = b then lcs l m + 1 else max (lcs l (b :: m)) (lcs (a :: l) m) := by rw [lcs]
theorem lcs_step : ∀ (k : Nat) (l m : List α), l.length + m.length ≤ k →
    (∀ b, lcs l m ≤ lcs l (b :: m) ∧ lcs l (b :: m) ≤ lcs l m + 1) ∧ (∀ a, lcs l m ≤ lcs (a :: l) m ∧ lcs (a :: l) m ≤ lcs l m + 1) := by
  intro k
  induction k with
  | zero =>
    intro l m h
    have hl : l = [] := List.eq_nil_of_length_eq_zero (by omega)
    have hm : m = [] := List.eq_nil_of_length_eq_zero (by omega)
    subst hl hm
    refine ⟨fun b => ?_, fun a => ?_⟩
    · rw [lcs_nil_l, lcs_nil_l]; omega
    · rw [lcs_nil_r, lcs_nil_r]; omega
  | succ k ih =>
    intro l m h
    constructor
    · intro b
      cases l with
      | nil => rw [lcs_nil_l, lcs_nil_l]; omega
      | cons a l =>
        simp only [List.length_cons] at h
        have h1 := (ih l m (by omega)).1 b
        have h2 := (ih l m (by omega)).2 a
        rw [lcs_cons]
        by_cases e : a = b
        · rw [if_pos e]; omega
        · rw [if_neg e]; omega
    · intro a
      cases m with
      | nil => rw [lcs_nil_r, lcs_nil_r]; omega
      | cons b m =>
        simp only [List.length_cons] at h
        have h1 := (ih l m (by omega)).1 b
        have h2 := (ih l m (by omega)).2 a
        rw [lcs_cons]
        by_cases e : a = b
        · rw [if_pos e]; omega
        · rw [if_neg e]; omega
theorem lcs_len_l (l m : List α) : lcs l m ≤ l.length := by
  induction l with
  | nil => rw [lcs_nil_l]; exact Nat.le_refl _
  | cons a l ih => have := ((lcs_step _ l m (Nat.le_refl _)).2 a).2; simp only [List.length_cons]; omega
/-- the steps: 32 is kept, 45 goes, 43 comes -/
def stp : List α → List α → List (UInt8 × α)
  | a :: l, b :: m => if a = b then (32, a) :: stp l m else if lcs (a :: l) m ≤ lcs l (b :: m) then (45, a) :: stp l (b :: m) else (43, b) :: stp (a :: l) m
  | a :: l, [] => (45, a) :: stp l []
  | [], b :: m => (43, b) :: stp [] m
  | [], [] => []
termination_by l m => l.length + m.length
def news (l : List (UInt8 × α)) : List α := (l.filter fun x => x.1 != 45).map (·.2)
end
end Go.Proofs.YtidlmkdoofcgnaaGreatDoor.Tx

namespace Go.Proofs.YtidlmkdoofcgnaaGreatDoor.Tx
abbrev St := UInt8 × List UInt8
/-- the edits of steps; the one that is not yet shut is told -/
def eg : Int → Option Ed → List St → List Ed
  | _, c, [] => c.toList
  | at_, c, (o, x) :: l =>
    if o = 32 then c.toList ++ eg (at_ + x.length) none l
    else
      let d := c.getD ⟨at_, at_, []⟩
      if o = 45 then eg (at_ + x.length) (some ⟨d.f, at_ + x.length, d.x⟩) l else eg at_ (some ⟨d.f, d.t, d.x ++ x⟩) l
/-- the edits from a text to another one -/
def edits (a b : List UInt8) : List Ed := eg 0 none (stp (lines a) (lines b))
end Go.Proofs.YtidlmkdoofcgnaaGreatDoor.Tx

