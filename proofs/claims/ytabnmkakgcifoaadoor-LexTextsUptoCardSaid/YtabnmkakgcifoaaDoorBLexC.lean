/- Chapter 02: what the claims share. Part 3 of 11. -/
import Derived.Test.YtabnmkakgcifoaaDoorBLexB
import Derived.Laws.StructEq
namespace Go.Proofs.YtabnmkakgcifoaaDoorW.PrintWords
open Go.RowKit
section
variable {P : Program} {d : Nat} {xs ys : Array Value} {f : Field} {fs : List Field} {a b : Value} {r s : Bool} {w : World}
theorem eqf_last (hn : (f.name == "_") = false) (ha : (part f.type xs f.offset).run P w = .ok a w) (hb : (part f.type ys f.offset).run P w = .ok b w) (he : (Op.equalIn d f.type a b).run P w = .ok r w) : (Op.eqFields d xs ys [f]).run P w = .ok r w := by
 have hn' : f.name ≠ "_" := by simpa using hn
 simp only [Op.eqFields, if_pos hn', Sem.run_bind, ha, hb, he, Result.andThen_ok]
 cases r <;> simp
theorem eqf_cons (hn : (f.name == "_") = false) (ha : (part f.type xs f.offset).run P w = .ok a w) (hb : (part f.type ys f.offset).run P w = .ok b w) (he : (Op.equalIn d f.type a b).run P w = .ok r w) (hr : (Op.eqFields d xs ys fs).run P w = .ok s w) : (Op.eqFields d xs ys (f :: fs)).run P w = .ok (r && s) w := by
 have hn' : f.name ≠ "_" := by simpa using hn
 rw [Op.eqFields]
 simp only [if_pos hn', Sem.run_bind, ha, hb, he, Result.andThen_ok]
 cases r
 ·simp
 ·simpa using hr
theorem eqA_of {t : TypeId} {fs : Array Field} (hu : P.underlying t = some (.struct fs)) (hp : P.stoodInHeld t = false) (h : (Op.eqFields d xs ys fs.toList).run P w = .ok r w) : (Op.equalIn (d + 1) t (.agg xs) (.agg ys)).run P w = .ok r w := by
 have hf : P.fieldsOf t = fs := by simp [Program.fieldsOf, hu]
 rw [run_equalIn_struct (P := P) w d t xs ys (by rw [hf]; exact hu) hp, hf]
 exact h
end
end Go.Proofs.YtabnmkakgcifoaaDoorW.PrintWords

namespace Go.Proofs.YtabnmkakgcifoaaDoorW.PrintWords
theorem Reps.one {α : Type} {R : α → List Value → Prop} {ps : List α} {cs : List Value} {p : α} {v : Value} (hp : R p [v]) (h : Reps R 1 ps cs) : Reps R 1 (p :: ps) (v :: cs) := by
 refine ⟨by simp [h.1], fun j q hq => ?_⟩
 cases j with
 | zero =>
  simp only [List.getElem?_cons_zero, Option.some.injEq] at hq
  subst hq
  simpa using hp
 | succ j =>
  simp only [List.getElem?_cons_succ] at hq
  have h1 := h.2 j q hq
  simpa [Nat.mul_one] using h1
theorem Reps.front {α : Type} {R : α → List Value → Prop} {size : Nat} {ps : List α} {cs c all : List Value} {p : α} (hp : R p c) (hc : c.length = size) (h : Reps R size ps cs) (ha : c ++ cs = all) : Reps R size (p :: ps) all := by
 subst ha
 refine ⟨by rw [List.length_append, hc, h.1, List.length_cons, Nat.succ_mul, Nat.add_comm], fun j q hq => ?_⟩
 cases j with
 | zero =>
  simp only [List.getElem?_cons_zero, Option.some.injEq] at hq
  subst hq
  rw [Nat.zero_mul, List.drop_zero, List.take_append_of_le_length (by omega), List.take_of_length_le (by omega)]
  exact hp
 | succ j =>
  simp only [List.getElem?_cons_succ] at hq
  have h1 := h.2 j q hq
  rw [Nat.succ_mul, List.drop_append, List.drop_of_length_le (by rw [hc]; exact Nat.le_add_left _ _), List.nil_append, hc, Nat.add_sub_cancel]
  exact h1
theorem Reps.c2 {α : Type} {R : α → List Value → Prop} {ps : List α} {cs : List Value} {p : α} {va vb : Value} (hp : R p [va, vb]) (h : Reps R 2 ps cs) : Reps R 2 (p :: ps) (va :: vb :: cs) := Reps.front hp rfl h rfl
theorem Reps.c3 {α : Type} {R : α → List Value → Prop} {ps : List α} {cs : List Value} {p : α} {va vb vc : Value} (hp : R p [va, vb, vc]) (h : Reps R 3 ps cs) : Reps R 3 (p :: ps) (va :: vb :: vc :: cs) := Reps.front hp rfl h rfl
theorem Reps.c4 {α : Type} {R : α → List Value → Prop} {ps : List α} {cs : List Value} {p : α} {va vb vc vd : Value} (hp : R p [va, vb, vc, vd]) (h : Reps R 4 ps cs) : Reps R 4 (p :: ps) (va :: vb :: vc :: vd :: cs) := Reps.front hp rfl h rfl
theorem Reps.c5 {α : Type} {R : α → List Value → Prop} {ps : List α} {cs : List Value} {p : α} {va vb vc vd ve : Value} (hp : R p [va, vb, vc, vd, ve]) (h : Reps R 5 ps cs) : Reps R 5 (p :: ps) (va :: vb :: vc :: vd :: ve :: cs) := Reps.front hp rfl h rfl
theorem Reps.c6 {α : Type} {R : α → List Value → Prop} {ps : List α} {cs : List Value} {p : α} {va vb vc vd ve vf : Value} (hp : R p [va, vb, vc, vd, ve, vf]) (h : Reps R 6 ps cs) : Reps R 6 (p :: ps) (va :: vb :: vc :: vd :: ve :: vf :: cs) := Reps.front hp rfl h rfl
theorem Reps.c7 {α : Type} {R : α → List Value → Prop} {ps : List α} {cs : List Value} {p : α} {va vb vc vd ve vf vg : Value} (hp : R p [va, vb, vc, vd, ve, vf, vg]) (h : Reps R 7 ps cs) : Reps R 7 (p :: ps) (va :: vb :: vc :: vd :: ve :: vf :: vg :: cs) := Reps.front hp rfl h rfl
theorem Reps.c8 {α : Type} {R : α → List Value → Prop} {ps : List α} {cs : List Value} {p : α} {va vb vc vd ve vf vg vh : Value} (hp : R p [va, vb, vc, vd, ve, vf, vg, vh]) (h : Reps R 8 ps cs) : Reps R 8 (p :: ps) (va :: vb :: vc :: vd :: ve :: vf :: vg :: vh :: cs) := Reps.front hp rfl h rfl
theorem Reps.c9 {α : Type} {R : α → List Value → Prop} {ps : List α} {cs : List Value} {p : α} {va vb vc vd ve vf vg vh vi : Value} (hp : R p [va, vb, vc, vd, ve, vf, vg, vh, vi]) (h : Reps R 9 ps cs) : Reps R 9 (p :: ps) (va :: vb :: vc :: vd :: ve :: vf :: vg :: vh :: vi :: cs) := Reps.front hp rfl h rfl
theorem Reps.c10 {α : Type} {R : α → List Value → Prop} {ps : List α} {cs : List Value} {p : α} {va vb vc vd ve vf vg vh vi vj : Value} (hp : R p [va, vb, vc, vd, ve, vf, vg, vh, vi, vj]) (h : Reps R 10 ps cs) : Reps R 10 (p :: ps) (va :: vb :: vc :: vd :: ve :: vf :: vg :: vh :: vi :: vj :: cs) := Reps.front hp rfl h rfl
end Go.Proofs.YtabnmkakgcifoaaDoorW.PrintWords

namespace Go.Proofs.YtabnmkakgcifoaaDoorW.PrintLast
def up (b : Nat → Bool) (i : Nat) : Nat → Bool := fun j => if j = i then true else b j
def lof (n : Nat) (O : List Nat) (b : Nat → Bool) : List Bool := (List.range n).map fun j => if O.contains j then b j else true
def putSel (a : Act) (b : Nat → Bool) : List (Nat × Tmp × Value) → Act
 | [] => a
 | e :: r => putSel (if b e.1 = true then a.put (some e.2.1) e.2.2 else a) b r
section
variable {P : Program} {ops : Array Oper} {Q : Exit → Act → World → Prop} {md : Region.Mode} {T : Bool × List (List Nat × List Nat)} {B : List Nat} {O : List Nat} {b : Nat → Bool} {i j n : Nat}
def StepAt (P : Program) (ops : Array Oper) (Q : Exit → Act → World → Prop) (B : List Nat) (O : List Nat) (I : (Nat → Bool) → Act → World → Prop) (i : Nat) : Prop :=
 ∀ b a w, I b a w → b i = false → (∀ j, (O.contains j && (B.getD i 0).testBit j) = true → b j = true) → (∀ d, (O.contains d && (B.getD d 0).testBit i) = true → b d = false) →
  ∃ oi, ops[i]? = some oi ∧ ∀ K : Act → World → Prop, Shut (∀ a' w', I (up b i) a' w' → K a' w') → if Region.wanted oi (yielded ops a.tmps) = true then Oper.wp P oi a w K Q else K (a.put oi.dst undef) w
def baseOk (T : List (List Nat × List Nat)) (O : List Nat) : Bool :=
 (List.range T.length).all (fun d => match T[d]? with
  | some r => (O.contains d || r.1.all fun n => !O.contains n) && r.1.all fun n => decide (n < d)
  | none => false) && O.all (fun i => decide (i < T.length)) && decide O.Nodup
def Closed (T : List (List Nat × List Nat)) (O : List Nat) (b : Nat → Bool) : Prop := ∀ d r, T[d]? = some r → O.contains d = true → b d = true → ∀ n ∈ r.1, O.contains n = true → b n = true
end
end Go.Proofs.YtabnmkakgcifoaaDoorW.PrintLast

namespace Go.Proofs.YtabnmkakgcifoaaDoorW.PrintWords
open Go.RowKit
end Go.Proofs.YtabnmkakgcifoaaDoorW.PrintWords
namespace Go.Proofs.YtabnmkakgcifoaaDoorW.PrintLast
section
variable {ops : Array Oper} {a : Act} {o og : Oper} {g : Nat} {t : Tmp} {u : Bool}
end
end Go.Proofs.YtabnmkakgcifoaaDoorW.PrintLast

namespace Go.Proofs.YtabnmkakgcifoaaDoorW.PrintWords
open Go.RowKit
section
variable {P : Program} {ops : Array Oper} {rest : List Oper} {o : Oper} {a : Act} {Q : Exit → Act → World → Prop} {W : World}
theorem gate_guard (hw : Region.wanted o (yielded ops a.tmps) = true) (h : wpList P ops Q ({ o with guard := none } :: rest) a W) : wpList P ops Q (o :: rest) a W := by
 have h1 : Region.wanted { o with guard := none } (yielded ops a.tmps) = true := rfl
 unfold wpList at h ⊢
 rw [if_pos h1] at h
 rw [if_pos hw]
 exact h
end
end Go.Proofs.YtabnmkakgcifoaaDoorW.PrintWords

namespace Go.Proofs.YtabnmkakgcifoaaDoorW.PrintWords
open Go.RowKit
namespace Kd
section
variable {α : Type} {d : Kd α} {e base n cap g : Nat} {ok ok' okp : Nat → Prop} {w w1 W : World} {v v1 : Value} {xs ys : List α}
end
section
variable {P : Program} {ops : Array Oper} {rest : List Oper} {o : Oper} {a : Act} {Q : Exit → Act → World → Prop} {Kc : Act → World → Prop} {α : Type}
end
end Kd
end Go.Proofs.YtabnmkakgcifoaaDoorW.PrintWords

namespace Go.Proofs.YtabnmkakgcifoaaDoorW.PrintMore
open Go.RowKit Go.Proofs.YtabnmkakgcifoaaDoorW.PrintWords
namespace Kd
open Go.Proofs.YtabnmkakgcifoaaDoorW.PrintWords.Kd
end Kd

namespace Kd
open Go.Proofs.YtabnmkakgcifoaaDoorW.PrintWords.Kd
section
variable {α : Type} {d : Kd α} {e base g N : Nat} {ok : Nat → Prop} {W w1 : World} {u v : Value} {xs : List α}
end
end Kd
theorem max2_int (k k' : IntKind) (x y : Int) : Builtin.max2 (.int k x) (.int k' y) = pure (.int k (if x < y then y else x)) := by simp only [Builtin.max2, gt_iff_lt]
theorem min2_int (k k' : IntKind) (x y : Int) : Builtin.min2 (.int k x) (.int k' y) = pure (.int k (if y < x then y else x)) := by simp only [Builtin.min2]
theorem max_two (ats : Array TypeId) (ty : TypeId) (a b : Value) : Builtin.max_ ats ty #[a, b] = (Builtin.max2 a b >>= fun s => pure s) := by simp only [Builtin.max_, List.foldlM_cons, List.foldlM_nil]
theorem min_two (ats : Array TypeId) (ty : TypeId) (a b : Value) : Builtin.min_ ats ty #[a, b] = (Builtin.min2 a b >>= fun s => pure s) := by simp only [Builtin.min_, List.foldlM_cons, List.foldlM_nil]
theorem max_three (ats : Array TypeId) (ty : TypeId) (a b c : Value) : Builtin.max_ ats ty #[a, b, c] = (Builtin.max2 a b >>= fun s => Builtin.max2 s c >>= fun s => pure s) := by simp only [Builtin.max_, List.foldlM_cons, List.foldlM_nil]
theorem min_three (ats : Array TypeId) (ty : TypeId) (a b c : Value) : Builtin.min_ ats ty #[a, b, c] = (Builtin.min2 a b >>= fun s => Builtin.min2 s c >>= fun s => pure s) := by simp only [Builtin.min_, List.foldlM_cons, List.foldlM_nil]
theorem max_four (ats : Array TypeId) (ty : TypeId) (a b c d : Value) : Builtin.max_ ats ty #[a, b, c, d] = (Builtin.max2 a b >>= fun s => Builtin.max2 s c >>= fun s => Builtin.max2 s d >>= fun s => pure s) := by simp only [Builtin.max_, List.foldlM_cons, List.foldlM_nil]
theorem min_four (ats : Array TypeId) (ty : TypeId) (a b c d : Value) : Builtin.min_ ats ty #[a, b, c, d] = (Builtin.min2 a b >>= fun s => Builtin.min2 s c >>= fun s => Builtin.min2 s d >>= fun s => pure s) := by simp only [Builtin.min_, List.foldlM_cons, List.foldlM_nil]
end Go.Proofs.YtabnmkakgcifoaaDoorW.PrintMore
namespace Go.Proofs.YtabnmkakgcifoaaDoorW.PrintWords
open Go.RowKit
section
variable {P : Program} {ops : Array Oper} {rest : List Oper} {o : Oper} {a : Act} {Q : Exit → Act → World → Prop} {W : World}
theorem gate_callee {f : FuncId} {as : Array Operand} {ts : Array TypeId} (_ho : o.op = .call { callee := .value (.func f), args := as, argTypes := ts }) (h : wpList P ops Q (o :: rest) a W) : wpList P ops Q (o :: rest) a W := h
theorem gate_builtin {b : Builtin} {xs : Array Operand} {ts : Array TypeId} (_ho : o.op = .call { callee := .builtin b, args := xs, argTypes := ts }) (h : wpList P ops Q (o :: rest) a W) : wpList P ops Q (o :: rest) a W := h
end
def mx (a b : Int) : Int := if a < b then b else a
def mn (a b : Int) : Int := if b < a then b else a
def shl (k : IntKind) (x y : Int) : Int := k.wrap (x * 2 ^ min y.toNat k.bits)
def shr (k : IntKind) (x y : Int) : Int := x / 2 ^ min y.toNat k.bits
theorem drewN_self (w : World) (n : Nat) : w.drewN n = w.drewN n := rfl
namespace Kd
section
variable {α : Type} {d : Kd α} {e base : Nat} {ok : Nat → Prop} {W w1 : World} {v : Value} {xs : List α}
end
section
variable {α : Type} {d : Kd α} {e base g n cap : Nat} {ok oki okp : Nat → Prop} {W : World} {xs : List α} {i : Int} {c : List Value}
end
section
variable {α : Type} {d : Kd α} {e base b b' g N : Nat} {ok ok1 : Nat → Prop} {W W2 w1 : World} {u v : Value} {xs ys : List α} {S : Nat → Prop}
end
end Kd
end Go.Proofs.YtabnmkakgcifoaaDoorW.PrintWords
namespace Go.Proofs.YtabnmkakgcifoaaDoorW.PrintWords
open Go.RowKit
namespace Kd
def V {α : Type} (d : Kd α) (_e : Nat) (W : World) (_base : Nat) (ok : Nat → Prop) (v : Value) (xs : List α) : Prop := ∃ A c, v = .slice A xs.length c ∧ xs.length ≤ c ∧ F d W ok A xs.length xs
section
variable {α β : Type} {d : Kd α} {e base base' n m c g N' lo hi : Nat} {ok ok' S : Nat → Prop} {w W w1 : World} {A : Option Addr} {ad : Addr} {u v v1 : Value} {xs : List α}
theorem V_nil (d : Kd α) (e : Nat) (W : World) (base : Nat) (ok : Nat → Prop) : V d e W base ok (.slice none 0 0) [] := ⟨none, 0, rfl, Nat.le_refl _, F_nil d W ok⟩
end
end Kd
end Go.Proofs.YtabnmkakgcifoaaDoorW.PrintWords

namespace Go.Proofs.YtabnmkakgcifoaaDoor.Lx
abbrev B := List UInt8
def isL (c : UInt8) : Bool := (97 ≤ c && c ≤ 122) || (65 ≤ c && c ≤ 90) || c == 95
def isD (c : UInt8) : Bool := 48 ≤ c && c ≤ 57
def isLD (c : UInt8) : Bool := isL c || isD c
def isFF (c : UInt8) : Bool := c == 11 || c == 12 || c == 13
def isBl (c : UInt8) : Bool := c == 32 || c == 9 || c == 10 || isFF c

/-- bytes up to the line feed (not with it) -/
def upto10 : B → Nat
  | [] => 0
  | c :: r => if c = 10 then 0 else upto10 r + 1
/-- bytes up to and with the first '*/', all of them without one -/
def block : B → Nat
  | [] => 0
  | c :: r => if c = 42 ∧ r.head? = some 47 then 2 else block r + 1
/-- a comment's length; 0: there is none -/
def cmt : B → Nat
  | [] => 0
  | c :: r => if c = 47 then (if r.head? = some 47 then upto10 r + 1 else if r.head? = some 42 then block (r.drop 1) + 2 else 0) else 0
/-- one piece of what stands before tokens; 0: there is none -/
def piece : B → Nat
  | [] => 0
  | c :: r =>
    if isBl c then 1
    else if c = 92 then (if r.head? = some 10 then 2 else if r.take 2 = [13, 10] then 3 else 0)
    else cmt (c :: r)
/-- is the line clear behind a piece? -/
def clearAfter (l : B) (n : Nat) (f : Bool) : Bool :=
  if n = 1 ∧ isFF (l.headD 0) = true then false else f || (l.take n).contains 10

def ln (pp p : UInt8) : B → Nat
  | [] => 0
  | c :: r => if c = 10 ∧ ¬ (p = 92 ∨ p = 13 ∧ pp = 92) then 0 else ln p c r + 1
/-- a preprocessor line's length; r: behind the # -/
def lineLen (r : B) : Nat :=
  let n := ln 0 35 r + 1
  if n < r.length + 1 ∧ ((35 :: r).take n).getLastD 0 = 13 then n - 1 else n
def nameLen (l : B) : Nat := (l.takeWhile isLD).length
def numRest (last : UInt8) : B → Nat
  | [] => 0
  | c :: r => if isLD c || c == 46 || ((c == 43 || c == 45) && (last == 101 || last == 69)) then numRest c r + 1 else 0
/-- bytes up to and with the closing mark -/
def quoted (m : UInt8) : B → Option Nat
  | [] => none
  | [c] => if c = m then some 1 else none
  | c :: d :: r =>
    if c = m then some 1 else if c = 10 then none
    else if c = 92 then (if d = 10 then none else (quoted m r).map (· + 2))
    else (quoted m (d :: r)).map (· + 1)
def signLen (signs : List B) (l : B) : Nat := signs.foldl (fun n s => if n < s.length ∧ s.isPrefixOf l then s.length else n) 0
/-- the kind and the length of the token at the beginning -/
def tok (keys signs : List B) (first : Bool) : B → Nat × Nat
  | [] => (0, 0)
  | c :: r =>
    if c = 35 ∧ first = true then (7, lineLen r)
    else if isL c then (if keys.contains ((c :: r).takeWhile isLD) then 2 else 1, nameLen (c :: r))
    else if isD c || (c == 46 && isD (r.headD 0)) then (3, numRest c r + 1)
    else if c = 39 ∨ c = 34 then
      match quoted c r with
      | some n => (if c = 34 then 5 else 4, n + 1)
      | none => (8, 1)
    else if signLen signs (c :: r) = 0 then (8, 1) else (6, signLen signs (c :: r))

/-- a format's length; 0: there is none; the text begins with the % -/
def fmtLen (l : B) : Nat :=
  let a := ((l.drop 1).takeWhile (fun c => [45, 43, 32, 35, 48].contains c)).length + 1
  let b := ((l.drop a).takeWhile isD).length + a
  let c := if (l.drop b).head? = some 46 then ((l.drop (b + 1)).takeWhile isD).length + b + 1 else b
  let d := ((l.drop c).takeWhile (fun c => [104, 108].contains c)).length + c
  if ((l.drop d).head?.any fun c => [100, 105, 117, 120, 88, 99, 115, 112, 37].contains c) then d + 1 else 0

structure Tok where
  kind : Nat
  before : B
  text : B
  at_ : Nat
deriving DecidableEq, Repr

/-- what stands before the next token: its length, and whether the line is clear behind it -/
def pre (fuel : Nat) (l : B) (f : Bool) : Nat × Bool :=
  match fuel with
  | 0 => (0, f)
  | k + 1 =>
    let n := piece l
    if n = 0 then (0, f) else let p := pre k (l.drop n) (clearAfter l n f); (n + p.1, p.2)
def go (keys signs : List B) (fuel : Nat) (l : B) (at_ : Nat) (f : Bool) : List Tok :=
  match fuel with
  | 0 => []
  | k + 1 =>
    let p := pre l.length l f
    let l' := l.drop p.1
    if l' = [] then [⟨0, l, [], at_ + l.length⟩]
    else
      let t := tok keys signs p.2 l'
      ⟨t.1, l.take p.1, l'.take t.2, at_ + p.1⟩ :: go keys signs k (l'.drop t.2) (at_ + p.1 + t.2) false
def tokens (keys signs : List B) (l : B) : List Tok := go keys signs (l.length + 1) l 0 true
end Go.Proofs.YtabnmkakgcifoaaDoor.Lx

namespace Go.Proofs.YtabnmkakgcifoaaDoor.Lx
def qlen (n : Nat) : Option Nat → Nat
  | some q => n + q
  | none => 0
/-- the six lengths at a place -/
def nOf (signs : List B) (f : Bool) (c : UInt8) (r : B) : Nat → Nat
  | 0 => if c = 35 ∧ f = true then lineLen r else 0
  | 1 => if isL c then nameLen (c :: r) else 0
  | 2 => if (isD c || (c == 46 && isD (r.headD 0))) = true then numRest c r + 1 else 0
  | 3 => if c = 39 then qlen 1 (quoted 39 r) else 0
  | 4 => if c = 34 then qlen 1 (quoted 34 r) else 0
  | 5 => signLen signs (c :: r)
  | _ => 0
def kinds (n : Nat → Nat) : Nat × Nat := if 0 < n 0 then (7, n 0) else if 0 < n 1 then (1, n 1) else if 0 < n 2 then (3, n 2) else if 0 < n 3 then (4, n 3) else if 0 < n 4 then (5, n 4) else if 0 < n 5 then (6, n 5) else (8, 1)
theorem ln_le : ∀ (l : B) (pp p : UInt8), ln pp p l ≤ l.length
  | [], _, _ => Nat.le_refl _
  | c :: r, pp, p => by
    unfold ln
    split
    · omega
    · have := ln_le r p c
      simp only [List.length_cons]; omega
theorem lineLen_pos (r : B) : 0 < lineLen r ∧ lineLen r ≤ r.length + 1 := by
  unfold lineLen
  have := ln_le r 0 35
  dsimp only
  split
  · rename_i h
    refine ⟨?_, by omega⟩
    have h2 := h.2
    rcases Nat.eq_zero_or_pos (ln 0 35 r) with h0 | h0
    · rw [h0] at h2
      simp at h2
    · omega
  · omega
theorem nameLen_le (l : B) : nameLen l ≤ l.length := by
  unfold nameLen
  induction l with
  | nil => simp
  | cons c r ih =>
    rw [List.takeWhile_cons]
    split
    · simp only [List.length_cons]; omega
    · simp
theorem nameLen_pos (c : UInt8) (r : B) (h : isL c = true) : 0 < nameLen (c :: r) := by
  unfold nameLen
  rw [List.takeWhile_cons, isLD, h]
  simp
theorem numRest_le : ∀ (l : B) (c : UInt8), numRest c l ≤ l.length
  | [], _ => Nat.le_refl _
  | d :: r, c => by
    unfold numRest
    split
    · have := numRest_le r d
      simp only [List.length_cons]; omega
    · omega
theorem quoted_le (m : UInt8) : ∀ (n : Nat) (l : B), l.length ≤ n → ∀ q, quoted m l = some q → 0 < q ∧ q ≤ l.length := by
  intro n
  induction n with
  | zero =>
    intro l hl q h
    rw [List.eq_nil_of_length_eq_zero (Nat.le_zero.mp hl)] at h
    cases h
  | succ n ih =>
    intro l hl q h
    match l, hl, h with
    | [], _, h => cases h
    | [c], _, h =>
      unfold quoted at h
      split at h
      · cases h; exact ⟨by omega, by simp⟩
      · cases h
    | c :: d :: r, hl, h =>
      unfold quoted at h
      simp only [List.length_cons] at hl ⊢
      split at h
      · cases h; omega
      · split at h
        · cases h
        · split at h
          · split at h
            · cases h
            · obtain ⟨p, hp, rfl⟩ := Option.map_eq_some_iff.mp h
              have := ih r (by omega) p hp
              omega
          · obtain ⟨p, hp, rfl⟩ := Option.map_eq_some_iff.mp h
            have := ih (d :: r) (by simp only [List.length_cons]; omega) p hp
            simp only [List.length_cons] at this
            omega
theorem signLen_le (signs : List B) (l : B) : signLen signs l ≤ l.length := by
  unfold signLen
  suffices h : ∀ (q : List B) (n : Nat), n ≤ l.length → q.foldl (fun n s => if n < s.length ∧ s.isPrefixOf l then s.length else n) n ≤ l.length from h signs 0 (by omega)
  intro q
  induction q with
  | nil => intro n h; exact h
  | cons s q ih =>
    intro n h
    rw [List.foldl_cons]
    refine ih _ ?_
    split
    · rename_i h1
      exact (List.isPrefixOf_iff_prefix.mp h1.2).length_le
    · exact h
theorem signLen_no (signs : List B) (c : UInt8) (r : B) (h : ∀ s ∈ signs, s.head? ≠ some c) : signLen signs (c :: r) = 0 := by
  unfold signLen
  suffices h' : ∀ (q : List B), (∀ s ∈ q, s.head? ≠ some c) → q.foldl (fun n s => if n < s.length ∧ s.isPrefixOf (c :: r) then s.length else n) 0 = 0 from h' signs h
  intro q hq
  induction q with
  | nil => rfl
  | cons s q ih =>
    rw [List.foldl_cons, if_neg]
    · exact ih (fun s hs => hq s (List.mem_cons_of_mem _ hs))
    · rintro ⟨h1, h2⟩
      cases s with
      | nil => simp at h1
      | cons d t =>
        have := hq (d :: t) List.mem_cons_self
        simp only [List.isPrefixOf, Bool.and_eq_true, beq_iff_eq] at h2
        exact this (by rw [h2.1]; rfl)
def kname : Nat → Nat
  | 0 => 7 | 1 => 1 | 2 => 3 | 3 => 4 | 4 => 5 | _ => 6
theorem kinds_eq (n : Nat → Nat) (m : Nat) (k : Nat) (h : n m = k) (hk : 0 < k) (hm : m < 6) (hz : ∀ j, j < m → n j = 0) : kinds n = (kname m, k) := by
  unfold kinds
  rcases (by omega : m = 0 ∨ m = 1 ∨ m = 2 ∨ m = 3 ∨ m = 4 ∨ m = 5) with rfl | rfl | rfl | rfl | rfl | rfl
  · rw [h, if_pos hk]; rfl
  · rw [hz 0 (by omega), h, if_neg (by omega), if_pos hk]; rfl
  · rw [hz 0 (by omega), hz 1 (by omega), h, if_neg (by omega), if_neg (by omega), if_pos hk]; rfl
  · rw [hz 0 (by omega), hz 1 (by omega), hz 2 (by omega), h, if_neg (by omega), if_neg (by omega), if_neg (by omega), if_pos hk]; rfl
  · rw [hz 0 (by omega), hz 1 (by omega), hz 2 (by omega), hz 3 (by omega), h, if_neg (by omega), if_neg (by omega), if_neg (by omega), if_neg (by omega), if_pos hk]; rfl
  · rw [hz 0 (by omega), hz 1 (by omega), hz 2 (by omega), hz 3 (by omega), hz 4 (by omega), h, if_neg (by omega), if_neg (by omega), if_neg (by omega), if_neg (by omega), if_neg (by omega), if_pos hk]; rfl
theorem kinds_odd (n : Nat → Nat) (hz : ∀ j, j < 6 → n j = 0) : kinds n = (8, 1) := by
  unfold kinds
  rw [hz 0 (by omega), hz 1 (by omega), hz 2 (by omega), hz 3 (by omega), hz 4 (by omega), hz 5 (by omega)]
  rfl
theorem kinds_sign (n : Nat → Nat) (hz : ∀ j, j < 5 → n j = 0) : kinds n = if n 5 = 0 then (8, 1) else (6, n 5) := by
  by_cases h : n 5 = 0
  · rw [if_pos h]
    refine kinds_odd n fun j hj => ?_
    rcases Nat.lt_or_ge j 5 with h1 | h1
    · exact hz j h1
    · rw [show j = 5 by omega]; exact h
  · rw [if_neg h]
    exact kinds_eq n 5 _ rfl (by omega) (by omega) hz
theorem tok_cons (keys signs : List B) (f : Bool) (c : UInt8) (r : B) : tok keys signs f (c :: r) = if c = 35 ∧ f = true then (7, lineLen r)
    else if isL c then (if keys.contains ((c :: r).takeWhile isLD) then 2 else 1, nameLen (c :: r))
    else if isD c || (c == 46 && isD (r.headD 0)) then (3, numRest c r + 1)
    else if c = 39 ∨ c = 34 then
      match quoted c r with
      | some n => (if c = 34 then 5 else 4, n + 1)
      | none => (8, 1)
    else if signLen signs (c :: r) = 0 then (8, 1) else (6, signLen signs (c :: r)) := rfl
/-- the token at a place: its kind and length out of the six lengths -/
theorem tok_kinds (keys signs : List B) (f : Bool) (c : UInt8) (r : B) (h39 : ∀ s ∈ signs, s.head? ≠ some 39) (h34 : ∀ s ∈ signs, s.head? ≠ some 34) :
    (tok keys signs f (c :: r)).2 = (kinds (nOf signs f c r)).2 ∧
    (tok keys signs f (c :: r)).1 = (if (kinds (nOf signs f c r)).1 = 1 ∧ keys.contains ((c :: r).take (kinds (nOf signs f c r)).2) = true then 2 else (kinds (nOf signs f c r)).1) ∧
    0 < (tok keys signs f (c :: r)).2 ∧ (tok keys signs f (c :: r)).2 ≤ r.length + 1 := by
  rw [tok_cons]
  by_cases h1 : c = 35 ∧ f = true
  · have hk := kinds_eq (nOf signs f c r) 0 (lineLen r) (by simp [nOf, h1]) (lineLen_pos r).1 (by omega) (fun j hj => by omega)
    rw [hk, if_pos h1]
    exact ⟨rfl, by simp [kname], lineLen_pos r⟩
  · have z0 : nOf signs f c r 0 = 0 := by simp only [nOf]; rw [if_neg h1]
    rw [if_neg h1]
    by_cases h2 : isL c = true
    · have hk := kinds_eq (nOf signs f c r) 1 (nameLen (c :: r)) (by simp [nOf, h2]) (nameLen_pos c r h2) (by omega) (fun j hj => by rw [show j = 0 by omega]; exact z0)
      rw [hk, if_pos h2]
      have ht : (c :: r).take (nameLen (c :: r)) = (c :: r).takeWhile isLD := by
        unfold nameLen
        exact (List.prefix_iff_eq_take.mp (List.takeWhile_prefix _)).symm
      refine ⟨rfl, ?_, nameLen_pos c r h2, nameLen_le _⟩
      simp only [ht]
      simp [kname]
    · have z1 : nOf signs f c r 1 = 0 := by simp only [nOf]; rw [if_neg h2]
      rw [if_neg h2]
      by_cases h3 : (isD c || (c == 46 && isD (r.headD 0))) = true
      · have hk := kinds_eq (nOf signs f c r) 2 (numRest c r + 1) (by simp only [nOf]; rw [if_pos h3]) (by omega) (by omega) (fun j hj => by rcases (by omega : j = 0 ∨ j = 1) with rfl | rfl <;> assumption)
        rw [hk, if_pos h3]
        exact ⟨rfl, by simp [kname], by show 0 < numRest c r + 1; omega, by have := numRest_le r c; show numRest c r + 1 ≤ _; omega⟩
      · have z2 : nOf signs f c r 2 = 0 := by simp only [nOf]; rw [if_neg h3]
        rw [if_neg h3]
        by_cases h4 : c = 39
        · subst h4
          rw [if_pos (Or.inl rfl)]
          cases hq : quoted 39 r with
          | some q =>
            have hb := quoted_le 39 _ r (Nat.le_refl _) q hq
            have hk := kinds_eq (nOf signs f 39 r) 3 (1 + q) (by simp [nOf, hq, qlen]) (by omega) (by omega) (fun j hj => by rcases (by omega : j = 0 ∨ j = 1 ∨ j = 2) with rfl | rfl | rfl <;> assumption)
            rw [hk]
            exact ⟨by show q + 1 = 1 + q; omega, by simp [kname], by show 0 < q + 1; omega, by show q + 1 ≤ _; omega⟩
          | none =>
            have hk := kinds_odd (nOf signs f 39 r) (fun j hj => by
              rcases (by omega : j = 0 ∨ j = 1 ∨ j = 2 ∨ j = 3 ∨ j = 4 ∨ j = 5) with rfl | rfl | rfl | rfl | rfl | rfl
              · exact z0
              · exact z1
              · exact z2
              · simp [nOf, hq, qlen]
              · simp [nOf]
              · exact signLen_no signs 39 r h39)
            rw [hk]
            exact ⟨rfl, by simp, by show 0 < 1; omega, by show 1 ≤ _; omega⟩
        · have z3 : nOf signs f c r 3 = 0 := by simp only [nOf]; rw [if_neg h4]
          by_cases h5 : c = 34
          · subst h5
            rw [if_pos (Or.inr rfl)]
            cases hq : quoted 34 r with
            | some q =>
              have hb := quoted_le 34 _ r (Nat.le_refl _) q hq
              have hk := kinds_eq (nOf signs f 34 r) 4 (1 + q) (by simp [nOf, hq, qlen]) (by omega) (by omega) (fun j hj => by rcases (by omega : j = 0 ∨ j = 1 ∨ j = 2 ∨ j = 3) with rfl | rfl | rfl | rfl <;> assumption)
              rw [hk]
              exact ⟨by show q + 1 = 1 + q; omega, by simp [kname], by show 0 < q + 1; omega, by show q + 1 ≤ _; omega⟩
            | none =>
              have hk := kinds_odd (nOf signs f 34 r) (fun j hj => by
                rcases (by omega : j = 0 ∨ j = 1 ∨ j = 2 ∨ j = 3 ∨ j = 4 ∨ j = 5) with rfl | rfl | rfl | rfl | rfl | rfl
                · exact z0
                · exact z1
                · exact z2
                · exact z3
                · simp [nOf, hq, qlen]
                · exact signLen_no signs 34 r h34)
              rw [hk]
              exact ⟨rfl, by simp, by show 0 < 1; omega, by show 1 ≤ _; omega⟩
          · have z4 : nOf signs f c r 4 = 0 := by simp only [nOf]; rw [if_neg h5]
            have hk := kinds_sign (nOf signs f c r) (fun j hj => by rcases (by omega : j = 0 ∨ j = 1 ∨ j = 2 ∨ j = 3 ∨ j = 4) with rfl | rfl | rfl | rfl | rfl <;> assumption)
            rw [hk, if_neg (fun h => h.elim h4 h5)]
            have h5' : nOf signs f c r 5 = signLen signs (c :: r) := rfl
            rw [h5']
            have hb := signLen_le signs (c :: r)
            simp only [List.length_cons] at hb
            by_cases h6 : signLen signs (c :: r) = 0
            · rw [if_pos h6]; exact ⟨rfl, by simp, by show 0 < 1; omega, by show 1 ≤ _; omega⟩
            · rw [if_neg h6]; exact ⟨rfl, by simp, by show 0 < signLen signs (c :: r); omega, hb⟩
end Go.Proofs.YtabnmkakgcifoaaDoor.Lx

