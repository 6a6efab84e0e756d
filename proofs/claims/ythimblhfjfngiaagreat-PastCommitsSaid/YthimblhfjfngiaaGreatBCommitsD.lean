/- PastCommits holds: for all steps and every number the statement answers true. Part 4 of 20. -/
import Derived.Test.YthimblhfjfngiaaGreatBCommitsC
import Derived.Test.YthimblhfjfngiaaGreatProg
namespace Go.Proofs.YthimblhfjfngiaaGreat
def bA (n m : Nat) : Array Bool := ((List.range n).map fun i => m.testBit i).toArray
theorem q1_ {α : Type} {i : Nat} {l : List α} {x : α} : l.toArray.setIfInBounds i x = (l.set i x).toArray := List.setIfInBounds_toArray ..
theorem q2_ {α : Type} {l : List α} {x y : α} : (x :: l).set 0 y = y :: l := List.set_cons_zero
theorem q3_ {α : Type} {l : List α} {n : Nat} {x y : α} : (x :: l).set (n + 1) y = x :: l.set n y := List.set_cons_succ
end Go.Proofs.YthimblhfjfngiaaGreat
namespace Go.Proofs.YthimblhfjfngiaaGreatW.PrintLast
open Go.Proofs.YthimblhfjfngiaaGreat (bA q1_ q2_ q3_)
open Go.Proofs.YthimblhfjfngiaaGreatW.PrintWords (Aside0)
open Go.RowKit
section
variable {P : Program} {ops : Array Oper} {Q : Exit → Act → World → Prop} {md : Region.Mode} {S : World → Prop} {ds : List Nat} {T : Bool × List (List Nat × List Nat)} {B : List Nat} {oi : Oper} {v : Value} {fuel : Nat} {l : Array Bool} {a a' : Act} {w : World}
theorem pu_ (i nt : Nat) (l' : Array Bool) (hT : Aside0 (rtab md ops = T)) (h : wpAnyLast P md ops Q S ds fuel l' a' w)
  (hi : ops[i]? = some oi := by exact rfl) (hN : oi.dst = some nt := by exact rfl) (hc : anyT T l.toList l'.toList i = true := by kernel_rfl) (hQ : ∀ c a w, Q (.panic c) (a.put oi.dst v) w → Q (.panic c) a w := by exact fun _ _ _ h => h)
  (hw : Region.wanted oi (yielded ops a.tmps) = true := by rfl) (hv : ∀ w, (execOp a.eval oi).run P w = .ok (.value v) w := by (intro w'; go_simp; with_reducible rfl))
  (ha : a.put (some nt) v = a' := by (simp only [Act.put, q1_, q2_, q3_, i64_w, i32_w]; rfl)) : wpAnyLast P md ops Q S ds (fuel + 1) l a w :=
 pure_ l' hi hN (any_of hT.out hc) hQ (Or.inl ⟨hw, hv⟩) ha h
theorem pz_ (i nt : Nat) (l' : Array Bool) (hT : Aside0 (rtab md ops = T)) (h : wpAnyLast P md ops Q S ds fuel l' a' w)
  (hi : ops[i]? = some oi := by exact rfl) (hN : oi.dst = some nt := by exact rfl) (hc : anyT T l.toList l'.toList i = true := by kernel_rfl) (hQ : ∀ c a w, Q (.panic c) (a.put oi.dst undef) w → Q (.panic c) a w := by exact fun _ _ _ h => h)
  (hw : Region.wanted oi (yielded ops a.tmps) = false := by rfl)
  (ha : a.put (some nt) undef = a' := by (simp only [Act.put, q1_, q2_, q3_, i64_w, i32_w]; rfl)) : wpAnyLast P md ops Q S ds (fuel + 1) l a w :=
 pure_ l' hi hN (any_of hT.out hc) hQ (Or.inr ⟨hw, rfl⟩) ha h
theorem tk_ (i nt : Nat) (l' : Array Bool) (hi : ops[i]? = some oi) (hT : Aside0 (rtab md ops = T)) (hB : Aside0 (waitsOk T.2 B = true)) (hH : S w) (hv : ∀ w', S w' → (execOp a.eval oi).run P w' = .ok (.value v) w') (h : wpAnyLast P md ops Q S ds fuel l' a' w)
  (hN : oi.dst = some nt := by exact rfl) (hc : takeW T B ds l.toList l'.toList i = true := by kernel_rfl) (hQ : ∀ c a w, Q (.panic c) (a.put oi.dst v) w → Q (.panic c) a w := by exact fun _ _ _ h => h)
  (hw : Region.wanted oi (yielded ops a.tmps) = true := by rfl)
  (ha : a.put (some nt) v = a' := by (simp only [Act.put, q1_, q2_, q3_, i64_w, i32_w]; rfl)) : wpAnyLast P md ops Q S ds (fuel + 1) l a w :=
 take_ l' hi hN (take_ofW hT.out hB.out hc) hQ (Or.inl ⟨hw, hv⟩) hH ha h
end
end Go.Proofs.YthimblhfjfngiaaGreatW.PrintLast

namespace Go.Proofs.YthimblhfjfngiaaGreat.PText
open Go.RowKit Go.Proofs.YthimblhfjfngiaaGreatW.PrintWords Go.Proofs.YthimblhfjfngiaaGreatW.PrintLast Go.Proofs.YthimblhfjfngiaaGreatW.PrintMore
attribute [local go_sem] max2_int min2_int max_two min_two max_three min_three max_four min_four   -- for this text's walks alone
set_option linter.unusedVariables false
set_option linter.unusedSimpArgs false



def errW : Option Int → Value
 | none => .nilIface
 | some c => .iface 0 (.int .i64 c)
theorem errW_none : errW none = .nilIface := rfl
theorem errW_some (c : Int) : errW (some c) = .iface 0 (.int .i64 c) := rfl

theorem info3 : (Tryz.prog.info? 3).map (fun i => (i.zero, i.size, i.bytes)) = some (some (.int .i64 0), 1, 8) := by kernel_rfl
theorem info9 : (Tryz.prog.info? 9).map (fun i => (i.zero, i.size, i.bytes)) = some (some (.string ⟨#[]⟩), 1, 16) := by kernel_rfl
theorem info41 : (Tryz.prog.info? 41).map (fun i => (i.zero, i.size, i.bytes)) = some (some (.agg #[(.string ⟨#[]⟩), (.string ⟨#[]⟩)]), 2, 32) := by kernel_rfl
theorem info91 : (Tryz.prog.info? 91).map (fun i => (i.zero, i.size, i.bytes)) = some (some (.agg #[(.int .i64 0), (.int .i64 0), (.string ⟨#[]⟩)]), 3, 32) := by kernel_rfl
theorem info119 : (Tryz.prog.info? 119).map (fun i => (i.zero, i.size, i.bytes)) = some (some (.agg #[(.int .u8 0), (.string ⟨#[]⟩)]), 2, 24) := by kernel_rfl
-- the values' own types
structure S41 where
 f0 : ByteArray
 f1 : ByteArray
def z41 : S41 := ⟨(⟨#[]⟩ : ByteArray), (⟨#[]⟩ : ByteArray)⟩
def k41 : Kd S41 := Kd.iso (Kd.pair Kd.string Kd.string) (fun x : S41 => (x.f0, x.f1))
theorem k41_open {w : World} {x : S41} {cs : List Value} (h : k41.K w x cs) : cs = [.string x.f0, .string x.f1] := by
 obtain ⟨_, _, rfl, rfl, rfl⟩ := h
 exact rfl
theorem k41_openM {w : World} {base : Nat} {ok : Nat → Prop} {x : S41} {cs : List Value} (h : k41.M w base ok x cs) : cs = [.string x.f0, .string x.f1] := by
 obtain ⟨_, _, rfl, rfl, rfl⟩ := h
 exact rfl
theorem k41_mk (w : World) (x : S41)  : k41.K w x [.string x.f0, .string x.f1] := ⟨[.string x.f0], [.string x.f1], rfl, rfl, rfl⟩
theorem k41_mkM (w : World) (base : Nat) (ok : Nat → Prop) (x : S41)  : k41.M w base ok x [.string x.f0, .string x.f1] := ⟨[.string x.f0], [.string x.f1], rfl, rfl, rfl⟩
def rd_T41 (xs : List S41) (i : Int) : S41 := xs.getD i.toNat z41
theorem at_T41 {w : World} {A : Option Addr} {n : Nat} {xs : List S41} (h : Kd.C k41 w A n xs) (i : Int) (h0 : 0 ≤ i) (h1 : i < n) : ∃ ad , A = some ad ∧ w.cell? (ad.add (i.toNat * 2)) = some (.string (rd_T41 xs i).f0) ∧ w.cell? ⟨(ad.add (i.toNat * 2)).block, (ad.add (i.toNat * 2)).off + 1, none⟩ = some (.string (rd_T41 xs i).f1) := by
 obtain ⟨ad, c, e, _, hK, hc0⟩ := Kd.C_get h z41 i h0 h1
 have hc : ∀ j u, c[j]? = some u → w.cell? (ad.add (i.toNat * 2 + j)) = some u := hc0
 obtain rfl := k41_open hK
 exact ⟨ad, e, hc 0 _ rfl, by rw [← add_field _ _ 1 (by omega)]; exact hc 1 _ rfl⟩

def rd_L2 (xs : List (List S41)) (i : Int) : (List S41) := xs.getD i.toNat ([] : List S41)
theorem at_L2 {w : World} {A : Option Addr} {n : Nat} {xs : List (List S41)} (h : Kd.C (Kd.slice 41 k41) w A n xs) (i : Int) (h0 : 0 ≤ i) (h1 : i < n) : ∃ ad A0 c0, A = some ad ∧ w.cell? (ad.add i.toNat) = some (.slice A0 (rd_L2 xs i).length c0) ∧ (rd_L2 xs i).length ≤ c0 ∧ k41.C w A0 (rd_L2 xs i).length (rd_L2 xs i) := by
 obtain ⟨ad, c, e, _, hK, hc0⟩ := Kd.C_get h ([] : List S41) i h0 h1
 have hc : ∀ j u, c[j]? = some u → w.cell? (ad.add (i.toNat * 1 + j)) = some u := hc0
 obtain ⟨A0, c0, rfl, l0, g0⟩ := hK
 exact ⟨ad, A0, c0, e, by have hq := hc 0 _ rfl; rwa [Nat.mul_one, Nat.add_zero] at hq, l0, g0⟩

structure S39 where
 f0 : ByteArray
 f1 : (List S41)
def z39 : S39 := ⟨(⟨#[]⟩ : ByteArray), ([] : List S41)⟩
def k39 : Kd S39 := Kd.iso (Kd.pair Kd.string (Kd.slice 41 k41)) (fun x : S39 => (x.f0, x.f1))
theorem k39_open {w : World} {x : S39} {cs : List Value} (h : k39.K w x cs) : ∃ A1 c1, cs = [.string x.f0, .slice A1 x.f1.length c1] ∧ x.f1.length ≤ c1 ∧ k41.C w A1 x.f1.length x.f1 := by
 obtain ⟨_, _, rfl, rfl, ⟨A1, c1, rfl, l1, g1⟩⟩ := h
 exact ⟨A1, c1, rfl, l1, g1⟩
theorem k39_mk (w : World) (x : S39) {A1 : Option Addr} {c1 : Nat} (l1 : x.f1.length ≤ c1) (g1 : k41.C w A1 x.f1.length x.f1) : k39.K w x [.string x.f0, .slice A1 x.f1.length c1] := ⟨[.string x.f0], [.slice A1 x.f1.length c1], rfl, rfl, ⟨A1, c1, rfl, l1, g1⟩⟩
def rd_T39 (xs : List S39) (i : Int) : S39 := xs.getD i.toNat z39
theorem at_T39 {w : World} {A : Option Addr} {n : Nat} {xs : List S39} (h : Kd.C k39 w A n xs) (i : Int) (h0 : 0 ≤ i) (h1 : i < n) : ∃ ad A1 c1, A = some ad ∧ w.cell? (ad.add (i.toNat * 2)) = some (.string (rd_T39 xs i).f0) ∧ w.cell? ⟨(ad.add (i.toNat * 2)).block, (ad.add (i.toNat * 2)).off + 1, none⟩ = some (.slice A1 (rd_T39 xs i).f1.length c1) ∧ (rd_T39 xs i).f1.length ≤ c1 ∧ k41.C w A1 (rd_T39 xs i).f1.length (rd_T39 xs i).f1 := by
 obtain ⟨ad, c, e, _, hK, hc0⟩ := Kd.C_get h z39 i h0 h1
 have hc : ∀ j u, c[j]? = some u → w.cell? (ad.add (i.toNat * 2 + j)) = some u := hc0
 obtain ⟨A1, c1, rfl, l1, g1⟩ := k39_open hK
 exact ⟨ad, A1, c1, e, hc 0 _ rfl, by rw [← add_field _ _ 1 (by omega)]; exact hc 1 _ rfl, l1, g1⟩

structure S119 where
 f0 : Int
 f1 : ByteArray
def z119 : S119 := ⟨(0 : Int), (⟨#[]⟩ : ByteArray)⟩
def k119 : Kd S119 := Kd.iso (Kd.pair (Kd.int .u8) Kd.string) (fun x : S119 => (x.f0, x.f1))
theorem k119_open {w : World} {x : S119} {cs : List Value} (h : k119.K w x cs) : cs = [.int .u8 x.f0, .string x.f1] := by
 obtain ⟨_, _, rfl, rfl, rfl⟩ := h
 exact rfl
theorem k119_mkM (w : World) (base : Nat) (ok : Nat → Prop) (x : S119)  : k119.M w base ok x [.int .u8 x.f0, .string x.f1] := ⟨[.int .u8 x.f0], [.string x.f1], rfl, rfl, rfl⟩
def rd_T119 (xs : List S119) (i : Int) : S119 := xs.getD i.toNat z119
theorem at_T119 {w : World} {A : Option Addr} {n : Nat} {xs : List S119} (h : Kd.C k119 w A n xs) (i : Int) (h0 : 0 ≤ i) (h1 : i < n) : ∃ ad , A = some ad ∧ w.cell? (ad.add (i.toNat * 2)) = some (.int .u8 (rd_T119 xs i).f0) ∧ w.cell? ⟨(ad.add (i.toNat * 2)).block, (ad.add (i.toNat * 2)).off + 1, none⟩ = some (.string (rd_T119 xs i).f1) := by
 obtain ⟨ad, c, e, _, hK, hc0⟩ := Kd.C_get h z119 i h0 h1
 have hc : ∀ j u, c[j]? = some u → w.cell? (ad.add (i.toNat * 2 + j)) = some u := hc0
 obtain rfl := k119_open hK
 exact ⟨ad, e, hc 0 _ rfl, by rw [← add_field _ _ 1 (by omega)]; exact hc 1 _ rfl⟩

structure S91 where
 f0 : Int
 f1 : Int
 f2 : ByteArray
def z91 : S91 := ⟨(0 : Int), (0 : Int), (⟨#[]⟩ : ByteArray)⟩
def k91 : Kd S91 := Kd.iso (Kd.pair (Kd.int .i64) (Kd.pair (Kd.int .i64) Kd.string)) (fun x : S91 => (x.f0, x.f1, x.f2))
theorem k91_open {w : World} {x : S91} {cs : List Value} (h : k91.K w x cs) : cs = [.int .i64 x.f0, .int .i64 x.f1, .string x.f2] := by
 obtain ⟨_, _, rfl, rfl, ⟨_, _, rfl, rfl, rfl⟩⟩ := h
 exact rfl
theorem k91_openM {w : World} {base : Nat} {ok : Nat → Prop} {x : S91} {cs : List Value} (h : k91.M w base ok x cs) : cs = [.int .i64 x.f0, .int .i64 x.f1, .string x.f2] := by
 obtain ⟨_, _, rfl, rfl, ⟨_, _, rfl, rfl, rfl⟩⟩ := h
 exact rfl
theorem k91_mkM (w : World) (base : Nat) (ok : Nat → Prop) (x : S91)  : k91.M w base ok x [.int .i64 x.f0, .int .i64 x.f1, .string x.f2] := ⟨[.int .i64 x.f0], [.int .i64 x.f1, .string x.f2], rfl, rfl, ⟨[.int .i64 x.f1], [.string x.f2], rfl, rfl, rfl⟩⟩
def rd_T91 (xs : List S91) (i : Int) : S91 := xs.getD i.toNat z91
theorem at_T91 {w : World} {A : Option Addr} {n : Nat} {xs : List S91} (h : Kd.C k91 w A n xs) (i : Int) (h0 : 0 ≤ i) (h1 : i < n) : ∃ ad , A = some ad ∧ w.cell? (ad.add (i.toNat * 3)) = some (.int .i64 (rd_T91 xs i).f0) ∧ w.cell? ⟨(ad.add (i.toNat * 3)).block, (ad.add (i.toNat * 3)).off + 1, none⟩ = some (.int .i64 (rd_T91 xs i).f1) ∧ w.cell? ⟨(ad.add (i.toNat * 3)).block, (ad.add (i.toNat * 3)).off + 2, none⟩ = some (.string (rd_T91 xs i).f2) := by
 obtain ⟨ad, c, e, _, hK, hc0⟩ := Kd.C_get h z91 i h0 h1
 have hc : ∀ j u, c[j]? = some u → w.cell? (ad.add (i.toNat * 3 + j)) = some u := hc0
 obtain rfl := k91_open hK
 exact ⟨ad, e, hc 0 _ rfl, by rw [← add_field _ _ 1 (by omega)]; exact hc 1 _ rfl, by rw [← add_field _ _ 2 (by omega)]; exact hc 2 _ rfl⟩

structure S95 where
 f0 : Int
 f1 : ByteArray
structure S138 where
 f0 : Int
 f1 : Int
def IsS58 (w0 W : World) (g : Nat) (f0 : List ByteArray) (f1 : List (List (S41))) : Prop := ∃ A0 c0, ∃ A1 c1, W.heap[g]? = some (.cells #[.slice A0 f0.length c0, .slice A1 f1.length c1] 58 (0, 0)) ∧ True ∧ Kd.C Kd.string w0 A0 f0.length f0 ∧ Kd.C (Kd.slice 41 k41) w0 A1 f1.length f1
theorem IsS58.grown {w0 W : World} {g : Nat} {f0 : List ByteArray} {f1 : List (List (S41))} {W1 : World} {row : Option Nat} (h : IsS58 w0 W g f0 f1) (hw : W.grownBy W1 row) (hne : some g ≠ row) : IsS58 w0 W1 g f0 f1 := by
 obtain ⟨A0, c0, A1, c1, hb, hg, hr0, hr1⟩ := h
 exact ⟨A0, c0, A1, c1, blk_grown hb hw hne, hg, hr0, hr1⟩
theorem IsS58.kept {w0 W : World} {g : Nat} {f0 : List ByteArray} {f1 : List (List (S41))} {W1 : World} {S : Nat → Prop} (h : IsS58 w0 W g f0 f1) (hk : Kept W W1 S) (hne : ¬ S g) : IsS58 w0 W1 g f0 f1 := by
 obtain ⟨A0, c0, A1, c1, hb, hg, hr0, hr1⟩ := h
 exact ⟨A0, c0, A1, c1, blk_kept hb hk hne, hg, hr0, hr1⟩
theorem IsS58.below {w0 W : World} {g : Nat} {f0 : List ByteArray} {f1 : List (List (S41))} {W1 : World} (h : IsS58 w0 W g f0 f1) (hw : Below W.heap.size W W1) : IsS58 w0 W1 g f0 f1 := h.grown (grown_of_below hw none) (by simp)
theorem IsS58.alloc {w0 W : World} {g : Nat} {f0 : List ByteArray} {f1 : List (List (S41))} (h : IsS58 w0 W g f0 f1) (o : Obj) : IsS58 w0 (W.alloc o) g f0 f1 := h.below (below_alloc (Below.refl _ _) o)
theorem IsS58.drewN {w0 W : World} {g : Nat} {f0 : List ByteArray} {f1 : List (List (S41))} (h : IsS58 w0 W g f0 f1) (m : Nat) : IsS58 w0 (W.drewN m) g f0 f1 := h
theorem IsS58.drew {w0 W : World} {g : Nat} {f0 : List ByteArray} {f1 : List (List (S41))} (h : IsS58 w0 W g f0 f1) : IsS58 w0 W.drew g f0 f1 := h
theorem IsS58.at_ {w0 W : World} {g : Nat} {f0 : List ByteArray} {f1 : List (List (S41))} {w' : World} {m : Nat} (hq : W.drewN m = w') (h : IsS58 w0 W g f0 f1) : IsS58 w0 w' g f0 f1 := by subst hq; exact IsS58.drewN h m
theorem IsS58.apart {w0 W : World} {g : Nat} {f0 : List ByteArray} {f1 : List (List (S41))} {α : Type} {d : Kd α} {e : Nat} {base : Nat} {ok : Nat → Prop} {v : Value} {xs : List α} (h : IsS58 w0 W g f0 f1) (ho : d.R e W base ok v xs) (ht : ∀ q, q ∈ e :: d.E → q ≠ 58) : d.R e W base (fun k => ok k ∧ k ≠ g) v xs := by
 obtain ⟨A0, c0, A1, c1, hb, hg, hr0, hr1⟩ := h
 exact Kd.R_types ho hb ht
theorem IsS58.own_ne {w0 W : World} {g : Nat} {f0 : List ByteArray} {f1 : List (List (S41))} {α : Type} {d : Kd α} {e : Nat} {base : Nat} {ok : Nat → Prop} {v : Value} {xs : List α} (h : IsS58 w0 W g f0 f1) (ho : d.R e W base ok v xs) (ht : e ≠ 58) : some g ≠ v.ownBlock := by
 obtain ⟨A0, c0, A1, c1, hb, hg, hr0, hr1⟩ := h
 exact Kd.R_ne ho hb ht
theorem IsS58.lt {w0 W : World} {g : Nat} {f0 : List ByteArray} {f1 : List (List (S41))} (h : IsS58 w0 W g f0 f1) : g < W.heap.size := by
 obtain ⟨A0, c0, A1, c1, hb, hg, hr0, hr1⟩ := h
 exact blk_lt hb
theorem IsS58.far {w0 W : World} {g : Nat} {f0 : List ByteArray} {f1 : List (List (S41))} {p : Addr} (h : IsS58 w0 W g f0 f1) (hne : g ≠ p.block) (u : Value) : IsS58 w0 (W.setCell p u) g f0 f1 := by
 obtain ⟨A0, c0, A1, c1, hb, hg, hr0, hr1⟩ := h
 exact ⟨A0, c0, A1, c1, blk_far hb hne u, hg, hr0, hr1⟩
theorem cellS58_0 {W : World} {g : Nat} {A0 : Option Addr} {c0 : Nat} {A1 : Option Addr} {c1 : Nat} {f0 : List ByteArray} {f1 : List (List (S41))} (h : W.heap[g]? = some (.cells #[.slice A0 f0.length c0, .slice A1 f1.length c1] 58 (0, 0))) : W.cell? ⟨g, 0, none⟩ = some (.slice A0 f0.length c0) := (blk_cell h 0).trans rfl
theorem cellS58_1 {W : World} {g : Nat} {A0 : Option Addr} {c0 : Nat} {A1 : Option Addr} {c1 : Nat} {f0 : List ByteArray} {f1 : List (List (S41))} (h : W.heap[g]? = some (.cells #[.slice A0 f0.length c0, .slice A1 f1.length c1] 58 (0, 0))) : W.cell? ⟨g, 1, none⟩ = some (.slice A1 f1.length c1) := (blk_cell h 1).trans rfl
theorem IsS58.new (w0 W : World) (A0 : Option Addr) (c0 : Nat) (A1 : Option Addr) (c1 : Nat) (f0 : List ByteArray) (f1 : List (List (S41))) (hB : Below w0.heap.size w0 W) (hr0 : Kd.C Kd.string w0 A0 f0.length f0) (hr1 : Kd.C (Kd.slice 41 k41) w0 A1 f1.length f1) : IsS58 w0 (W.alloc (.cells #[.slice A0 f0.length c0, .slice A1 f1.length c1] 58)) W.heap.size f0 f1 := ⟨A0, c0, A1, c1, by simpa using heap_alloc_new W _, trivial, hr0, hr1⟩

end Go.Proofs.YthimblhfjfngiaaGreat.PText

namespace Go.Proofs.YthimblhfjfngiaaGreat.PText
open Go.RowKit Go.Proofs.YthimblhfjfngiaaGreatW.PrintWords Go.Proofs.YthimblhfjfngiaaGreatW.PrintLast Go.Proofs.YthimblhfjfngiaaGreatW.PrintMore
attribute [local go_sem] max2_int min2_int max_two min_two max_three min_three max_four min_four   -- for this text's walks alone
set_option linter.unusedVariables false
set_option linter.unusedSimpArgs false

def rf0_Has.l0 : Nat → List ByteArray → ByteArray → Int → Option (Int)
 | 0, _, _, _ => none
 | k + 1, x0, x1, x5 => if x5 < (x0.length : Int) then (if 0 ≤ x5 then (if (rdOf ByteArray.empty x0 x5).toList = x1.toList then (some x5) else (rf0_Has.l0 k x0 x1 (wrap64 (x5 + 1)))) else (none)) else (some (-1))
def rf0_Has.f (k : Nat) (l0 : List ByteArray) (a1 : ByteArray) : Option (Int) := rf0_Has.l0 k l0 a1 0
set_option maxHeartbeats 8000000 in
set_option maxRecDepth 100000 in
theorem rf0_Has.calls (k : Nat) (A0 : Option Addr) (c0 : Nat) (l0 : List ByteArray) (a1 : ByteArray) (r : Int) (w : World) (hr0 : Kd.C Kd.string w A0 l0.length l0) (hc0 : l0.length ≤ c0) (h : rf0_Has.f k l0 a1 = some r) :
  Calls Tryz.prog 56 #[.slice A0 l0.length c0, .string a1] w fun e w' => e = .returned (.int .i64 r) ∧ Drawn0 w w' := by
 have HR0 := Aside0.mk hr0
 have HC0 := Aside0.mk hc0
 clear hr0 hc0
 have H : (rf0_Has.l0 k l0 a1 0) = some r := h
 clear h
 have H' := Aside0.mk H
 clear H
 go_enter Tryz.func56, Tryz.ntmps56
 go_wp2
 try simp only [Act.put, List.setIfInBounds_toArray, List.set_cons_succ, List.set_cons_zero]
 go_loopg [5] k (fun kq v5 w' => ∃ (x5_1 : Int), v5 = .int .i64 x5_1 ∧ Aside0 (rf0_Has.l0 kq l0 a1 x5_1 = some r) ∧ Aside0 (kq ≤ k) ∧ Drawn0 w w')
 case atStart => exact ⟨(0), (by first | rfl | (simp; done) | (simp [*]; done)), H', ⟨Nat.le_refl _⟩, by repeat (first | exact Drawn0.refl _ | apply Drawn0.step)⟩
 case round =>
  clear H'
  try clear p2
  obtain ⟨x5_1, rfl, HA, HK1, ⟨m1, rfl⟩⟩ := hrel
  cases gk with
  | zero => exact absurd HA.out (by simp [rf0_Has.l0])
  | succ k1 =>
   have H := HA.out
   clear HA
   simp only [rf0_Has.l0] at H
   by_cases c3 : x5_1 < (l0.length : Int)
   ·rw [if_pos c3] at H
    have c3b0 : decide (x5_1 < (l0.length : Int)) = true := decide_eq_true c3
    clear c3
    by_cases c4 : 0 ≤ x5_1
    ·rw [if_pos c4] at H
     have c4b0 : decide (0 ≤ x5_1) = true := decide_eq_true c4
     clear c4
     by_cases c5 : (rdOf ByteArray.empty l0 x5_1).toList = a1.toList
     ·rw [if_pos c5] at H
      have c5b0 : ((rdOf ByteArray.empty l0 x5_1).toList == a1.toList) = true := beq_iff_eq.mpr c5
      have c5b1 : ((rdOf ByteArray.empty l0 x5_1).toList != a1.toList) = false := bne_eq_false_iff_eq.mpr c5
      clear c5
      obtain rfl := Option.some.inj H
      have p322 : 0 ≤ (x5_1 : Int) := of_decide_eq_true (by assumption)
      have q322 : x5_1 < (l0.length : Int) := of_decide_eq_true (by assumption)
      obtain ⟨ad322, e322, hx322_0⟩ := Kd.at_string HR0.out x5_1 p322 q322
      cases e322
      replace p322 := eq_true p322
      replace q322 := eq_true q322
      go_wp2
      go_ret
      exact ⟨by first | rfl | (simp; done) | (simp [*]; done), by repeat (first | exact Drawn0.refl _ | apply Drawn0.step)⟩
     ·rw [if_neg c5] at H
      have c5b0 : ((rdOf ByteArray.empty l0 x5_1).toList == a1.toList) = false := beq_eq_false_iff_ne.mpr c5
      have c5b1 : ((rdOf ByteArray.empty l0 x5_1).toList != a1.toList) = true := bne_iff_ne.mpr c5
      have H' := Aside0.mk H
      clear H
      have p322 : 0 ≤ (x5_1 : Int) := of_decide_eq_true (by assumption)
      have q322 : x5_1 < (l0.length : Int) := of_decide_eq_true (by assumption)
      obtain ⟨ad322, e322, hx322_0⟩ := Kd.at_string HR0.out x5_1 p322 q322
      cases e322
      replace p322 := eq_true p322
      replace q322 := eq_true q322
      go_wp2
      go_roundg k1
      case measure => have := HK1.out; omega
      case rel => exact ⟨(wrap64 (x5_1 + 1)), (by first | rfl | (simp; done) | (simp [*]; done)), H', ⟨by have := HK1.out; omega⟩, by repeat (first | exact Drawn0.refl _ | apply Drawn0.step)⟩
    ·rw [if_neg c4] at H
     exact absurd H (by simp)
   ·rw [if_neg c3] at H
    have c3b0 : decide (x5_1 < (l0.length : Int)) = false := decide_eq_false c3
    clear c3
    obtain rfl := Option.some.inj H
    go_wp2
    go_ret
    exact ⟨by first | rfl | (simp; done) | (simp [*]; done), by repeat (first | exact Drawn0.refl _ | apply Drawn0.step)⟩

end Go.Proofs.YthimblhfjfngiaaGreat.PText

namespace Go.Proofs.YthimblhfjfngiaaGreat.PText
open Go.RowKit Go.Proofs.YthimblhfjfngiaaGreatW.PrintWords Go.Proofs.YthimblhfjfngiaaGreatW.PrintLast Go.Proofs.YthimblhfjfngiaaGreatW.PrintMore
attribute [local go_sem] max2_int min2_int max_two min_two max_three min_three max_four min_four   -- for this text's walks alone
set_option linter.unusedVariables false
set_option linter.unusedSimpArgs false

def smockingref25_find.l0 : Nat → List (S41) → ByteArray → Int → Option (ByteArray × Bool)
 | 0, _, _, _ => none
 | k + 1, x0, x1, x6 => if x6 < (x0.length : Int) then (if 0 ≤ x6 then (if ((rd_T41 x0 x6).f0).toList = x1.toList then (some ((rd_T41 x0 x6).f1, true)) else (smockingref25_find.l0 k x0 x1 (wrap64 (x6 + 1)))) else (none)) else (some ((⟨#[]⟩ : ByteArray), false))
def smockingref25_find.f (k : Nat) (l0 : List (S41)) (a1 : ByteArray) : Option (ByteArray × Bool) := smockingref25_find.l0 k l0 a1 0
set_option maxHeartbeats 8000000 in
set_option maxRecDepth 100000 in
theorem smockingref25_find.calls (k : Nat) (A0 : Option Addr) (c0 : Nat) (l0 : List (S41)) (a1 : ByteArray) (r1 : ByteArray) (r2 : Bool) (w : World) (hr0 : Kd.C k41 w A0 l0.length l0) (hc0 : l0.length ≤ c0) (h : smockingref25_find.f k l0 a1 = some (r1, r2)) :
  Calls Tryz.prog 30 #[.slice A0 l0.length c0, .string a1] w fun e w' => e = .returned (.tuple #[.string r1, .bool r2]) ∧ Drawn0 w w' := by
 have HR0 := Aside0.mk hr0
 have HC0 := Aside0.mk hc0
 clear hr0 hc0
 have H : (smockingref25_find.l0 k l0 a1 0) = some (r1, r2) := h
 clear h
 have H' := Aside0.mk H
 clear H
 go_enter Tryz.func30, Tryz.ntmps30
 go_wp2
 try simp only [Act.put, List.setIfInBounds_toArray, List.set_cons_succ, List.set_cons_zero]
 go_loopg [6] k (fun kq v6 w' => ∃ (x6_1 : Int), v6 = .int .i64 x6_1 ∧ Aside0 (smockingref25_find.l0 kq l0 a1 x6_1 = some (r1, r2)) ∧ Aside0 (kq ≤ k) ∧ Drawn0 w w')
 case atStart => exact ⟨(0), (by first | rfl | (simp; done) | (simp [*]; done)), H', ⟨Nat.le_refl _⟩, by repeat (first | exact Drawn0.refl _ | apply Drawn0.step)⟩
 case round =>
  clear H'
  try clear p2
  obtain ⟨x6_1, rfl, HA, HK1, ⟨m1, rfl⟩⟩ := hrel
  cases gk with
  | zero => exact absurd HA.out (by simp [smockingref25_find.l0])
  | succ k1 =>
   have H := HA.out
   clear HA
   simp only [smockingref25_find.l0] at H
   by_cases c3 : x6_1 < (l0.length : Int)
   ·rw [if_pos c3] at H
    have c3b0 : decide (x6_1 < (l0.length : Int)) = true := decide_eq_true c3
    clear c3
    by_cases c4 : 0 ≤ x6_1
    ·rw [if_pos c4] at H
     have c4b0 : decide (0 ≤ x6_1) = true := decide_eq_true c4
     clear c4
     by_cases c5 : ((rd_T41 l0 x6_1).f0).toList = a1.toList
     ·rw [if_pos c5] at H
      have c5b0 : (((rd_T41 l0 x6_1).f0).toList == a1.toList) = true := beq_iff_eq.mpr c5
      have c5b1 : (((rd_T41 l0 x6_1).f0).toList != a1.toList) = false := bne_eq_false_iff_eq.mpr c5
      clear c5
      simp only [Option.some.injEq, Prod.mk.injEq] at H
      obtain ⟨rfl, rfl⟩ := H
      have p176 : 0 ≤ (x6_1 : Int) := of_decide_eq_true (by assumption)
      have q176 : x6_1 < (l0.length : Int) := of_decide_eq_true (by assumption)
      obtain ⟨ad176, e176, hx176_0, hx176_1⟩ := at_T41 HR0.out x6_1 p176 q176
      cases e176
      replace p176 := eq_true p176
      replace q176 := eq_true q176
      have p177 : 0 ≤ (x6_1 : Int) := of_decide_eq_true (by assumption)
      have q177 : x6_1 < (l0.length : Int) := of_decide_eq_true (by assumption)
      obtain ⟨ad177, e177, hx177_0, hx177_1⟩ := at_T41 HR0.out x6_1 p177 q177
      obtain rfl : ad176 = ad177 := (by injection e177)
      replace p177 := eq_true p177
      replace q177 := eq_true q177
      go_wp2
      go_ret2
      exact ⟨by first | rfl | (simp; done) | (simp [*]; done), by repeat (first | exact Drawn0.refl _ | apply Drawn0.step)⟩
     ·rw [if_neg c5] at H
      have c5b0 : (((rd_T41 l0 x6_1).f0).toList == a1.toList) = false := beq_eq_false_iff_ne.mpr c5
      have c5b1 : (((rd_T41 l0 x6_1).f0).toList != a1.toList) = true := bne_iff_ne.mpr c5
      have H' := Aside0.mk H
      clear H
      have p176 : 0 ≤ (x6_1 : Int) := of_decide_eq_true (by assumption)
      have q176 : x6_1 < (l0.length : Int) := of_decide_eq_true (by assumption)
      obtain ⟨ad176, e176, hx176_0, hx176_1⟩ := at_T41 HR0.out x6_1 p176 q176
      cases e176
      replace p176 := eq_true p176
      replace q176 := eq_true q176
      go_wp2
      go_roundg k1
      case measure => have := HK1.out; omega
      case rel => exact ⟨(wrap64 (x6_1 + 1)), (by first | rfl | (simp; done) | (simp [*]; done)), H', ⟨by have := HK1.out; omega⟩, by repeat (first | exact Drawn0.refl _ | apply Drawn0.step)⟩
    ·rw [if_neg c4] at H
     exact absurd H (by simp)
   ·rw [if_neg c3] at H
    have c3b0 : decide (x6_1 < (l0.length : Int)) = false := decide_eq_false c3
    clear c3
    simp only [Option.some.injEq, Prod.mk.injEq] at H
    obtain ⟨rfl, rfl⟩ := H
    go_wp2
    go_ret2
    exact ⟨by first | rfl | (simp; done) | (simp [*]; done), by repeat (first | exact Drawn0.refl _ | apply Drawn0.step)⟩

end Go.Proofs.YthimblhfjfngiaaGreat.PText

namespace Go.Proofs.YthimblhfjfngiaaGreat.PText
open Go.RowKit Go.Proofs.YthimblhfjfngiaaGreatW.PrintWords Go.Proofs.YthimblhfjfngiaaGreatW.PrintLast Go.Proofs.YthimblhfjfngiaaGreatW.PrintMore
attribute [local go_sem] max2_int min2_int max_two min_two max_three min_three max_four min_four   -- for this text's walks alone
set_option linter.unusedVariables false
set_option linter.unusedSimpArgs false

mutual
def smockingref25_sorted.l0 : Nat → List (S41) → List (S41) → Int → Option ((List (S41)))
 | 0, _, _, _ => none
 | k + 1, x0, x3, x4 => if x4 < (x0.length : Int) then (if 0 ≤ x4 then (if x3.length < 4398046511104 then ((some (x3 ++ [(⟨(rd_T41 x0 x4).f0, (rd_T41 x0 x4).f1⟩ : S41)] : List (S41))).bind fun y107 => (smockingref25_sorted.l1 k x0 y107 x4 (wrap64 ((y107.length : Int) - 1)))) else (none)) else (none)) else (some x3)
def smockingref25_sorted.l1 : Nat → List (S41) → List (S41) → Int → Int → Option ((List (S41)))
 | 0, _, _, _, _ => none
 | k + 1, x0, x3, x4, x5 => if x5 > 0 then (if 0 ≤ x5 then (if x5 < (x3.length : Int) then (if 0 ≤ (wrap64 (x5 - 1)) then (if (wrap64 (x5 - 1)) < (x3.length : Int) then (if (Op.bytesLess (((rd_T41 x3 x5).f0).toList) (((rd_T41 x3 (wrap64 (x5 - 1))).f0).toList)) = true then (smockingref25_sorted.l1 k x0 ((x3.set (x5 : Int).toNat (⟨(rd_T41 x3 (wrap64 (x5 - 1))).f0, (rd_T41 x3 (wrap64 (x5 - 1))).f1⟩ : S41)).set ((wrap64 (x5 - 1)) : Int).toNat (⟨(rd_T41 x3 x5).f0, (rd_T41 x3 x5).f1⟩ : S41)) x4 (wrap64 (x5 - 1))) else (smockingref25_sorted.l0 k x0 x3 (wrap64 (x4 + 1)))) else (none)) else (none)) else (none)) else (none)) else (smockingref25_sorted.l0 k x0 x3 (wrap64 (x4 + 1)))
end
def smockingref25_sorted.f (k : Nat) (l0 : List (S41)) : Option ((List (S41))) := smockingref25_sorted.l0 k l0 ([] : List (S41)) 0
set_option maxHeartbeats 8000000 in
set_option maxRecDepth 100000 in
theorem smockingref25_sorted.calls (k : Nat) (A0 : Option Addr) (c0 : Nat) (l0 : List (S41)) (r : List (S41)) (w : World) (hr0 : Kd.C k41 w A0 l0.length l0) (hc0 : l0.length ≤ c0) (h : smockingref25_sorted.f k l0 = some r) :
  Calls Tryz.prog 47 #[.slice A0 l0.length c0] w fun e w' => ∃ v0_ : Value, e = .returned (v0_) ∧ Kd.R k41 41 w' w.heap.size (fun _ => True) v0_ r ∧ Below w.heap.size w w' := by
 have hu41 := Tryz.underlying41
 have HR0 := Aside0.mk hr0
 have HC0 := Aside0.mk hc0
 clear hr0 hc0
 have HB := Aside0.mk (Below.refl w.heap.size w)
 have H : (smockingref25_sorted.l0 k l0 ([] : List (S41)) 0) = some r := h
 clear h
 have H' := Aside0.mk H
 clear H
 go_enter Tryz.func47, Tryz.ntmps47
 go_wp2
 repeat (go_quiet (fail); try go_wp2)
 try simp only [Act.put, List.setIfInBounds_toArray, List.set_cons_succ, List.set_cons_zero]
 go_loopg [3, 4] k (fun kq v3 v4 w' => ∃ (x3_1 : List (S41)) (x4_1 : Int), v4 = .int .i64 x4_1 ∧ Aside0 (smockingref25_sorted.l0 kq l0 x3_1 x4_1 = some r) ∧ Aside0 (kq ≤ k) ∧ Aside0 (Kd.R k41 41 w' w.heap.size (fun _ => True) v3 x3_1) ∧ Aside0 (Below w.heap.size w w'))
 case atStart => exact ⟨(([] : List (S41))), (0), (by first | rfl | (simp; done) | (simp [*]; done)), H', ⟨Nat.le_refl _⟩, ⟨by first | exact Kd.R_nil _ _ _ _ _ | exact Kd.N_nil _ _ _ _ _ | exact Kd.V_nil _ _ _ _ _ | exact Kd.Q_nil _ _ _ _ _ | exact Kd.S_nil _ _ _ _ _⟩, ⟨by repeat (with_reducible first | exact HB.out | apply below_alloc | apply pw_below_drewN | apply below_drew1)⟩⟩
 case round =>
  clear H'
  obtain ⟨x3_1, x4_1, rfl, HA, HK1, HO_3, HB⟩ := hrel
  cases gk with
  | zero => exact absurd HA.out (by simp [smockingref25_sorted.l0])
  | succ k1 =>
   have H := HA.out
   clear HA
   simp only [smockingref25_sorted.l0] at H
   by_cases c2 : x4_1 < (l0.length : Int)
   ·rw [if_pos c2] at H
    have c2b0 : decide (x4_1 < (l0.length : Int)) = true := decide_eq_true c2
    clear c2
    by_cases c3 : 0 ≤ x4_1
    ·rw [if_pos c3] at H
     have c3b0 : decide (0 ≤ x4_1) = true := decide_eq_true c3
     clear c3
     by_cases c4 : x3_1.length < 4398046511104
     ·rw [if_pos c4] at H
      have LMc4 := Aside0.mk c4
      clear c4
      obtain ⟨y107, hy107⟩ : ∃ y_ : List (S41), y_ = (x3_1 ++ [(⟨(rd_T41 l0 x4_1).f0, (rd_T41 l0 x4_1).f1⟩ : S41)]) := ⟨_, rfl⟩
      replace H : (smockingref25_sorted.l1 k1 l0 y107 x4_1 (wrap64 ((y107.length : Int) - 1))) = some r := by first | (rw [hy107]; with_reducible exact H) | (have H2_ := (Option.bind_some _ _).symm.trans H; rw [hy107]; with_reducible exact H2_) | (have H2_ := (Option.bind_some _ _).symm.trans H; with_reducible exact H2_) | with_reducible exact H | (rw [hy107]; exact H) | exact H
      have Ny107 := Aside0.mk hy107
      clear hy107
      have H' := Aside0.mk H
      clear H
      have p106 : 0 ≤ (x4_1 : Int) := of_decide_eq_true (by assumption)
      have q106 : x4_1 < (l0.length : Int) := of_decide_eq_true (by assumption)
      obtain ⟨ad106, e106, hx106_0, hx106_1⟩ := at_T41 HR0.out x4_1 p106 q106
      cases e106
      replace hx106_0 := (HB.out.cell (World.block_lt_of_cell? w _ hx106_0)).trans hx106_0
      replace hx106_1 := (HB.out.cell (World.block_lt_of_cell? w _ hx106_1)).trans hx106_1
      replace p106 := eq_true p106
      replace q106 := eq_true q106
      go_wp2_with (first | ((with_reducible refine gate_builtin (b := .append) (xs := #[.tmp 13, .tmp 18]) rfl ?_); at_builtin; refine Kd.R_append k41 (w0 := w) w.heap.size rfl (.tmp 13) (.tmp 18) 37 41 (.agg #[(.string ⟨#[]⟩), (.string ⟨#[]⟩)]) 32 rfl Tryz.underlying37 info41 rfl (by decide) (by omega) u3 x3_1 (⟨(rd_T41 l0 x4_1).f0, (rd_T41 l0 x4_1).f1⟩ : S41) [.string ((rd_T41 l0 x4_1).f0), .string ((rd_T41 l0 x4_1).f1)] (fun _ => True) (fun _ => False) rfl rfl ?aP (fun _ hk => hk.elim) ?aF ?aO ?aB ?aS ?aL ?_; (case aP => exact k41_mkM _ _ _ (⟨(rd_T41 l0 x4_1).f0, (rd_T41 l0 x4_1).f1⟩ : S41)); (case aB => exact (by repeat (with_reducible first | exact HB.out | apply below_alloc | apply pw_below_drewN | apply below_drew1))); (case aF => exact (fun _ _ => trivial)); (case aO => exact (by (with_reducible repeat (first | apply Kd.R_alloc | apply Kd.R_drewN | apply Kd.R_drew)); exact HO_3.out)); (case aS => exact (below_size (by repeat (with_reducible first | exact HB.out | apply below_alloc | apply pw_below_drewN | apply below_drew1)))); (case aL => have := LMc4.out; omega); intro v108 w5 ho hb hg hat; rw [← Ny107.out] at ho; have n0_ := Aside0.mk (hb); have n1_ := Aside0.mk (ho); clear HB; clear HO_3; have HB := n0_; have HO109 := n1_; clear n0_ n1_; clear ho hb hg hat; obtain ⟨Ao6, co6, eo6⟩ := Kd.R_slice HO109.out; subst eo6))
      repeat (go_quiet (first | ((with_reducible refine gate_builtin (b := .append) (xs := #[.tmp 13, .tmp 18]) rfl ?_); at_builtin; refine Kd.R_append k41 (w0 := w) w.heap.size rfl (.tmp 13) (.tmp 18) 37 41 (.agg #[(.string ⟨#[]⟩), (.string ⟨#[]⟩)]) 32 rfl Tryz.underlying37 info41 rfl (by decide) (by omega) u3 x3_1 (⟨(rd_T41 l0 x4_1).f0, (rd_T41 l0 x4_1).f1⟩ : S41) [.string ((rd_T41 l0 x4_1).f0), .string ((rd_T41 l0 x4_1).f1)] (fun _ => True) (fun _ => False) rfl rfl ?aP (fun _ hk => hk.elim) ?aF ?aO ?aB ?aS ?aL ?_; (case aP => exact k41_mkM _ _ _ (⟨(rd_T41 l0 x4_1).f0, (rd_T41 l0 x4_1).f1⟩ : S41)); (case aB => exact (by repeat (with_reducible first | exact HB.out | apply below_alloc | apply pw_below_drewN | apply below_drew1))); (case aF => exact (fun _ _ => trivial)); (case aO => exact (by (with_reducible repeat (first | apply Kd.R_alloc | apply Kd.R_drewN | apply Kd.R_drew)); exact HO_3.out)); (case aS => exact (below_size (by repeat (with_reducible first | exact HB.out | apply below_alloc | apply pw_below_drewN | apply below_drew1)))); (case aL => have := LMc4.out; omega); intro v108 w5 ho hb hg hat; rw [← Ny107.out] at ho; have n0_ := Aside0.mk (hb); have n1_ := Aside0.mk (ho); clear HB; clear HO_3; have HB := n0_; have HO109 := n1_; clear n0_ n1_; clear ho hb hg hat; obtain ⟨Ao6, co6, eo6⟩ := Kd.R_slice HO109.out; subst eo6)); try go_wp2_with (first | ((with_reducible refine gate_builtin (b := .append) (xs := #[.tmp 13, .tmp 18]) rfl ?_); at_builtin; refine Kd.R_append k41 (w0 := w) w.heap.size rfl (.tmp 13) (.tmp 18) 37 41 (.agg #[(.string ⟨#[]⟩), (.string ⟨#[]⟩)]) 32 rfl Tryz.underlying37 info41 rfl (by decide) (by omega) u3 x3_1 (⟨(rd_T41 l0 x4_1).f0, (rd_T41 l0 x4_1).f1⟩ : S41) [.string ((rd_T41 l0 x4_1).f0), .string ((rd_T41 l0 x4_1).f1)] (fun _ => True) (fun _ => False) rfl rfl ?aP (fun _ hk => hk.elim) ?aF ?aO ?aB ?aS ?aL ?_; (case aP => exact k41_mkM _ _ _ (⟨(rd_T41 l0 x4_1).f0, (rd_T41 l0 x4_1).f1⟩ : S41)); (case aB => exact (by repeat (with_reducible first | exact HB.out | apply below_alloc | apply pw_below_drewN | apply below_drew1))); (case aF => exact (fun _ _ => trivial)); (case aO => exact (by (with_reducible repeat (first | apply Kd.R_alloc | apply Kd.R_drewN | apply Kd.R_drew)); exact HO_3.out)); (case aS => exact (below_size (by repeat (with_reducible first | exact HB.out | apply below_alloc | apply pw_below_drewN | apply below_drew1)))); (case aL => have := LMc4.out; omega); intro v108 w5 ho hb hg hat; rw [← Ny107.out] at ho; have n0_ := Aside0.mk (hb); have n1_ := Aside0.mk (ho); clear HB; clear HO_3; have HB := n0_; have HO109 := n1_; clear n0_ n1_; clear ho hb hg hat; obtain ⟨Ao6, co6, eo6⟩ := Kd.R_slice HO109.out; subst eo6)))
      try simp only [Act.put, List.setIfInBounds_toArray, List.set_cons_succ, List.set_cons_zero]
      go_loopg [5] k1 (fun kq v5 w' => ∃ (x3_2 : List (S41)) (x5_2 : Int), v5 = .int .i64 x5_2 ∧ Aside0 (smockingref25_sorted.l1 kq l0 x3_2 x4_1 x5_2 = some r) ∧ Aside0 (kq ≤ k1) ∧ Aside0 (Kd.R k41 41 w' w.heap.size (fun _ => True) (.slice Ao6 y107.length co6) x3_2) ∧ Aside0 (Below w.heap.size w w'))
      case atStart => exact ⟨(y107), (wrap64 ((y107.length : Int) - 1)), (by first | rfl | (simp; done) | (simp [*]; done)), H', ⟨Nat.le_refl _⟩, ⟨by (with_reducible repeat (first | apply Kd.R_alloc | apply Kd.R_drewN | apply Kd.R_drew)); exact HO109.out⟩, ⟨by repeat (with_reducible first | exact HB.out | apply below_alloc | apply pw_below_drewN | apply below_drew1)⟩⟩
      case round =>
       clear H'
       try clear p1
       try clear q1
       try clear hx1
       try clear c2
       try clear c2b0
       try clear p2
       try clear c3
       try clear c3b0
       try clear c4
       try clear p6
       try clear hx106_0
       try clear hx106_1
       try clear p106
       try clear q106
       obtain ⟨x3_2, x5_2, rfl, HA, HK2, HO_3, HB⟩ := hrel
       have hl3_2 := (Kd.R_reads' HO_3.out).1
       rw [hl3_2] at HO_3
       (try simp only [hl3_2])
       cases gk with
       | zero => exact absurd HA.out (by simp [smockingref25_sorted.l1])
       | succ k2 =>
        have H := HA.out
        clear HA
        simp only [smockingref25_sorted.l1] at H
        by_cases c7 : x5_2 > 0
        ·rw [if_pos c7] at H
         have c7b0 : decide (0 < x5_2) = true := decide_eq_true c7
         clear c7
         by_cases c8 : 0 ≤ x5_2
         ·rw [if_pos c8] at H
          have c8b0 : decide (0 ≤ x5_2) = true := decide_eq_true c8
          clear c8
          by_cases c9 : x5_2 < (x3_2.length : Int)
          ·rw [if_pos c9] at H
           have c9b0 : decide (x5_2 < (x3_2.length : Int)) = true := decide_eq_true c9
           clear c9
           obtain ⟨ji10, hji10⟩ : ∃ j_ : Int, (wrap64 (x5_2 - 1)) = j_ := ⟨_, rfl⟩
           replace H : (if 0 ≤ (ji10) then (if (ji10) < (x3_2.length : Int) then (if (Op.bytesLess (((rd_T41 x3_2 x5_2).f0).toList) (((rd_T41 x3_2 (ji10)).f0).toList)) = true then (smockingref25_sorted.l1 k2 l0 ((x3_2.set (x5_2 : Int).toNat (⟨(rd_T41 x3_2 (ji10)).f0, (rd_T41 x3_2 (ji10)).f1⟩ : S41)).set ((ji10) : Int).toNat (⟨(rd_T41 x3_2 x5_2).f0, (rd_T41 x3_2 x5_2).f1⟩ : S41)) x4_1 ji10) else (smockingref25_sorted.l0 k2 l0 x3_2 (wrap64 (x4_1 + 1)))) else (none)) else (none)) = some r := by first | (rw [hji10] at H; exact H) | (simp only [hji10] at H ⊢; exact H)
           have hji10w : (IntKind.i64.wrap (x5_2 - 1)) = ji10 := (i64_w _).trans hji10
           by_cases c11 : 0 ≤ (ji10)
           ·rw [if_pos c11] at H
            have c11b0 : decide (0 ≤ (ji10)) = true := decide_eq_true c11
            clear c11
            by_cases c12 : (ji10) < (x3_2.length : Int)
            ·rw [if_pos c12] at H
             have c12b0 : decide ((ji10) < (x3_2.length : Int)) = true := decide_eq_true c12
             clear c12
             by_cases c13 : (Op.bytesLess (((rd_T41 x3_2 x5_2).f0).toList) (((rd_T41 x3_2 (ji10)).f0).toList)) = true
             ·rw [if_pos c13] at H
              have c13b0 : (Op.bytesLess (((rd_T41 x3_2 x5_2).f0).toList) (((rd_T41 x3_2 (ji10)).f0).toList)) = true := c13
              clear c13
              obtain ⟨y115, hy115⟩ : ∃ y_ : List (S41), y_ = (x3_2.set (x5_2 : Int).toNat (⟨(rd_T41 x3_2 (ji10)).f0, (rd_T41 x3_2 (ji10)).f1⟩ : S41)) := ⟨_, rfl⟩
              replace H : (smockingref25_sorted.l1 k2 l0 (y115.set ((ji10) : Int).toNat (⟨(rd_T41 x3_2 x5_2).f0, (rd_T41 x3_2 x5_2).f1⟩ : S41)) x4_1 ji10) = some r := by first | (rw [hy115]; with_reducible exact H) | (have H2_ := (Option.bind_some _ _).symm.trans H; rw [hy115]; with_reducible exact H2_) | (have H2_ := (Option.bind_some _ _).symm.trans H; with_reducible exact H2_) | with_reducible exact H | (rw [hy115]; exact H) | exact H
              have Ny115 := Aside0.mk hy115
              clear hy115
              obtain ⟨y116, hy116⟩ : ∃ y_ : List (S41), y_ = (y115.set ((ji10) : Int).toNat (⟨(rd_T41 x3_2 x5_2).f0, (rd_T41 x3_2 x5_2).f1⟩ : S41)) := ⟨_, rfl⟩
              replace H : (smockingref25_sorted.l1 k2 l0 y116 x4_1 ji10) = some r := by first | (rw [hy116]; with_reducible exact H) | (have H2_ := (Option.bind_some _ _).symm.trans H; rw [hy116]; with_reducible exact H2_) | (have H2_ := (Option.bind_some _ _).symm.trans H; with_reducible exact H2_) | with_reducible exact H | (rw [hy116]; exact H) | exact H
              have Ny116 := Aside0.mk hy116
              clear hy116
              have H' := Aside0.mk H
              clear H
              have p110 : 0 ≤ (x5_2 : Int) := of_decide_eq_true (by assumption)
              have q110 : x5_2 < (x3_2.length : Int) := of_decide_eq_true (by assumption)
              obtain ⟨ad110, e110, hx110_0, hx110_1⟩ := at_T41 (Kd.R_reads' HO_3.out).2.2 x5_2 p110 q110
              cases e110
              replace p110 := eq_true p110
              replace q110 := eq_true q110
              have p111 : 0 ≤ ((ji10) : Int) := of_decide_eq_true (by assumption)
              have q111 : (ji10) < (x3_2.length : Int) := of_decide_eq_true (by assumption)
              obtain ⟨ad111, e111, hx111_0, hx111_1⟩ := at_T41 (Kd.R_reads' HO_3.out).2.2 (ji10) p111 q111
              obtain rfl : ad110 = ad111 := (by injection e111)
              replace p111 := eq_true p111
              replace q111 := eq_true q111
              have p112 : 0 ≤ (x5_2 : Int) := of_decide_eq_true (by assumption)
              have q112 : x5_2 < (x3_2.length : Int) := of_decide_eq_true (by assumption)
              obtain ⟨ad112, e112, hx112_0, hx112_1⟩ := at_T41 (Kd.R_reads' HO_3.out).2.2 x5_2 p112 q112
              obtain rfl : ad110 = ad112 := (by injection e112)
              replace p112 := eq_true p112
              replace q112 := eq_true q112
              go_wp2_with (first | ((with_reducible refine gate_dst (N := 6) rfl ?_); refine box_event ?hg (N := 6) ?hd (cs := #[.string (⟨#[]⟩ : ByteArray), .string (⟨#[]⟩ : ByteArray)]) (t := 41) ?hr ?_; (case hd => rfl); (case hg => rfl); (case hr => first | (go_simp; done) | (go_simp; rfl)); intro gb113 hg w16 hbox hb; have n0_ := Aside0.mk (Kd.R_below (Kd.R_elderB (by (with_reducible repeat (first | apply Kd.R_alloc | apply Kd.R_drewN | apply Kd.R_drew)); exact HO_3.out) gb113 (Nat.le_of_eq hg.symm)) hb); have n1_ := Aside0.mk (below_step (by repeat (with_reducible first | exact HB.out | apply below_alloc | apply pw_below_drewN | apply below_drew1)) hb); have n2_ := Aside0.mk (hbox); have n3_ := Aside0.mk ((by rw [hg]; exact (below_size (by repeat (with_reducible first | exact HB.out | apply below_alloc | apply pw_below_drewN | apply below_drew1))) : w.heap.size ≤ gb113)); have n4_ := Aside0.mk ((by rw [hg]; exact (below_size (by repeat (with_reducible first | exact HB.out | apply below_alloc | apply pw_below_drewN | apply below_drew1))) : w.heap.size ≤ gb113)); clear HO_3; clear HB; have HO_3 := n0_; have HB := n1_; have BK113 := n2_; have GW113 := n3_; have GE113 := n4_; clear n0_ n1_ n2_ n3_ n4_; clear hb hbox hg; have hcz17_0 : w16.cell? ⟨gb113, 0, none⟩ = some (.string (⟨#[]⟩ : ByteArray)) := (blk_cell BK113.out 0).trans rfl; have hcz17_1 : w16.cell? ⟨gb113, 1, none⟩ = some (.string (⟨#[]⟩ : ByteArray)) := (blk_cell BK113.out 1).trans rfl; have hfz17_0 := blk_frozen BK113.out 0; have hfz17_1 := blk_frozen BK113.out 1) | ((with_reducible refine gate_store (t := 41) (p := 6) rfl ?_); (try (rw [drewN_self w16]; generalize hq_ : World.drewN w16 _ = w16; have n0_ := Aside0.mk (Kd.R_at hq_ HO_3.out); have n1_ := Aside0.mk (blk_at hq_ BK113.out); have n2_ := Aside0.mk (below_at hq_ HB.out); clear hq_ HO_3 BK113 HB; have HO_3 := n0_; have BK113 := n1_; have HB := n2_; clear n0_ n1_ n2_)); refine store_event (t := 41) (p := 6) (v := ?vo_w18) (w1 := ((w16.setCell ⟨gb113, 0, none⟩ (.string ((rd_T41 x3_2 x5_2).f0))).setCell ⟨gb113, 1, none⟩ (.string ((rd_T41 x3_2 x5_2).f1)))) ?hg ?ho ?hn ?hr ?_; (case ho => rfl); (case hg => rfl); (case hn => rfl); (case hr => first | (go_simp; done) | (go_simp; rfl)); intro w18 hw; have n0_ : Aside0 (Kd.R k41 41 w18 w.heap.size (fun k_ => k_ ≠ gb113) (.slice (some ad110) x3_2.length co6) x3_2) := ⟨(by rw [hw]; exact (by (with_reducible repeat (first | apply Kd.R_alloc | apply Kd.R_drewN | apply Kd.R_drew)); exact Kd.R_mono (Kd.R_far (p := ⟨gb113, 1, none⟩) (Kd.R_far (p := ⟨gb113, 0, none⟩) (Kd.R_mono HO_3.out (fun k_ hk => (⟨hk, hk.2⟩ : _ ∧ k_ ≠ gb113))) (fun _ hk => hk.2) (.string ((rd_T41 x3_2 x5_2).f0))) (fun _ hk => hk.2) (.string ((rd_T41 x3_2 x5_2).f1))) (fun _ hk => hk.1.2)))⟩; have n1_ : Aside0 (w18.heap[gb113]? = some (.cells #[.string ((rd_T41 x3_2 x5_2).f0), .string ((rd_T41 x3_2 x5_2).f1)] 41 (0, 0))) := ⟨(by rw [hw]; exact (by (with_reducible repeat (first | refine blk_drewN ?_ _ | refine blk_drew ?_ | refine blk_alloc ?_ _)); refine blk_put (cs := #[.string ((rd_T41 x3_2 x5_2).f0), .string (⟨#[]⟩ : ByteArray)]) ?_ 1 _ rfl; (with_reducible repeat (first | refine blk_drewN ?_ _ | refine blk_drew ?_ | refine blk_alloc ?_ _)); refine blk_put (cs := #[.string (⟨#[]⟩ : ByteArray), .string (⟨#[]⟩ : ByteArray)]) ?_ 0 _ rfl; (with_reducible repeat (first | refine blk_drewN ?_ _ | refine blk_drew ?_ | refine blk_alloc ?_ _)); exact BK113.out))⟩; have n2_ : Aside0 (Below w.heap.size w w18) := ⟨(by rw [hw]; exact (by repeat (with_reducible first | exact HB.out | apply below_alloc | apply pw_below_drewN | apply below_drew1 | refine below_set ?_ GE113.out)))⟩; clear hw; clear HO_3; clear BK113; clear HB; have HO_3 := n0_; have BK113 := n1_; have HB := n2_; clear n0_ n1_ n2_; have p114 : 0 ≤ ((ji10) : Int) := of_decide_eq_true (by assumption); have q114 : (ji10) < (x3_2.length : Int) := of_decide_eq_true (by assumption); obtain ⟨ad114, e114, hx114_0, hx114_1⟩ := at_T41 (Kd.R_reads' HO_3.out).2.2 (ji10) p114 q114; obtain rfl : ad110 = ad114 := (by injection e114); replace p114 := eq_true p114; replace q114 := eq_true q114; have p14 : 0 ≤ (x5_2 : Int) := of_decide_eq_true (by assumption); have q14 : (x5_2 : Int) < ((x3_2.length : Int) : Int) := of_decide_eq_true (by assumption); obtain ⟨go14, co14, eo14, gb14, gl14, cl14, HG14⟩ := Kd.R_form HO_3.out (by omega); (first | cases eo14 | (injection eo14 with ea_ en_ ec_; (first | subst ea_ | (injection ea_ with ea_; subst ea_)); subst ec_; clear en_)); have GB14 := Aside0.mk gb14; have GG14 := Aside0.mk HG14; clear gb14 gl14 HG14; (first | simp only [add_plain] at hx110_0 | skip); (first | simp only [add_plain] at hx110_1 | skip); (first | simp only [add_plain] at hx111_0 | skip); (first | simp only [add_plain] at hx111_1 | skip); (first | simp only [add_plain] at hx112_0 | skip); (first | simp only [add_plain] at hx112_1 | skip); (first | simp only [add_plain] at hx114_0 | skip); (first | simp only [add_plain] at hx114_1 | skip); obtain ⟨ce14, hcl14, hM14, hcc14, hfr14⟩ := Kd.R_elem HO_3.out z41 (x5_2 : Int) p14 q14; obtain rfl := k41_openM hM14; have hx14_0 : w18.cell? ⟨go14, (x5_2 : Int).toNat * 2, none⟩ = some (.string ((rd_T41 x3_2 x5_2).f0)) := hcc14 0 _ rfl; have hx14_1 : w18.cell? ⟨go14, (x5_2 : Int).toNat * 2 + 1, none⟩ = some (.string ((rd_T41 x3_2 x5_2).f1)) := hcc14 1 _ rfl; have hf14_0 : w18.frozen? ⟨go14, (x5_2 : Int).toNat * 2, none⟩ = false := hfr14 0; have hf14_1 : w18.frozen? ⟨go14, (x5_2 : Int).toNat * 2 + 1, none⟩ = false := hfr14 1; clear hcl14 hcc14 hfr14 hM14; replace p14 := eq_true p14; replace q14 := eq_true q14; have HX19 := Aside0.mk (show Kd.R k41 41 w18 w.heap.size (fun k_ => k_ ≠ gb113) (.slice (some ⟨go14, 0, none⟩) x3_2.length co6) x3_2 from (by (with_reducible repeat (first | apply Kd.R_alloc | apply Kd.R_drewN | apply Kd.R_drew)); exact HO_3.out)); obtain ⟨ce19, hcl19, hM19, hcc19, hfr19⟩ := Kd.R_elem HX19.out z41 (x5_2 : Int) (of_decide_eq_true (by assumption)) (by have h_ : (x5_2 : Int) < ((x3_2.length : Int) : Int) := of_decide_eq_true (by assumption); first | exact h_ | (have e_ := (Kd.R_reads' HO_3.out).1; omega) | simpa using h_); obtain rfl := k41_openM hM19; have HP19 := Kd.R_seg HX19.out (x5_2 : Int) (of_decide_eq_true (by assumption)) (by have h_ : (x5_2 : Int) < ((x3_2.length : Int) : Int) := of_decide_eq_true (by assumption); first | exact h_ | (have e_ := (Kd.R_reads' HO_3.out).1; omega) | simpa using h_) (seg := [.string ((rd_T41 x3_2 (ji10)).f0), .string ((rd_T41 x3_2 (ji10)).f1)]) (j := 0) hcl19 hcc19 (show 2 ≤ 2 from by decide) (x' := (⟨(rd_T41 x3_2 (ji10)).f0, (rd_T41 x3_2 (ji10)).f1⟩ : S41)) (k41_mkM _ _ _ (⟨(rd_T41 x3_2 (ji10)).f0, (rd_T41 x3_2 (ji10)).f1⟩ : S41) ) (fun _ hk => hk); have hx19_0 := hcc19 0 _ rfl; (try simp only [show (k41).sz = 2 from rfl, Nat.mul_one, Nat.add_zero] at hx19_0); have hf19_0 := hfr19 0; (try simp only [show (k41).sz = 2 from rfl, Nat.mul_one, Nat.add_zero] at hf19_0); have hx19_1 := hcc19 1 _ rfl; (try simp only [show (k41).sz = 2 from rfl, Nat.mul_one, Nat.add_zero] at hx19_1); have hf19_1 := hfr19 1; (try simp only [show (k41).sz = 2 from rfl, Nat.mul_one, Nat.add_zero] at hf19_1); clear hcl19 hcc19 hfr19 hM19) | ((with_reducible refine gate_store (t := 41) (p := 52) rfl ?_); (try (rw [drewN_self w18]; generalize hq_ : World.drewN w18 _ = w18; have n0_ := Aside0.mk (Kd.R_at hq_ HO_3.out); have n1_ := Aside0.mk (blk_at hq_ BK113.out); have n2_ := Aside0.mk (below_at hq_ HB.out); clear hq_ HO_3 BK113 HB; have HO_3 := n0_; have BK113 := n1_; have HB := n2_; clear n0_ n1_ n2_; (try (have HX19 := Aside0.mk (show Kd.R k41 41 w18 w.heap.size (fun k_ => k_ ≠ gb113) (.slice (some ⟨go14, 0, none⟩) x3_2.length co6) x3_2 from (by (with_reducible repeat (first | apply Kd.R_alloc | apply Kd.R_drewN | apply Kd.R_drew)); exact HO_3.out)))); (try (obtain ⟨ce19, hcl19, hM19, hcc19, hfr19⟩ := Kd.R_elem HX19.out z41 (x5_2 : Int) (of_decide_eq_true (by assumption)) (by have h_ : (x5_2 : Int) < ((x3_2.length : Int) : Int) := of_decide_eq_true (by assumption); first | exact h_ | (have e_ := (Kd.R_reads' HO_3.out).1; omega) | simpa using h_))); (try (obtain rfl := k41_openM hM19)); (try (have HP19 := Kd.R_seg HX19.out (x5_2 : Int) (of_decide_eq_true (by assumption)) (by have h_ : (x5_2 : Int) < ((x3_2.length : Int) : Int) := of_decide_eq_true (by assumption); first | exact h_ | (have e_ := (Kd.R_reads' HO_3.out).1; omega) | simpa using h_) (seg := [.string ((rd_T41 x3_2 (ji10)).f0), .string ((rd_T41 x3_2 (ji10)).f1)]) (j := 0) hcl19 hcc19 (show 2 ≤ 2 from by decide) (x' := (⟨(rd_T41 x3_2 (ji10)).f0, (rd_T41 x3_2 (ji10)).f1⟩ : S41)) (k41_mkM _ _ _ (⟨(rd_T41 x3_2 (ji10)).f0, (rd_T41 x3_2 (ji10)).f1⟩ : S41) ) (fun _ hk => hk))); (try (have hx19_0 := hcc19 0 _ rfl)); (try (try simp only [show (k41).sz = 2 from rfl, Nat.mul_one, Nat.add_zero] at hx19_0)); (try (have hf19_0 := hfr19 0)); (try (try simp only [show (k41).sz = 2 from rfl, Nat.mul_one, Nat.add_zero] at hf19_0)); (try (have hx19_1 := hcc19 1 _ rfl)); (try (try simp only [show (k41).sz = 2 from rfl, Nat.mul_one, Nat.add_zero] at hx19_1)); (try (have hf19_1 := hfr19 1)); (try (try simp only [show (k41).sz = 2 from rfl, Nat.mul_one, Nat.add_zero] at hf19_1)); (try (clear hcl19 hcc19 hfr19 hM19)))); refine store_event (t := 41) (p := 52) (v := ?vo_w20) (w1 := ((w18.setCell ⟨go14, (x5_2 : Int).toNat * 2, none⟩ (.string ((rd_T41 x3_2 (ji10)).f0))).setCell ⟨go14, (x5_2 : Int).toNat * 2 + 1, none⟩ (.string ((rd_T41 x3_2 (ji10)).f1)))) ?hg ?ho ?hn ?hr ?_; (case ho => rfl); (case hg => rfl); (case hn => rfl); (case hr => first | (go_simp; done) | (go_simp; rfl)); intro w20 hw; have hg : w18.grownBy w20 (some go14) := (by rw [hw]; exact HP19.2); have hp_ : Kd.R k41 41 w20 w.heap.size (fun k_ => k_ ≠ gb113) (.slice (some ⟨go14, 0, none⟩) x3_2.length co6) y115 := (by rw [hw, Ny115.out]; exact HP19.1); clear HP19; have n0_ := Aside0.mk (hp_); have n1_ := Aside0.mk (blk_grown (g := gb113) (o := .cells #[.string ((rd_T41 x3_2 x5_2).f0), .string ((rd_T41 x3_2 x5_2).f1)] 41 (0, 0)) (by (with_reducible repeat (first | refine blk_drewN ?_ _ | refine blk_drew ?_ | refine blk_alloc ?_ _)); exact BK113.out) hg (Kd.R_away HO_3.out (fun _ hk => hk))); have n2_ := Aside0.mk ((by rw [hw]; exact below_set (below_set (HB.out) GB14.out) GB14.out : Below w.heap.size w w20)); clear HO_3; clear BK113; clear HB; have HO_3 := n0_; have BK113 := n1_; have HB := n2_; clear n0_ n1_ n2_; clear hg hw hp_; have hcz21_0 : w20.cell? ⟨gb113, 0, none⟩ = some (.string ((rd_T41 x3_2 x5_2).f0)) := (blk_cell BK113.out 0).trans rfl; have hcz21_1 : w20.cell? ⟨gb113, 1, none⟩ = some (.string ((rd_T41 x3_2 x5_2).f1)) := (blk_cell BK113.out 1).trans rfl; have hfz21_0 := blk_frozen BK113.out 0; have hfz21_1 := blk_frozen BK113.out 1; have p15 : 0 ≤ ((ji10) : Int) := of_decide_eq_true (by assumption); have q15 : ((ji10) : Int) < ((x3_2.length : Int) : Int) := of_decide_eq_true (by assumption); obtain ⟨ce15, hcl15, hM15, hcc15, hfr15⟩ := Kd.R_elem HO_3.out z41 ((ji10) : Int) p15 q15; obtain rfl := k41_openM hM15; have hx15_0 : w20.cell? ⟨go14, ((ji10) : Int).toNat * 2, none⟩ = some (.string ((rd_T41 y115 (ji10)).f0)) := hcc15 0 _ rfl; have hx15_1 : w20.cell? ⟨go14, ((ji10) : Int).toNat * 2 + 1, none⟩ = some (.string ((rd_T41 y115 (ji10)).f1)) := hcc15 1 _ rfl; have hf15_0 : w20.frozen? ⟨go14, ((ji10) : Int).toNat * 2, none⟩ = false := hfr15 0; have hf15_1 : w20.frozen? ⟨go14, ((ji10) : Int).toNat * 2 + 1, none⟩ = false := hfr15 1; clear hcl15 hcc15 hfr15 hM15; replace p15 := eq_true p15; replace q15 := eq_true q15; have HX22 := Aside0.mk (show Kd.R k41 41 w20 w.heap.size (fun k_ => k_ ≠ gb113) (.slice (some ⟨go14, 0, none⟩) x3_2.length co6) y115 from (by (with_reducible repeat (first | apply Kd.R_alloc | apply Kd.R_drewN | apply Kd.R_drew)); exact HO_3.out)); obtain ⟨ce22, hcl22, hM22, hcc22, hfr22⟩ := Kd.R_elem HX22.out z41 ((ji10) : Int) (of_decide_eq_true (by assumption)) (by have h_ : ((ji10) : Int) < ((x3_2.length : Int) : Int) := of_decide_eq_true (by assumption); first | exact h_ | (have e_ := (Kd.R_reads' HO_3.out).1; omega) | simpa using h_); obtain rfl := k41_openM hM22; have HP22 := Kd.R_seg HX22.out ((ji10) : Int) (of_decide_eq_true (by assumption)) (by have h_ : ((ji10) : Int) < ((x3_2.length : Int) : Int) := of_decide_eq_true (by assumption); first | exact h_ | (have e_ := (Kd.R_reads' HO_3.out).1; omega) | simpa using h_) (seg := [.string ((rd_T41 x3_2 x5_2).f0), .string ((rd_T41 x3_2 x5_2).f1)]) (j := 0) hcl22 hcc22 (show 2 ≤ 2 from by decide) (x' := (⟨(rd_T41 x3_2 x5_2).f0, (rd_T41 x3_2 x5_2).f1⟩ : S41)) (k41_mkM _ _ _ (⟨(rd_T41 x3_2 x5_2).f0, (rd_T41 x3_2 x5_2).f1⟩ : S41) ) (fun _ hk => hk); have hx22_0 := hcc22 0 _ rfl; (try simp only [show (k41).sz = 2 from rfl, Nat.mul_one, Nat.add_zero] at hx22_0); have hf22_0 := hfr22 0; (try simp only [show (k41).sz = 2 from rfl, Nat.mul_one, Nat.add_zero] at hf22_0); have hx22_1 := hcc22 1 _ rfl; (try simp only [show (k41).sz = 2 from rfl, Nat.mul_one, Nat.add_zero] at hx22_1); have hf22_1 := hfr22 1; (try simp only [show (k41).sz = 2 from rfl, Nat.mul_one, Nat.add_zero] at hf22_1); clear hcl22 hcc22 hfr22 hM22) | ((with_reducible refine gate_store (t := 41) (p := 57) rfl ?_); (try (rw [drewN_self w20]; generalize hq_ : World.drewN w20 _ = w20; have n0_ := Aside0.mk (Kd.R_at hq_ HO_3.out); have n1_ := Aside0.mk (blk_at hq_ BK113.out); have n2_ := Aside0.mk (below_at hq_ HB.out); clear hq_ HO_3 BK113 HB; have HO_3 := n0_; have BK113 := n1_; have HB := n2_; clear n0_ n1_ n2_; (try (have HX22 := Aside0.mk (show Kd.R k41 41 w20 w.heap.size (fun k_ => k_ ≠ gb113) (.slice (some ⟨go14, 0, none⟩) x3_2.length co6) y115 from (by (with_reducible repeat (first | apply Kd.R_alloc | apply Kd.R_drewN | apply Kd.R_drew)); exact HO_3.out)))); (try (obtain ⟨ce22, hcl22, hM22, hcc22, hfr22⟩ := Kd.R_elem HX22.out z41 ((ji10) : Int) (of_decide_eq_true (by assumption)) (by have h_ : ((ji10) : Int) < ((x3_2.length : Int) : Int) := of_decide_eq_true (by assumption); first | exact h_ | (have e_ := (Kd.R_reads' HO_3.out).1; omega) | simpa using h_))); (try (obtain rfl := k41_openM hM22)); (try (have HP22 := Kd.R_seg HX22.out ((ji10) : Int) (of_decide_eq_true (by assumption)) (by have h_ : ((ji10) : Int) < ((x3_2.length : Int) : Int) := of_decide_eq_true (by assumption); first | exact h_ | (have e_ := (Kd.R_reads' HO_3.out).1; omega) | simpa using h_) (seg := [.string ((rd_T41 x3_2 x5_2).f0), .string ((rd_T41 x3_2 x5_2).f1)]) (j := 0) hcl22 hcc22 (show 2 ≤ 2 from by decide) (x' := (⟨(rd_T41 x3_2 x5_2).f0, (rd_T41 x3_2 x5_2).f1⟩ : S41)) (k41_mkM _ _ _ (⟨(rd_T41 x3_2 x5_2).f0, (rd_T41 x3_2 x5_2).f1⟩ : S41) ) (fun _ hk => hk))); (try (have hx22_0 := hcc22 0 _ rfl)); (try (try simp only [show (k41).sz = 2 from rfl, Nat.mul_one, Nat.add_zero] at hx22_0)); (try (have hf22_0 := hfr22 0)); (try (try simp only [show (k41).sz = 2 from rfl, Nat.mul_one, Nat.add_zero] at hf22_0)); (try (have hx22_1 := hcc22 1 _ rfl)); (try (try simp only [show (k41).sz = 2 from rfl, Nat.mul_one, Nat.add_zero] at hx22_1)); (try (have hf22_1 := hfr22 1)); (try (try simp only [show (k41).sz = 2 from rfl, Nat.mul_one, Nat.add_zero] at hf22_1)); (try (clear hcl22 hcc22 hfr22 hM22)))); refine store_event (t := 41) (p := 57) (v := ?vo_w23) (w1 := ((w20.setCell ⟨go14, ((ji10) : Int).toNat * 2, none⟩ (.string ((rd_T41 x3_2 x5_2).f0))).setCell ⟨go14, ((ji10) : Int).toNat * 2 + 1, none⟩ (.string ((rd_T41 x3_2 x5_2).f1)))) ?hg ?ho ?hn ?hr ?_; (case ho => rfl); (case hg => rfl); (case hn => rfl); (case hr => first | (go_simp; done) | (go_simp; rfl)); intro w23 hw; have hg : w20.grownBy w23 (some go14) := (by rw [hw]; exact HP22.2); have hp_ : Kd.R k41 41 w23 w.heap.size (fun k_ => k_ ≠ gb113) (.slice (some ⟨go14, 0, none⟩) x3_2.length co6) y116 := (by rw [hw, Ny116.out]; exact HP22.1); clear HP22; have n0_ := Aside0.mk (hp_); have n1_ := Aside0.mk (blk_grown (g := gb113) (o := .cells #[.string ((rd_T41 x3_2 x5_2).f0), .string ((rd_T41 x3_2 x5_2).f1)] 41 (0, 0)) (by (with_reducible repeat (first | refine blk_drewN ?_ _ | refine blk_drew ?_ | refine blk_alloc ?_ _)); exact BK113.out) hg (Kd.R_away HO_3.out (fun _ hk => hk))); have n2_ := Aside0.mk ((by rw [hw]; exact below_set (below_set (HB.out) GB14.out) GB14.out : Below w.heap.size w w23)); clear HO_3; clear BK113; clear HB; have HO_3 := n0_; have BK113 := n1_; have HB := n2_; clear n0_ n1_ n2_; clear hg hw hp_))
              repeat (go_quiet (first | ((with_reducible refine gate_dst (N := 6) rfl ?_); refine box_event ?hg (N := 6) ?hd (cs := #[.string (⟨#[]⟩ : ByteArray), .string (⟨#[]⟩ : ByteArray)]) (t := 41) ?hr ?_; (case hd => rfl); (case hg => rfl); (case hr => first | (go_simp; done) | (go_simp; rfl)); intro gb113 hg w16 hbox hb; have n0_ := Aside0.mk (Kd.R_below (Kd.R_elderB (by (with_reducible repeat (first | apply Kd.R_alloc | apply Kd.R_drewN | apply Kd.R_drew)); exact HO_3.out) gb113 (Nat.le_of_eq hg.symm)) hb); have n1_ := Aside0.mk (below_step (by repeat (with_reducible first | exact HB.out | apply below_alloc | apply pw_below_drewN | apply below_drew1)) hb); have n2_ := Aside0.mk (hbox); have n3_ := Aside0.mk ((by rw [hg]; exact (below_size (by repeat (with_reducible first | exact HB.out | apply below_alloc | apply pw_below_drewN | apply below_drew1))) : w.heap.size ≤ gb113)); have n4_ := Aside0.mk ((by rw [hg]; exact (below_size (by repeat (with_reducible first | exact HB.out | apply below_alloc | apply pw_below_drewN | apply below_drew1))) : w.heap.size ≤ gb113)); clear HO_3; clear HB; have HO_3 := n0_; have HB := n1_; have BK113 := n2_; have GW113 := n3_; have GE113 := n4_; clear n0_ n1_ n2_ n3_ n4_; clear hb hbox hg; have hcz17_0 : w16.cell? ⟨gb113, 0, none⟩ = some (.string (⟨#[]⟩ : ByteArray)) := (blk_cell BK113.out 0).trans rfl; have hcz17_1 : w16.cell? ⟨gb113, 1, none⟩ = some (.string (⟨#[]⟩ : ByteArray)) := (blk_cell BK113.out 1).trans rfl; have hfz17_0 := blk_frozen BK113.out 0; have hfz17_1 := blk_frozen BK113.out 1) | ((with_reducible refine gate_store (t := 41) (p := 6) rfl ?_); (try (rw [drewN_self w16]; generalize hq_ : World.drewN w16 _ = w16; have n0_ := Aside0.mk (Kd.R_at hq_ HO_3.out); have n1_ := Aside0.mk (blk_at hq_ BK113.out); have n2_ := Aside0.mk (below_at hq_ HB.out); clear hq_ HO_3 BK113 HB; have HO_3 := n0_; have BK113 := n1_; have HB := n2_; clear n0_ n1_ n2_)); refine store_event (t := 41) (p := 6) (v := ?vo_w18) (w1 := ((w16.setCell ⟨gb113, 0, none⟩ (.string ((rd_T41 x3_2 x5_2).f0))).setCell ⟨gb113, 1, none⟩ (.string ((rd_T41 x3_2 x5_2).f1)))) ?hg ?ho ?hn ?hr ?_; (case ho => rfl); (case hg => rfl); (case hn => rfl); (case hr => first | (go_simp; done) | (go_simp; rfl)); intro w18 hw; have n0_ : Aside0 (Kd.R k41 41 w18 w.heap.size (fun k_ => k_ ≠ gb113) (.slice (some ad110) x3_2.length co6) x3_2) := ⟨(by rw [hw]; exact (by (with_reducible repeat (first | apply Kd.R_alloc | apply Kd.R_drewN | apply Kd.R_drew)); exact Kd.R_mono (Kd.R_far (p := ⟨gb113, 1, none⟩) (Kd.R_far (p := ⟨gb113, 0, none⟩) (Kd.R_mono HO_3.out (fun k_ hk => (⟨hk, hk.2⟩ : _ ∧ k_ ≠ gb113))) (fun _ hk => hk.2) (.string ((rd_T41 x3_2 x5_2).f0))) (fun _ hk => hk.2) (.string ((rd_T41 x3_2 x5_2).f1))) (fun _ hk => hk.1.2)))⟩; have n1_ : Aside0 (w18.heap[gb113]? = some (.cells #[.string ((rd_T41 x3_2 x5_2).f0), .string ((rd_T41 x3_2 x5_2).f1)] 41 (0, 0))) := ⟨(by rw [hw]; exact (by (with_reducible repeat (first | refine blk_drewN ?_ _ | refine blk_drew ?_ | refine blk_alloc ?_ _)); refine blk_put (cs := #[.string ((rd_T41 x3_2 x5_2).f0), .string (⟨#[]⟩ : ByteArray)]) ?_ 1 _ rfl; (with_reducible repeat (first | refine blk_drewN ?_ _ | refine blk_drew ?_ | refine blk_alloc ?_ _)); refine blk_put (cs := #[.string (⟨#[]⟩ : ByteArray), .string (⟨#[]⟩ : ByteArray)]) ?_ 0 _ rfl; (with_reducible repeat (first | refine blk_drewN ?_ _ | refine blk_drew ?_ | refine blk_alloc ?_ _)); exact BK113.out))⟩; have n2_ : Aside0 (Below w.heap.size w w18) := ⟨(by rw [hw]; exact (by repeat (with_reducible first | exact HB.out | apply below_alloc | apply pw_below_drewN | apply below_drew1 | refine below_set ?_ GE113.out)))⟩; clear hw; clear HO_3; clear BK113; clear HB; have HO_3 := n0_; have BK113 := n1_; have HB := n2_; clear n0_ n1_ n2_; have p114 : 0 ≤ ((ji10) : Int) := of_decide_eq_true (by assumption); have q114 : (ji10) < (x3_2.length : Int) := of_decide_eq_true (by assumption); obtain ⟨ad114, e114, hx114_0, hx114_1⟩ := at_T41 (Kd.R_reads' HO_3.out).2.2 (ji10) p114 q114; obtain rfl : ad110 = ad114 := (by injection e114); replace p114 := eq_true p114; replace q114 := eq_true q114; have p14 : 0 ≤ (x5_2 : Int) := of_decide_eq_true (by assumption); have q14 : (x5_2 : Int) < ((x3_2.length : Int) : Int) := of_decide_eq_true (by assumption); obtain ⟨go14, co14, eo14, gb14, gl14, cl14, HG14⟩ := Kd.R_form HO_3.out (by omega); (first | cases eo14 | (injection eo14 with ea_ en_ ec_; (first | subst ea_ | (injection ea_ with ea_; subst ea_)); subst ec_; clear en_)); have GB14 := Aside0.mk gb14; have GG14 := Aside0.mk HG14; clear gb14 gl14 HG14; (first | simp only [add_plain] at hx110_0 | skip); (first | simp only [add_plain] at hx110_1 | skip); (first | simp only [add_plain] at hx111_0 | skip); (first | simp only [add_plain] at hx111_1 | skip); (first | simp only [add_plain] at hx112_0 | skip); (first | simp only [add_plain] at hx112_1 | skip); (first | simp only [add_plain] at hx114_0 | skip); (first | simp only [add_plain] at hx114_1 | skip); obtain ⟨ce14, hcl14, hM14, hcc14, hfr14⟩ := Kd.R_elem HO_3.out z41 (x5_2 : Int) p14 q14; obtain rfl := k41_openM hM14; have hx14_0 : w18.cell? ⟨go14, (x5_2 : Int).toNat * 2, none⟩ = some (.string ((rd_T41 x3_2 x5_2).f0)) := hcc14 0 _ rfl; have hx14_1 : w18.cell? ⟨go14, (x5_2 : Int).toNat * 2 + 1, none⟩ = some (.string ((rd_T41 x3_2 x5_2).f1)) := hcc14 1 _ rfl; have hf14_0 : w18.frozen? ⟨go14, (x5_2 : Int).toNat * 2, none⟩ = false := hfr14 0; have hf14_1 : w18.frozen? ⟨go14, (x5_2 : Int).toNat * 2 + 1, none⟩ = false := hfr14 1; clear hcl14 hcc14 hfr14 hM14; replace p14 := eq_true p14; replace q14 := eq_true q14; have HX19 := Aside0.mk (show Kd.R k41 41 w18 w.heap.size (fun k_ => k_ ≠ gb113) (.slice (some ⟨go14, 0, none⟩) x3_2.length co6) x3_2 from (by (with_reducible repeat (first | apply Kd.R_alloc | apply Kd.R_drewN | apply Kd.R_drew)); exact HO_3.out)); obtain ⟨ce19, hcl19, hM19, hcc19, hfr19⟩ := Kd.R_elem HX19.out z41 (x5_2 : Int) (of_decide_eq_true (by assumption)) (by have h_ : (x5_2 : Int) < ((x3_2.length : Int) : Int) := of_decide_eq_true (by assumption); first | exact h_ | (have e_ := (Kd.R_reads' HO_3.out).1; omega) | simpa using h_); obtain rfl := k41_openM hM19; have HP19 := Kd.R_seg HX19.out (x5_2 : Int) (of_decide_eq_true (by assumption)) (by have h_ : (x5_2 : Int) < ((x3_2.length : Int) : Int) := of_decide_eq_true (by assumption); first | exact h_ | (have e_ := (Kd.R_reads' HO_3.out).1; omega) | simpa using h_) (seg := [.string ((rd_T41 x3_2 (ji10)).f0), .string ((rd_T41 x3_2 (ji10)).f1)]) (j := 0) hcl19 hcc19 (show 2 ≤ 2 from by decide) (x' := (⟨(rd_T41 x3_2 (ji10)).f0, (rd_T41 x3_2 (ji10)).f1⟩ : S41)) (k41_mkM _ _ _ (⟨(rd_T41 x3_2 (ji10)).f0, (rd_T41 x3_2 (ji10)).f1⟩ : S41) ) (fun _ hk => hk); have hx19_0 := hcc19 0 _ rfl; (try simp only [show (k41).sz = 2 from rfl, Nat.mul_one, Nat.add_zero] at hx19_0); have hf19_0 := hfr19 0; (try simp only [show (k41).sz = 2 from rfl, Nat.mul_one, Nat.add_zero] at hf19_0); have hx19_1 := hcc19 1 _ rfl; (try simp only [show (k41).sz = 2 from rfl, Nat.mul_one, Nat.add_zero] at hx19_1); have hf19_1 := hfr19 1; (try simp only [show (k41).sz = 2 from rfl, Nat.mul_one, Nat.add_zero] at hf19_1); clear hcl19 hcc19 hfr19 hM19) | ((with_reducible refine gate_store (t := 41) (p := 52) rfl ?_); (try (rw [drewN_self w18]; generalize hq_ : World.drewN w18 _ = w18; have n0_ := Aside0.mk (Kd.R_at hq_ HO_3.out); have n1_ := Aside0.mk (blk_at hq_ BK113.out); have n2_ := Aside0.mk (below_at hq_ HB.out); clear hq_ HO_3 BK113 HB; have HO_3 := n0_; have BK113 := n1_; have HB := n2_; clear n0_ n1_ n2_; (try (have HX19 := Aside0.mk (show Kd.R k41 41 w18 w.heap.size (fun k_ => k_ ≠ gb113) (.slice (some ⟨go14, 0, none⟩) x3_2.length co6) x3_2 from (by (with_reducible repeat (first | apply Kd.R_alloc | apply Kd.R_drewN | apply Kd.R_drew)); exact HO_3.out)))); (try (obtain ⟨ce19, hcl19, hM19, hcc19, hfr19⟩ := Kd.R_elem HX19.out z41 (x5_2 : Int) (of_decide_eq_true (by assumption)) (by have h_ : (x5_2 : Int) < ((x3_2.length : Int) : Int) := of_decide_eq_true (by assumption); first | exact h_ | (have e_ := (Kd.R_reads' HO_3.out).1; omega) | simpa using h_))); (try (obtain rfl := k41_openM hM19)); (try (have HP19 := Kd.R_seg HX19.out (x5_2 : Int) (of_decide_eq_true (by assumption)) (by have h_ : (x5_2 : Int) < ((x3_2.length : Int) : Int) := of_decide_eq_true (by assumption); first | exact h_ | (have e_ := (Kd.R_reads' HO_3.out).1; omega) | simpa using h_) (seg := [.string ((rd_T41 x3_2 (ji10)).f0), .string ((rd_T41 x3_2 (ji10)).f1)]) (j := 0) hcl19 hcc19 (show 2 ≤ 2 from by decide) (x' := (⟨(rd_T41 x3_2 (ji10)).f0, (rd_T41 x3_2 (ji10)).f1⟩ : S41)) (k41_mkM _ _ _ (⟨(rd_T41 x3_2 (ji10)).f0, (rd_T41 x3_2 (ji10)).f1⟩ : S41) ) (fun _ hk => hk))); (try (have hx19_0 := hcc19 0 _ rfl)); (try (try simp only [show (k41).sz = 2 from rfl, Nat.mul_one, Nat.add_zero] at hx19_0)); (try (have hf19_0 := hfr19 0)); (try (try simp only [show (k41).sz = 2 from rfl, Nat.mul_one, Nat.add_zero] at hf19_0)); (try (have hx19_1 := hcc19 1 _ rfl)); (try (try simp only [show (k41).sz = 2 from rfl, Nat.mul_one, Nat.add_zero] at hx19_1)); (try (have hf19_1 := hfr19 1)); (try (try simp only [show (k41).sz = 2 from rfl, Nat.mul_one, Nat.add_zero] at hf19_1)); (try (clear hcl19 hcc19 hfr19 hM19)))); refine store_event (t := 41) (p := 52) (v := ?vo_w20) (w1 := ((w18.setCell ⟨go14, (x5_2 : Int).toNat * 2, none⟩ (.string ((rd_T41 x3_2 (ji10)).f0))).setCell ⟨go14, (x5_2 : Int).toNat * 2 + 1, none⟩ (.string ((rd_T41 x3_2 (ji10)).f1)))) ?hg ?ho ?hn ?hr ?_; (case ho => rfl); (case hg => rfl); (case hn => rfl); (case hr => first | (go_simp; done) | (go_simp; rfl)); intro w20 hw; have hg : w18.grownBy w20 (some go14) := (by rw [hw]; exact HP19.2); have hp_ : Kd.R k41 41 w20 w.heap.size (fun k_ => k_ ≠ gb113) (.slice (some ⟨go14, 0, none⟩) x3_2.length co6) y115 := (by rw [hw, Ny115.out]; exact HP19.1); clear HP19; have n0_ := Aside0.mk (hp_); have n1_ := Aside0.mk (blk_grown (g := gb113) (o := .cells #[.string ((rd_T41 x3_2 x5_2).f0), .string ((rd_T41 x3_2 x5_2).f1)] 41 (0, 0)) (by (with_reducible repeat (first | refine blk_drewN ?_ _ | refine blk_drew ?_ | refine blk_alloc ?_ _)); exact BK113.out) hg (Kd.R_away HO_3.out (fun _ hk => hk))); have n2_ := Aside0.mk ((by rw [hw]; exact below_set (below_set (HB.out) GB14.out) GB14.out : Below w.heap.size w w20)); clear HO_3; clear BK113; clear HB; have HO_3 := n0_; have BK113 := n1_; have HB := n2_; clear n0_ n1_ n2_; clear hg hw hp_; have hcz21_0 : w20.cell? ⟨gb113, 0, none⟩ = some (.string ((rd_T41 x3_2 x5_2).f0)) := (blk_cell BK113.out 0).trans rfl; have hcz21_1 : w20.cell? ⟨gb113, 1, none⟩ = some (.string ((rd_T41 x3_2 x5_2).f1)) := (blk_cell BK113.out 1).trans rfl; have hfz21_0 := blk_frozen BK113.out 0; have hfz21_1 := blk_frozen BK113.out 1; have p15 : 0 ≤ ((ji10) : Int) := of_decide_eq_true (by assumption); have q15 : ((ji10) : Int) < ((x3_2.length : Int) : Int) := of_decide_eq_true (by assumption); obtain ⟨ce15, hcl15, hM15, hcc15, hfr15⟩ := Kd.R_elem HO_3.out z41 ((ji10) : Int) p15 q15; obtain rfl := k41_openM hM15; have hx15_0 : w20.cell? ⟨go14, ((ji10) : Int).toNat * 2, none⟩ = some (.string ((rd_T41 y115 (ji10)).f0)) := hcc15 0 _ rfl; have hx15_1 : w20.cell? ⟨go14, ((ji10) : Int).toNat * 2 + 1, none⟩ = some (.string ((rd_T41 y115 (ji10)).f1)) := hcc15 1 _ rfl; have hf15_0 : w20.frozen? ⟨go14, ((ji10) : Int).toNat * 2, none⟩ = false := hfr15 0; have hf15_1 : w20.frozen? ⟨go14, ((ji10) : Int).toNat * 2 + 1, none⟩ = false := hfr15 1; clear hcl15 hcc15 hfr15 hM15; replace p15 := eq_true p15; replace q15 := eq_true q15; have HX22 := Aside0.mk (show Kd.R k41 41 w20 w.heap.size (fun k_ => k_ ≠ gb113) (.slice (some ⟨go14, 0, none⟩) x3_2.length co6) y115 from (by (with_reducible repeat (first | apply Kd.R_alloc | apply Kd.R_drewN | apply Kd.R_drew)); exact HO_3.out)); obtain ⟨ce22, hcl22, hM22, hcc22, hfr22⟩ := Kd.R_elem HX22.out z41 ((ji10) : Int) (of_decide_eq_true (by assumption)) (by have h_ : ((ji10) : Int) < ((x3_2.length : Int) : Int) := of_decide_eq_true (by assumption); first | exact h_ | (have e_ := (Kd.R_reads' HO_3.out).1; omega) | simpa using h_); obtain rfl := k41_openM hM22; have HP22 := Kd.R_seg HX22.out ((ji10) : Int) (of_decide_eq_true (by assumption)) (by have h_ : ((ji10) : Int) < ((x3_2.length : Int) : Int) := of_decide_eq_true (by assumption); first | exact h_ | (have e_ := (Kd.R_reads' HO_3.out).1; omega) | simpa using h_) (seg := [.string ((rd_T41 x3_2 x5_2).f0), .string ((rd_T41 x3_2 x5_2).f1)]) (j := 0) hcl22 hcc22 (show 2 ≤ 2 from by decide) (x' := (⟨(rd_T41 x3_2 x5_2).f0, (rd_T41 x3_2 x5_2).f1⟩ : S41)) (k41_mkM _ _ _ (⟨(rd_T41 x3_2 x5_2).f0, (rd_T41 x3_2 x5_2).f1⟩ : S41) ) (fun _ hk => hk); have hx22_0 := hcc22 0 _ rfl; (try simp only [show (k41).sz = 2 from rfl, Nat.mul_one, Nat.add_zero] at hx22_0); have hf22_0 := hfr22 0; (try simp only [show (k41).sz = 2 from rfl, Nat.mul_one, Nat.add_zero] at hf22_0); have hx22_1 := hcc22 1 _ rfl; (try simp only [show (k41).sz = 2 from rfl, Nat.mul_one, Nat.add_zero] at hx22_1); have hf22_1 := hfr22 1; (try simp only [show (k41).sz = 2 from rfl, Nat.mul_one, Nat.add_zero] at hf22_1); clear hcl22 hcc22 hfr22 hM22) | ((with_reducible refine gate_store (t := 41) (p := 57) rfl ?_); (try (rw [drewN_self w20]; generalize hq_ : World.drewN w20 _ = w20; have n0_ := Aside0.mk (Kd.R_at hq_ HO_3.out); have n1_ := Aside0.mk (blk_at hq_ BK113.out); have n2_ := Aside0.mk (below_at hq_ HB.out); clear hq_ HO_3 BK113 HB; have HO_3 := n0_; have BK113 := n1_; have HB := n2_; clear n0_ n1_ n2_; (try (have HX22 := Aside0.mk (show Kd.R k41 41 w20 w.heap.size (fun k_ => k_ ≠ gb113) (.slice (some ⟨go14, 0, none⟩) x3_2.length co6) y115 from (by (with_reducible repeat (first | apply Kd.R_alloc | apply Kd.R_drewN | apply Kd.R_drew)); exact HO_3.out)))); (try (obtain ⟨ce22, hcl22, hM22, hcc22, hfr22⟩ := Kd.R_elem HX22.out z41 ((ji10) : Int) (of_decide_eq_true (by assumption)) (by have h_ : ((ji10) : Int) < ((x3_2.length : Int) : Int) := of_decide_eq_true (by assumption); first | exact h_ | (have e_ := (Kd.R_reads' HO_3.out).1; omega) | simpa using h_))); (try (obtain rfl := k41_openM hM22)); (try (have HP22 := Kd.R_seg HX22.out ((ji10) : Int) (of_decide_eq_true (by assumption)) (by have h_ : ((ji10) : Int) < ((x3_2.length : Int) : Int) := of_decide_eq_true (by assumption); first | exact h_ | (have e_ := (Kd.R_reads' HO_3.out).1; omega) | simpa using h_) (seg := [.string ((rd_T41 x3_2 x5_2).f0), .string ((rd_T41 x3_2 x5_2).f1)]) (j := 0) hcl22 hcc22 (show 2 ≤ 2 from by decide) (x' := (⟨(rd_T41 x3_2 x5_2).f0, (rd_T41 x3_2 x5_2).f1⟩ : S41)) (k41_mkM _ _ _ (⟨(rd_T41 x3_2 x5_2).f0, (rd_T41 x3_2 x5_2).f1⟩ : S41) ) (fun _ hk => hk))); (try (have hx22_0 := hcc22 0 _ rfl)); (try (try simp only [show (k41).sz = 2 from rfl, Nat.mul_one, Nat.add_zero] at hx22_0)); (try (have hf22_0 := hfr22 0)); (try (try simp only [show (k41).sz = 2 from rfl, Nat.mul_one, Nat.add_zero] at hf22_0)); (try (have hx22_1 := hcc22 1 _ rfl)); (try (try simp only [show (k41).sz = 2 from rfl, Nat.mul_one, Nat.add_zero] at hx22_1)); (try (have hf22_1 := hfr22 1)); (try (try simp only [show (k41).sz = 2 from rfl, Nat.mul_one, Nat.add_zero] at hf22_1)); (try (clear hcl22 hcc22 hfr22 hM22)))); refine store_event (t := 41) (p := 57) (v := ?vo_w23) (w1 := ((w20.setCell ⟨go14, ((ji10) : Int).toNat * 2, none⟩ (.string ((rd_T41 x3_2 x5_2).f0))).setCell ⟨go14, ((ji10) : Int).toNat * 2 + 1, none⟩ (.string ((rd_T41 x3_2 x5_2).f1)))) ?hg ?ho ?hn ?hr ?_; (case ho => rfl); (case hg => rfl); (case hn => rfl); (case hr => first | (go_simp; done) | (go_simp; rfl)); intro w23 hw; have hg : w20.grownBy w23 (some go14) := (by rw [hw]; exact HP22.2); have hp_ : Kd.R k41 41 w23 w.heap.size (fun k_ => k_ ≠ gb113) (.slice (some ⟨go14, 0, none⟩) x3_2.length co6) y116 := (by rw [hw, Ny116.out]; exact HP22.1); clear HP22; have n0_ := Aside0.mk (hp_); have n1_ := Aside0.mk (blk_grown (g := gb113) (o := .cells #[.string ((rd_T41 x3_2 x5_2).f0), .string ((rd_T41 x3_2 x5_2).f1)] 41 (0, 0)) (by (with_reducible repeat (first | refine blk_drewN ?_ _ | refine blk_drew ?_ | refine blk_alloc ?_ _)); exact BK113.out) hg (Kd.R_away HO_3.out (fun _ hk => hk))); have n2_ := Aside0.mk ((by rw [hw]; exact below_set (below_set (HB.out) GB14.out) GB14.out : Below w.heap.size w w23)); clear HO_3; clear BK113; clear HB; have HO_3 := n0_; have BK113 := n1_; have HB := n2_; clear n0_ n1_ n2_; clear hg hw hp_)); try go_wp2_with (first | ((with_reducible refine gate_dst (N := 6) rfl ?_); refine box_event ?hg (N := 6) ?hd (cs := #[.string (⟨#[]⟩ : ByteArray), .string (⟨#[]⟩ : ByteArray)]) (t := 41) ?hr ?_; (case hd => rfl); (case hg => rfl); (case hr => first | (go_simp; done) | (go_simp; rfl)); intro gb113 hg w16 hbox hb; have n0_ := Aside0.mk (Kd.R_below (Kd.R_elderB (by (with_reducible repeat (first | apply Kd.R_alloc | apply Kd.R_drewN | apply Kd.R_drew)); exact HO_3.out) gb113 (Nat.le_of_eq hg.symm)) hb); have n1_ := Aside0.mk (below_step (by repeat (with_reducible first | exact HB.out | apply below_alloc | apply pw_below_drewN | apply below_drew1)) hb); have n2_ := Aside0.mk (hbox); have n3_ := Aside0.mk ((by rw [hg]; exact (below_size (by repeat (with_reducible first | exact HB.out | apply below_alloc | apply pw_below_drewN | apply below_drew1))) : w.heap.size ≤ gb113)); have n4_ := Aside0.mk ((by rw [hg]; exact (below_size (by repeat (with_reducible first | exact HB.out | apply below_alloc | apply pw_below_drewN | apply below_drew1))) : w.heap.size ≤ gb113)); clear HO_3; clear HB; have HO_3 := n0_; have HB := n1_; have BK113 := n2_; have GW113 := n3_; have GE113 := n4_; clear n0_ n1_ n2_ n3_ n4_; clear hb hbox hg; have hcz17_0 : w16.cell? ⟨gb113, 0, none⟩ = some (.string (⟨#[]⟩ : ByteArray)) := (blk_cell BK113.out 0).trans rfl; have hcz17_1 : w16.cell? ⟨gb113, 1, none⟩ = some (.string (⟨#[]⟩ : ByteArray)) := (blk_cell BK113.out 1).trans rfl; have hfz17_0 := blk_frozen BK113.out 0; have hfz17_1 := blk_frozen BK113.out 1) | ((with_reducible refine gate_store (t := 41) (p := 6) rfl ?_); (try (rw [drewN_self w16]; generalize hq_ : World.drewN w16 _ = w16; have n0_ := Aside0.mk (Kd.R_at hq_ HO_3.out); have n1_ := Aside0.mk (blk_at hq_ BK113.out); have n2_ := Aside0.mk (below_at hq_ HB.out); clear hq_ HO_3 BK113 HB; have HO_3 := n0_; have BK113 := n1_; have HB := n2_; clear n0_ n1_ n2_)); refine store_event (t := 41) (p := 6) (v := ?vo_w18) (w1 := ((w16.setCell ⟨gb113, 0, none⟩ (.string ((rd_T41 x3_2 x5_2).f0))).setCell ⟨gb113, 1, none⟩ (.string ((rd_T41 x3_2 x5_2).f1)))) ?hg ?ho ?hn ?hr ?_; (case ho => rfl); (case hg => rfl); (case hn => rfl); (case hr => first | (go_simp; done) | (go_simp; rfl)); intro w18 hw; have n0_ : Aside0 (Kd.R k41 41 w18 w.heap.size (fun k_ => k_ ≠ gb113) (.slice (some ad110) x3_2.length co6) x3_2) := ⟨(by rw [hw]; exact (by (with_reducible repeat (first | apply Kd.R_alloc | apply Kd.R_drewN | apply Kd.R_drew)); exact Kd.R_mono (Kd.R_far (p := ⟨gb113, 1, none⟩) (Kd.R_far (p := ⟨gb113, 0, none⟩) (Kd.R_mono HO_3.out (fun k_ hk => (⟨hk, hk.2⟩ : _ ∧ k_ ≠ gb113))) (fun _ hk => hk.2) (.string ((rd_T41 x3_2 x5_2).f0))) (fun _ hk => hk.2) (.string ((rd_T41 x3_2 x5_2).f1))) (fun _ hk => hk.1.2)))⟩; have n1_ : Aside0 (w18.heap[gb113]? = some (.cells #[.string ((rd_T41 x3_2 x5_2).f0), .string ((rd_T41 x3_2 x5_2).f1)] 41 (0, 0))) := ⟨(by rw [hw]; exact (by (with_reducible repeat (first | refine blk_drewN ?_ _ | refine blk_drew ?_ | refine blk_alloc ?_ _)); refine blk_put (cs := #[.string ((rd_T41 x3_2 x5_2).f0), .string (⟨#[]⟩ : ByteArray)]) ?_ 1 _ rfl; (with_reducible repeat (first | refine blk_drewN ?_ _ | refine blk_drew ?_ | refine blk_alloc ?_ _)); refine blk_put (cs := #[.string (⟨#[]⟩ : ByteArray), .string (⟨#[]⟩ : ByteArray)]) ?_ 0 _ rfl; (with_reducible repeat (first | refine blk_drewN ?_ _ | refine blk_drew ?_ | refine blk_alloc ?_ _)); exact BK113.out))⟩; have n2_ : Aside0 (Below w.heap.size w w18) := ⟨(by rw [hw]; exact (by repeat (with_reducible first | exact HB.out | apply below_alloc | apply pw_below_drewN | apply below_drew1 | refine below_set ?_ GE113.out)))⟩; clear hw; clear HO_3; clear BK113; clear HB; have HO_3 := n0_; have BK113 := n1_; have HB := n2_; clear n0_ n1_ n2_; have p114 : 0 ≤ ((ji10) : Int) := of_decide_eq_true (by assumption); have q114 : (ji10) < (x3_2.length : Int) := of_decide_eq_true (by assumption); obtain ⟨ad114, e114, hx114_0, hx114_1⟩ := at_T41 (Kd.R_reads' HO_3.out).2.2 (ji10) p114 q114; obtain rfl : ad110 = ad114 := (by injection e114); replace p114 := eq_true p114; replace q114 := eq_true q114; have p14 : 0 ≤ (x5_2 : Int) := of_decide_eq_true (by assumption); have q14 : (x5_2 : Int) < ((x3_2.length : Int) : Int) := of_decide_eq_true (by assumption); obtain ⟨go14, co14, eo14, gb14, gl14, cl14, HG14⟩ := Kd.R_form HO_3.out (by omega); (first | cases eo14 | (injection eo14 with ea_ en_ ec_; (first | subst ea_ | (injection ea_ with ea_; subst ea_)); subst ec_; clear en_)); have GB14 := Aside0.mk gb14; have GG14 := Aside0.mk HG14; clear gb14 gl14 HG14; (first | simp only [add_plain] at hx110_0 | skip); (first | simp only [add_plain] at hx110_1 | skip); (first | simp only [add_plain] at hx111_0 | skip); (first | simp only [add_plain] at hx111_1 | skip); (first | simp only [add_plain] at hx112_0 | skip); (first | simp only [add_plain] at hx112_1 | skip); (first | simp only [add_plain] at hx114_0 | skip); (first | simp only [add_plain] at hx114_1 | skip); obtain ⟨ce14, hcl14, hM14, hcc14, hfr14⟩ := Kd.R_elem HO_3.out z41 (x5_2 : Int) p14 q14; obtain rfl := k41_openM hM14; have hx14_0 : w18.cell? ⟨go14, (x5_2 : Int).toNat * 2, none⟩ = some (.string ((rd_T41 x3_2 x5_2).f0)) := hcc14 0 _ rfl; have hx14_1 : w18.cell? ⟨go14, (x5_2 : Int).toNat * 2 + 1, none⟩ = some (.string ((rd_T41 x3_2 x5_2).f1)) := hcc14 1 _ rfl; have hf14_0 : w18.frozen? ⟨go14, (x5_2 : Int).toNat * 2, none⟩ = false := hfr14 0; have hf14_1 : w18.frozen? ⟨go14, (x5_2 : Int).toNat * 2 + 1, none⟩ = false := hfr14 1; clear hcl14 hcc14 hfr14 hM14; replace p14 := eq_true p14; replace q14 := eq_true q14; have HX19 := Aside0.mk (show Kd.R k41 41 w18 w.heap.size (fun k_ => k_ ≠ gb113) (.slice (some ⟨go14, 0, none⟩) x3_2.length co6) x3_2 from (by (with_reducible repeat (first | apply Kd.R_alloc | apply Kd.R_drewN | apply Kd.R_drew)); exact HO_3.out)); obtain ⟨ce19, hcl19, hM19, hcc19, hfr19⟩ := Kd.R_elem HX19.out z41 (x5_2 : Int) (of_decide_eq_true (by assumption)) (by have h_ : (x5_2 : Int) < ((x3_2.length : Int) : Int) := of_decide_eq_true (by assumption); first | exact h_ | (have e_ := (Kd.R_reads' HO_3.out).1; omega) | simpa using h_); obtain rfl := k41_openM hM19; have HP19 := Kd.R_seg HX19.out (x5_2 : Int) (of_decide_eq_true (by assumption)) (by have h_ : (x5_2 : Int) < ((x3_2.length : Int) : Int) := of_decide_eq_true (by assumption); first | exact h_ | (have e_ := (Kd.R_reads' HO_3.out).1; omega) | simpa using h_) (seg := [.string ((rd_T41 x3_2 (ji10)).f0), .string ((rd_T41 x3_2 (ji10)).f1)]) (j := 0) hcl19 hcc19 (show 2 ≤ 2 from by decide) (x' := (⟨(rd_T41 x3_2 (ji10)).f0, (rd_T41 x3_2 (ji10)).f1⟩ : S41)) (k41_mkM _ _ _ (⟨(rd_T41 x3_2 (ji10)).f0, (rd_T41 x3_2 (ji10)).f1⟩ : S41) ) (fun _ hk => hk); have hx19_0 := hcc19 0 _ rfl; (try simp only [show (k41).sz = 2 from rfl, Nat.mul_one, Nat.add_zero] at hx19_0); have hf19_0 := hfr19 0; (try simp only [show (k41).sz = 2 from rfl, Nat.mul_one, Nat.add_zero] at hf19_0); have hx19_1 := hcc19 1 _ rfl; (try simp only [show (k41).sz = 2 from rfl, Nat.mul_one, Nat.add_zero] at hx19_1); have hf19_1 := hfr19 1; (try simp only [show (k41).sz = 2 from rfl, Nat.mul_one, Nat.add_zero] at hf19_1); clear hcl19 hcc19 hfr19 hM19) | ((with_reducible refine gate_store (t := 41) (p := 52) rfl ?_); (try (rw [drewN_self w18]; generalize hq_ : World.drewN w18 _ = w18; have n0_ := Aside0.mk (Kd.R_at hq_ HO_3.out); have n1_ := Aside0.mk (blk_at hq_ BK113.out); have n2_ := Aside0.mk (below_at hq_ HB.out); clear hq_ HO_3 BK113 HB; have HO_3 := n0_; have BK113 := n1_; have HB := n2_; clear n0_ n1_ n2_; (try (have HX19 := Aside0.mk (show Kd.R k41 41 w18 w.heap.size (fun k_ => k_ ≠ gb113) (.slice (some ⟨go14, 0, none⟩) x3_2.length co6) x3_2 from (by (with_reducible repeat (first | apply Kd.R_alloc | apply Kd.R_drewN | apply Kd.R_drew)); exact HO_3.out)))); (try (obtain ⟨ce19, hcl19, hM19, hcc19, hfr19⟩ := Kd.R_elem HX19.out z41 (x5_2 : Int) (of_decide_eq_true (by assumption)) (by have h_ : (x5_2 : Int) < ((x3_2.length : Int) : Int) := of_decide_eq_true (by assumption); first | exact h_ | (have e_ := (Kd.R_reads' HO_3.out).1; omega) | simpa using h_))); (try (obtain rfl := k41_openM hM19)); (try (have HP19 := Kd.R_seg HX19.out (x5_2 : Int) (of_decide_eq_true (by assumption)) (by have h_ : (x5_2 : Int) < ((x3_2.length : Int) : Int) := of_decide_eq_true (by assumption); first | exact h_ | (have e_ := (Kd.R_reads' HO_3.out).1; omega) | simpa using h_) (seg := [.string ((rd_T41 x3_2 (ji10)).f0), .string ((rd_T41 x3_2 (ji10)).f1)]) (j := 0) hcl19 hcc19 (show 2 ≤ 2 from by decide) (x' := (⟨(rd_T41 x3_2 (ji10)).f0, (rd_T41 x3_2 (ji10)).f1⟩ : S41)) (k41_mkM _ _ _ (⟨(rd_T41 x3_2 (ji10)).f0, (rd_T41 x3_2 (ji10)).f1⟩ : S41) ) (fun _ hk => hk))); (try (have hx19_0 := hcc19 0 _ rfl)); (try (try simp only [show (k41).sz = 2 from rfl, Nat.mul_one, Nat.add_zero] at hx19_0)); (try (have hf19_0 := hfr19 0)); (try (try simp only [show (k41).sz = 2 from rfl, Nat.mul_one, Nat.add_zero] at hf19_0)); (try (have hx19_1 := hcc19 1 _ rfl)); (try (try simp only [show (k41).sz = 2 from rfl, Nat.mul_one, Nat.add_zero] at hx19_1)); (try (have hf19_1 := hfr19 1)); (try (try simp only [show (k41).sz = 2 from rfl, Nat.mul_one, Nat.add_zero] at hf19_1)); (try (clear hcl19 hcc19 hfr19 hM19)))); refine store_event (t := 41) (p := 52) (v := ?vo_w20) (w1 := ((w18.setCell ⟨go14, (x5_2 : Int).toNat * 2, none⟩ (.string ((rd_T41 x3_2 (ji10)).f0))).setCell ⟨go14, (x5_2 : Int).toNat * 2 + 1, none⟩ (.string ((rd_T41 x3_2 (ji10)).f1)))) ?hg ?ho ?hn ?hr ?_; (case ho => rfl); (case hg => rfl); (case hn => rfl); (case hr => first | (go_simp; done) | (go_simp; rfl)); intro w20 hw; have hg : w18.grownBy w20 (some go14) := (by rw [hw]; exact HP19.2); have hp_ : Kd.R k41 41 w20 w.heap.size (fun k_ => k_ ≠ gb113) (.slice (some ⟨go14, 0, none⟩) x3_2.length co6) y115 := (by rw [hw, Ny115.out]; exact HP19.1); clear HP19; have n0_ := Aside0.mk (hp_); have n1_ := Aside0.mk (blk_grown (g := gb113) (o := .cells #[.string ((rd_T41 x3_2 x5_2).f0), .string ((rd_T41 x3_2 x5_2).f1)] 41 (0, 0)) (by (with_reducible repeat (first | refine blk_drewN ?_ _ | refine blk_drew ?_ | refine blk_alloc ?_ _)); exact BK113.out) hg (Kd.R_away HO_3.out (fun _ hk => hk))); have n2_ := Aside0.mk ((by rw [hw]; exact below_set (below_set (HB.out) GB14.out) GB14.out : Below w.heap.size w w20)); clear HO_3; clear BK113; clear HB; have HO_3 := n0_; have BK113 := n1_; have HB := n2_; clear n0_ n1_ n2_; clear hg hw hp_; have hcz21_0 : w20.cell? ⟨gb113, 0, none⟩ = some (.string ((rd_T41 x3_2 x5_2).f0)) := (blk_cell BK113.out 0).trans rfl; have hcz21_1 : w20.cell? ⟨gb113, 1, none⟩ = some (.string ((rd_T41 x3_2 x5_2).f1)) := (blk_cell BK113.out 1).trans rfl; have hfz21_0 := blk_frozen BK113.out 0; have hfz21_1 := blk_frozen BK113.out 1; have p15 : 0 ≤ ((ji10) : Int) := of_decide_eq_true (by assumption); have q15 : ((ji10) : Int) < ((x3_2.length : Int) : Int) := of_decide_eq_true (by assumption); obtain ⟨ce15, hcl15, hM15, hcc15, hfr15⟩ := Kd.R_elem HO_3.out z41 ((ji10) : Int) p15 q15; obtain rfl := k41_openM hM15; have hx15_0 : w20.cell? ⟨go14, ((ji10) : Int).toNat * 2, none⟩ = some (.string ((rd_T41 y115 (ji10)).f0)) := hcc15 0 _ rfl; have hx15_1 : w20.cell? ⟨go14, ((ji10) : Int).toNat * 2 + 1, none⟩ = some (.string ((rd_T41 y115 (ji10)).f1)) := hcc15 1 _ rfl; have hf15_0 : w20.frozen? ⟨go14, ((ji10) : Int).toNat * 2, none⟩ = false := hfr15 0; have hf15_1 : w20.frozen? ⟨go14, ((ji10) : Int).toNat * 2 + 1, none⟩ = false := hfr15 1; clear hcl15 hcc15 hfr15 hM15; replace p15 := eq_true p15; replace q15 := eq_true q15; have HX22 := Aside0.mk (show Kd.R k41 41 w20 w.heap.size (fun k_ => k_ ≠ gb113) (.slice (some ⟨go14, 0, none⟩) x3_2.length co6) y115 from (by (with_reducible repeat (first | apply Kd.R_alloc | apply Kd.R_drewN | apply Kd.R_drew)); exact HO_3.out)); obtain ⟨ce22, hcl22, hM22, hcc22, hfr22⟩ := Kd.R_elem HX22.out z41 ((ji10) : Int) (of_decide_eq_true (by assumption)) (by have h_ : ((ji10) : Int) < ((x3_2.length : Int) : Int) := of_decide_eq_true (by assumption); first | exact h_ | (have e_ := (Kd.R_reads' HO_3.out).1; omega) | simpa using h_); obtain rfl := k41_openM hM22; have HP22 := Kd.R_seg HX22.out ((ji10) : Int) (of_decide_eq_true (by assumption)) (by have h_ : ((ji10) : Int) < ((x3_2.length : Int) : Int) := of_decide_eq_true (by assumption); first | exact h_ | (have e_ := (Kd.R_reads' HO_3.out).1; omega) | simpa using h_) (seg := [.string ((rd_T41 x3_2 x5_2).f0), .string ((rd_T41 x3_2 x5_2).f1)]) (j := 0) hcl22 hcc22 (show 2 ≤ 2 from by decide) (x' := (⟨(rd_T41 x3_2 x5_2).f0, (rd_T41 x3_2 x5_2).f1⟩ : S41)) (k41_mkM _ _ _ (⟨(rd_T41 x3_2 x5_2).f0, (rd_T41 x3_2 x5_2).f1⟩ : S41) ) (fun _ hk => hk); have hx22_0 := hcc22 0 _ rfl; (try simp only [show (k41).sz = 2 from rfl, Nat.mul_one, Nat.add_zero] at hx22_0); have hf22_0 := hfr22 0; (try simp only [show (k41).sz = 2 from rfl, Nat.mul_one, Nat.add_zero] at hf22_0); have hx22_1 := hcc22 1 _ rfl; (try simp only [show (k41).sz = 2 from rfl, Nat.mul_one, Nat.add_zero] at hx22_1); have hf22_1 := hfr22 1; (try simp only [show (k41).sz = 2 from rfl, Nat.mul_one, Nat.add_zero] at hf22_1); clear hcl22 hcc22 hfr22 hM22) | ((with_reducible refine gate_store (t := 41) (p := 57) rfl ?_); (try (rw [drewN_self w20]; generalize hq_ : World.drewN w20 _ = w20; have n0_ := Aside0.mk (Kd.R_at hq_ HO_3.out); have n1_ := Aside0.mk (blk_at hq_ BK113.out); have n2_ := Aside0.mk (below_at hq_ HB.out); clear hq_ HO_3 BK113 HB; have HO_3 := n0_; have BK113 := n1_; have HB := n2_; clear n0_ n1_ n2_; (try (have HX22 := Aside0.mk (show Kd.R k41 41 w20 w.heap.size (fun k_ => k_ ≠ gb113) (.slice (some ⟨go14, 0, none⟩) x3_2.length co6) y115 from (by (with_reducible repeat (first | apply Kd.R_alloc | apply Kd.R_drewN | apply Kd.R_drew)); exact HO_3.out)))); (try (obtain ⟨ce22, hcl22, hM22, hcc22, hfr22⟩ := Kd.R_elem HX22.out z41 ((ji10) : Int) (of_decide_eq_true (by assumption)) (by have h_ : ((ji10) : Int) < ((x3_2.length : Int) : Int) := of_decide_eq_true (by assumption); first | exact h_ | (have e_ := (Kd.R_reads' HO_3.out).1; omega) | simpa using h_))); (try (obtain rfl := k41_openM hM22)); (try (have HP22 := Kd.R_seg HX22.out ((ji10) : Int) (of_decide_eq_true (by assumption)) (by have h_ : ((ji10) : Int) < ((x3_2.length : Int) : Int) := of_decide_eq_true (by assumption); first | exact h_ | (have e_ := (Kd.R_reads' HO_3.out).1; omega) | simpa using h_) (seg := [.string ((rd_T41 x3_2 x5_2).f0), .string ((rd_T41 x3_2 x5_2).f1)]) (j := 0) hcl22 hcc22 (show 2 ≤ 2 from by decide) (x' := (⟨(rd_T41 x3_2 x5_2).f0, (rd_T41 x3_2 x5_2).f1⟩ : S41)) (k41_mkM _ _ _ (⟨(rd_T41 x3_2 x5_2).f0, (rd_T41 x3_2 x5_2).f1⟩ : S41) ) (fun _ hk => hk))); (try (have hx22_0 := hcc22 0 _ rfl)); (try (try simp only [show (k41).sz = 2 from rfl, Nat.mul_one, Nat.add_zero] at hx22_0)); (try (have hf22_0 := hfr22 0)); (try (try simp only [show (k41).sz = 2 from rfl, Nat.mul_one, Nat.add_zero] at hf22_0)); (try (have hx22_1 := hcc22 1 _ rfl)); (try (try simp only [show (k41).sz = 2 from rfl, Nat.mul_one, Nat.add_zero] at hx22_1)); (try (have hf22_1 := hfr22 1)); (try (try simp only [show (k41).sz = 2 from rfl, Nat.mul_one, Nat.add_zero] at hf22_1)); (try (clear hcl22 hcc22 hfr22 hM22)))); refine store_event (t := 41) (p := 57) (v := ?vo_w23) (w1 := ((w20.setCell ⟨go14, ((ji10) : Int).toNat * 2, none⟩ (.string ((rd_T41 x3_2 x5_2).f0))).setCell ⟨go14, ((ji10) : Int).toNat * 2 + 1, none⟩ (.string ((rd_T41 x3_2 x5_2).f1)))) ?hg ?ho ?hn ?hr ?_; (case ho => rfl); (case hg => rfl); (case hn => rfl); (case hr => first | (go_simp; done) | (go_simp; rfl)); intro w23 hw; have hg : w20.grownBy w23 (some go14) := (by rw [hw]; exact HP22.2); have hp_ : Kd.R k41 41 w23 w.heap.size (fun k_ => k_ ≠ gb113) (.slice (some ⟨go14, 0, none⟩) x3_2.length co6) y116 := (by rw [hw, Ny116.out]; exact HP22.1); clear HP22; have n0_ := Aside0.mk (hp_); have n1_ := Aside0.mk (blk_grown (g := gb113) (o := .cells #[.string ((rd_T41 x3_2 x5_2).f0), .string ((rd_T41 x3_2 x5_2).f1)] 41 (0, 0)) (by (with_reducible repeat (first | refine blk_drewN ?_ _ | refine blk_drew ?_ | refine blk_alloc ?_ _)); exact BK113.out) hg (Kd.R_away HO_3.out (fun _ hk => hk))); have n2_ := Aside0.mk ((by rw [hw]; exact below_set (below_set (HB.out) GB14.out) GB14.out : Below w.heap.size w w23)); clear HO_3; clear BK113; clear HB; have HO_3 := n0_; have BK113 := n1_; have HB := n2_; clear n0_ n1_ n2_; clear hg hw hp_)))
              (try simp only [← hl3_2])
              go_roundg k2
              case measure => have := HK1.out; have := HK2.out; omega
              case rel => exact ⟨(y116), (ji10), (by first | rfl | (simp; done) | (simp only [← hji10] <;> (first | rfl | simp)) | (simp [*]; done)), H', ⟨by have := HK1.out; have := HK2.out; omega⟩, ⟨by (try simp only [hl3_2]); (with_reducible repeat (first | apply Kd.R_alloc | apply Kd.R_drewN | apply Kd.R_drew)); exact Kd.R_mono HO_3.out (fun _ hk => trivial)⟩, ⟨by repeat (with_reducible first | exact HB.out | apply below_alloc | apply pw_below_drewN | apply below_drew1 | refine below_set ?_ GE113.out)⟩⟩
             ·rw [if_neg c13] at H
              have c13b0 : (Op.bytesLess (((rd_T41 x3_2 x5_2).f0).toList) (((rd_T41 x3_2 (ji10)).f0).toList)) = false := by simpa using c13
              clear c13
              have H' := Aside0.mk H
              clear H
              have p110 : 0 ≤ (x5_2 : Int) := of_decide_eq_true (by assumption)
              have q110 : x5_2 < (x3_2.length : Int) := of_decide_eq_true (by assumption)
              obtain ⟨ad110, e110, hx110_0, hx110_1⟩ := at_T41 (Kd.R_reads' HO_3.out).2.2 x5_2 p110 q110
              cases e110
              replace p110 := eq_true p110
              replace q110 := eq_true q110
              have p111 : 0 ≤ ((ji10) : Int) := of_decide_eq_true (by assumption)
              have q111 : (ji10) < (x3_2.length : Int) := of_decide_eq_true (by assumption)
              obtain ⟨ad111, e111, hx111_0, hx111_1⟩ := at_T41 (Kd.R_reads' HO_3.out).2.2 (ji10) p111 q111
              obtain rfl : ad110 = ad111 := (by injection e111)
              replace p111 := eq_true p111
              replace q111 := eq_true q111
              go_wp2
              repeat (go_quiet (fail); try go_wp2)
              (try simp only [← hl3_2])
              go_roundg k2
              case measure => have := HK1.out; have := HK2.out; omega
              case rel => exact ⟨(x3_2), (wrap64 (x4_1 + 1)), (by first | rfl | (simp; done) | (simp [*]; done)), H', ⟨by have := HK1.out; have := HK2.out; omega⟩, ⟨by (try simp only [hl3_2]); (with_reducible repeat (first | apply Kd.R_alloc | apply Kd.R_drewN | apply Kd.R_drew)); exact HO_3.out⟩, ⟨by repeat (with_reducible first | exact HB.out | apply below_alloc | apply pw_below_drewN | apply below_drew1)⟩⟩
            ·rw [if_neg c12] at H
             exact absurd H (by simp)
           ·rw [if_neg c11] at H
            exact absurd H (by simp)
          ·rw [if_neg c9] at H
           exact absurd H (by simp)
         ·rw [if_neg c8] at H
          exact absurd H (by simp)
        ·rw [if_neg c7] at H
         have c7b0 : decide (0 < x5_2) = false := decide_eq_false c7
         clear c7
         have H' := Aside0.mk H
         clear H
         go_wp2
         repeat (go_quiet (fail); try go_wp2)
         (try simp only [← hl3_2])
         go_roundg k2
         case measure => have := HK1.out; have := HK2.out; omega
         case rel => exact ⟨(x3_2), (wrap64 (x4_1 + 1)), (by first | rfl | (simp; done) | (simp [*]; done)), H', ⟨by have := HK1.out; have := HK2.out; omega⟩, ⟨by (try simp only [hl3_2]); (with_reducible repeat (first | apply Kd.R_alloc | apply Kd.R_drewN | apply Kd.R_drew)); exact HO_3.out⟩, ⟨by repeat (with_reducible first | exact HB.out | apply below_alloc | apply pw_below_drewN | apply below_drew1)⟩⟩
     ·rw [if_neg c4] at H
      exact absurd H (by simp)
    ·rw [if_neg c3] at H
     exact absurd H (by simp)
   ·rw [if_neg c2] at H
    have c2b0 : decide (x4_1 < (l0.length : Int)) = false := decide_eq_false c2
    clear c2
    obtain rfl := Option.some.inj H
    go_wp2
    repeat (go_quiet (fail); try go_wp2)
    go_ret
    exact ⟨_, by first | rfl | (simp [errW_none, errW_some] <;> rfl) | (simp [*, errW_none, errW_some] <;> rfl), by (with_reducible repeat (first | apply Kd.R_alloc | apply Kd.R_drewN | apply Kd.R_drew)); exact HO_3.out, by repeat (with_reducible first | exact HB.out | apply below_alloc | apply pw_below_drewN | apply below_drew1)⟩

end Go.Proofs.YthimblhfjfngiaaGreat.PText

namespace Go.Proofs.YthimblhfjfngiaaGreat.PText
open Go.RowKit Go.Proofs.YthimblhfjfngiaaGreatW.PrintWords Go.Proofs.YthimblhfjfngiaaGreatW.PrintLast Go.Proofs.YthimblhfjfngiaaGreatW.PrintMore
attribute [local go_sem] max2_int min2_int max_two min_two max_three min_three max_four min_four   -- for this text's walks alone
set_option linter.unusedVariables false
set_option linter.unusedSimpArgs false

theorem eqA91 (d : Nat) (w : World) (x0 y0 : Int) (x1 y1 : Int) (x2 y2 : ByteArray) :
  (Op.equalIn (d + 2) 91 (.agg #[.int .i64 x0, .int .i64 x1, .string x2]) (.agg #[.int .i64 y0, .int .i64 y1, .string y2])).run Tryz.prog w = .ok (x0 == y0 && (x1 == y1 && (x2.toList == y2.toList))) w := by
 refine eqA_of Tryz.underlying91 (by kernel_rfl) ?_
 refine eqf_cons (by rfl) (by go_simp; rfl) (by go_simp; rfl) (by go_simp) ?_
 refine eqf_cons (by rfl) (by go_simp; rfl) (by go_simp; rfl) (by go_simp) ?_
 exact eqf_last (by rfl) (by go_simp; rfl) (by go_simp; rfl) (by go_simp)
end Go.Proofs.YthimblhfjfngiaaGreat.PText

namespace Go.Proofs.YthimblhfjfngiaaGreat.PText
open Go.RowKit Go.Proofs.YthimblhfjfngiaaGreatW.PrintWords Go.Proofs.YthimblhfjfngiaaGreatW.PrintLast Go.Proofs.YthimblhfjfngiaaGreatW.PrintMore
attribute [local go_sem] max2_int min2_int max_two min_two max_three min_three max_four min_four   -- for this text's walks alone
set_option linter.unusedVariables false
set_option linter.unusedSimpArgs false

def cmp_isNaN_string.f (a0 : ByteArray) : Option (Bool) := some (a0.toList != a0.toList)
set_option maxHeartbeats 8000000 in
set_option maxRecDepth 100000 in
theorem cmp_isNaN_string.calls (a0 : ByteArray) (r : Bool) (w : World) (h : cmp_isNaN_string.f a0 = some r) :
  Calls Tryz.prog 68 #[.string a0] w fun e w' => e = .returned (.bool r) ∧ Drawn0 w w' := by
 have H : (some (a0.toList != a0.toList)) = some r := h
 clear h
 obtain rfl := Option.some.inj H
 go_enter Tryz.func68, Tryz.ntmps68
 go_wp2
 go_ret
 exact ⟨by first | rfl | (simp; done) | (simp [*]; done), by repeat (first | exact Drawn0.refl _ | apply Drawn0.step)⟩

end Go.Proofs.YthimblhfjfngiaaGreat.PText

namespace Go.Proofs.YthimblhfjfngiaaGreat.PText
open Go.RowKit Go.Proofs.YthimblhfjfngiaaGreatW.PrintWords Go.Proofs.YthimblhfjfngiaaGreatW.PrintLast Go.Proofs.YthimblhfjfngiaaGreatW.PrintMore
attribute [local go_sem] max2_int min2_int max_two min_two max_three min_three max_four min_four   -- for this text's walks alone
set_option linter.unusedVariables false
set_option linter.unusedSimpArgs false

def cmp_Or_int.l0 : Nat → Int → List Int → Int → Int → Option (Int)
 | 0, _, _, _, _ => none
 | k + 1, x3, x6, x7, x8 => if x8 < x7 then (if 0 ≤ x8 then (if x8 < (x6.length : Int) then (if (rd x6 x8) = x3 then (cmp_Or_int.l0 k x3 x6 x7 (wrap64 (x8 + 1))) else (some (rd x6 x8))) else (none)) else (none)) else (some x3)
def cmp_Or_int.f (k : Nat) (l0 : List Int) : Option (Int) := cmp_Or_int.l0 k 0 l0 (l0.length : Int) 0
set_option maxHeartbeats 8000000 in
set_option maxRecDepth 100000 in
theorem cmp_Or_int.calls (k : Nat) (A0 : Option Addr) (c0 : Nat) (l0 : List Int) (r : Int) (w : World) (hr0 : Kd.C (Kd.int .i64) w A0 l0.length l0) (hc0 : l0.length ≤ c0) (h : cmp_Or_int.f k l0 = some r) :
  Calls Tryz.prog 123 #[.slice A0 l0.length c0] w fun e w' => e = .returned (.int .i64 r) ∧ Drawn0 w w' := by
 have HR0 := Aside0.mk hr0
 have HC0 := Aside0.mk hc0
 clear hr0 hc0
 have H : (cmp_Or_int.l0 k 0 l0 (l0.length : Int) 0) = some r := h
 clear h
 have H' := Aside0.mk H
 clear H
 go_enter Tryz.func123, Tryz.ntmps123
 go_wp2
 try simp only [Act.put, List.setIfInBounds_toArray, List.set_cons_succ, List.set_cons_zero]
 go_loopg [8] k (fun kq v8 w' => ∃ (x8_1 : Int), v8 = .int .i64 x8_1 ∧ Aside0 (cmp_Or_int.l0 kq 0 l0 (l0.length : Int) x8_1 = some r) ∧ Aside0 (kq ≤ k) ∧ Drawn0 w w')
 case atStart => exact ⟨(0), (by first | rfl | (simp; done) | (simp [*]; done)), H', ⟨Nat.le_refl _⟩, by repeat (first | exact Drawn0.refl _ | apply Drawn0.step)⟩
 case round =>
  clear H'
  try clear c1
  obtain ⟨x8_1, rfl, HA, HK1, ⟨m1, rfl⟩⟩ := hrel
  cases gk with
  | zero => exact absurd HA.out (by simp [cmp_Or_int.l0])
  | succ k1 =>
   have H := HA.out
   clear HA
   simp only [cmp_Or_int.l0] at H
   by_cases c2 : x8_1 < (l0.length : Int)
   ·rw [if_pos c2] at H
    have c2b0 : decide (x8_1 < (l0.length : Int)) = true := decide_eq_true c2
    clear c2
    by_cases c3 : 0 ≤ x8_1
    ·rw [if_pos c3] at H
     have c3b0 : decide (0 ≤ x8_1) = true := decide_eq_true c3
     clear c3
     by_cases c4 : x8_1 < (l0.length : Int)
     ·rw [if_pos c4] at H
      have c4b0 : decide (x8_1 < (l0.length : Int)) = true := decide_eq_true c4
      clear c4
      by_cases c5 : (rd l0 x8_1) = 0
      ·rw [if_pos c5] at H
       have c5b0 : ((rd l0 x8_1) == 0) = true := beq_iff_eq.mpr c5
       have c5b1 : ((rd l0 x8_1) != 0) = false := bne_eq_false_iff_eq.mpr c5
       clear c5
       have H' := Aside0.mk H
       clear H
       have p344 : 0 ≤ (x8_1 : Int) := of_decide_eq_true (by assumption)
       have q344 : x8_1 < (l0.length : Int) := of_decide_eq_true (by assumption)
       obtain ⟨ad344, e344, hx344_0⟩ := Kd.at_int HR0.out x8_1 p344 q344
       cases e344
       replace p344 := eq_true p344
       replace q344 := eq_true q344
       go_wp2
       go_roundg k1
       case measure => have := HK1.out; omega
       case rel => exact ⟨(wrap64 (x8_1 + 1)), (by first | rfl | (simp; done) | (simp [*]; done)), H', ⟨by have := HK1.out; omega⟩, by repeat (first | exact Drawn0.refl _ | apply Drawn0.step)⟩
      ·rw [if_neg c5] at H
       have c5b0 : ((rd l0 x8_1) == 0) = false := beq_eq_false_iff_ne.mpr c5
       have c5b1 : ((rd l0 x8_1) != 0) = true := bne_iff_ne.mpr c5
       obtain rfl := Option.some.inj H
       have p344 : 0 ≤ (x8_1 : Int) := of_decide_eq_true (by assumption)
       have q344 : x8_1 < (l0.length : Int) := of_decide_eq_true (by assumption)
       obtain ⟨ad344, e344, hx344_0⟩ := Kd.at_int HR0.out x8_1 p344 q344
       cases e344
       replace p344 := eq_true p344
       replace q344 := eq_true q344
       go_wp2
       go_ret
       exact ⟨by first | rfl | (simp; done) | (simp [*]; done), by repeat (first | exact Drawn0.refl _ | apply Drawn0.step)⟩
     ·rw [if_neg c4] at H
      exact absurd H (by simp)
    ·rw [if_neg c3] at H
     exact absurd H (by simp)
   ·rw [if_neg c2] at H
    have c2b0 : decide (x8_1 < (l0.length : Int)) = false := decide_eq_false c2
    clear c2
    obtain rfl := Option.some.inj H
    go_wp2
    go_ret
    exact ⟨by first | rfl | (simp; done) | (simp [*]; done), by repeat (first | exact Drawn0.refl _ | apply Drawn0.step)⟩

end Go.Proofs.YthimblhfjfngiaaGreat.PText

namespace Go.Proofs.YthimblhfjfngiaaGreat.PText
open Go.RowKit Go.Proofs.YthimblhfjfngiaaGreatW.PrintWords Go.Proofs.YthimblhfjfngiaaGreatW.PrintLast Go.Proofs.YthimblhfjfngiaaGreatW.PrintMore
attribute [local go_sem] max2_int min2_int max_two min_two max_three min_three max_four min_four   -- for this text's walks alone
set_option linter.unusedVariables false
set_option linter.unusedSimpArgs false

def cmp_isNaN_int.f (a0 : Int) : Option (Bool) := some (a0 != a0)
set_option maxHeartbeats 8000000 in
set_option maxRecDepth 100000 in
theorem cmp_isNaN_int.calls (a0 : Int) (r : Bool) (w : World) (h : cmp_isNaN_int.f a0 = some r) :
  Calls Tryz.prog 137 #[.int .i64 a0] w fun e w' => e = .returned (.bool r) ∧ Drawn0 w w' := by
 have H : (some (a0 != a0)) = some r := h
 clear h
 obtain rfl := Option.some.inj H
 go_enter Tryz.func137, Tryz.ntmps137
 go_wp2
 go_ret
 exact ⟨by first | rfl | (simp; done) | (simp [*]; done), by repeat (first | exact Drawn0.refl _ | apply Drawn0.step)⟩

end Go.Proofs.YthimblhfjfngiaaGreat.PText

namespace Go.Proofs.YthimblhfjfngiaaGreat.PText
open Go.RowKit Go.Proofs.YthimblhfjfngiaaGreatW.PrintWords Go.Proofs.YthimblhfjfngiaaGreatW.PrintLast Go.Proofs.YthimblhfjfngiaaGreatW.PrintMore
attribute [local go_sem] max2_int min2_int max_two min_two max_three min_three max_four min_four   -- for this text's walks alone
set_option linter.unusedVariables false
set_option linter.unusedSimpArgs false

def cmp_Compare_int.f (a0 : Int) (a1 : Int) : Option (Int) := (cmp_isNaN_int.f a0).bind fun t345 => ((cmp_isNaN_int.f a1).bind fun t346 => (if t345 = true then (if t346 = true then (some 0) else (some (-1))) else (if t346 = true then (some 1) else (if a0 < a1 then (some (-1)) else (if a0 > a1 then (some 1) else (some 0))))))
set_option maxHeartbeats 8000000 in
set_option maxRecDepth 100000 in
theorem cmp_Compare_int.calls (a0 : Int) (a1 : Int) (r : Int) (w : World) (h : cmp_Compare_int.f a0 a1 = some r) :
  Calls Tryz.prog 124 #[.int .i64 a0, .int .i64 a1] w fun e w' => e = .returned (.int .i64 r) ∧ Drawn0 w w' := by
 have H : ((cmp_isNaN_int.f a0).bind fun t345 => ((cmp_isNaN_int.f a1).bind fun t346 => (if t345 = true then (if t346 = true then (some 0) else (some (-1))) else (if t346 = true then (some 1) else (if a0 < a1 then (some (-1)) else (if a0 > a1 then (some 1) else (some 0))))))) = some r := h
 clear h
 replace H := Option.bind_eq_some_iff.mp H
 obtain ⟨t345, A30, H⟩ := H
 replace H : ((cmp_isNaN_int.f a1).bind fun t346 => (if t345 = true then (if t346 = true then (some 0) else (some (-1))) else (if t346 = true then (some 1) else (if a0 < a1 then (some (-1)) else (if a0 > a1 then (some 1) else (some 0)))))) = some r := H
 have A3 := Aside0.mk A30
 clear A30
 replace H := Option.bind_eq_some_iff.mp H
 obtain ⟨t346, A40, H⟩ := H
 replace H : (if t345 = true then (if t346 = true then (some 0) else (some (-1))) else (if t346 = true then (some 1) else (if a0 < a1 then (some (-1)) else (if a0 > a1 then (some 1) else (some 0))))) = some r := H
 have A4 := Aside0.mk A40
 clear A40
 by_cases c5 : t345 = true
 ·subst c5
  have H1 : (if t346 = true then (some 0) else (some (-1))) = some r := by rw [if_pos rfl] at H; exact H
  clear H
  have H := H1
  clear H1
  by_cases c6 : t346 = true
  ·subst c6
   have H1 : (some 0) = some r := by rw [if_pos rfl] at H; exact H
   clear H
   have H := H1
   clear H1
   obtain rfl := Option.some.inj H
   go_enter Tryz.func124, Tryz.ntmps124
   go_wp2_with (first | ((with_reducible refine gate_callee (f := 137) rfl ?_); refine goesL_ (some 8) rfl rfl Tryz.func137 (by kernel_rfl) rfl #[.int .i64 a0] rfl (by (try simp only [List.map_toArray, List.map_cons, List.map_nil]); first | done | rfl | (simp only [List.length_drop, List.length_take]; rfl)) ?_; (with_reducible refine (cmp_isNaN_int.calls a0 true _ A3.out).mono ?_); rintro e w' ⟨rfl, ⟨nd, rfl⟩⟩; refine ⟨_, rfl, ?_⟩) | ((with_reducible refine gate_callee (f := 137) rfl ?_); refine goesL_ (some 10) rfl rfl Tryz.func137 (by kernel_rfl) rfl #[.int .i64 a1] rfl (by (try simp only [List.map_toArray, List.map_cons, List.map_nil]); first | done | rfl | (simp only [List.length_drop, List.length_take]; rfl)) ?_; (with_reducible refine (cmp_isNaN_int.calls a1 true _ A4.out).mono ?_); rintro e w' ⟨rfl, ⟨nd, rfl⟩⟩; refine ⟨_, rfl, ?_⟩))
   go_ret
   exact ⟨by first | rfl | (simp; done) | (simp [*]; done), by repeat (first | exact Drawn0.refl _ | apply Drawn0.step)⟩
  ·replace c6 := Bool.eq_false_iff.mpr c6
   subst c6
   have H1 : (some (-1)) = some r := by rw [if_neg (show ¬ (false = true) by decide)] at H; exact H
   clear H
   have H := H1
   clear H1
   obtain rfl := Option.some.inj H
   go_enter Tryz.func124, Tryz.ntmps124
   go_wp2_with (first | ((with_reducible refine gate_callee (f := 137) rfl ?_); refine goesL_ (some 8) rfl rfl Tryz.func137 (by kernel_rfl) rfl #[.int .i64 a0] rfl (by (try simp only [List.map_toArray, List.map_cons, List.map_nil]); first | done | rfl | (simp only [List.length_drop, List.length_take]; rfl)) ?_; (with_reducible refine (cmp_isNaN_int.calls a0 true _ A3.out).mono ?_); rintro e w' ⟨rfl, ⟨nd, rfl⟩⟩; refine ⟨_, rfl, ?_⟩) | ((with_reducible refine gate_callee (f := 137) rfl ?_); refine goesL_ (some 10) rfl rfl Tryz.func137 (by kernel_rfl) rfl #[.int .i64 a1] rfl (by (try simp only [List.map_toArray, List.map_cons, List.map_nil]); first | done | rfl | (simp only [List.length_drop, List.length_take]; rfl)) ?_; (with_reducible refine (cmp_isNaN_int.calls a1 false _ A4.out).mono ?_); rintro e w' ⟨rfl, ⟨nd, rfl⟩⟩; refine ⟨_, rfl, ?_⟩))
   go_ret
   exact ⟨by first | rfl | (simp; done) | (simp [*]; done), by repeat (first | exact Drawn0.refl _ | apply Drawn0.step)⟩
 ·replace c5 := Bool.eq_false_iff.mpr c5
  subst c5
  have H1 : (if t346 = true then (some 1) else (if a0 < a1 then (some (-1)) else (if a0 > a1 then (some 1) else (some 0)))) = some r := by rw [if_neg (show ¬ (false = true) by decide)] at H; exact H
  clear H
  have H := H1
  clear H1
  by_cases c7 : t346 = true
  ·subst c7
   have H1 : (some 1) = some r := by rw [if_pos rfl] at H; exact H
   clear H
   have H := H1
   clear H1
   obtain rfl := Option.some.inj H
   go_enter Tryz.func124, Tryz.ntmps124
   go_wp2_with (first | ((with_reducible refine gate_callee (f := 137) rfl ?_); refine goesL_ (some 8) rfl rfl Tryz.func137 (by kernel_rfl) rfl #[.int .i64 a0] rfl (by (try simp only [List.map_toArray, List.map_cons, List.map_nil]); first | done | rfl | (simp only [List.length_drop, List.length_take]; rfl)) ?_; (with_reducible refine (cmp_isNaN_int.calls a0 false _ A3.out).mono ?_); rintro e w' ⟨rfl, ⟨nd, rfl⟩⟩; refine ⟨_, rfl, ?_⟩) | ((with_reducible refine gate_callee (f := 137) rfl ?_); refine goesL_ (some 10) rfl rfl Tryz.func137 (by kernel_rfl) rfl #[.int .i64 a1] rfl (by (try simp only [List.map_toArray, List.map_cons, List.map_nil]); first | done | rfl | (simp only [List.length_drop, List.length_take]; rfl)) ?_; (with_reducible refine (cmp_isNaN_int.calls a1 true _ A4.out).mono ?_); rintro e w' ⟨rfl, ⟨nd, rfl⟩⟩; refine ⟨_, rfl, ?_⟩))
   go_ret
   exact ⟨by first | rfl | (simp; done) | (simp [*]; done), by repeat (first | exact Drawn0.refl _ | apply Drawn0.step)⟩
  ·replace c7 := Bool.eq_false_iff.mpr c7
   subst c7
   have H1 : (if a0 < a1 then (some (-1)) else (if a0 > a1 then (some 1) else (some 0))) = some r := by rw [if_neg (show ¬ (false = true) by decide)] at H; exact H
   clear H
   have H := H1
   clear H1
   by_cases c8 : a0 < a1
   ·rw [if_pos c8] at H
    have c8b0 : decide (a0 < a1) = true := decide_eq_true c8
    clear c8
    obtain rfl := Option.some.inj H
    go_enter Tryz.func124, Tryz.ntmps124
    go_wp2_with (first | ((with_reducible refine gate_callee (f := 137) rfl ?_); refine goesL_ (some 8) rfl rfl Tryz.func137 (by kernel_rfl) rfl #[.int .i64 a0] rfl (by (try simp only [List.map_toArray, List.map_cons, List.map_nil]); first | done | rfl | (simp only [List.length_drop, List.length_take]; rfl)) ?_; (with_reducible refine (cmp_isNaN_int.calls a0 false _ A3.out).mono ?_); rintro e w' ⟨rfl, ⟨nd, rfl⟩⟩; refine ⟨_, rfl, ?_⟩) | ((with_reducible refine gate_callee (f := 137) rfl ?_); refine goesL_ (some 10) rfl rfl Tryz.func137 (by kernel_rfl) rfl #[.int .i64 a1] rfl (by (try simp only [List.map_toArray, List.map_cons, List.map_nil]); first | done | rfl | (simp only [List.length_drop, List.length_take]; rfl)) ?_; (with_reducible refine (cmp_isNaN_int.calls a1 false _ A4.out).mono ?_); rintro e w' ⟨rfl, ⟨nd, rfl⟩⟩; refine ⟨_, rfl, ?_⟩))
    go_ret
    exact ⟨by first | rfl | (simp; done) | (simp [*]; done), by repeat (first | exact Drawn0.refl _ | apply Drawn0.step)⟩
   ·rw [if_neg c8] at H
    have c8b0 : decide (a0 < a1) = false := decide_eq_false c8
    clear c8
    by_cases c9 : a0 > a1
    ·rw [if_pos c9] at H
     have c9b0 : decide (a1 < a0) = true := decide_eq_true c9
     clear c9
     obtain rfl := Option.some.inj H
     go_enter Tryz.func124, Tryz.ntmps124
     go_wp2_with (first | ((with_reducible refine gate_callee (f := 137) rfl ?_); refine goesL_ (some 8) rfl rfl Tryz.func137 (by kernel_rfl) rfl #[.int .i64 a0] rfl (by (try simp only [List.map_toArray, List.map_cons, List.map_nil]); first | done | rfl | (simp only [List.length_drop, List.length_take]; rfl)) ?_; (with_reducible refine (cmp_isNaN_int.calls a0 false _ A3.out).mono ?_); rintro e w' ⟨rfl, ⟨nd, rfl⟩⟩; refine ⟨_, rfl, ?_⟩) | ((with_reducible refine gate_callee (f := 137) rfl ?_); refine goesL_ (some 10) rfl rfl Tryz.func137 (by kernel_rfl) rfl #[.int .i64 a1] rfl (by (try simp only [List.map_toArray, List.map_cons, List.map_nil]); first | done | rfl | (simp only [List.length_drop, List.length_take]; rfl)) ?_; (with_reducible refine (cmp_isNaN_int.calls a1 false _ A4.out).mono ?_); rintro e w' ⟨rfl, ⟨nd, rfl⟩⟩; refine ⟨_, rfl, ?_⟩))
     go_ret
     exact ⟨by first | rfl | (simp; done) | (simp [*]; done), by repeat (first | exact Drawn0.refl _ | apply Drawn0.step)⟩
    ·rw [if_neg c9] at H
     have c9b0 : decide (a1 < a0) = false := decide_eq_false c9
     clear c9
     obtain rfl := Option.some.inj H
     go_enter Tryz.func124, Tryz.ntmps124
     go_wp2_with (first | ((with_reducible refine gate_callee (f := 137) rfl ?_); refine goesL_ (some 8) rfl rfl Tryz.func137 (by kernel_rfl) rfl #[.int .i64 a0] rfl (by (try simp only [List.map_toArray, List.map_cons, List.map_nil]); first | done | rfl | (simp only [List.length_drop, List.length_take]; rfl)) ?_; (with_reducible refine (cmp_isNaN_int.calls a0 false _ A3.out).mono ?_); rintro e w' ⟨rfl, ⟨nd, rfl⟩⟩; refine ⟨_, rfl, ?_⟩) | ((with_reducible refine gate_callee (f := 137) rfl ?_); refine goesL_ (some 10) rfl rfl Tryz.func137 (by kernel_rfl) rfl #[.int .i64 a1] rfl (by (try simp only [List.map_toArray, List.map_cons, List.map_nil]); first | done | rfl | (simp only [List.length_drop, List.length_take]; rfl)) ?_; (with_reducible refine (cmp_isNaN_int.calls a1 false _ A4.out).mono ?_); rintro e w' ⟨rfl, ⟨nd, rfl⟩⟩; refine ⟨_, rfl, ?_⟩))
     go_ret
     exact ⟨by first | rfl | (simp; done) | (simp [*]; done), by repeat (first | exact Drawn0.refl _ | apply Drawn0.step)⟩

end Go.Proofs.YthimblhfjfngiaaGreat.PText

namespace Go.Proofs.YthimblhfjfngiaaGreat.PText
open Go.RowKit Go.Proofs.YthimblhfjfngiaaGreatW.PrintWords Go.Proofs.YthimblhfjfngiaaGreatW.PrintLast Go.Proofs.YthimblhfjfngiaaGreatW.PrintMore
attribute [local go_sem] max2_int min2_int max_two min_two max_three min_three max_four min_four   -- for this text's walks alone
set_option linter.unusedVariables false
set_option linter.unusedSimpArgs false

mutual
def text_clash.l0 : Nat → Int → Int → List (S91) → Int → Int → Option (Bool)
 | 0, _, _, _, _, _ => none
 | k + 1, x3, x4, x7, x8, x9 => if x9 < x8 then (if 0 ≤ x9 then (if x9 < (x7.length : Int) then (if ((rd_T91 x7 x9).f0) < x3 then (text_clash.j1 k x3 x4 x7 x8 x9 true ((rd_T91 x7 x9).f0) ((rd_T91 x7 x9).f1) ((rd_T91 x7 x9).f2)) else (if ((rd_T91 x7 x9).f0) = ((rd_T91 x7 x9).f1) then (text_clash.j1 k x3 x4 x7 x8 x9 (((rd_T91 x7 x9).f0) == x4) ((rd_T91 x7 x9).f0) ((rd_T91 x7 x9).f1) ((rd_T91 x7 x9).f2)) else (text_clash.j1 k x3 x4 x7 x8 x9 false ((rd_T91 x7 x9).f0) ((rd_T91 x7 x9).f1) ((rd_T91 x7 x9).f2)))) else (none)) else (none)) else (some false)
def text_clash.j1 : Nat → Int → Int → List (S91) → Int → Int → Bool → Int → Int → ByteArray → Option (Bool)
 | 0, _, _, _, _, _, _, _, _, _ => none
 | k + 1, x3, x4, x7, x8, x9, x29, x372000, x372001, x372002 => if x29 = true then (some true) else (if x372000 = x372001 then (text_clash.l0 k (mx x3 x372001) x372000 x7 x8 (wrap64 (x9 + 1))) else (text_clash.l0 k (mx x3 x372001) x4 x7 x8 (wrap64 (x9 + 1))))
end
def text_clash.f (k : Nat) (l0 : List (S91)) : Option (Bool) := text_clash.l0 k 0 (-1) l0 (l0.length : Int) 0
set_option maxHeartbeats 8000000 in
set_option maxRecDepth 100000 in
theorem text_clash.calls (k : Nat) (A0 : Option Addr) (c0 : Nat) (l0 : List (S91)) (r : Bool) (w : World) (hr0 : Kd.C k91 w A0 l0.length l0) (hc0 : l0.length ≤ c0) (h : text_clash.f k l0 = some r) :
  Calls Tryz.prog 105 #[.slice A0 l0.length c0] w fun e w' => e = .returned (.bool r) ∧ Below w.heap.size w w' := by
 have hu91 := Tryz.underlying91
 have HR0 := Aside0.mk hr0
 have HC0 := Aside0.mk hc0
 clear hr0 hc0
 have HB := Aside0.mk (Below.refl w.heap.size w)
 have H : (text_clash.l0 k 0 (-1) l0 (l0.length : Int) 0) = some r := h
 clear h
 have H' := Aside0.mk H
 clear H
 go_enter Tryz.func105, Tryz.ntmps105
 go_wp2
 try simp only [Act.put, List.setIfInBounds_toArray, List.set_cons_succ, List.set_cons_zero]
 go_loopg [3, 4, 9] k (fun kq v3 v4 v9 w' => ∃ (x3_1 : Int) (x4_1 : Int) (x9_1 : Int), v3 = .int .i64 x3_1 ∧ v4 = .int .i64 x4_1 ∧ v9 = .int .i64 x9_1 ∧ Aside0 (text_clash.l0 kq x3_1 x4_1 l0 (l0.length : Int) x9_1 = some r) ∧ Aside0 (kq ≤ k) ∧ Aside0 (Below w.heap.size w w'))
 case atStart => exact ⟨(0), ((-1)), (0), (by first | rfl | (simp; done) | (simp [*]; done)), (by first | rfl | (simp; done) | (simp [*]; done)), (by first | rfl | (simp; done) | (simp [*]; done)), H', ⟨Nat.le_refl _⟩, ⟨by repeat (with_reducible first | exact HB.out | apply below_alloc | apply pw_below_drewN | apply below_drew1)⟩⟩
 case round =>
  clear H'
  try clear c1
  obtain ⟨x3_1, x4_1, x9_1, rfl, rfl, rfl, HA, HK1, HB⟩ := hrel
  cases gk with
  | zero => exact absurd HA.out (by simp [text_clash.l0])
  | succ k1 =>
   have H := HA.out
   clear HA
   simp only [text_clash.l0] at H
   by_cases c2 : x9_1 < (l0.length : Int)
   ·rw [if_pos c2] at H
    have c2b0 : decide (x9_1 < (l0.length : Int)) = true := decide_eq_true c2
    clear c2
    by_cases c3 : 0 ≤ x9_1
    ·rw [if_pos c3] at H
     have c3b0 : decide (0 ≤ x9_1) = true := decide_eq_true c3
     clear c3
     by_cases c4 : x9_1 < (l0.length : Int)
     ·rw [if_pos c4] at H
      have c4b0 : decide (x9_1 < (l0.length : Int)) = true := decide_eq_true c4
      clear c4
      have HC5 := Aside0.mk H
      clear H
      have p370 : 0 ≤ (x9_1 : Int) := of_decide_eq_true (by assumption)
      have q370 : x9_1 < (l0.length : Int) := of_decide_eq_true (by assumption)
      obtain ⟨ad370, e370, hx370_0, hx370_1, hx370_2⟩ := at_T91 HR0.out x9_1 p370 q370
      cases e370
      replace hx370_0 := (HB.out.cell (World.block_lt_of_cell? w _ hx370_0)).trans hx370_0
      replace hx370_1 := (HB.out.cell (World.block_lt_of_cell? w _ hx370_1)).trans hx370_1
      replace hx370_2 := (HB.out.cell (World.block_lt_of_cell? w _ hx370_2)).trans hx370_2
      replace p370 := eq_true p370
      replace q370 := eq_true q370
      go_upto_region 5 with (first | ((with_reducible refine gate_dst (N := 6) rfl ?_); refine box_event ?hg (N := 6) ?hd (cs := #[.int .i64 0, .int .i64 0, .string (⟨#[]⟩ : ByteArray)]) (t := 91) ?hr ?_; (case hd => rfl); (case hg => rfl); (case hr => first | (go_simp; done) | (go_simp; rfl)); intro gb371 hg w6 hbox hb; have n0_ := Aside0.mk (below_step (by repeat (with_reducible first | exact HB.out | apply below_alloc | apply pw_below_drewN | apply below_drew1)) hb); have n1_ := Aside0.mk (hbox); have n2_ := Aside0.mk ((by rw [hg]; exact (below_size (by repeat (with_reducible first | exact HB.out | apply below_alloc | apply pw_below_drewN | apply below_drew1))) : w.heap.size ≤ gb371)); have n3_ := Aside0.mk ((by rw [hg]; exact (below_size (by repeat (with_reducible first | exact HB.out | apply below_alloc | apply pw_below_drewN | apply below_drew1))) : w.heap.size ≤ gb371)); clear HB; have HB := n0_; have BK371 := n1_; have GW371 := n2_; have GE371 := n3_; clear n0_ n1_ n2_ n3_; clear hb hbox hg; have hcz7_0 : w6.cell? ⟨gb371, 0, none⟩ = some (.int .i64 0) := (blk_cell BK371.out 0).trans rfl; have hcz7_1 : w6.cell? ⟨gb371, 1, none⟩ = some (.int .i64 0) := (blk_cell BK371.out 1).trans rfl; have hcz7_2 : w6.cell? ⟨gb371, 2, none⟩ = some (.string (⟨#[]⟩ : ByteArray)) := (blk_cell BK371.out 2).trans rfl; have hfz7_0 := blk_frozen BK371.out 0; have hfz7_1 := blk_frozen BK371.out 1; have hfz7_2 := blk_frozen BK371.out 2))
      (try simp only [Act.put, q1_, q2_, q3_])
      go_cut [29] (fun v29 wc => ∃ (kq : Nat) (x29_4 : Bool), v29 = .bool x29_4 ∧ Aside0 (text_clash.j1 kq x3_1 x4_1 l0 (l0.length : Int) x9_1 x29_4 ((rd_T91 l0 x9_1).f0) ((rd_T91 l0 x9_1).f1) ((rd_T91 l0 x9_1).f2) = some r) ∧ Aside0 (kq ≤ k1) ∧ Aside0 (wc.heap[gb371]? = some (.cells #[.int .i64 ((rd_T91 l0 x9_1).f0), .int .i64 ((rd_T91 l0 x9_1).f1), .string ((rd_T91 l0 x9_1).f2)] 91 (0, 0))) ∧ Aside0 (Below w.heap.size w wc))
      case first =>
       have H := HC5.out
       clear HC5
       by_cases c8 : ((rd_T91 l0 x9_1).f0) < x3_1
       ·rw [if_pos c8] at H
        have c8b0 : decide (((rd_T91 l0 x9_1).f0) < x3_1) = true := decide_eq_true c8
        clear c8
        (first | rw [c8b0] | (simp only [i64_w, i32_w]; rw [c8b0]) | skip)
        have H' := Aside0.mk H
        clear H
        have hcz9_0 : w6.cell? ⟨gb371, 0, none⟩ = some (.int .i64 0) := (blk_cell BK371.out 0).trans rfl
        have hcz9_1 : w6.cell? ⟨gb371, 1, none⟩ = some (.int .i64 0) := (blk_cell BK371.out 1).trans rfl
        have hcz9_2 : w6.cell? ⟨gb371, 2, none⟩ = some (.string (⟨#[]⟩ : ByteArray)) := (blk_cell BK371.out 2).trans rfl
        have hfz9_0 := blk_frozen BK371.out 0
        have hfz9_1 := blk_frozen BK371.out 1
        have hfz9_2 := blk_frozen BK371.out 2
        go_wp2
        go_meet
        case rel => exact ⟨_, (true), (by first | rfl | (simp; done) | (simp [*]; done)), H', ⟨by have := HK1.out; first | omega | exact Nat.le_refl _⟩, ⟨by (with_reducible repeat (first | refine blk_drewN ?_ _ | refine blk_drew ?_ | refine blk_alloc ?_ _)); refine blk_put (cs := #[.int .i64 ((rd_T91 l0 x9_1).f0), .int .i64 ((rd_T91 l0 x9_1).f1), .string (⟨#[]⟩ : ByteArray)]) ?_ 2 _ rfl; (with_reducible repeat (first | refine blk_drewN ?_ _ | refine blk_drew ?_ | refine blk_alloc ?_ _)); refine blk_put (cs := #[.int .i64 ((rd_T91 l0 x9_1).f0), .int .i64 0, .string (⟨#[]⟩ : ByteArray)]) ?_ 1 _ rfl; (with_reducible repeat (first | refine blk_drewN ?_ _ | refine blk_drew ?_ | refine blk_alloc ?_ _)); refine blk_put (cs := #[.int .i64 0, .int .i64 0, .string (⟨#[]⟩ : ByteArray)]) ?_ 0 _ rfl; (with_reducible repeat (first | refine blk_drewN ?_ _ | refine blk_drew ?_ | refine blk_alloc ?_ _)); exact BK371.out⟩, ⟨by repeat (with_reducible first | exact HB.out | apply below_alloc | apply pw_below_drewN | apply below_drew1 | refine below_set ?_ GE371.out)⟩⟩
       ·rw [if_neg c8] at H
        have c8b0 : decide (((rd_T91 l0 x9_1).f0) < x3_1) = false := decide_eq_false c8
        clear c8
        (first | rw [c8b0] | (simp only [i64_w, i32_w]; rw [c8b0]) | skip)
        by_cases c10 : ((rd_T91 l0 x9_1).f0) = ((rd_T91 l0 x9_1).f1)
        ·rw [if_pos c10] at H
         have c10b0 : (((rd_T91 l0 x9_1).f0) == ((rd_T91 l0 x9_1).f1)) = true := beq_iff_eq.mpr c10
         have c10b1 : (((rd_T91 l0 x9_1).f0) != ((rd_T91 l0 x9_1).f1)) = false := bne_eq_false_iff_eq.mpr c10
         clear c10
         have H' := Aside0.mk H
         clear H
         have hcz11_0 : w6.cell? ⟨gb371, 0, none⟩ = some (.int .i64 0) := (blk_cell BK371.out 0).trans rfl
         have hcz11_1 : w6.cell? ⟨gb371, 1, none⟩ = some (.int .i64 0) := (blk_cell BK371.out 1).trans rfl
         have hcz11_2 : w6.cell? ⟨gb371, 2, none⟩ = some (.string (⟨#[]⟩ : ByteArray)) := (blk_cell BK371.out 2).trans rfl
         have hfz11_0 := blk_frozen BK371.out 0
         have hfz11_1 := blk_frozen BK371.out 1
         have hfz11_2 := blk_frozen BK371.out 2
         go_wp2
         go_meet
         case rel => exact ⟨_, ((((rd_T91 l0 x9_1).f0) == x4_1)), (by first | rfl | (simp; done) | (simp [*]; done)), H', ⟨by have := HK1.out; first | omega | exact Nat.le_refl _⟩, ⟨by (with_reducible repeat (first | refine blk_drewN ?_ _ | refine blk_drew ?_ | refine blk_alloc ?_ _)); refine blk_put (cs := #[.int .i64 ((rd_T91 l0 x9_1).f0), .int .i64 ((rd_T91 l0 x9_1).f1), .string (⟨#[]⟩ : ByteArray)]) ?_ 2 _ rfl; (with_reducible repeat (first | refine blk_drewN ?_ _ | refine blk_drew ?_ | refine blk_alloc ?_ _)); refine blk_put (cs := #[.int .i64 ((rd_T91 l0 x9_1).f0), .int .i64 0, .string (⟨#[]⟩ : ByteArray)]) ?_ 1 _ rfl; (with_reducible repeat (first | refine blk_drewN ?_ _ | refine blk_drew ?_ | refine blk_alloc ?_ _)); refine blk_put (cs := #[.int .i64 0, .int .i64 0, .string (⟨#[]⟩ : ByteArray)]) ?_ 0 _ rfl; (with_reducible repeat (first | refine blk_drewN ?_ _ | refine blk_drew ?_ | refine blk_alloc ?_ _)); exact BK371.out⟩, ⟨by repeat (with_reducible first | exact HB.out | apply below_alloc | apply pw_below_drewN | apply below_drew1 | refine below_set ?_ GE371.out)⟩⟩
        ·rw [if_neg c10] at H
         have c10b0 : (((rd_T91 l0 x9_1).f0) == ((rd_T91 l0 x9_1).f1)) = false := beq_eq_false_iff_ne.mpr c10
         have c10b1 : (((rd_T91 l0 x9_1).f0) != ((rd_T91 l0 x9_1).f1)) = true := bne_iff_ne.mpr c10
         have H' := Aside0.mk H
         clear H
         have hcz12_0 : w6.cell? ⟨gb371, 0, none⟩ = some (.int .i64 0) := (blk_cell BK371.out 0).trans rfl
         have hcz12_1 : w6.cell? ⟨gb371, 1, none⟩ = some (.int .i64 0) := (blk_cell BK371.out 1).trans rfl
         have hcz12_2 : w6.cell? ⟨gb371, 2, none⟩ = some (.string (⟨#[]⟩ : ByteArray)) := (blk_cell BK371.out 2).trans rfl
         have hfz12_0 := blk_frozen BK371.out 0
         have hfz12_1 := blk_frozen BK371.out 1
         have hfz12_2 := blk_frozen BK371.out 2
         go_wp2
         go_meet
         case rel => exact ⟨_, (false), (by first | rfl | (simp; done) | (simp [*]; done)), H', ⟨by have := HK1.out; first | omega | exact Nat.le_refl _⟩, ⟨by (with_reducible repeat (first | refine blk_drewN ?_ _ | refine blk_drew ?_ | refine blk_alloc ?_ _)); refine blk_put (cs := #[.int .i64 ((rd_T91 l0 x9_1).f0), .int .i64 ((rd_T91 l0 x9_1).f1), .string (⟨#[]⟩ : ByteArray)]) ?_ 2 _ rfl; (with_reducible repeat (first | refine blk_drewN ?_ _ | refine blk_drew ?_ | refine blk_alloc ?_ _)); refine blk_put (cs := #[.int .i64 ((rd_T91 l0 x9_1).f0), .int .i64 0, .string (⟨#[]⟩ : ByteArray)]) ?_ 1 _ rfl; (with_reducible repeat (first | refine blk_drewN ?_ _ | refine blk_drew ?_ | refine blk_alloc ?_ _)); refine blk_put (cs := #[.int .i64 0, .int .i64 0, .string (⟨#[]⟩ : ByteArray)]) ?_ 0 _ rfl; (with_reducible repeat (first | refine blk_drewN ?_ _ | refine blk_drew ?_ | refine blk_alloc ?_ _)); exact BK371.out⟩, ⟨by repeat (with_reducible first | exact HB.out | apply below_alloc | apply pw_below_drewN | apply below_drew1 | refine below_set ?_ GE371.out)⟩⟩
      case rest =>
       clear HC5
       try clear c1
       try clear c2
       try clear c2b0
       try clear p2
       try clear c3
       try clear c3b0
       try clear p3
       try clear q3
       try clear hx3
       try clear c4
       try clear c4b0
       try clear c8
       try clear c8b0
       try clear c10
       try clear c10b0
       try clear c10b1
       try clear hcz11_0
       try clear hcz11_1
       try clear hcz11_2
       try clear hcz12_0
       try clear hcz12_1
       try clear hcz12_2
       try clear hcz7_0
       try clear hcz7_1
       try clear hcz7_2
       try clear hcz9_0
       try clear hcz9_1
       try clear hcz9_2
       try clear hfz11_0
       try clear hfz11_1
       try clear hfz11_2
       try clear hfz12_0
       try clear hfz12_1
       try clear hfz12_2
       try clear hfz7_0
       try clear hfz7_1
       try clear hfz7_2
       try clear hfz9_0
       try clear hfz9_1
       try clear hfz9_2
       try clear hx370_0
       try clear hx370_1
       try clear hx370_2
       try clear p370
       try clear q370
       obtain ⟨kq, x29_4, rfl, HA, HJ4, BK371, HB⟩ := hcut
       cases kq with
       | zero => exact absurd HA.out (by simp [text_clash.j1])
       | succ kj4 =>
        have H := HA.out
        clear HA
        simp only [text_clash.j1] at H
        by_cases c13 : x29_4 = true
        ·subst c13
         have H1 : (some true) = some r := by rw [if_pos rfl] at H; exact H
         clear H
         have H := H1
         clear H1
         obtain rfl := Option.some.inj H
         go_wp2
         go_ret
         exact ⟨by first | rfl | (simp [errW_none, errW_some] <;> rfl) | (simp [*, errW_none, errW_some] <;> rfl), by repeat (with_reducible first | exact HB.out | apply below_alloc | apply pw_below_drewN | apply below_drew1 | refine below_set ?_ GE371.out)⟩
        ·replace c13 := Bool.eq_false_iff.mpr c13
         subst c13
         have H1 : (if ((rd_T91 l0 x9_1).f0) = ((rd_T91 l0 x9_1).f1) then (text_clash.l0 kj4 (mx x3_1 ((rd_T91 l0 x9_1).f1)) ((rd_T91 l0 x9_1).f0) l0 (l0.length : Int) (wrap64 (x9_1 + 1))) else (text_clash.l0 kj4 (mx x3_1 ((rd_T91 l0 x9_1).f1)) x4_1 l0 (l0.length : Int) (wrap64 (x9_1 + 1)))) = some r := by rw [if_neg (show ¬ (false = true) by decide)] at H; exact H
         clear H
         have H := H1
         clear H1
         obtain ⟨ji14, hji14⟩ : ∃ j_ : Int, (mx x3_1 ((rd_T91 l0 x9_1).f1)) = j_ := ⟨_, rfl⟩
         replace H : (if ((rd_T91 l0 x9_1).f0) = ((rd_T91 l0 x9_1).f1) then (text_clash.l0 kj4 ji14 ((rd_T91 l0 x9_1).f0) l0 (l0.length : Int) (wrap64 (x9_1 + 1))) else (text_clash.l0 kj4 ji14 x4_1 l0 (l0.length : Int) (wrap64 (x9_1 + 1)))) = some r := by first | (rw [hji14] at H; exact H) | (simp only [hji14] at H ⊢; exact H)
         have hji14_ : (if x3_1 < ((rd_T91 l0 x9_1).f1) then ((rd_T91 l0 x9_1).f1) else x3_1) = ji14 := hji14
         by_cases c15 : ((rd_T91 l0 x9_1).f0) = ((rd_T91 l0 x9_1).f1)
         ·rw [if_pos c15] at H
          have c15b0 : (((rd_T91 l0 x9_1).f0) == ((rd_T91 l0 x9_1).f1)) = true := beq_iff_eq.mpr c15
          have c15b1 : (((rd_T91 l0 x9_1).f0) != ((rd_T91 l0 x9_1).f1)) = false := bne_eq_false_iff_eq.mpr c15
          clear c15
          have H' := Aside0.mk H
          clear H
          have hcz16_0 : wc.cell? ⟨gb371, 0, none⟩ = some (.int .i64 ((rd_T91 l0 x9_1).f0)) := (blk_cell BK371.out 0).trans rfl
          have hcz16_1 : wc.cell? ⟨gb371, 1, none⟩ = some (.int .i64 ((rd_T91 l0 x9_1).f1)) := (blk_cell BK371.out 1).trans rfl
          have hcz16_2 : wc.cell? ⟨gb371, 2, none⟩ = some (.string ((rd_T91 l0 x9_1).f2)) := (blk_cell BK371.out 2).trans rfl
          have hfz16_0 := blk_frozen BK371.out 0
          have hfz16_1 := blk_frozen BK371.out 1
          have hfz16_2 := blk_frozen BK371.out 2
          go_wp2
          go_roundg kj4
          case measure => have := HK1.out; have := HJ4.out; omega
          case rel => exact ⟨(ji14), (((rd_T91 l0 x9_1).f0)), (wrap64 (x9_1 + 1)), (by first | rfl | (simp; done) | (simp only [← hji14] <;> (first | rfl | simp)) | (simp [*]; done)), (by first | rfl | (simp; done) | (simp [*]; done)), (by first | rfl | (simp; done) | (simp [*]; done)), H', ⟨by have := HK1.out; have := HJ4.out; omega⟩, ⟨by repeat (with_reducible first | exact HB.out | apply below_alloc | apply pw_below_drewN | apply below_drew1 | refine below_set ?_ GE371.out)⟩⟩
         ·rw [if_neg c15] at H
          have c15b0 : (((rd_T91 l0 x9_1).f0) == ((rd_T91 l0 x9_1).f1)) = false := beq_eq_false_iff_ne.mpr c15
          have c15b1 : (((rd_T91 l0 x9_1).f0) != ((rd_T91 l0 x9_1).f1)) = true := bne_iff_ne.mpr c15
          have H' := Aside0.mk H
          clear H
          have hcz17_0 : wc.cell? ⟨gb371, 0, none⟩ = some (.int .i64 ((rd_T91 l0 x9_1).f0)) := (blk_cell BK371.out 0).trans rfl
          have hcz17_1 : wc.cell? ⟨gb371, 1, none⟩ = some (.int .i64 ((rd_T91 l0 x9_1).f1)) := (blk_cell BK371.out 1).trans rfl
          have hcz17_2 : wc.cell? ⟨gb371, 2, none⟩ = some (.string ((rd_T91 l0 x9_1).f2)) := (blk_cell BK371.out 2).trans rfl
          have hfz17_0 := blk_frozen BK371.out 0
          have hfz17_1 := blk_frozen BK371.out 1
          have hfz17_2 := blk_frozen BK371.out 2
          go_wp2
          go_roundg kj4
          case measure => have := HK1.out; have := HJ4.out; omega
          case rel => exact ⟨(ji14), (x4_1), (wrap64 (x9_1 + 1)), (by first | rfl | (simp; done) | (simp only [← hji14] <;> (first | rfl | simp)) | (simp [*]; done)), (by first | rfl | (simp; done) | (simp [*]; done)), (by first | rfl | (simp; done) | (simp [*]; done)), H', ⟨by have := HK1.out; have := HJ4.out; omega⟩, ⟨by repeat (with_reducible first | exact HB.out | apply below_alloc | apply pw_below_drewN | apply below_drew1 | refine below_set ?_ GE371.out)⟩⟩
     ·rw [if_neg c4] at H
      exact absurd H (by simp)
    ·rw [if_neg c3] at H
     exact absurd H (by simp)
   ·rw [if_neg c2] at H
    have c2b0 : decide (x9_1 < (l0.length : Int)) = false := decide_eq_false c2
    clear c2
    obtain rfl := Option.some.inj H
    go_wp2
    go_ret
    exact ⟨by first | rfl | (simp [errW_none, errW_some] <;> rfl) | (simp [*, errW_none, errW_some] <;> rfl), by repeat (with_reducible first | exact HB.out | apply below_alloc | apply pw_below_drewN | apply below_drew1)⟩

end Go.Proofs.YthimblhfjfngiaaGreat.PText

