/- Chapter 02: what the claims share. Part 7 of 11. -/
import Derived.Test.YtabnmkakgcifoaaDoorBLexF
namespace Go.Proofs.YtabnmkakgcifoaaDoor.PLex
open Go.RowKit Go.Proofs.YtabnmkakgcifoaaDoorW.PrintWords Go.Proofs.YtabnmkakgcifoaaDoorW.PrintLast Go.Proofs.YtabnmkakgcifoaaDoorW.PrintMore
theorem begins_eq (s t : ByteArray) (a : Nat) (hs : s.size ≤ 140737488355328) (h : a ≤ s.size) (ht : t.size ≤ 1000) : rf2_begins.f s a t = some ((bl t).isPrefixOf ((bl s).drop a)) := by
  unfold rf2_begins.f
  have hp := bl_length t
  have hx := bl_length s
  rw [w64 (by omega) (by omega), w64 (by omega) (by omega)]
  by_cases h1 : (s.size : Int) - a ≥ (t.size : Int)
  · rw [if_pos h1, if_pos (by omega), if_pos (by omega), if_pos (by omega)]
    simp only [Option.some.injEq]
    rw [toList_bl, toList_bl, extract_bl, show ((a : Int) + (t.size : Int)).toNat - (a : Int).toNat = t.size by omega, Int.toNat_natCast]
    rw [Bool.eq_iff_iff, beq_iff_eq, List.isPrefixOf_iff_prefix, List.prefix_iff_eq_take, hp]
    exact ⟨fun h => h.symm, fun h => h.symm⟩
  · rw [if_neg h1]
    simp only [Option.some.injEq]
    symm
    rw [← Bool.not_eq_true, List.isPrefixOf_iff_prefix]
    intro hh
    have := hh.length_le
    simp only [List.length_drop] at this
    omega
theorem byteAt_eq (s : ByteArray) (a : Nat) : rf2_byteAt.f s a = some (((((bl s).drop a).headD 0).toNat : Nat) : Int) := by
  unfold rf2_byteAt.f
  rw [if_neg (by omega)]
  cases hd : (bl s).drop a with
  | nil =>
    have := drop_nil hd
    rw [if_pos (by omega)]; rfl
  | cons c r =>
    obtain ⟨h1, h2, h3, h4⟩ := drop_cons hd
    rw [if_neg (by omega), if_pos (by omega), if_pos (by omega), h2]
    rfl
theorem rletter_eq (c : UInt8) : rf2_letter.f (c.toNat : Int) = some (Lx.isL c) := letter_eq c
theorem rdigit_eq (c : UInt8) : rf2_digit.f (c.toNat : Int) = some (Lx.isD c) := digit_eq c
theorem cmt_cons (c : UInt8) (r : List UInt8) : Lx.cmt (c :: r) = if c = 47 then (if r.head? = some 47 then Lx.upto10 r + 1 else if r.head? = some 42 then Lx.block (r.drop 1) + 2 else 0) else 0 := rfl
section
variable (s : ByteArray) (hs : s.size ≤ 140737488355328)
include hs
theorem rcomment_l0 : ∀ (m a : Nat), s.size < a + m → a ≤ s.size → Ev (fun k => rf2_comment.l0 k s a) ((a + Lx.upto10 ((bl s).drop a) : Nat) : Int) := by
  intro m
  induction m with
  | zero => intro a hm ha; omega
  | succ m ih =>
    intro a hm ha
    cases hd : (bl s).drop a with
    | nil =>
      have := drop_nil hd
      refine Ev.step (fun k => ?_) (Ev.now _)
      rw [rf2_comment.l0, if_neg (by omega)]
      rfl
    | cons c r =>
      obtain ⟨h1, h2, h3, h4⟩ := drop_cons hd
      have e := ih (a + 1) (by omega) (by omega)
      rw [h3] at e
      have head : ∀ k, rf2_comment.l0 (k + 1) s a = if c = 10 then some (a : Int) else rf2_comment.l0 k s ((a + 1 : Nat) : Int) := by
        intro k
        rw [rf2_comment.l0, if_pos (by omega), if_pos (by omega), h2, w64 (by omega) (by omega)]
        simp only [ci10]
        rfl
      unfold Lx.upto10
      by_cases hc : c = 10
      · rw [if_pos hc]
        refine Ev.step (fun k => ?_) (Ev.now _)
        rw [head, if_pos hc]; rfl
      · rw [if_neg hc, show a + (Lx.upto10 r + 1) = a + 1 + Lx.upto10 r by omega]
        refine Ev.step (fun k => ?_) e
        rw [head, if_neg hc]
theorem rcomment_l1 : ∀ (m a : Nat), s.size < a + m → a ≤ s.size → Ev (fun k => rf2_comment.l1 k s a) ((a + Lx.block ((bl s).drop a) : Nat) : Int) := by
  intro m
  induction m with
  | zero => intro a hm ha; omega
  | succ m ih =>
    intro a hm ha
    cases hd : (bl s).drop a with
    | nil =>
      have := drop_nil hd
      refine Ev.step (fun k => ?_) (Ev.now _)
      rw [rf2_comment.l1, if_neg (by omega)]
      rw [show s.size = a by omega]
      rfl
    | cons c r =>
      obtain ⟨h1, h2, h3, h4⟩ := drop_cons hd
      have e := ih (a + 1) (by omega) (by omega)
      rw [h3] at e
      have head : ∀ k, rf2_comment.l1 (k + 1) s a = if c = 42 ∧ r.head? = some 47 then some ((a + 2 : Nat) : Int) else rf2_comment.l1 k s ((a + 1 : Nat) : Int) := by
        intro k
        rw [rf2_comment.l1, if_pos (by omega), begins_eq s _ a hs ha (by decide), Option.bind_some, hd, w64 (by omega) (by omega), w64 (by omega) (by omega)]
        have hb : (bl (⟨#[42, 47]⟩ : ByteArray)).isPrefixOf (c :: r) = true ↔ c = 42 ∧ r.head? = some 47 := by
          show List.isPrefixOf [42, 47] (c :: r) = true ↔ _
          cases r with
          | nil => simp [List.isPrefixOf]
          | cons d r' =>
            simp only [List.isPrefixOf, Bool.and_eq_true, beq_iff_eq, List.head?_cons, Option.some.injEq, Bool.and_true]
            exact ⟨fun h => ⟨h.1.symm, h.2.symm⟩, fun h => ⟨h.1.symm, h.2.symm⟩⟩
        simp only [hb]
        rfl
      unfold Lx.block
      by_cases hc : c = 42 ∧ r.head? = some 47
      · rw [if_pos hc]
        refine Ev.step (fun k => ?_) (Ev.now _)
        rw [head, if_pos hc]
      · rw [if_neg hc, show a + (Lx.block r + 1) = a + 1 + Lx.block r by omega]
        refine Ev.step (fun k => ?_) e
        rw [head, if_neg hc]
theorem rcomment_eq (a : Nat) (ha : a ≤ s.size) : Ev (fun k => rf2_comment.f k s a) ((a + Lx.cmt ((bl s).drop a) : Nat) : Int) := by
  have e0 := rcomment_l0 s hs (s.size + 1) a (by omega) ha
  have B1 := begins_eq s (⟨#[47, 47]⟩ : ByteArray) a hs ha (by decide)
  have B2 := begins_eq s (⟨#[47, 42]⟩ : ByteArray) a hs ha (by decide)
  have head : ∀ k, rf2_comment.f k s a = if (bl (⟨#[47, 47]⟩ : ByteArray)).isPrefixOf ((bl s).drop a) = true then rf2_comment.l0 k s a else if (bl (⟨#[47, 42]⟩ : ByteArray)).isPrefixOf ((bl s).drop a) = true then rf2_comment.l1 k s ((a + 2 : Nat) : Int) else some (a : Int) := by
    intro k
    unfold rf2_comment.f
    rw [B1, Option.bind_some, B2, Option.bind_some, w64 (by omega) (by omega)]
    rfl
  change ∀ k, _ = if List.isPrefixOf [47, 47] ((bl s).drop a) = true then _ else if List.isPrefixOf [47, 42] ((bl s).drop a) = true then _ else _ at head
  cases hd : (bl s).drop a with
  | nil =>
    rw [hd] at head
    refine Ev.congr (fun k => ?_) (Ev.now _)
    rw [head, if_neg (by decide), if_neg (by decide)]; rfl
  | cons c r =>
    rw [hd] at head e0
    obtain ⟨h1, h2, h3, h4⟩ := drop_cons hd
    rw [cmt_cons]
    by_cases hc : c = 47
    · subst hc
      rw [if_pos rfl]
      by_cases h47 : r.head? = some 47
      · rw [if_pos h47]
        obtain ⟨r', rfl⟩ : ∃ r', r = 47 :: r' := by cases r with
          | nil => simp at h47
          | cons d r' => simp at h47; exact ⟨r', by rw [h47]⟩
        refine Ev.congr (fun k => ?_) e0
        rw [head, if_pos (by simp [List.isPrefixOf])]
      · rw [if_neg h47]
        have n1 : ¬ List.isPrefixOf [47, 47] (47 :: r) = true := by
          cases r with
          | nil => decide
          | cons d r' => simp [List.isPrefixOf]; intro h; exact h47 (by simp [← h])
        by_cases h42 : r.head? = some 42
        · rw [if_pos h42]
          obtain ⟨r', rfl⟩ : ∃ r', r = 42 :: r' := by cases r with
            | nil => simp at h42
            | cons d r' => simp at h42; exact ⟨r', by rw [h42]⟩
          have e1 := rcomment_l1 s hs (s.size + 1) (a + 2) (by omega) (by simp only [List.length_cons] at h4; omega)
          rw [← List.drop_drop, hd] at e1
          rw [show a + (Lx.block (List.drop 1 (42 :: r')) + 2) = a + 2 + Lx.block r' by simp only [List.drop_succ_cons, List.drop_zero]; omega]
          refine Ev.congr (fun k => ?_) e1
          rw [head, if_neg n1, if_pos (by simp [List.isPrefixOf])]
        · rw [if_neg h42]
          refine Ev.congr (fun k => ?_) (Ev.now _)
          rw [head, if_neg n1, if_neg]
          · rfl
          · cases r with
            | nil => decide
            | cons d r' => simp [List.isPrefixOf]; intro h; exact h42 (by simp [← h])
    · rw [if_neg hc]
      refine Ev.congr (fun k => ?_) (Ev.now _)
      rw [head, if_neg (by simp [List.isPrefixOf]; intro h; exact absurd h.symm hc), if_neg (by simp [List.isPrefixOf]; intro h; exact absurd h.symm hc)]
      rfl
theorem rpiece_eq (a : Nat) (ha : a ≤ s.size) : Ev (fun k => rf2_piece.f k s a) ((a + Lx.piece ((bl s).drop a) : Nat) : Int) := by
  have ec := rcomment_eq s hs a ha
  have J : ∀ (c : UInt8) (b : Bool) (d e : UInt8) (_ : ((bl s).drop (a + 1)).headD 0 = d) (_ : ((bl s).drop (a + 2)).headD 0 = e) (k : Nat), rf2_piece.j0 (k + 1) s a (c.toNat : Int) b = if b = true then some ((a + 1 : Nat) : Int) else if c = 92 then (if d = 10 then some ((a + 2 : Nat) : Int) else if d = 13 then (if e = 10 then some ((a + 3 : Nat) : Int) else some (a : Int)) else some (a : Int)) else (rf2_comment.f k s a).bind fun t => some t := by
    intro c b d e hd he k
    rw [rf2_piece.j0, w64 (by omega) (by omega), w64 (by omega) (by omega), w64 (by omega) (by omega)]
    rw [show ((a : Int) + 1) = ((a + 1 : Nat) : Int) by omega, show ((a : Int) + 2) = ((a + 2 : Nat) : Int) by omega, byteAt_eq, Option.bind_some, Option.bind_some, byteAt_eq, Option.bind_some, hd, he]
    simp only [ci92, ci10, ci13]
    rfl
  have head : ∀ (c : UInt8) (_ : ((bl s).drop a).headD 0 = c) (k : Nat), rf2_piece.f k s a = rf2_piece.j0 k s a (c.toNat : Int) (Lx.isBl c) := by
    intro c hc k
    unfold rf2_piece.f
    rw [byteAt_eq, Option.bind_some, hc]
    simp only [ci32, ci9, ci10, ci11, ci12]
    by_cases h32 : c = 32
    · subst h32; rfl
    rw [if_neg h32]
    by_cases h9 : c = 9
    · subst h9; rfl
    rw [if_neg h9]
    by_cases h10 : c = 10
    · subst h10; rfl
    rw [if_neg h10]
    by_cases h11 : c = 11
    · subst h11; rfl
    rw [if_neg h11]
    by_cases h12 : c = 12
    · subst h12; rfl
    rw [if_neg h12, bi13]
    congr 1
    unfold Lx.isBl Lx.isFF
    rw [bf h32, bf h9, bf h10, bf h11, bf h12]
    rfl
  cases hd : (bl s).drop a with
  | nil =>
    rw [hd] at ec
    refine Ev.congr (head 0 (by rw [hd]; rfl)) (Ev.step (fun k => J _ _ _ _ rfl rfl k) ?_)
    exact Ev.bind ec (Ev.now _)
  | cons c r =>
    rw [hd] at ec
    obtain ⟨h1, h2, h3, h4⟩ := drop_cons hd
    have hd2 : (bl s).drop (a + 2) = r.drop 1 := by rw [← h3, List.drop_drop]
    have Jc := J c (Lx.isBl c)
    rw [h3, hd2] at Jc
    rw [piece_cons]
    refine Ev.congr (head c (by rw [hd]; rfl)) ?_
    by_cases hb : Lx.isBl c = true
    · rw [if_pos hb]
      exact Ev.step (fun k => (Jc _ _ rfl rfl k).trans (if_pos hb)) (Ev.now _)
    · rw [if_neg hb]
      by_cases h92 : c = 92
      · rw [if_pos h92]
        cases r with
        | nil =>
          exact Ev.step (fun k => (Jc 0 0 rfl rfl k).trans ((if_neg hb).trans (if_pos h92))) (Ev.now _)
        | cons d r' =>
          simp only [List.head?_cons, Option.some.injEq]
          refine Ev.step (fun k => (Jc d _ rfl rfl k).trans ((if_neg hb).trans ((if_pos h92).trans ?_))) (Ev.now _)
          by_cases h10 : d = 10
          · rw [if_pos h10, if_pos h10]
          · rw [if_neg h10, if_neg h10]
            cases r' with
            | nil => simp
            | cons e r'' =>
              simp only [List.take_succ_cons, List.take_zero, List.cons.injEq, and_true]
              by_cases h13 : d = 13
              · by_cases he : e = 10
                · rw [if_pos h13]
                  refine (if_pos he).trans ?_
                  rw [if_pos ⟨h13, he⟩]
                · rw [if_pos h13]
                  refine (if_neg he).trans ?_
                  rw [if_neg (fun h => he h.2)]
                  rfl
              · rw [if_neg h13, if_neg (fun h => h13 h.1)]; rfl
      · rw [if_neg h92]
        exact Ev.step (fun k => (Jc _ _ rfl rfl k).trans ((if_neg hb).trans (if_neg h92))) (Ev.bind ec (Ev.now _))
end
end Go.Proofs.YtabnmkakgcifoaaDoor.PLex

