/- LexJoins holds: for every text the statement answers true, where the two listed package variables hold what the program's text lays. Part 2 of 2. -/
import Derived.Test.YtabnmkakgcifoaaDoorBJoinsA
namespace Go.Proofs.YtabnmkakgcifoaaDoor.Lx
/-- a text does not end with a backslash or a byte 13 -/
def EndOk (l : B) : Prop := ∀ q c, l = q ++ [c] → c ≠ 92 ∧ c ≠ 13
theorem EndOk.drop {l : B} (h : EndOk l) (n : Nat) : EndOk (l.drop n) := fun q c e => h (l.take n ++ q) c (by rw [List.append_assoc, ← e, List.take_append_drop])
theorem EndOk.tail {c : UInt8} {l : B} (h : EndOk (c :: l)) : EndOk l := h.drop 1
theorem EndOk.one {c : UInt8} (h : EndOk [c]) : c ≠ 92 ∧ c ≠ 13 := h [] c rfl
theorem ln_app_10 (b : B) : ∀ (l : B) (pp p : UInt8), EndOk (p :: l) → ln pp p (l ++ 10 :: b) = ln pp p l
  | [], pp, p, h => by
    have := h.one
    have q : ¬ (p = 92 ∨ p = 13 ∧ pp = 92) := by
      rintro (h1 | h1)
      · exact this.1 h1
      · exact this.2 h1.1
    show (if (10 : UInt8) = 10 ∧ ¬ (p = 92 ∨ p = 13 ∧ pp = 92) then 0 else ln p 10 b + 1) = 0
    rw [if_pos ⟨rfl, q⟩]
  | c :: r, pp, p, h => by
    have e := ln_app_10 b r p c h.tail
    rw [List.cons_append, ln, ln, e]
theorem ln_app_lt (y : B) : ∀ (l : B) (pp p : UInt8), ln pp p l < l.length → ln pp p (l ++ y) = ln pp p l
  | [], pp, p, h => by simp at h
  | c :: r, pp, p, h => by
    rw [List.cons_append, ln]
    rw [ln] at h ⊢
    by_cases hc : c = 10 ∧ ¬ (p = 92 ∨ p = 13 ∧ pp = 92)
    · rw [if_pos hc, if_pos hc]
    · rw [if_neg hc] at h ⊢
      rw [if_neg hc, ln_app_lt y r p c (by simp only [List.length_cons] at h; omega)]
theorem take_app {l y : B} {n : Nat} (h : n ≤ l.length) : (l ++ y).take n = l.take n := List.take_append_of_le_length h
theorem lineLen_app_lt (r y : B) (h : ln 0 35 r < r.length) : lineLen (r ++ y) = lineLen r := by
  unfold lineLen
  dsimp only
  rw [ln_app_lt y r 0 35 h, ← List.cons_append, take_app (by simp only [List.length_cons]; omega)]
  have h1 : ln 0 35 r + 1 < (r ++ y).length + 1 := by rw [List.length_append]; omega
  have h2 : ln 0 35 r + 1 < r.length + 1 := by omega
  by_cases h3 : ((35 :: r).take (ln 0 35 r + 1)).getLastD 0 = 13
  · rw [if_pos ⟨h1, h3⟩, if_pos ⟨h2, h3⟩]
  · rw [if_neg (fun q => h3 q.2), if_neg (fun q => h3 q.2)]
theorem lineLen_app_10 (r b : B) (h : EndOk (35 :: r)) : lineLen (r ++ 10 :: b) = lineLen r := by
  rcases Nat.lt_or_ge (ln 0 35 r) r.length with hlt | hge
  · exact lineLen_app_lt r _ hlt
  · have hl := ln_le r 0 35
    have he : ln 0 35 r = r.length := by omega
    unfold lineLen
    dsimp only
    rw [ln_app_10 b r 0 35 h, he, ← List.cons_append, take_app (by simp), List.take_of_length_le (by simp), if_neg (fun q => Nat.lt_irrefl _ q.1 : ¬ (r.length + 1 < r.length + 1 ∧ _)), if_neg]
    intro q
    obtain ⟨p, c, e⟩ : ∃ p c, (35 :: r : B) = p ++ [c] := ⟨(35 :: r).dropLast, (35 :: r).getLast (by simp), (List.dropLast_concat_getLast _).symm⟩
    have := h p c e
    rw [e] at q
    exact this.2 (by simpa using q.2)
theorem tw_app (p : UInt8 → Bool) (d : UInt8) (b : B) (hd : p d = false) : ∀ l : B, (l ++ d :: b).takeWhile p = l.takeWhile p
  | [] => by rw [List.nil_append, List.takeWhile_cons_of_neg (by simp [hd])]; rfl
  | c :: r => by
    rw [List.cons_append, List.takeWhile_cons, List.takeWhile_cons, tw_app p d b hd r]
theorem tw_app_lt (p : UInt8 → Bool) (y : B) : ∀ l : B, (l.takeWhile p).length < l.length → (l ++ y).takeWhile p = l.takeWhile p
  | [], h => by simp at h
  | c :: r, h => by
    rw [List.cons_append, List.takeWhile_cons, List.takeWhile_cons]
    rw [List.takeWhile_cons] at h
    by_cases hc : p c = true
    · rw [if_pos hc] at h ⊢
      rw [if_pos hc, tw_app_lt p y r (by simpa using h)]
    · rw [if_neg hc, if_neg hc]
theorem numRest_cons (c d : UInt8) (r : B) : numRest c (d :: r) = if isLD d || d == 46 || ((d == 43 || d == 45) && (c == 101 || c == 69)) then numRest d r + 1 else 0 := rfl
theorem numRest_app (d : UInt8) (b : B) (h1 : isLD d = false) (h2 : (d == 46) = false) (h3 : (d == 43 || d == 45) = false) : ∀ (l : B) (c : UInt8), numRest c (l ++ d :: b) = numRest c l
  | [], c => by rw [List.nil_append, numRest_cons, h1, h2, h3]; rfl
  | e :: r, c => by rw [List.cons_append, numRest_cons, numRest_cons, numRest_app d b h1 h2 h3 r e]
theorem numRest_app_lt (y : B) : ∀ (l : B) (c : UInt8), numRest c l < l.length → numRest c (l ++ y) = numRest c l
  | [], c, h => by simp at h
  | e :: r, c, h => by
    rw [List.cons_append, numRest_cons, numRest_cons]
    rw [numRest_cons] at h
    split at h
    · rename_i q
      rw [if_pos q, if_pos q, numRest_app_lt y r e (by simp only [List.length_cons] at h; omega)]
    · rename_i q
      rw [if_neg q, if_neg q]
theorem quoted_two (m c d : UInt8) (r : B) : quoted m (c :: d :: r) = if c = m then some 1 else if c = 10 then none
    else if c = 92 then (if d = 10 then none else (quoted m r).map (· + 2)) else (quoted m (d :: r)).map (· + 1) := rfl
theorem quoted_one (m c : UInt8) : quoted m [c] = if c = m then some 1 else none := rfl
theorem quoted_10 (m : UInt8) (hm : m ≠ 10) (b : B) : quoted m (10 :: b) = none := by
  cases b with
  | nil => rw [quoted_one, if_neg (Ne.symm hm)]
  | cons d r => rw [quoted_two, if_neg (Ne.symm hm), if_pos rfl]
theorem quoted_app_10 (m : UInt8) (hm : m ≠ 10) (b : B) : ∀ (n : Nat) (l : B), l.length ≤ n → EndOk l → quoted m (l ++ 10 :: b) = quoted m l := by
  intro n
  induction n with
  | zero =>
    intro l h _
    obtain rfl := List.eq_nil_of_length_eq_zero (Nat.le_zero.mp h)
    rw [List.nil_append, quoted_10 m hm b]; rfl
  | succ n ih =>
    intro l h he
    match l, h, he with
    | [], _, _ => rw [List.nil_append, quoted_10 m hm b]; rfl
    | [c], _, he =>
      have h92 := he.one.1
      rw [List.singleton_append, quoted_two, quoted_one, quoted_10 m hm b]
      by_cases h1 : c = m
      · rw [if_pos h1, if_pos h1]
      · rw [if_neg h1, if_neg h1, if_neg h92]; split <;> rfl
    | c :: d :: r, h, he =>
      simp only [List.length_cons] at h
      rw [List.cons_append, List.cons_append, quoted_two, quoted_two, ih r (by omega) he.tail.tail, ← List.cons_append, ih (d :: r) (by simp only [List.length_cons]; omega) he.tail]
theorem quoted_app_some (m : UInt8) (y : B) : ∀ (n : Nat) (l : B), l.length ≤ n → ∀ q, quoted m l = some q → quoted m (l ++ y) = some q := by
  intro n
  induction n with
  | zero =>
    intro l h q hq
    obtain rfl := List.eq_nil_of_length_eq_zero (Nat.le_zero.mp h)
    cases hq
  | succ n ih =>
    intro l h q hq
    match l, h, hq with
    | [], _, hq => cases hq
    | [c], _, hq =>
      rw [quoted_one] at hq
      split at hq
      · rename_i hc
        cases hq
        cases y with
        | nil => rw [List.append_nil, quoted_one, if_pos hc]
        | cons d r => rw [List.singleton_append, quoted_two, if_pos hc]
      · cases hq
    | c :: d :: r, h, hq =>
      simp only [List.length_cons] at h
      rw [List.cons_append, List.cons_append, quoted_two]
      rw [quoted_two] at hq
      split at hq
      · rename_i hc; rw [if_pos hc]; exact hq
      · rename_i hc
        rw [if_neg hc]
        split at hq
        · cases hq
        · rename_i h10
          rw [if_neg h10]
          split at hq
          · rename_i h92
            rw [if_pos h92]
            split at hq
            · cases hq
            · rename_i hd
              obtain ⟨p, hp, rfl⟩ := Option.map_eq_some_iff.mp hq
              rw [if_neg hd, ih r (by omega) p hp]; rfl
          · rename_i h92
            obtain ⟨p, hp, rfl⟩ := Option.map_eq_some_iff.mp hq
            rw [if_neg h92, ← List.cons_append, ih (d :: r) (by simp only [List.length_cons]; omega) p hp]; rfl
theorem quoted_app_close (m : UInt8) (h1 : m ≠ 42) (h2 : m ≠ 47) : ∀ (n : Nat) (l : B), l.length ≤ n → quoted m l = none → quoted m (l ++ [42, 47]) = none := by
  have z : quoted m [42, 47] = none := by
    rw [quoted_two, if_neg (Ne.symm h1), if_neg (by decide), if_neg (by decide), quoted_one, if_neg (Ne.symm h2)]; rfl
  intro n
  induction n with
  | zero =>
    intro l h _
    obtain rfl := List.eq_nil_of_length_eq_zero (Nat.le_zero.mp h)
    exact z
  | succ n ih =>
    intro l h hq
    match l, h, hq with
    | [], _, _ => exact z
    | [c], _, hq =>
      rw [quoted_one] at hq
      split at hq
      · cases hq
      · rename_i hc
        rw [List.singleton_append, quoted_two, if_neg hc, z]
        split
        · rfl
        · split
          · rw [if_neg (by decide), quoted_one, if_neg (Ne.symm h2)]; rfl
          · rfl
    | c :: d :: r, h, hq =>
      simp only [List.length_cons] at h
      rw [List.cons_append, List.cons_append, quoted_two]
      rw [quoted_two] at hq
      split at hq
      · cases hq
      · rename_i hc
        rw [if_neg hc]
        split at hq
        · rename_i h10; rw [if_pos h10]
        · rename_i h10
          rw [if_neg h10]
          split at hq
          · rename_i h92
            rw [if_pos h92]
            split at hq
            · rename_i hd; rw [if_pos hd]
            · rename_i hd
              rw [if_neg hd, ih r (by omega) (by simpa using hq)]; rfl
          · rename_i h92
            rw [if_neg h92, ← List.cons_append, ih (d :: r) (by simp only [List.length_cons]; omega) (by simpa using hq)]; rfl
theorem signLen_congr (S : List B) (l m : B) (h : ∀ s ∈ S, s.isPrefixOf l = s.isPrefixOf m) : signLen S l = signLen S m := by
  unfold signLen
  suffices g : ∀ (q : List B) (n : Nat), (∀ s ∈ q, s.isPrefixOf l = s.isPrefixOf m) → q.foldl (fun n s => if n < s.length ∧ s.isPrefixOf l then s.length else n) n = q.foldl (fun n s => if n < s.length ∧ s.isPrefixOf m then s.length else n) n from g S 0 h
  intro q
  induction q with
  | nil => intro n _; rfl
  | cons s q ih =>
    intro n hq
    rw [List.foldl_cons, List.foldl_cons, hq s List.mem_cons_self]
    exact ih _ (fun t ht => hq t (List.mem_cons_of_mem _ ht))
theorem prefix_app_not (d : UInt8) (b : B) : ∀ (s l : B), d ∉ s → s.isPrefixOf (l ++ d :: b) = s.isPrefixOf l
  | [], l, _ => by simp
  | e :: s, [], h => by
    have : (e == d) = false := beq_eq_false_iff_ne.mpr (fun q => h (by rw [q]; exact List.mem_cons_self))
    show ((e == d) && s.isPrefixOf b) = false
    rw [this]; rfl
  | e :: s, c :: l, h => by
    show ((e == c) && s.isPrefixOf (l ++ d :: b)) = ((e == c) && s.isPrefixOf l)
    rw [prefix_app_not d b s l (fun q => h (List.mem_cons_of_mem _ q))]
theorem prefix_app_le (y : B) : ∀ (s l : B), s.length ≤ l.length → s.isPrefixOf (l ++ y) = s.isPrefixOf l
  | [], l, _ => by simp
  | e :: s, [], h => by simp at h
  | e :: s, c :: l, h => by
    show ((e == c) && s.isPrefixOf (l ++ y)) = ((e == c) && s.isPrefixOf l)
    rw [prefix_app_le y s l (by simpa using h)]
variable {K S : List B}
theorem headD_app (r y : B) (h : isD (y.headD 0) = false) : isD ((r ++ y).headD 0) = isD (r.headD 0) := by
  cases r with
  | nil => rw [List.nil_append, h]; rfl
  | cons c r => rfl
theorem tok_app_10 (hS : Fair S) (f : Bool) (c : UInt8) (r b : B) (h : EndOk (c :: r)) : tok K S f (c :: r ++ 10 :: b) = tok K S f (c :: r) := by
  rw [List.cons_append, tok_cons, tok_cons]
  rw [headD_app r (10 :: b) (show isD 10 = false by decide), numRest_app 10 b (by decide) (by decide) (by decide)]
  rw [show (c :: (r ++ 10 :: b)) = (c :: r) ++ 10 :: b from rfl]
  rw [signLen_congr S ((c :: r) ++ 10 :: b) (c :: r) (fun s hs => prefix_app_not 10 b s _ (hS.h10 s hs))]
  unfold nameLen
  rw [tw_app isLD 10 b (by decide) (c :: r)]
  by_cases h35 : c = 35 ∧ f = true
  · rw [if_pos h35, if_pos h35, lineLen_app_10 r b (h35.1 ▸ h)]
  · rw [if_neg h35, if_neg h35]
    by_cases hq : c = 39 ∨ c = 34
    · rw [if_pos hq, if_pos hq, quoted_app_10 c (by rcases hq with rfl | rfl <;> decide) b _ r (Nat.le_refl _) h.tail]
    · rw [if_neg hq, if_neg hq]
theorem tok_app_close (hS : Fair S) (f : Bool) (c : UInt8) (r : B) (h : (tok K S f (c :: r)).2 + 2 ≤ r.length + 1) : tok K S f (c :: r ++ [42, 47]) = tok K S f (c :: r) := by
  have hp := (tok_len (K := K) hS f (c :: r) (by simp)).1
  obtain ⟨d, e, r', rfl⟩ : ∃ d e r', r = d :: e :: r' := by
    match r, h with
    | [], h => simp at h
    | [d], h => simp at h; omega
    | d :: e :: r', _ => exact ⟨d, e, r', rfl⟩
  have hsl : signLen S ((c :: d :: e :: r') ++ [42, 47]) = signLen S (c :: d :: e :: r') :=
    signLen_congr S _ _ (fun s hs => prefix_app_le _ s _ (by have := hS.len s hs; simp only [List.length_cons]; omega))
  rw [tok_cons] at h
  rw [List.cons_append, tok_cons, tok_cons]
  rw [show (c :: ((d :: e :: r') ++ [42, 47])) = (c :: d :: e :: r') ++ [42, 47] from rfl, hsl]
  rw [show ((d :: e :: r') ++ [42, 47] : B).headD 0 = (d :: e :: r').headD 0 from rfl]
  generalize d :: e :: r' = r at *
  by_cases h35 : c = 35 ∧ f = true
  · rw [if_pos h35] at h
    rw [if_pos h35, if_pos h35, lineLen_app_lt]
    unfold lineLen at h
    have := ln_le r 0 35
    dsimp only at h
    split at h
    · rename_i q; omega
    · omega
  · rw [if_neg h35] at h
    rw [if_neg h35, if_neg h35]
    by_cases hL : isL c = true
    · rw [if_pos hL] at h
      rw [if_pos hL, if_pos hL]
      unfold nameLen at h ⊢
      rw [tw_app_lt isLD [42, 47] (c :: r) (by simp only [List.length_cons]; dsimp only at h; omega)]
    · rw [if_neg hL] at h
      rw [if_neg hL, if_neg hL]
      by_cases hD : (isD c || (c == 46 && isD (r.headD 0))) = true
      · rw [if_pos hD] at h
        rw [if_pos hD, if_pos hD, numRest_app_lt _ r c (by dsimp only at h; omega)]
      · rw [if_neg hD] at h
        rw [if_neg hD, if_neg hD]
        by_cases hq : c = 39 ∨ c = 34
        · rw [if_pos hq, if_pos hq]
          cases hqq : quoted c r with
          | some n => rw [quoted_app_some c _ _ r (Nat.le_refl _) n hqq]
          | none => rw [quoted_app_close c (by rcases hq with rfl | rfl <;> decide) (by rcases hq with rfl | rfl <;> decide) _ r (Nat.le_refl _) hqq]
        · rw [if_neg hq, if_neg hq]
/-- is there a '*/'? -/
def closed : B → Bool
  | [] => false
  | c :: r => (c == 42 && r.head? == some 47) || closed r
/-- a comment begins that does not end -/
def isOpen : B → Bool
  | 47 :: 42 :: r => !closed r
  | _ => false
theorem block_cons (c : UInt8) (r : B) : block (c :: r) = if c = 42 ∧ r.head? = some 47 then 2 else block r + 1 := rfl
theorem block_app (y : B) : ∀ l : B, closed l = true → block (l ++ y) = block l
  | [], h => by cases h
  | [c], h => by simp [closed] at h
  | c :: d :: r, h => by
    rw [List.cons_append, block_cons, block_cons]
    rw [show (((d :: r) ++ y : B).head?) = (d :: r).head? from rfl]
    by_cases hc : c = 42 ∧ (d :: r).head? = some 47
    · rw [if_pos hc, if_pos hc]
    · rw [if_neg hc, if_neg hc, block_app y (d :: r)]
      rw [closed, Bool.or_eq_true, Bool.and_eq_true, beq_iff_eq, beq_iff_eq] at h
      exact h.resolve_left hc
theorem block_open : ∀ l : B, closed l = false → block l = l.length
  | [], _ => rfl
  | c :: r, h => by
    rw [closed, Bool.or_eq_false_iff, Bool.and_eq_false_iff] at h
    rw [block_cons, if_neg, block_open r h.2]; rfl
    rintro ⟨h1, h2⟩
    rcases h.1 with q | q
    · rw [h1] at q; exact absurd q (by decide)
    · rw [h2] at q; exact absurd q (by decide)
theorem block_shut : ∀ l : B, closed l = false → block (l ++ [42, 47]) = l.length + 2
  | [], _ => rfl
  | [c], _ => by
    show block (c :: 42 :: [47]) = 3
    rw [block_cons, if_neg (by simp)]; rfl
  | c :: d :: r, h => by
    rw [closed, Bool.or_eq_false_iff, Bool.and_eq_false_iff] at h
    rw [List.cons_append, block_cons, if_neg, block_shut (d :: r) h.2]; rfl
    rintro ⟨h1, h2⟩
    rcases h.1 with q | q
    · rw [h1] at q; exact absurd q (by decide)
    · rw [show ((d :: r) ++ [42, 47] : B).head? = (d :: r).head? from rfl] at h2
      rw [h2] at q; exact absurd q (by decide)
theorem upto10_app_10 (b : B) : ∀ l : B, upto10 (l ++ 10 :: b) = upto10 l
  | [] => rfl
  | c :: r => by
    rw [List.cons_append, upto10, upto10, upto10_app_10 b r]
theorem upto10_app_lt (y : B) : ∀ l : B, upto10 l < l.length → upto10 (l ++ y) = upto10 l
  | [], h => by simp at h
  | c :: r, h => by
    rw [List.cons_append, upto10, upto10]
    rw [upto10] at h
    by_cases hc : c = 10
    · rw [if_pos hc, if_pos hc]
    · rw [if_neg hc] at h ⊢
      rw [if_neg hc, upto10_app_lt y r (by simpa using h)]
theorem isOpen_block {r : B} (h : isOpen (47 :: r) = false) (hr : r.head? = some 42) : closed (r.drop 1) = true := by
  cases r with
  | nil => cases hr
  | cons d r =>
    obtain rfl : d = 42 := by simpa using hr
    simpa [isOpen] using h
theorem cmt_app_10 (c : UInt8) (r b : B) (ho : isOpen (c :: r) = false) : cmt (c :: r ++ 10 :: b) = cmt (c :: r) := by
  rw [List.cons_append, cmt_cons', cmt_cons']
  by_cases h47 : c = 47
  · subst h47
    rw [if_pos rfl, if_pos rfl, upto10_app_10]
    cases r with
    | nil => rfl
    | cons d r =>
      rw [show ((d :: r) ++ 10 :: b : B).head? = (d :: r).head? from rfl]
      by_cases h42 : (d :: r).head? = some 42
      · rw [show ((d :: r) ++ 10 :: b : B).drop 1 = (d :: r).drop 1 ++ 10 :: b from rfl, block_app _ _ (isOpen_block ho h42)]
      · rw [if_neg h42, if_neg h42]
  · rw [if_neg h47, if_neg h47]
theorem piece_app_10 (c : UInt8) (r b : B) (h : EndOk (c :: r)) (ho : isOpen (c :: r) = false) : piece (c :: r ++ 10 :: b) = piece (c :: r) := by
  have hc := cmt_app_10 c r b ho
  rw [List.cons_append] at hc ⊢
  rw [piece_cons', piece_cons', hc]
  by_cases h92 : c = 92
  · subst h92
    rw [if_neg (by decide : ¬ isBl 92 = true), if_neg (by decide : ¬ isBl 92 = true), if_pos rfl, if_pos rfl]
    match r, h with
    | [], h => exact absurd rfl h.one.1
    | [d], h =>
      have hd : d ≠ 13 := h.tail.one.2
      rw [show ([d] ++ 10 :: b : B).head? = [d].head? from rfl]
      by_cases h10 : [d].head? = some 10
      · rw [if_pos h10, if_pos h10]
      · have e1 : ([d] ++ 10 :: b : B).take 2 ≠ [13, 10] := by
          intro q
          exact hd (by simpa using congrArg (fun x => x.headD 0) q)
        rw [if_neg h10, if_neg h10, if_neg e1, if_neg (by simp)]
    | d :: e :: r, h => rfl
  · rw [if_neg h92, if_neg h92]
theorem cmt_app_lt (c : UInt8) (r y : B) (ho : isOpen (c :: r) = false) (h : cmt (c :: r) < r.length + 1) (hr : r ≠ []) : cmt (c :: r ++ y) = cmt (c :: r) := by
  rw [List.cons_append, cmt_cons', cmt_cons']
  rw [cmt_cons'] at h
  by_cases h47 : c = 47
  · subst h47
    rw [if_pos rfl] at h
    rw [if_pos rfl, if_pos rfl]
    cases r with
    | nil => exact absurd rfl hr
    | cons d r =>
      rw [show ((d :: r) ++ y : B).head? = (d :: r).head? from rfl]
      by_cases h1 : (d :: r).head? = some 47
      · rw [if_pos h1] at h ⊢
        rw [if_pos h1, upto10_app_lt y _ (by omega)]
      · rw [if_neg h1, if_neg h1]
        by_cases h42 : (d :: r).head? = some 42
        · rw [show ((d :: r) ++ y : B).drop 1 = (d :: r).drop 1 ++ y from rfl, block_app _ _ (isOpen_block ho h42)]
        · rw [if_neg h42, if_neg h42]
  · rw [if_neg h47, if_neg h47]
theorem piece_app_lt (c d e : UInt8) (r y : B) (ho : isOpen (c :: d :: e :: r) = false) (h : piece (c :: d :: e :: r) < r.length + 3) : piece (c :: d :: e :: r ++ y) = piece (c :: d :: e :: r) := by
  rw [piece_cons'] at h
  rw [show (c :: d :: e :: r ++ y : B) = c :: ((d :: e :: r) ++ y) from rfl, piece_cons', piece_cons']
  by_cases hb : isBl c = true
  · rw [if_pos hb, if_pos hb]
  · rw [if_neg hb] at h ⊢
    rw [if_neg hb]
    by_cases h92 : c = 92
    · rw [if_pos h92, if_pos h92]; rfl
    · rw [if_neg h92] at h ⊢
      rw [if_neg h92]
      exact cmt_app_lt c (d :: e :: r) y ho (by simp only [List.length_cons]; omega) (by simp)
theorem clearAfter_app (l y : B) (n : Nat) (f : Bool) (h : n ≤ l.length) (hl : l ≠ []) : clearAfter (l ++ y) n f = clearAfter l n f := by
  cases l with
  | nil => exact absurd rfl hl
  | cons c r =>
    unfold clearAfter
    rw [take_app h]; rfl
variable (K S) in
/-- a text ends in a comment that goes on -/
def opens : Nat → B → Bool → Bool
  | 0, _, _ => false
  | k + 1, l, f => if piece l ≠ 0 then (isOpen l || opens k (l.drop (piece l)) (clearAfter l (piece l) f)) else if l = [] then false else opens k (l.drop (tok K S f l).2) false
theorem isOpen_piece : ∀ l : B, isOpen l = true → piece l = l.length ∧ 2 ≤ l.length := by
  intro l h
  unfold isOpen at h
  split at h
  · rename_i r
    have hc : closed r = false := by simpa using h
    have e := block_open r hc
    constructor
    · rw [piece_cons', if_neg (by decide), if_neg (by decide), cmt_cons', if_pos rfl, if_neg (by simp), if_pos (by rfl : (42 :: r : B).head? = some 42), List.drop_succ_cons, List.drop_zero, e]; rfl
    · simp
  · cases h
theorem opens_len : ∀ (k : Nat) (l : B) (f : Bool), opens K S k l f = true → 2 ≤ l.length := by
  intro k
  induction k with
  | zero => intro l f h; cases h
  | succ k ih =>
    intro l f h
    unfold opens at h
    split at h
    · rcases (Bool.or_eq_true _ _).mp h with h | h
      · exact (isOpen_piece l h).2
      · have := ih _ _ h; rw [List.length_drop] at this; omega
    · split at h
      · cases h
      · have := ih _ _ h; rw [List.length_drop] at this; omega
/-- two texts with a line feed between -/
theorem flat_two (hS : Fair S) (b : B) : ∀ (m : Nat) (l bf : B) (a : Nat) (f : Bool), l.length < m → EndOk l → opens K S m l f = false →
    ∃ init be, flat K S (l.length + 1) bf l a f = init ++ [⟨0, be, [], a + l.length⟩] ∧ flat K S (l.length + b.length + 2) bf (l ++ 10 :: b) a f = init ++ flat K S (b.length + 1) (be ++ [10]) b (a + l.length + 1) true := by
  intro m
  induction m with
  | zero => intro l bf a f h; omega
  | succ m ih =>
    intro l bf a f hm he ho
    unfold opens at ho
    by_cases hp : piece l = 0
    · rw [if_neg (by simpa using hp)] at ho
      by_cases hl : l = []
      · subst hl
        refine ⟨[], bf, by rw [flat_end]; rfl, ?_⟩
        have hc : clearAfter (10 :: b) 1 f = true := by
          unfold clearAfter
          rw [if_neg (fun q => absurd (show isFF 10 = true from q.2) (by decide))]
          simp
        rw [List.nil_append, List.length_nil, flat_piece K S _ bf (10 :: b) a f 1 rfl (by decide), Nat.zero_add, hc]
        rfl
      · rw [if_neg hl] at ho
        obtain ⟨c, r, rfl⟩ : ∃ c r, l = c :: r := by
          cases l with
          | nil => exact absurd rfl hl
          | cons c r => exact ⟨c, r, rfl⟩
        have ht := tok_len (K := K) hS f (c :: r) hl
        have ta := tok_app_10 (K := K) hS f c r b he
        have hop : isOpen (c :: r) = false := by
          cases h : isOpen (c :: r) with
          | false => rfl
          | true => have := isOpen_piece _ h; omega
        have pa := piece_app_10 c r b he hop
        rw [hp] at pa
        rw [flat_tok K S _ bf (c :: r) a f _ hp hl rfl, flat_tok K S _ bf (c :: r ++ 10 :: b) a f _ pa (by simp) ta]
        generalize tok K S f (c :: r) = t at *
        obtain ⟨init, be, e1, e2⟩ := ih ((c :: r).drop t.2) [] (a + t.2) false (by rw [List.length_drop]; omega) (he.drop _) ho
        refine ⟨⟨t.1, bf, (c :: r).take t.2, a⟩ :: init, be, ?_, ?_⟩
        · rw [flat_fuel hS (((c :: r).drop t.2).length + 1) _ _ _ _ _ (by omega) (by rw [List.length_drop]; omega), e1, List.length_drop, show a + t.2 + ((c :: r).length - t.2) = a + (c :: r).length by omega]
          rfl
        · rw [List.length_drop, show a + t.2 + ((c :: r).length - t.2) + 1 = a + (c :: r).length + 1 by omega] at e2
          rw [take_app ht.2.1, List.drop_append_of_le_length ht.2.1, flat_fuel hS ((c :: r).length - t.2 + b.length + 2) _ _ _ _ _ (by simp only [List.length_append, List.length_drop, List.length_cons]; omega) (by omega), e2]
          rfl
    · rw [if_pos hp, Bool.or_eq_false_iff] at ho
      obtain ⟨c, r, rfl⟩ : ∃ c r, l = c :: r := by
        cases l with
        | nil => exact absurd rfl hp
        | cons c r => exact ⟨c, r, rfl⟩
      have pa := piece_app_10 c r b he ho.1
      have hle := piece_len (c :: r)
      have ca := clearAfter_app (c :: r) (10 :: b) (piece (c :: r)) f hle (by simp)
      rw [flat_piece K S _ bf (c :: r) a f _ rfl hp, flat_piece K S _ bf (c :: r ++ 10 :: b) a f _ pa hp, ca, take_app hle, List.drop_append_of_le_length hle]
      generalize hn : piece (c :: r) = n at *
      obtain ⟨init, be, e1, e2⟩ := ih ((c :: r).drop n) (bf ++ (c :: r).take n) (a + n) (clearAfter (c :: r) n f) (by rw [List.length_drop]; omega) (he.drop _) ho.2
      refine ⟨init, be, ?_, ?_⟩
      · rw [flat_fuel hS (((c :: r).drop n).length + 1) _ _ _ _ _ (by omega) (by rw [List.length_drop]; omega), e1, List.length_drop, show a + n + ((c :: r).length - n) = a + (c :: r).length by omega]
      · rw [List.length_drop, show a + n + ((c :: r).length - n) + 1 = a + (c :: r).length + 1 by omega] at e2
        rw [flat_fuel hS ((c :: r).length - n + b.length + 2) _ _ _ _ _ (by simp only [List.length_append, List.length_drop, List.length_cons]; omega) (by omega), e2]
/-- a comment that goes on is shut by its sign -/
def lc : Nat → B → Bool
  | 0, _ => false
  | _ + 1, [] => false
  | k + 1, c :: r => if c = 47 ∧ r.head? = some 42 then lc k ((r.drop 1).drop (block (r.drop 1)))
    else if c = 47 ∧ r.head? = some 47 then (if upto10 (c :: r) = (c :: r).length then true else lc k ((c :: r).drop (upto10 (c :: r) + 1)))
    else lc k r
theorem lc_cons (k : Nat) (c : UInt8) (r : B) : lc (k + 1) (c :: r) = if c = 47 ∧ r.head? = some 42 then lc k ((r.drop 1).drop (block (r.drop 1)))
    else if c = 47 ∧ r.head? = some 47 then (if upto10 (c :: r) = (c :: r).length then true else lc k ((c :: r).drop (upto10 (c :: r) + 1)))
    else lc k r := rfl
theorem lc_fuel : ∀ (n k : Nat) (l : B), l.length ≤ n → n ≤ k → lc k l = lc n l := by
  intro n
  induction n with
  | zero =>
    intro k l h _
    obtain rfl := List.eq_nil_of_length_eq_zero (Nat.le_zero.mp h)
    cases k <;> rfl
  | succ n ih =>
    intro k l h hk
    obtain ⟨k, rfl⟩ : ∃ m, k = m + 1 := ⟨k - 1, by omega⟩
    cases l with
    | nil => rfl
    | cons c r =>
      simp only [List.length_cons] at h
      rw [lc_cons, lc_cons, ih k _ (by simp only [List.length_drop]; omega) (by omega), ih k ((c :: r).drop (upto10 (c :: r) + 1)) (by simp only [List.length_drop, List.length_cons]; omega) (by omega), ih k r (by omega) (by omega)]
def LC (l : B) : Bool := lc l.length l
theorem LC_fuel (k : Nat) (l : B) (h : l.length ≤ k) : lc k l = LC l := lc_fuel _ _ _ (Nat.le_refl _) h
theorem LC_cons (c : UInt8) (r : B) : LC (c :: r) = if c = 47 ∧ r.head? = some 42 then LC ((r.drop 1).drop (block (r.drop 1)))
    else if c = 47 ∧ r.head? = some 47 then (if upto10 (c :: r) = (c :: r).length then true else LC ((c :: r).drop (upto10 (c :: r) + 1)))
    else LC r := by
  rw [← LC_fuel (r.length + 1) (c :: r) (by simp), lc_cons, LC_fuel _ _ (by simp only [List.length_drop]; omega), LC_fuel _ _ (by simp only [List.length_drop, List.length_cons]; omega), LC_fuel _ r (Nat.le_refl _)]
theorem upto10_at : ∀ l : B, upto10 l < l.length → l.drop (upto10 l) = 10 :: l.drop (upto10 l + 1)
  | [], h => by simp at h
  | c :: r, h => by
    rw [upto10] at h ⊢
    by_cases hc : c = 10
    · rw [if_pos hc, List.drop_zero, List.drop_succ_cons, List.drop_zero, hc]
    · rw [if_neg hc] at h ⊢
      rw [List.drop_succ_cons, List.drop_succ_cons, upto10_at r (by simpa using h)]
theorem LC_piece (l y : B) (ho : isOpen l = false) (hp : piece l ≠ 0) (h : piece l + 2 ≤ l.length) : LC (l ++ y) = LC (l.drop (piece l) ++ y) := by
  match l, ho, hp, h with
  | [], _, _, h => simp at h
  | [c], _, hp, h => simp at h
  | [c, d], _, hp, h => simp at h; omega
  | c :: d :: e :: r, ho, hp, h =>
    rw [show (c :: d :: e :: r ++ y : B) = c :: ((d :: e :: r) ++ y) from rfl, LC_cons]
    rw [show ((d :: e :: r) ++ y : B).head? = some d from rfl]
    rw [piece_cons'] at hp h ⊢
    by_cases hb : isBl c = true
    · have h47 : c ≠ 47 := by rintro rfl; exact absurd hb (by decide)
      rw [if_neg (fun q => h47 q.1), if_neg (fun q => h47 q.1), if_pos hb]; rfl
    · rw [if_neg hb] at hp h ⊢
      by_cases h92 : c = 92
      · have h47 : c ≠ 47 := by rw [h92]; decide
        rw [if_neg (fun q => h47 q.1), if_neg (fun q => h47 q.1), if_pos h92]
        rw [if_pos h92] at hp h
        by_cases h10 : (d :: e :: r).head? = some 10
        · obtain rfl : d = 10 := by simpa using h10
          rw [if_pos h10, List.cons_append, LC_cons, if_neg (fun q => absurd q.1 (by decide)), if_neg (fun q => absurd q.1 (by decide))]; rfl
        · rw [if_neg h10] at hp h ⊢
          by_cases h13 : (d :: e :: r).take 2 = [13, 10]
          · rw [if_pos h13]
            obtain ⟨rfl, rfl⟩ : d = 13 ∧ e = 10 := by simpa using h13
            rw [List.cons_append, LC_cons, if_neg (fun q => absurd q.1 (by decide)), if_neg (fun q => absurd q.1 (by decide)), List.cons_append, LC_cons, if_neg (fun q => absurd q.1 (by decide)), if_neg (fun q => absurd q.1 (by decide))]; rfl
          · rw [if_neg h13] at hp; exact absurd rfl hp
      · rw [if_neg h92] at hp h ⊢
        rw [cmt_cons'] at hp h ⊢
        by_cases h47 : c = 47
        · rw [if_pos h47] at hp h ⊢
          rw [show (d :: e :: r : B).head? = some d from rfl] at hp h ⊢
          by_cases hd : some d = some 47
          · rw [if_pos hd] at hp h ⊢
            obtain rfl : d = 47 := by simpa using hd
            subst h47
            have hlt : upto10 (47 :: 47 :: e :: r) < (47 :: 47 :: e :: r : B).length := by
              rw [upto10, if_neg (by decide)]; simp only [List.length_cons] at h ⊢; omega
            have hup := upto10_app_lt y (47 :: 47 :: e :: r) hlt
            rw [if_neg (by simp), if_pos ⟨rfl, rfl⟩]
            rw [show (47 :: ((47 :: e :: r) ++ y) : B) = (47 :: 47 :: e :: r) ++ y from rfl, hup, if_neg (by rw [List.length_append]; omega)]
            have hat := upto10_at (47 :: 47 :: e :: r) hlt
            have hu : upto10 (47 :: e :: r) + 1 = upto10 (47 :: 47 :: e :: r) := by
              conv => rhs; rw [upto10, if_neg (by decide)]
            rw [hu, hat, List.cons_append (a := 10), LC_cons 10, if_neg (fun q => absurd q.1 (by decide)), if_neg (fun q => absurd q.1 (by decide))]
            rw [List.drop_append_of_le_length (by omega)]
          · rw [if_neg hd] at hp h ⊢
            by_cases h42 : some d = some 42
            · rw [if_pos h42] at hp h ⊢
              obtain rfl : d = 42 := by simpa using h42
              subst h47
              have hc : closed (e :: r) = true := isOpen_block ho rfl
              rw [if_pos ⟨rfl, rfl⟩]
              rw [show ((42 :: e :: r) ++ y : B).drop 1 = (e :: r) ++ y from rfl, block_app y _ hc, List.drop_append_of_le_length (block_len _)]
              rfl
            · rw [if_neg h42] at hp; exact absurd rfl hp
        · rw [if_neg h47] at hp; exact absurd rfl hp
theorem LC_open (l : B) (h : isOpen l = true) : piece (l ++ [42, 47]) = l.length + 2 ∧ LC (l ++ [42, 47]) = false := by
  unfold isOpen at h
  split at h
  · rename_i r
    have hc : closed r = false := by simpa using h
    have e := block_shut r hc
    constructor
    · rw [show (47 :: 42 :: r ++ [42, 47] : B) = 47 :: 42 :: (r ++ [42, 47]) from rfl, piece_cons', if_neg (by decide), if_neg (by decide), cmt_cons', if_pos rfl, if_neg (by simp), if_pos (by rfl : (42 :: (r ++ [42, 47]) : B).head? = some 42), List.drop_succ_cons, List.drop_zero, e]
      rfl
    · rw [show (47 :: 42 :: r ++ [42, 47] : B) = 47 :: 42 :: (r ++ [42, 47]) from rfl, LC_cons, if_pos ⟨rfl, rfl⟩, List.drop_succ_cons, List.drop_zero, e, List.drop_of_length_le (by simp)]
      rfl
  · cases h
theorem flat_open (hS : Fair S) : ∀ (m : Nat) (l bf : B) (a : Nat) (f : Bool), l.length < m → opens K S m l f = true → LC (bf ++ l ++ [42, 47]) = LC (l ++ [42, 47]) →
    ∃ init be, flat K S (l.length + 1) bf l a f = init ++ [⟨0, be, [], a + l.length⟩] ∧ flat K S (l.length + 3) bf (l ++ [42, 47]) a f = init ++ [⟨0, be ++ [42, 47], [], a + l.length + 2⟩] ∧ 2 ≤ be.length ∧ LC (be ++ [42, 47]) = false := by
  intro m
  induction m with
  | zero => intro l bf a f h; omega
  | succ m ih =>
    intro l bf a f hm ho hlc
    have h2 := opens_len _ _ _ ho
    unfold opens at ho
    by_cases hp : piece l = 0
    · rw [if_neg (by simpa using hp)] at ho
      have hl : l ≠ [] := by rintro rfl; simp at h2
      rw [if_neg hl] at ho
      obtain ⟨c, r, rfl⟩ : ∃ c r, l = c :: r := by
        cases l with
        | nil => exact absurd rfl hl
        | cons c r => exact ⟨c, r, rfl⟩
      have ht := tok_len (K := K) hS f (c :: r) hl
      have h2' := opens_len _ _ _ ho
      rw [List.length_drop, List.length_cons] at h2'
      have ta := tok_app_close (K := K) hS f c r (by omega)
      have hop : isOpen (c :: r) = false := by
        cases h : isOpen (c :: r) with
        | false => rfl
        | true => have := isOpen_piece _ h; omega
      obtain ⟨d, e, r', rfl⟩ : ∃ d e r', r = d :: e :: r' := by
        match r, h2' with
        | [], h => simp at h; omega
        | [d], h => simp at h; omega
        | d :: e :: r', _ => exact ⟨d, e, r', rfl⟩
      have pa := piece_app_lt c d e r' [42, 47] hop (by omega)
      rw [hp] at pa
      rw [flat_tok K S _ bf (c :: d :: e :: r') a f _ hp hl rfl, flat_tok K S _ bf (c :: d :: e :: r' ++ [42, 47]) a f _ pa (by simp) ta]
      generalize tok K S f (c :: d :: e :: r') = t at *
      obtain ⟨init, be, e1, e2, e3, e4⟩ := ih ((c :: d :: e :: r').drop t.2) [] (a + t.2) false (by rw [List.length_drop]; omega) ho rfl
      refine ⟨⟨t.1, bf, (c :: d :: e :: r').take t.2, a⟩ :: init, be, ?_, ?_, e3, e4⟩
      · rw [flat_fuel hS (((c :: d :: e :: r').drop t.2).length + 1) _ _ _ _ _ (by omega) (by rw [List.length_drop]; omega), e1, List.length_drop, show a + t.2 + ((c :: d :: e :: r').length - t.2) = a + (c :: d :: e :: r').length by omega]
        rfl
      · rw [List.length_drop, show a + t.2 + ((c :: d :: e :: r').length - t.2) + 2 = a + (c :: d :: e :: r').length + 2 by omega] at e2
        rw [take_app ht.2.1, List.drop_append_of_le_length ht.2.1, flat_fuel hS ((c :: d :: e :: r').length - t.2 + 3) _ _ _ _ _ (by simp only [List.length_append, List.length_drop, List.length_cons, List.length_nil]; omega) (by simp only [List.length_cons]; omega), e2]
        rfl
    · rw [if_pos hp, Bool.or_eq_true] at ho
      by_cases hop : isOpen l = true
      · obtain ⟨p1, p2⟩ := isOpen_piece l hop
        obtain ⟨q1, q2⟩ := LC_open l hop
        refine ⟨[], bf ++ l, ?_, ?_, by rw [List.length_append]; omega, ?_⟩
        · obtain ⟨k, hk⟩ : ∃ k, l.length = k + 1 := ⟨l.length - 1, by omega⟩
          rw [flat_piece K S _ bf l a f _ p1 (by omega), List.take_of_length_le (Nat.le_refl _), List.drop_of_length_le (Nat.le_refl _)]
          generalize clearAfter l l.length f = g
          rw [hk, flat_end]
          rw [← hk]; rfl
        · rw [flat_piece K S _ bf (l ++ [42, 47]) a f _ q1 (by omega), List.take_of_length_le (by simp), List.drop_of_length_le (by simp), flat_end, List.append_assoc]
          rfl
        · rw [hlc, q2]
      · have hop' : isOpen l = false := by simpa using hop
        have ho2 := ho.resolve_left hop
        have h2' := opens_len _ _ _ ho2
        rw [List.length_drop] at h2'
        have hle := piece_len l
        have hl : l ≠ [] := by rintro rfl; simp at h2
        obtain ⟨c, d, e, r', rfl⟩ : ∃ c d e r', l = c :: d :: e :: r' := by
          match l, h2', hp with
          | [], h, _ => simp at h
          | [c], h, hp => simp at h; omega
          | [c, d], h, hp => simp at h; omega
          | c :: d :: e :: r', _, _ => exact ⟨c, d, e, r', rfl⟩
        have pa := piece_app_lt c d e r' [42, 47] hop' (by simp only [List.length_cons] at h2' ⊢; omega)
        have lp := LC_piece (c :: d :: e :: r') [42, 47] hop' hp (by omega)
        have ca := clearAfter_app (c :: d :: e :: r') [42, 47] (piece (c :: d :: e :: r')) f hle hl
        rw [flat_piece K S _ bf (c :: d :: e :: r') a f _ rfl hp, flat_piece K S _ bf (c :: d :: e :: r' ++ [42, 47]) a f _ pa hp, ca, take_app hle, List.drop_append_of_le_length hle]
        generalize hn : piece (c :: d :: e :: r') = n at *
        obtain ⟨init, be, e1, e2, e3, e4⟩ := ih ((c :: d :: e :: r').drop n) (bf ++ (c :: d :: e :: r').take n) (a + n) (clearAfter (c :: d :: e :: r') n f) (by rw [List.length_drop]; omega) ho2
          (by rw [List.append_assoc bf, List.take_append_drop, hlc, lp])
        refine ⟨init, be, ?_, ?_, e3, e4⟩
        · rw [flat_fuel hS (((c :: d :: e :: r').drop n).length + 1) _ _ _ _ _ (by omega) (by rw [List.length_drop]; omega), e1, List.length_drop, show a + n + ((c :: d :: e :: r').length - n) = a + (c :: d :: e :: r').length by omega]
        · rw [List.length_drop, show a + n + ((c :: d :: e :: r').length - n) + 2 = a + (c :: d :: e :: r').length + 2 by omega] at e2
          rw [flat_fuel hS ((c :: d :: e :: r').length - n + 3) _ _ _ _ _ (by simp only [List.length_append, List.length_drop, List.length_cons, List.length_nil]; omega) (by simp only [List.length_cons]; omega), e2]
/-- places moved on -/
def mv (d : Nat) (t : Tok) : Tok := ⟨t.kind, t.before, t.text, t.at_ + d⟩
theorem flat_mv (d : Nat) : ∀ (k : Nat) (bf l : B) (a : Nat) (f : Bool), flat K S k bf l (a + d) f = (flat K S k bf l a f).map (mv d) := by
  intro k
  induction k with
  | zero => intro bf l a f; rfl
  | succ k ih =>
    intro bf l a f
    rw [flat, flat]
    by_cases hp : piece l ≠ 0
    · rw [if_pos hp, if_pos hp, show a + d + piece l = a + piece l + d by omega, ih]
    · rw [if_neg hp, if_neg hp]
      by_cases hl : l = []
      · rw [if_pos hl, if_pos hl]; rfl
      · rw [if_neg hl, if_neg hl, List.map_cons, show a + d + (tok K S f l).2 = a + (tok K S f l).2 + d by omega, ih]; rfl
/-- more ahead of the first token -/
def ahead (p : B) : List Tok → List Tok
  | [] => []
  | t :: r => ⟨t.kind, p ++ t.before, t.text, t.at_⟩ :: r
theorem flat_ahead (p : B) : ∀ (k : Nat) (bf l : B) (a : Nat) (f : Bool), flat K S k (p ++ bf) l a f = ahead p (flat K S k bf l a f) := by
  intro k
  induction k with
  | zero => intro bf l a f; rfl
  | succ k ih =>
    intro bf l a f
    rw [flat, flat]
    by_cases hp : piece l ≠ 0
    · rw [if_pos hp, if_pos hp, List.append_assoc, ih]
    · rw [if_neg hp, if_neg hp]
      by_cases hl : l = []
      · rw [if_pos hl, if_pos hl]; rfl
      · rw [if_neg hl, if_neg hl]; rfl
/-- the tokens of two texts with a line feed between -/
theorem tokens_two (hS : Fair S) (a b : B) (he : EndOk a) (ho : opens K S (a.length + 1) a true = false) :
    ∃ init be, tokens K S a = init ++ [⟨0, be, [], a.length⟩] ∧ tokens K S (a ++ 10 :: b) = init ++ (ahead (be ++ [10]) (tokens K S b)).map (mv (a.length + 1)) := by
  obtain ⟨init, be, e1, e2⟩ := flat_two hS b _ a [] 0 true (Nat.lt_succ_self _) he ho
  rw [Nat.zero_add] at e1 e2
  refine ⟨init, be, by rw [tokens_flat hS, e1], ?_⟩
  rw [tokens_flat hS, tokens_flat hS, List.length_append, List.length_cons, show a.length + (b.length + 1) + 1 = a.length + b.length + 2 by omega, e2, ← flat_ahead, List.append_nil]
  congr 1
  have := flat_mv (K := K) (S := S) (a.length + 1) (b.length + 1) (be ++ [10]) b 0 true
  rw [Nat.zero_add] at this
  exact this
theorem tokens_open (hS : Fair S) (a : B) (ho : opens K S (a.length + 1) a true = true) :
    ∃ init be, tokens K S a = init ++ [⟨0, be, [], a.length⟩] ∧ tokens K S (a ++ [42, 47]) = init ++ [⟨0, be ++ [42, 47], [], a.length + 2⟩] ∧ 2 ≤ be.length ∧ LC (be ++ [42, 47]) = false := by
  obtain ⟨init, be, e1, e2, e3, e4⟩ := flat_open hS _ a [] 0 true (Nat.lt_succ_self _) ho rfl
  rw [Nat.zero_add] at e1 e2
  exact ⟨init, be, by rw [tokens_flat hS, e1], by rw [tokens_flat hS, List.length_append]; exact e2, e3, e4⟩
end Go.Proofs.YtabnmkakgcifoaaDoor.Lx

namespace Go.Proofs.YtabnmkakgcifoaaDoor.Lx
/-- nothing, or a blank and anything -/
def Gap (y : B) : Prop := y = [] ∨ ∃ r, y = 32 :: r
theorem Gap.tw {y : B} (h : Gap y) (p : UInt8 → Bool) (hp : p 32 = false) : ∀ l : B, l.all p = true → (l ++ y).takeWhile p = l
  | [], _ => by
    rcases h with rfl | ⟨r, rfl⟩
    · rfl
    · rw [List.nil_append, List.takeWhile_cons_of_neg (by simp [hp])]
  | c :: r, hl => by
    rw [List.all_cons, Bool.and_eq_true] at hl
    rw [List.cons_append, List.takeWhile_cons_of_pos hl.1, Gap.tw h p hp r hl.2]
theorem tw_all' (p : UInt8 → Bool) : ∀ l : B, (l.takeWhile p).all p = true
  | [] => rfl
  | c :: r => by
    rw [List.takeWhile_cons]
    by_cases hc : p c = true
    · rw [if_pos hc, List.all_cons, hc, tw_all' p r]; rfl
    · rw [if_neg hc]; rfl
theorem Gap.num {y : B} (h : Gap y) : ∀ (l : B) (c : UInt8), numRest c (l.take (numRest c l) ++ y) = numRest c l
  | [], c => by
    rw [List.take_nil, List.nil_append]
    rcases h with rfl | ⟨r, rfl⟩
    · rfl
    · rfl
  | d :: r, c => by
    rw [numRest_cons]
    by_cases q : (isLD d || d == 46 || ((d == 43 || d == 45) && (c == 101 || c == 69))) = true
    · rw [if_pos q, List.take_succ_cons, List.cons_append, numRest_cons, if_pos q, Gap.num h r d]
    · rw [if_neg q, List.take_zero, List.nil_append]
      rcases h with rfl | ⟨r, rfl⟩
      · rfl
      · rfl
theorem quoted_take (m : UInt8) : ∀ (n : Nat) (l : B), l.length ≤ n → ∀ q, quoted m l = some q → quoted m (l.take q) = some q := by
  intro n
  induction n with
  | zero =>
    intro l h q hq
    obtain rfl := List.eq_nil_of_length_eq_zero (Nat.le_zero.mp h)
    cases hq
  | succ n ih =>
    intro l h q hq
    match l, h, hq with
    | [], _, hq => cases hq
    | [c], _, hq =>
      rw [quoted_one] at hq
      split at hq
      · rename_i hc
        cases hq
        rw [List.take_succ_cons, List.take_nil, quoted_one, if_pos hc]
      · cases hq
    | c :: d :: r, h, hq =>
      simp only [List.length_cons] at h
      rw [quoted_two] at hq
      split at hq
      · rename_i hc
        cases hq
        rw [List.take_succ_cons, List.take_zero, quoted_one, if_pos hc]
      · rename_i hc
        split at hq
        · cases hq
        · rename_i h10
          split at hq
          · rename_i h92
            split at hq
            · cases hq
            · rename_i hd
              obtain ⟨p, hp, rfl⟩ := Option.map_eq_some_iff.mp hq
              rw [List.take_succ_cons, List.take_succ_cons, quoted_two, if_neg hc, if_neg h10, if_pos h92, if_neg hd, ih r (by omega) p hp]; rfl
          · rename_i h92
            obtain ⟨p, hp, rfl⟩ := Option.map_eq_some_iff.mp hq
            have e := ih (d :: r) (by simp only [List.length_cons]; omega) p hp
            obtain ⟨p', rfl⟩ : ∃ p', p = p' + 1 := ⟨p - 1, by have := (quoted_le m _ _ (Nat.le_refl _) p hp).1; omega⟩
            rw [List.take_succ_cons] at e
            rw [List.take_succ_cons, List.take_succ_cons, quoted_two, if_neg hc, if_neg h10, if_neg h92, e]; rfl
theorem signLen_top (S : List B) (l : B) : (∀ s ∈ S, s.isPrefixOf l = true → s.length ≤ signLen S l) ∧ (signLen S l ≠ 0 → ∃ s ∈ S, s.isPrefixOf l = true ∧ s.length = signLen S l) := by
  unfold signLen
  suffices g : ∀ (q : List B) (n : Nat), n ≤ q.foldl (fun n s => if n < s.length ∧ s.isPrefixOf l then s.length else n) n ∧ (∀ s ∈ q, s.isPrefixOf l = true → s.length ≤ q.foldl (fun n s => if n < s.length ∧ s.isPrefixOf l then s.length else n) n) ∧
      (q.foldl (fun n s => if n < s.length ∧ s.isPrefixOf l then s.length else n) n ≠ n → ∃ s ∈ q, s.isPrefixOf l = true ∧ s.length = q.foldl (fun n s => if n < s.length ∧ s.isPrefixOf l then s.length else n) n) from ⟨(g S 0).2.1, (g S 0).2.2⟩
  intro q
  induction q with
  | nil => intro n; exact ⟨Nat.le_refl _, (fun s hs => by cases hs), fun h => absurd rfl h⟩
  | cons s q ih =>
    intro n
    rw [List.foldl_cons]
    by_cases hs : n < s.length ∧ s.isPrefixOf l = true
    · rw [if_pos hs]
      obtain ⟨i1, i2, i3⟩ := ih s.length
      refine ⟨by omega, ?_, ?_⟩
      · intro t ht hp
        rcases List.mem_cons.mp ht with rfl | ht
        · exact i1
        · exact i2 t ht hp
      · intro _
        by_cases he : q.foldl (fun n s => if n < s.length ∧ s.isPrefixOf l then s.length else n) s.length = s.length
        · exact ⟨s, List.mem_cons_self, hs.2, he.symm⟩
        · obtain ⟨t, ht, hp, hl⟩ := i3 he
          exact ⟨t, List.mem_cons_of_mem _ ht, hp, hl⟩
    · rw [if_neg hs]
      obtain ⟨i1, i2, i3⟩ := ih n
      refine ⟨i1, ?_, ?_⟩
      · intro t ht hp
        rcases List.mem_cons.mp ht with rfl | ht
        · have : ¬ n < t.length := fun h => hs ⟨h, hp⟩
          omega
        · exact i2 t ht hp
      · intro h
        obtain ⟨t, ht, hp, hl⟩ := i3 h
        exact ⟨t, List.mem_cons_of_mem _ ht, hp, hl⟩
variable {K S : List B}
/-- a token's text that is this token wherever it stands with a blank behind it -/
def Alone (K S : List B) (k : Nat) (t : B) : Prop := t ≠ [] ∧ ∀ y, Gap y → piece (t ++ y) = 0 ∧ ∀ f, tok K S f (t ++ y) = (k, t.length)
theorem plain_piece (c : UInt8) (r : B) (h1 : isBl c = false) (h2 : c ≠ 92) (h3 : c ≠ 47) : piece (c :: r) = 0 := by
  rw [piece_cons', if_neg (by simp [h1]), if_neg h2, cmt_cons', if_neg h3]
theorem isL_facts : ∀ c : UInt8, isL c = true → isBl c = false ∧ c ≠ 92 ∧ c ≠ 47 ∧ c ≠ 35 := by
  have h : ∀ n : Fin 256, isL (UInt8.ofNat n) = true → isBl (UInt8.ofNat n) = false ∧ UInt8.ofNat n ≠ 92 ∧ UInt8.ofNat n ≠ 47 ∧ UInt8.ofNat n ≠ 35 := by decide +kernel
  intro c hc
  have := h ⟨c.toNat, c.toNat_lt⟩
  simp only [UInt8.ofNat_toNat] at this
  exact this hc
theorem isD_facts : ∀ c : UInt8, (isD c || c == 46) = true → isBl c = false ∧ c ≠ 92 ∧ c ≠ 47 ∧ c ≠ 35 ∧ isL c = false := by
  have h : ∀ n : Fin 256, (isD (UInt8.ofNat n) || UInt8.ofNat n == 46) = true → isBl (UInt8.ofNat n) = false ∧ UInt8.ofNat n ≠ 92 ∧ UInt8.ofNat n ≠ 47 ∧ UInt8.ofNat n ≠ 35 ∧ isL (UInt8.ofNat n) = false := by decide +kernel
  intro c hc
  have := h ⟨c.toNat, c.toNat_lt⟩
  simp only [UInt8.ofNat_toNat] at this
  exact this hc
theorem take_tw (p : UInt8 → Bool) (l : B) : l.take (l.takeWhile p).length = l.takeWhile p := (List.prefix_iff_eq_take.mp (List.takeWhile_prefix p)).symm
theorem prefix_take (s l : B) (h : s.isPrefixOf l = true) : l.take s.length = s := (List.prefix_iff_eq_take.mp (List.isPrefixOf_iff_prefix.mp h)).symm
theorem alone_of_tok (hS : Fair S) (f : Bool) (l : B) (k n : Nat) (hl : l ≠ []) (hp : piece l = 0) (ht : tok K S f l = (k, n)) (h7 : k ≠ 7) (h8 : k ≠ 8) (hh : ¬ (k = 6 ∧ l.take n = [35])) :
    Alone K S k (l.take n) := by
  obtain ⟨c, r, rfl⟩ : ∃ c r, l = c :: r := by
    cases l with
    | nil => exact absurd rfl hl
    | cons c r => exact ⟨c, r, rfl⟩
  have hlen := tok_len (K := K) hS f (c :: r) hl
  rw [ht] at hlen
  obtain ⟨hn0, hnl, -⟩ := hlen
  dsimp only at hn0 hnl
  obtain ⟨n', rfl⟩ : ∃ n', n = n' + 1 := ⟨n - 1, by omega⟩
  refine ⟨by rw [List.take_succ_cons]; simp, fun y hy => ?_⟩
  have hlt : ((c :: r).take (n' + 1)).length = n' + 1 := by rw [List.length_take]; omega
  rw [hlt]
  rw [tok_cons] at ht
  rw [List.take_succ_cons, List.cons_append]
  by_cases h35 : c = 35 ∧ f = true
  · rw [if_pos h35] at ht
    exact absurd (congrArg Prod.fst ht).symm h7
  · rw [if_neg h35] at ht
    by_cases hL : isL c = true
    · rw [if_pos hL] at ht
      obtain ⟨e1, e2⟩ := Prod.mk.inj ht
      obtain ⟨b1, b2, b3, b4⟩ := isL_facts c hL
      refine ⟨plain_piece c _ b1 b2 b3, fun g => ?_⟩
      have htk : c :: r.take n' = (c :: r).takeWhile isLD := by
        rw [← List.take_succ_cons, ← e2]; exact take_tw isLD (c :: r)
      have htw : (c :: (r.take n' ++ y)).takeWhile isLD = (c :: r).takeWhile isLD := by
        rw [← List.cons_append, htk, hy.tw isLD (by decide) _ (tw_all' _ _)]
      rw [tok_cons, if_neg (fun q => b4 q.1), if_pos hL]
      unfold nameLen at e2 ⊢
      rw [htw, e1, e2]
    · rw [if_neg hL] at ht
      by_cases hD : (isD c || (c == 46 && isD (r.headD 0))) = true
      · rw [if_pos hD] at ht
        obtain ⟨e1, e2⟩ := Prod.mk.inj ht
        have hc : (isD c || c == 46) = true := by
          rw [Bool.or_eq_true, Bool.and_eq_true] at hD
          rw [Bool.or_eq_true]
          rcases hD with h | h
          · exact Or.inl h
          · exact Or.inr h.1
        obtain ⟨b1, b2, b3, b4, b5⟩ := isD_facts c hc
        refine ⟨plain_piece c _ b1 b2 b3, fun g => ?_⟩
        have hn : numRest c r = n' := by omega
        have hD2 : (isD c || (c == 46 && isD ((r.take n' ++ y).headD 0))) = true := by
          rw [Bool.or_eq_true, Bool.and_eq_true] at hD ⊢
          rcases hD with h | h
          · exact Or.inl h
          · refine Or.inr ⟨h.1, ?_⟩
            cases r with
            | nil => exact absurd h.2 (by decide)
            | cons d r =>
              have hd : isD d = true := h.2
              rw [numRest_cons, if_pos (by simp [isLD, hd])] at hn
              rw [← hn]; exact hd
        rw [tok_cons, if_neg (fun q => b4 q.1), if_neg (by simp [b5]), if_pos hD2]
        have := hy.num r c
        rw [hn] at this
        rw [this, e1]
      · rw [if_neg hD] at ht
        by_cases hq : c = 39 ∨ c = 34
        · rw [if_pos hq] at ht
          cases hqq : quoted c r with
          | none =>
            rw [hqq] at ht
            exact absurd (congrArg Prod.fst ht).symm h8
          | some q =>
            rw [hqq] at ht
            obtain ⟨e1, e2⟩ := Prod.mk.inj ht
            have hn : q = n' := by omega
            subst hn
            have hcl : isBl c = false ∧ c ≠ 92 ∧ c ≠ 47 ∧ c ≠ 35 ∧ isL c = false ∧ isD c = false ∧ (c == 46) = false := by
              rcases hq with rfl | rfl <;> decide
            obtain ⟨b1, b2, b3, b4, b5, b6, b7⟩ := hcl
            refine ⟨plain_piece c _ b1 b2 b3, fun g => ?_⟩
            rw [tok_cons, if_neg (fun q => b4 q.1), if_neg (by simp [b5]), if_neg (by simp [b6, b7]), if_pos hq, quoted_app_some c y _ _ (Nat.le_refl _) q (quoted_take c _ r (Nat.le_refl _) q hqq)]
            exact Prod.ext e1 rfl
        · rw [if_neg hq] at ht
          by_cases hz : signLen S (c :: r) = 0
          · rw [if_pos hz] at ht
            exact absurd (congrArg Prod.fst ht).symm h8
          · rw [if_neg hz] at ht
            obtain ⟨rfl, e2⟩ := Prod.mk.inj ht
            obtain ⟨hmax, hex⟩ := signLen_top S (c :: r)
            obtain ⟨s, hs, hsp, hsl⟩ := hex hz
            have hst := prefix_take s _ hsp
            rw [hsl, e2, List.take_succ_cons] at hst
            have hhead : s.head? = some c := by rw [← hst]; rfl
            have b1 := hS.bl s hs c hhead
            have b2 : c ≠ 92 := by rintro rfl; exact hS.h92 s hs hhead
            have b4 : c ≠ 35 := by
              rintro rfl
              have := hS.h35 s hs hhead
              exact hh ⟨rfl, by rw [List.take_succ_cons, hst, this]⟩
            -- the second byte, if the sign has one
            have hsec : ∀ (P : Option UInt8 → Prop), P (some 32) → P none → P r.head? → P (r.take n' ++ y).head? := by
              intro P p1 p2 p3
              cases n' with
              | zero =>
                rw [List.take_zero, List.nil_append]
                rcases hy with rfl | ⟨q, rfl⟩
                · exact p2
                · exact p1
              | succ n' =>
                cases r with
                | nil => simp at hnl
                | cons d r => exact p3
            have hpc : piece (c :: (r.take n' ++ y)) = 0 := by
              rw [piece_cons', if_neg (by simp [b1]), if_neg b2] at hp ⊢
              rw [cmt_cons'] at hp ⊢
              by_cases h47 : c = 47
              · rw [if_pos h47] at hp ⊢
                have hr := hsec (fun o => o ≠ some 47 ∧ o ≠ some 42) ⟨by decide, by decide⟩ ⟨by decide, by decide⟩ (by
                  constructor
                  · intro q; rw [if_pos q] at hp; omega
                  · intro q; rw [if_neg (by rw [q]; decide), if_pos q] at hp; omega)
                rw [if_neg hr.1, if_neg hr.2]
              · rw [if_neg h47]
            refine ⟨hpc, fun g => ?_⟩
            have hD2 : ¬ (isD c || (c == 46 && isD ((r.take n' ++ y).headD 0))) = true := by
              rw [Bool.or_eq_true, Bool.and_eq_true] at hD ⊢
              rintro (h | h)
              · exact hD (Or.inl h)
              · have := hsec (fun o => isD (o.getD 0) = true → False) (by decide) (by decide) (fun q => hD (Or.inr ⟨h.1, by rw [List.headD_eq_head?_getD]; exact q⟩))
                exact this (by rw [← List.headD_eq_head?_getD]; exact h.2)
            have hsn : signLen S (c :: (r.take n' ++ y)) = n' + 1 := by
              obtain ⟨gmax, gex⟩ := signLen_top S (c :: (r.take n' ++ y))
              have hle : s.length ≤ signLen S (c :: (r.take n' ++ y)) := by
                refine gmax s hs ?_
                rw [List.isPrefixOf_iff_prefix, ← hst]
                exact ⟨y, rfl⟩
              obtain ⟨s2, hs2, hsp2, hsl2⟩ := gex (by omega)
              have : s2.isPrefixOf (c :: r) = true := by
                have e : s2.isPrefixOf (c :: r.take n') = true := by
                  rcases hy with rfl | ⟨q, rfl⟩
                  · rw [List.append_nil] at hsp2; exact hsp2
                  · rw [← List.cons_append, prefix_app_not 32 q s2 _ (hS.h32 s2 hs2)] at hsp2; exact hsp2
                rw [List.isPrefixOf_iff_prefix] at e ⊢
                exact e.trans (by rw [← List.take_succ_cons]; exact List.take_prefix _ _)
              have := hmax s2 hs2 this
              omega
            rw [tok_cons, if_neg (fun q => b4 q.1), if_neg (by simp [hL]), if_neg hD2, if_neg hq, hsn, if_neg (by omega)]
theorem flat_alone (hS : Fair S) : ∀ (k : Nat) (bf l : B) (a : Nat) (f : Bool), ∀ t ∈ flat K S k bf l a f, t.kind ≠ 0 → t.kind ≠ 7 → t.kind ≠ 8 → ¬ (t.kind = 6 ∧ t.text = [35]) → Alone K S t.kind t.text := by
  intro k
  induction k with
  | zero => intro bf l a f t ht; cases ht
  | succ k ih =>
    intro bf l a f t ht h0 h7 h8 h6
    by_cases hp : piece l = 0
    · by_cases hl : l = []
      · subst hl
        rw [flat_end] at ht
        rw [List.mem_singleton.mp ht] at h0
        exact absurd rfl h0
      · rw [flat_tok K S k bf l a f _ hp hl rfl] at ht
        rcases List.mem_cons.mp ht with rfl | ht
        · exact alone_of_tok hS f l _ _ hl hp rfl h7 h8 h6
        · exact ih _ _ _ _ t ht h0 h7 h8 h6
    · rw [flat_piece K S k bf l a f _ rfl hp] at ht
      exact ih _ _ _ _ t ht h0 h7 h8 h6
theorem tokens_alone (hS : Fair S) (l : B) : ∀ t ∈ tokens K S l, t.kind ≠ 0 → t.kind ≠ 7 → t.kind ≠ 8 → ¬ (t.kind = 6 ∧ t.text = [35]) → Alone K S t.kind t.text := by
  rw [tokens_flat hS]; exact flat_alone hS _ _ _ _ _
/-- texts with blanks between -/
def jn : List B → B
  | [] => []
  | [t] => t
  | t :: u :: r => t ++ 32 :: jn (u :: r)
theorem flat_jn : ∀ (ts : List (Nat × B)) (bf : B) (a : Nat) (f : Bool), (∀ t ∈ ts, Alone K S t.1 t.2) → ∀ k, (jn (ts.map (·.2))).length < k →
    (flat K S k bf (jn (ts.map (·.2))) a f).map (fun t => (t.kind, t.text)) = ts ++ [(0, [])] := by
  intro ts
  induction ts with
  | nil =>
    intro bf a f h k hk
    obtain ⟨k, rfl⟩ : ∃ m, k = m + 1 := ⟨k - 1, by omega⟩
    rw [List.map_nil, jn, flat_end]; rfl
  | cons t ts ih =>
    intro bf a f h k hk
    obtain ⟨hne, hal⟩ := h t List.mem_cons_self
    have hpos : 0 < t.2.length := List.length_pos_iff.mpr hne
    obtain ⟨k, rfl⟩ : ∃ m, k = m + 1 := ⟨k - 1, by omega⟩
    cases ts with
    | nil =>
      rw [List.map_cons, List.map_nil, jn] at hk ⊢
      have := hal [] (Or.inl rfl)
      rw [List.append_nil] at this
      obtain ⟨k, rfl⟩ : ∃ m, k = m + 1 := ⟨k - 1, by omega⟩
      rw [flat_tok K S _ bf t.2 a f _ this.1 hne (this.2 f), List.take_of_length_le (Nat.le_refl _), List.drop_of_length_le (Nat.le_refl _), flat_end]
      rfl
    | cons u ts =>
      rw [List.map_cons, List.map_cons, jn, ← List.map_cons (f := fun x : Nat × B => x.2)] at hk ⊢
      have := hal (32 :: jn ((u :: ts).map (·.2))) (Or.inr ⟨_, rfl⟩)
      rw [List.length_append, List.length_cons] at hk
      obtain ⟨k, rfl⟩ : ∃ m, k = m + 1 := ⟨k - 1, by omega⟩
      rw [flat_tok K S _ bf (t.2 ++ 32 :: jn ((u :: ts).map (·.2))) a f _ this.1 (by simp) (this.2 f), List.take_left, List.drop_left, flat_piece K S _ _ (32 :: _) _ _ 1 rfl (by decide)]
      rw [List.map_cons]
      have e := ih ([] ++ (32 :: jn ((u :: ts).map (·.2))).take 1) (a + t.2.length + 1) (clearAfter (32 :: jn ((u :: ts).map (·.2))) 1 false) (fun x hx => h x (List.mem_cons_of_mem _ hx)) k (by omega)
      rw [List.drop_succ_cons, List.drop_zero, e]
      rfl
theorem tokens_jn (hS : Fair S) (ts : List (Nat × B)) (h : ∀ t ∈ ts, Alone K S t.1 t.2) : (tokens K S (jn (ts.map (·.2)))).map (fun t => (t.kind, t.text)) = ts ++ [(0, [])] := by
  rw [tokens_flat hS]; exact flat_jn ts _ _ _ h _ (by omega)
end Go.Proofs.YtabnmkakgcifoaaDoor.Lx

namespace Go.Proofs.YtabnmkakgcifoaaDoor.PLex
open Go.RowKit Go.Proofs.YtabnmkakgcifoaaDoorW.PrintWords Go.Proofs.YtabnmkakgcifoaaDoorW.PrintLast Go.Proofs.YtabnmkakgcifoaaDoorW.PrintMore
theorem signs_fair : Lx.Fair signsL := by
  have h : ∀ s ∈ signsL, s.head? ≠ some 39 ∧ s.head? ≠ some 34 ∧ s.head? ≠ some 92 ∧ (10 : UInt8) ∉ s ∧ (32 : UInt8) ∉ s ∧ (s.head? = some 35 → s = [35]) ∧ s.head?.any Lx.isBl = false ∧ s.length ≤ 3 := by decide +kernel
  refine ⟨fun s hs => (h s hs).1, fun s hs => (h s hs).2.1, fun s hs => (h s hs).2.2.1, fun s hs => (h s hs).2.2.2.1, fun s hs => (h s hs).2.2.2.2.1, fun s hs => (h s hs).2.2.2.2.2.1, fun s hs c hc => ?_, fun s hs => (h s hs).2.2.2.2.2.2.2⟩
  have := (h s hs).2.2.2.2.2.2.1
  rw [hc] at this
  exact this
/-- the tokens of a text -/
@[irreducible] def toks (s : ByteArray) : List Lx.Tok := Lx.tokens keysL signsL (bl s)
theorem scanR_ok (s : ByteArray) (h : (scanR s).2 = 0) : (scanR s).1 = (toks s).map toS ∧ s.size ≤ 200000 ∧ (toks s).length ≤ 40000 := by
  unfold scanR at h ⊢
  by_cases h1 : 200000 < s.size
  · rw [if_pos h1] at h; exact absurd h (by decide)
  · rw [if_neg h1] at h ⊢
    by_cases h2 : 40000 < (Lx.tokens keysL signsL (bl s)).length
    · rw [if_pos h2] at h; exact absurd h (by decide)
    · rw [if_neg h2]; unfold toks; exact ⟨rfl, by omega, by omega⟩
theorem scanR_bad (s : ByteArray) (h : (scanR s).2 ≠ 0) : 40000 ≤ s.size := by
  unfold scanR at h
  by_cases h1 : 200000 < s.size
  · omega
  · rw [if_neg h1] at h
    by_cases h2 : 40000 < (Lx.tokens keysL signsL (bl s)).length
    · have := Lx.tokens_len (K := keysL) signs_fair (bl s)
      rw [bl_length] at this
      omega
    · rw [if_neg h2] at h; exact absurd rfl h
theorem rd_at (l : List S30) (i : Nat) (h : i < l.length) : rd_T30 l (i : Int) = l[i] := by
  unfold rd_T30
  rw [Int.toNat_natCast, List.getD_eq_getElem?_getD, List.getElem?_eq_getElem h]; rfl
theorem rd_map (l : List Lx.Tok) (i : Nat) (h : i < l.length) : rd_T30 (l.map toS) (i : Int) = toS l[i] := by
  rw [rd_at _ i (by rw [List.length_map]; exact h), List.getElem_map]
theorem rd_last (l : List Lx.Tok) (t : Lx.Tok) : rd_T30 ((l ++ [t]).map toS) (wrap64 ((((l ++ [t]).map toS).length : Int) - 1)) = toS t ∨ 1000000000000 < l.length := by
  rcases Nat.lt_or_ge 1000000000000 l.length with h | h
  · exact Or.inr h
  · left
    rw [List.length_map, List.length_append, List.length_singleton, w64 (by omega) (by omega), show ((l.length + 1 : Nat) : Int) - 1 = (l.length : Int) by omega, rd_map _ l.length (by simp)]
    simp
theorem mk_bl' (l : List UInt8) : bl (⟨l.toArray⟩ : ByteArray) = l := by simp [bl]
theorem mk_size (l : List UInt8) : (⟨l.toArray⟩ : ByteArray).size = l.length := by rw [← bl_length, mk_bl']
theorem bl_app (x y : ByteArray) : bl (x ++ y) = bl x ++ bl y := by
  unfold bl
  rw [ByteArray.data_append, Array.toList_append]
theorem toks_ne (s : ByteArray) : ∃ init e, toks s = init ++ [e] := by
  have h := Lx.tokens_row (K := keysL) signs_fair (bl s)
  unfold toks
  generalize Lx.tokens keysL signsL (bl s) = l at *
  cases l with
  | nil => exact absurd h (by simp [Lx.Row])
  | cons t r => exact ⟨(t :: r).dropLast, (t :: r).getLast (by simp), (List.dropLast_concat_getLast _).symm⟩
theorem toks_len (s : ByteArray) : (toks s).length ≤ s.size + 1 := by
  have := Lx.tokens_len (K := keysL) signs_fair (bl s)
  rw [bl_length] at this
  unfold toks
  exact this
end Go.Proofs.YtabnmkakgcifoaaDoor.PLex

namespace Go.Proofs.YtabnmkakgcifoaaDoor.PLex
open Go.RowKit Go.Proofs.YtabnmkakgcifoaaDoorW.PrintWords Go.Proofs.YtabnmkakgcifoaaDoorW.PrintLast Go.Proofs.YtabnmkakgcifoaaDoorW.PrintMore
theorem eqStrings_refl (l : List ByteArray) (hl : l.length ≤ 1000000000) : Ev (fun k => rf0_EqStrings.f k l l) true := by
  have h : ∀ (m i : Nat), l.length < i + m → i ≤ l.length → Ev (fun k => rf0_EqStrings.l0 k l l i) true := by
    intro m
    induction m with
    | zero => intro i h1 h2; omega
    | succ m ih =>
      intro i h1 h2
      rcases Nat.lt_or_ge i l.length with hi | hi
      · refine Ev.step (fun k => ?_) (ih (i + 1) (by omega) (by omega))
        rw [rf0_EqStrings.l0, if_pos (by omega), if_pos (by omega), if_pos (by omega), w64 (by omega) (by omega), if_pos rfl]
        rfl
      · refine Ev.step (fun k => ?_) (Ev.now _)
        rw [rf0_EqStrings.l0, if_neg (by omega)]
  exact Ev.congr (fun k => by unfold rf0_EqStrings.f; rw [if_pos rfl]; rfl) (h (l.length + 1) 0 (by omega) (by omega))
theorem sidx_ev (l : List ByteArray) (x : ByteArray) (hl : l.length ≤ 1000) : ∀ (m i : Nat), l.length < i + m → i ≤ l.length →
    ∃ r : Int, Ev (fun k => slices_Index_string_string.l0 k l x (l.length : Int) i) r ∧ (r ≥ 0 ↔ ((l.drop i).map bl).contains (bl x) = true) := by
  intro m
  induction m with
  | zero => intro i h1 h2; omega
  | succ m ih =>
    intro i h1 h2
    rcases Nat.lt_or_ge i l.length with hi | hi
    · obtain ⟨r, e, hr⟩ := ih (i + 1) (by omega) (by omega)
      have hrd : rdOf ByteArray.empty l (i : Int) = l[i] := by
        unfold rdOf
        rw [Int.toNat_natCast, List.getD_eq_getElem?_getD, List.getElem?_eq_getElem hi]; rfl
      have hw : wrap64 ((i : Int) + 1) = ((i + 1 : Nat) : Int) := by rw [w64 (by omega) (by omega)]; omega
      rw [List.drop_eq_getElem_cons hi]
      have head : ∀ k, slices_Index_string_string.l0 (k + 1) l x (l.length : Int) i = if bl x = bl l[i] then some (i : Int) else slices_Index_string_string.l0 k l x (l.length : Int) ((i + 1 : Nat) : Int) := by
        intro k
        rw [slices_Index_string_string.l0, if_pos (by omega), if_pos (by omega), if_pos (by omega), hrd, hw, toList_bl, toList_bl]
      by_cases h : bl x = bl l[i]
      · exact ⟨i, Ev.step (fun k => (head k).trans (if_pos h)) (Ev.now _), by rw [List.map_cons, List.contains_cons, h]; simp⟩
      · refine ⟨r, Ev.step (fun k => (head k).trans (if_neg h)) e, hr.trans ?_⟩
        rw [List.map_cons, List.contains_cons, show (bl x == bl l[i]) = false from beq_eq_false_iff_ne.mpr h, Bool.false_or]
    · refine ⟨-1, Ev.step (fun k => ?_) (Ev.now _), ?_⟩
      · rw [slices_Index_string_string.l0, if_neg (by omega)]
      · rw [List.drop_of_length_le hi]; simp
theorem scontains_ev (l : List ByteArray) (x : ByteArray) (hl : l.length ≤ 1000) : Ev (fun k => slices_Contains_string_string.f k l x) ((l.map bl).contains (bl x)) := by
  obtain ⟨r, e, h⟩ := sidx_ev l x hl (l.length + 1) 0 (by omega) (by omega)
  refine Ev.congr (fun k => by unfold slices_Contains_string_string.f slices_Index_string_string.f; rfl) (Ev.bind e ?_)
  refine Ev.congr (fun k => ?_) (Ev.now _)
  congr 1
  rw [Bool.eq_iff_iff, decide_eq_true_eq]
  exact h
theorem tw_all (p : UInt8 → Bool) : ∀ l : List UInt8, l.all p = true → l.takeWhile p = l
  | [], _ => rfl
  | c :: r, h => by
    rw [List.all_cons, Bool.and_eq_true] at h
    rw [List.takeWhile_cons_of_pos h.1, tw_all p r h.2]
theorem tw_len (p : UInt8 → Bool) : ∀ l : List UInt8, (l.takeWhile p).length = l.length → l.all p = true
  | [], _ => rfl
  | c :: r, h => by
    by_cases hc : p c = true
    · rw [List.takeWhile_cons_of_pos hc, List.length_cons, List.length_cons] at h
      rw [List.all_cons, hc, tw_len p r (by omega)]; rfl
    · rw [List.takeWhile_cons_of_neg hc] at h
      simp at h
/-- is it a name? -/
def isName (s : ByteArray) : Bool := Lx.isL (B s 0) && !keysL.contains (bl s) && (bl s).all Lx.isLD
section
variable (s : ByteArray) (hs : s.size ≤ 140737488355328)
include hs
theorem isName_l0 : ∀ (m i : Nat), s.size < i + m → i ≤ s.size → Ev (fun k => lex_IsName.l0 k s (s.size : Int) i) (((bl s).drop i).all Lx.isLD) := by
  intro m
  induction m with
  | zero => intro i h1 h2; omega
  | succ m ih =>
    intro i h1 h2
    rcases Nat.lt_or_ge i s.size with hi | hi
    · have e := ih (i + 1) (by omega) (by omega)
      have hw : wrap64 ((i : Int) + 1) = ((i + 1 : Nat) : Int) := by rw [w64 (by omega) (by omega)]; omega
      have head : ∀ k, lex_IsName.l0 (k + 1) s (s.size : Int) i = if Lx.isLD (B s i) = true then lex_IsName.l0 k s (s.size : Int) ((i + 1 : Nat) : Int) else some false := by
        intro k
        rw [lex_IsName.l0, if_pos (by omega), if_pos (by omega), if_pos (by omega), bt_B s i hi, letter_eq, Option.bind_some, digit_eq, Option.bind_some, hw]
        by_cases hL : Lx.isL (B s i) = true
        · rw [if_pos hL, if_pos (by simp [Lx.isLD, hL])]
        · rw [if_neg hL]
          by_cases hD : Lx.isD (B s i) = true
          · rw [if_pos hD, if_pos (by simp [Lx.isLD, hD])]
          · rw [if_neg hD, if_neg (by simp [Lx.isLD, hL, hD])]
      rw [drop_B s i hi, List.all_cons]
      by_cases hc : Lx.isLD (B s i) = true
      · rw [hc, Bool.true_and]
        exact Ev.step (fun k => (head k).trans (if_pos hc)) e
      · rw [show Lx.isLD (B s i) = false by simpa using hc, Bool.false_and]
        exact Ev.step (fun k => (head k).trans (if_neg hc)) (Ev.now _)
    · rw [drop_end s i hi]
      refine Ev.step (fun k => ?_) (Ev.now _)
      rw [lex_IsName.l0, if_neg (by omega)]
      rfl
theorem isName_eq : Ev (fun k => lex_IsName.f k s) (isName s) := by
  rcases Nat.eq_zero_or_pos s.size with h0 | h0
  · have hn : s.toList = ([] : List UInt8) := (toList_nil_iff s).mpr h0
    have hv : isName s = false := by
      unfold isName B
      rw [drop_end s 0 (by omega)]; rfl
    rw [hv]
    refine Ev.congr (fun k => by unfold lex_IsName.f; rw [if_pos hn]) (Ev.step (f := fun _ => some false) (fun k => ?_) (Ev.now _))
    rw [lex_IsName.j0, if_pos rfl]
  · have hn : ¬ s.toList = ([] : List UInt8) := fun h => by have := (toList_nil_iff s).mp h; omega
    have hB : bt s 0 = ((B s 0).toNat : Int) := bt_B s 0 h0
    have head : ∀ k, lex_IsName.f k s = if Lx.isL (B s 0) = true then (slices_Contains_string_string.f k keysT' s).bind fun t => lex_IsName.j0 k s t else lex_IsName.j0 k s true := by
      intro k
      unfold lex_IsName.f
      rw [if_neg hn, if_pos (by omega), hB, letter_eq, Option.bind_some, keys_f, Option.bind_some]
    have ec := scontains_ev keysT' s (by decide +kernel)
    rw [show keysT'.map bl = keysL from keysL_eq.symm] at ec
    unfold isName
    by_cases hL : Lx.isL (B s 0) = true
    · rw [hL, Bool.true_and]
      refine Ev.congr (fun k => (head k).trans (if_pos hL)) (Ev.bind ec ?_)
      by_cases hk : keysL.contains (bl s) = true
      · rw [hk]
        exact Ev.step (f := fun _ => some false) (fun k => by rw [lex_IsName.j0, if_pos rfl]) (Ev.now _)
      · rw [show keysL.contains (bl s) = false by simpa using hk]
        have e := isName_l0 s hs (s.size + 1) 0 (by omega) (by omega)
        exact Ev.step (f := fun k => lex_IsName.l0 k s (s.size : Int) 0) (fun k => by rw [lex_IsName.j0, if_neg (by decide)]) e
    · rw [show Lx.isL (B s 0) = false by simpa using hL]
      refine Ev.congr (fun k => (head k).trans (if_neg hL)) ?_
      exact Ev.step (f := fun _ => some false) (fun k => by rw [lex_IsName.j0, if_pos rfl]) (Ev.now _)
theorem risName_eq : Ev (fun k => rf2_IsName.f k s) (isName s) := by
  rcases Nat.eq_zero_or_pos s.size with h0 | h0
  · have hn : s.toList = ([] : List UInt8) := (toList_nil_iff s).mpr h0
    have hv : isName s = false := by
      unfold isName B
      rw [drop_end s 0 (by omega)]; rfl
    rw [hv]
    exact Ev.congr (fun k => by unfold rf2_IsName.f; rw [if_pos hn]) (Ev.now _)
  · have hn : ¬ s.toList = ([] : List UInt8) := fun h => by have := (toList_nil_iff s).mp h; omega
    have hB : bt s 0 = ((B s 0).toNat : Int) := bt_B s 0 h0
    have ew := rword_eq s hs 0 (by omega)
    rw [List.drop_zero, Nat.zero_add] at ew
    have head : ∀ k, rf2_IsName.f k s = if Lx.isL (B s 0) = true then (rf2_word.f k s 0).bind fun t => (if t.1 = 1 then (some (t.2 == (s.size : Int))) else (some false)) else some false := by
      intro k
      unfold rf2_IsName.f
      rw [if_neg hn, if_pos (by omega), hB, rletter_eq, Option.bind_some]
    unfold isName
    by_cases hL : Lx.isL (B s 0) = true
    · rw [hL, Bool.true_and]
      refine Ev.congr (fun k => (head k).trans (if_pos hL)) (Ev.bind ew ?_)
      refine Ev.congr (fun k => ?_) (Ev.now _)
      dsimp only
      by_cases ha : (bl s).all Lx.isLD = true
      · have ht : (bl s).takeWhile Lx.isLD = bl s := tw_all _ _ ha
        have hnl : Lx.nameLen (bl s) = s.size := by unfold Lx.nameLen; rw [ht, bl_length]
        rw [ht, ha, hnl]
        by_cases hk : keysL.contains (bl s) = true
        · rw [if_pos hk, if_neg (by decide), hk]; rfl
        · rw [if_neg hk, if_pos (show ((1 : Nat) : Int) = 1 from rfl), show keysL.contains (bl s) = false by simpa using hk]; simp
      · have hlt : Lx.nameLen (bl s) ≠ s.size := by
          intro h
          apply ha
          unfold Lx.nameLen at h
          exact tw_len _ _ (by rw [h, bl_length])
        rw [show (bl s).all Lx.isLD = false by simpa using ha, Bool.and_false]
        by_cases hk : keysL.contains ((bl s).takeWhile Lx.isLD) = true
        · rw [if_pos hk, if_neg (by decide)]
        · rw [if_neg hk, if_pos (show ((1 : Nat) : Int) = 1 from rfl)]
          congr 1
          rw [beq_eq_false_iff_ne]
          omega
    · rw [show Lx.isL (B s 0) = false by simpa using hL]
      exact Ev.congr (fun k => (head k).trans (if_neg hL)) (Ev.now _)
theorem lexNames_eq : Ev (fun k => lw2_LexNames.f k s) true := by
  unfold lw2_LexNames.f
  refine Ev.bind (isName_eq s hs) (Ev.bind (risName_eq s hs) ?_)
  refine Ev.congr (fun k => if_pos (by simp)) ?_
  rw [keys_f, show rf2_Keys.f = some keysT' from keys_eq]
  refine Ev.congr (fun k => Option.bind_some _ _) (Ev.congr (fun k => Option.bind_some _ _) (Ev.bind (eqStrings_refl keysT' (by decide +kernel)) ?_))
  refine Ev.congr (fun k => if_pos rfl) ?_
  rw [signs_f, show rf2_Signs.f = some signsT' from signs_eq]
  refine Ev.congr (fun k => Option.bind_some _ _) (Ev.congr (fun k => Option.bind_some _ _) (Ev.bind (eqStrings_refl signsT' (by decide +kernel)) ?_))
  refine Ev.congr (fun k => if_pos rfl) ?_
  rw [awake_eq]
  exact Ev.now _
end
end Go.Proofs.YtabnmkakgcifoaaDoor.PLex

namespace Go.Proofs.YtabnmkakgcifoaaDoor.PLex
open Go.RowKit Go.Proofs.YtabnmkakgcifoaaDoorW.PrintWords Go.Proofs.YtabnmkakgcifoaaDoorW.PrintLast Go.Proofs.YtabnmkakgcifoaaDoorW.PrintMore
theorem wsucc (i : Nat) (h : i ≤ 1000000000000) : wrap64 ((i : Int) + 1) = ((i + 1 : Nat) : Int) := by rw [w64 (by omega) (by omega)]; omega
/-- a token's text stays when tokens are stripped -/
def keepS (t : S30) : Bool := t.f0 != 7 && t.f0 != 0
theorem strip_ev (l : List S30) (hl : l.length ≤ 1000000000) : Ev (fun k => lex_Strip.f k l) ((l.filter keepS).map (·.f2)) := by
  have h : ∀ (m i : Nat) (outs : List ByteArray), l.length < i + m → i ≤ l.length → outs.length ≤ i → Ev (fun k => lex_Strip.l0 k outs l (l.length : Int) i) (outs ++ ((l.drop i).filter keepS).map (·.f2)) := by
    intro m
    induction m with
    | zero => intro i outs h1 h2; omega
    | succ m ih =>
      intro i outs h1 h2 h3
      rcases Nat.lt_or_ge i l.length with hi | hi
      · have hw := Aside0.mk (wsucc i (by omega))
        have hr := rd_at l i hi
        rw [List.drop_eq_getElem_cons hi, List.filter_cons]
        by_cases h7 : l[i].f0 = 7
        · rw [if_neg (by simp [keepS, h7])]
          refine Ev.step (f := fun k => lex_Strip.l0 k outs l (l.length : Int) ((i + 1 : Nat) : Int)) (fun k => ?_) (ih (i + 1) outs (by omega) (by omega) (by omega))
          rw [lex_Strip.l0, if_pos (by omega), if_pos (by omega), if_pos (by omega), hr, if_pos h7, hw.out]
        · by_cases h0 : l[i].f0 = 0
          · rw [if_neg (by simp [keepS, h0])]
            refine Ev.step (f := fun k => lex_Strip.l0 k outs l (l.length : Int) ((i + 1 : Nat) : Int)) (fun k => ?_) (ih (i + 1) outs (by omega) (by omega) (by omega))
            rw [lex_Strip.l0, if_pos (by omega), if_pos (by omega), if_pos (by omega), hr, if_neg h7, if_pos h0, hw.out]
          · rw [if_pos (by simp [keepS, h7, h0]), List.map_cons]
            have e := ih (i + 1) (outs ++ [l[i].f2]) (by omega) (by omega) (by rw [List.length_append, List.length_singleton]; omega)
            rw [List.append_assoc, List.singleton_append] at e
            refine Ev.step (f := fun k => lex_Strip.l0 k (outs ++ [l[i].f2]) l (l.length : Int) ((i + 1 : Nat) : Int)) (fun k => ?_) e
            rw [lex_Strip.l0, if_pos (by omega), if_pos (by omega), if_pos (by omega), hr, if_neg h7, if_neg h0, if_pos (by omega), hw.out]
      · rw [List.drop_of_length_le hi, List.filter_nil, List.map_nil, List.append_nil]
        refine Ev.step (fun k => ?_) (Ev.now _)
        rw [lex_Strip.l0, if_neg (by omega)]
  exact Ev.congr (fun k => by unfold lex_Strip.f; rfl) (h (l.length + 1) 0 [] (by omega) (by omega) (by simp))
def keepT (t : Lx.Tok) : Bool := t.kind != 7 && t.kind != 0
def badT (t : Lx.Tok) : Bool := t.kind == 8 || (t.kind == 6 && t.text == [35])
def ints (l : List UInt8) : List Int := l.map fun b => (b.toNat : Int)
theorem ints_app (x y : List UInt8) : ints (x ++ y) = ints x ++ ints y := List.map_append
theorem ints_len (x : List UInt8) : (ints x).length = x.length := List.length_map _
theorem ints_str (x : List UInt8) : bl (strOfNums (ints x)) = x := by
  unfold bl
  rw [strOfNums_data]
  simp [ints, Function.comp_def]
/-- the kinds and texts that are kept of the first tokens -/
def kept (l : List Lx.Tok) : List (Nat × List UInt8) := (l.filter keepT).map fun t => (t.kind, t.text)
theorem kept_snoc (l : List Lx.Tok) (t : Lx.Tok) : kept (l ++ [t]) = kept l ++ (if keepT t = true then [(t.kind, t.text)] else []) := by
  unfold kept
  rw [List.filter_append, List.map_append]
  congr 1
  by_cases h : keepT t = true
  · rw [if_pos h, List.filter_cons_of_pos h]; rfl
  · rw [if_neg h, List.filter_cons_of_neg h]; rfl
theorem jn_snoc : ∀ (l : List (List UInt8)) (t : List UInt8), Lx.jn (l ++ [t]) = if l = [] then t else Lx.jn l ++ 32 :: t
  | [], t => rfl
  | [u], t => rfl
  | u :: v :: r, t => by
    rw [if_neg (by simp)]
    have e := jn_snoc (v :: r) t
    rw [if_neg (by simp)] at e
    show u ++ 32 :: Lx.jn (v :: r ++ [t]) = (u ++ 32 :: Lx.jn (v :: r)) ++ 32 :: t
    rw [e, List.append_assoc]; rfl
theorem jn_nil (l : List (List UInt8)) (h : ∀ t ∈ l, t ≠ []) : Lx.jn l = [] ↔ l = [] := by
  match l, h with
  | [], _ => exact ⟨fun _ => rfl, fun _ => rfl⟩
  | [t], h => exact ⟨fun q => absurd q (h t List.mem_cons_self), fun q => by cases q⟩
  | t :: u :: r, h => exact ⟨fun q => by simp [Lx.jn] at q, fun q => by cases q⟩
section
variable (s : ByteArray) (hsz : s.size ≤ 200000) (hln : (toks s).length ≤ 40000)
include hsz hln
omit hln in
theorem text_len : ∀ t ∈ toks s, t.text.length ≤ 200000 ∧ (t.kind ≠ 0 → t.text ≠ []) := by
  intro t ht
  have hx := Lx.tokens_text (K := keysL) signs_fair (bl s)
  have hr := Lx.tokens_row (K := keysL) signs_fair (bl s)
  unfold toks at ht
  generalize Lx.tokens keysL signsL (bl s) = q at ht hx hr
  have hlen : (Lx.textOf q).length = s.size := by rw [hx, bl_length]
  have main : ∀ (q : List Lx.Tok) (p : Nat), Lx.Row p q → ∀ t ∈ q, t.text.length ≤ (Lx.textOf q).length ∧ (t.kind ≠ 0 → t.text ≠ []) := by
    intro q
    induction q with
    | nil => intro p h; exact absurd h (by simp [Lx.Row])
    | cons x r ih =>
      intro p h t ht
      have hto : (Lx.textOf (x :: r)).length = x.before.length + x.text.length + (Lx.textOf r).length := by
        simp only [Lx.textOf, List.map_cons, List.flatten_cons, List.length_append]
      cases r with
      | nil =>
        obtain rfl := List.mem_singleton.mp ht
        exact ⟨by omega, fun q => absurd h.1 q⟩
      | cons y r =>
        rcases List.mem_cons.mp ht with rfl | ht
        · exact ⟨by omega, fun _ => h.2.1⟩
        · have := ih _ h.2.2.2 t ht
          exact ⟨by omega, this.2⟩
  have := main q 0 hr t ht
  exact ⟨by omega, this.2⟩
omit hln in
theorem kept_facts (i : Nat) (hi : i ≤ (toks s).length) : (kept ((toks s).take i)).length ≤ i ∧ (∀ t ∈ (kept ((toks s).take i)).map (·.2), t ≠ []) ∧ (Lx.jn ((kept ((toks s).take i)).map (·.2))).length ≤ i * 200001 := by
  induction i with
  | zero => refine ⟨by simp [kept], fun t ht => by simp [kept] at ht, by simp [kept, Lx.jn]⟩
  | succ i ih =>
    obtain ⟨h1, h2, h3⟩ := ih (by omega)
    have hl := text_len s hsz (toks s)[i] (List.getElem_mem (by omega))
    rw [List.take_succ_eq_append_getElem (by omega), kept_snoc]
    by_cases hk : keepT (toks s)[i] = true
    · have hk0 : (toks s)[i].kind ≠ 0 := by
        unfold keepT at hk
        rw [Bool.and_eq_true] at hk
        simpa using hk.2
      rw [if_pos hk, List.map_append, List.map_cons, List.map_nil]
      refine ⟨by rw [List.length_append, List.length_singleton]; omega, ?_, ?_⟩
      · intro t ht
        rcases List.mem_append.mp ht with ht | ht
        · exact h2 t ht
        · rw [List.mem_singleton.mp ht]; exact hl.2 hk0
      · rw [jn_snoc]
        have hl1 := hl.1
        split
        · show (toks s)[i].text.length ≤ _
          omega
        · rw [List.length_append, List.length_cons]
          show _ + ((toks s)[i].text.length + 1) ≤ _
          omega
    · rw [if_neg hk, List.append_nil]
      exact ⟨by omega, h2, Nat.le_trans h3 (Nat.mul_le_mul_right _ (Nat.le_succ i))⟩
theorem joins_end (hb : ∀ t ∈ toks s, badT t = false) :
    Ev (fun k => lw2_LexJoins.l0 k ((toks s).map toS) (ints (Lx.jn ((kept (toks s)).map (·.2)))) ((kept (toks s)).map fun x => (x.1 : Int)) ((toks s).length : Int)) true := by
  have hK := kept_facts s hsz (toks s).length (Nat.le_refl _)
  rw [List.take_of_length_le (Nat.le_refl _)] at hK
  obtain ⟨hk1, hk2, -⟩ := hK
  have hXl : ((toks s).map toS).length = (toks s).length := List.length_map _
  generalize hts : kept (toks s) = ts at *
  have hal : ∀ t ∈ ts, Lx.Alone keysL signsL t.1 t.2 := by
    intro t ht
    rw [← hts] at ht
    unfold kept at ht
    obtain ⟨u, hu, rfl⟩ := List.mem_map.mp ht
    obtain ⟨hu1, hu2⟩ := List.mem_filter.mp hu
    have hbd := hb u hu1
    have ht2 := Lx.tokens_alone (K := keysL) signs_fair (bl s) u (by unfold toks at hu1; exact hu1)
    unfold keepT at hu2
    rw [Bool.and_eq_true, bne_iff_ne, bne_iff_ne] at hu2
    unfold badT at hbd
    rw [Bool.or_eq_false_iff, Bool.and_eq_false_iff, beq_eq_false_iff_ne, beq_eq_false_iff_ne, beq_eq_false_iff_ne] at hbd
    exact ht2 hu2.2 hu2.1 hbd.1 (fun q => hbd.2.elim (fun z => z q.1) (fun z => z q.2))
  have hjt := Lx.tokens_jn (K := keysL) signs_fair ts hal
  by_cases hbig : (Lx.jn (ts.map (·.2))).length > 200000
  · refine Ev.step (f := fun _ => some true) (fun k => ?_) (Ev.now _)
    rw [lw2_LexJoins.l0, hXl, if_neg (by omega), ints_len, if_pos (by omega), awake_eq]; rfl
  · -- the text joined, scanned
    have hbl := ints_str (Lx.jn (ts.map (·.2)))
    have hsz2 : (strOfNums (ints (Lx.jn (ts.map (·.2))))).size = (Lx.jn (ts.map (·.2))).length := by rw [← bl_length, hbl]
    have hlim : (Lx.tokens keysL signsL (bl (strOfNums (ints (Lx.jn (ts.map (·.2))))))).length ≤ 40000 := by
      have e := congrArg List.length hjt
      rw [List.length_map, List.length_append, List.length_singleton] at e
      rw [hbl, e]
      obtain ⟨i1, x1, h1⟩ := toks_ne s
      have hr := Lx.tokens_row (K := keysL) signs_fair (bl s)
      have hlast : x1.kind = 0 := by
        unfold toks at h1
        rw [h1] at hr
        have : ∀ (q : List Lx.Tok) (p : Nat), Lx.Row p (q ++ [x1]) → x1.kind = 0 := by
          intro q
          induction q with
          | nil => intro p h; exact h.1
          | cons y q ih =>
            intro p h
            cases q with
            | nil => exact ih _ h.2.2.2
            | cons z q => exact ih _ h.2.2.2
        exact this i1 0 hr
      have : ts.length ≤ i1.length := by
        rw [← hts, h1, kept_snoc, if_neg (by simp [keepT, hlast]), List.append_nil]
        unfold kept
        rw [List.length_map]
        exact List.length_filter_le _ _
      rw [h1, List.length_append, List.length_singleton] at hln
      omega
    have hscan : scanR (strOfNums (ints (Lx.jn (ts.map (·.2))))) = ((Lx.tokens keysL signsL (bl (strOfNums (ints (Lx.jn (ts.map (·.2))))))).map toS, 0) := by
      unfold scanR
      rw [if_neg (by omega), if_neg (by omega)]
    generalize hM : Lx.tokens keysL signsL (bl (strOfNums (ints (Lx.jn (ts.map (·.2)))))) = M at *
    rw [hbl] at hM
    rw [hM] at hjt
    have hMl : M.length = ts.length + 1 := by
      have e := congrArg List.length hjt
      rw [List.length_map, List.length_append, List.length_singleton] at e
      exact e
    have hKl : (ts.map fun x => (x.1 : Int)).length = ts.length := List.length_map _
    have hMSl : (M.map toS).length = M.length := List.length_map _
    have hget : ∀ i (h : i < ts.length), (M[i]'(by omega)).kind = ts[i].1 := by
      intro i h
      have e : (M.map fun t => (t.kind, t.text))[i]? = (ts ++ [(0, [])])[i]? := by rw [hjt]
      rw [List.getElem?_map, List.getElem?_eq_getElem (by omega), List.getElem?_append_left h, List.getElem?_eq_getElem h] at e
      have := Option.some.inj e
      exact congrArg Prod.fst this
    have hstripM : ((M.map toS).filter keepS).map (·.f2) = ts.map fun x => (⟨x.2.toArray⟩ : ByteArray) := by
      have gen : ∀ (q : List Lx.Tok), ((q.map toS).filter keepS).map (·.f2) = ((q.map fun t => (t.kind, t.text)).filter fun x => x.1 != 7 && x.1 != 0).map fun x => (⟨x.2.toArray⟩ : ByteArray) := by
        intro q
        induction q with
        | nil => rfl
        | cons t q ih =>
          rw [List.map_cons, List.map_cons, List.filter_cons, List.filter_cons]
          have hk : keepS (toS t) = (t.kind != 7 && t.kind != 0) := by
            unfold keepS toS
            rw [Bool.eq_iff_iff]
            simp only [Bool.and_eq_true, bne_iff_ne]
            omega
          rw [hk]
          by_cases h : (t.kind != 7 && t.kind != 0) = true
          · rw [if_pos h, if_pos h, List.map_cons, List.map_cons, ih]; rfl
          · rw [if_neg h, if_neg h, ih]
      rw [gen, hjt, List.filter_append]
      have h1 : ts.filter (fun x => x.1 != 7 && x.1 != 0) = ts := by
        rw [List.filter_eq_self]
        intro x hx
        rw [← hts] at hx
        unfold kept at hx
        obtain ⟨u, hu, rfl⟩ := List.mem_map.mp hx
        exact (List.mem_filter.mp hu).2
      rw [h1]
      simp
    have hstripX : (((toks s).map toS).filter keepS).map (·.f2) = ts.map fun x => (⟨x.2.toArray⟩ : ByteArray) := by
      have gen : ∀ (q : List Lx.Tok), ((q.map toS).filter keepS).map (·.f2) = (kept q).map fun x => (⟨x.2.toArray⟩ : ByteArray) := by
        intro q
        induction q with
        | nil => rfl
        | cons t q ih =>
          rw [List.map_cons, List.filter_cons]
          have hk : keepS (toS t) = keepT t := by
            unfold keepS keepT toS
            rw [Bool.eq_iff_iff]
            simp only [Bool.and_eq_true, bne_iff_ne]
            omega
          rw [hk]
          unfold kept
          rw [List.filter_cons]
          by_cases h : keepT t = true
          · rw [if_pos h, if_pos h, List.map_cons, List.map_cons, List.map_cons, ih]; rfl
          · rw [if_neg h, if_neg h, ih]; rfl
      rw [gen, hts]
    have e1 := strip_ev (M.map toS) (by omega)
    have e2 := strip_ev ((toks s).map toS) (by omega)
    rw [hstripM] at e1
    rw [hstripX] at e2
    have e3 := eqStrings_refl (ts.map fun x => (⟨x.2.toArray⟩ : ByteArray)) (by rw [List.length_map]; omega)
    have fin : ∀ (m i : Nat), ts.length < i + m → i ≤ ts.length → Ev (fun k => lw2_LexJoins.l1 k ((toks s).map toS) (ts.map fun x => (x.1 : Int)) (M.map toS) i) true := by
      intro m
      induction m with
      | zero => intro i h1 h2; omega
      | succ m ih =>
        intro i h1 h2
        rcases Nat.lt_or_ge i ts.length with hi | hi
        · have hw := Aside0.mk (wsucc i (by omega))
          refine Ev.step (f := fun k => lw2_LexJoins.l1 k ((toks s).map toS) (ts.map fun x => (x.1 : Int)) (M.map toS) ((i + 1 : Nat) : Int)) (fun k => ?_) (ih (i + 1) (by omega) (by omega))
          have hrd : rd (ts.map fun x => (x.1 : Int)) (i : Int) = (ts[i].1 : Int) := by
            unfold rd
            rw [Int.toNat_natCast, List.getD_eq_getElem?_getD, List.getElem?_map, List.getElem?_eq_getElem hi]; rfl
          rw [lw2_LexJoins.l1, hKl, if_pos (by omega), if_pos (by omega), if_pos (by omega), rd_map M i (by omega), hrd, if_pos (by show ((M[i]'_).kind : Int) = _; rw [hget i hi]), hw.out]
        · refine Ev.step (f := fun k => (lex_Strip.f k (M.map toS)).bind fun t301 => ((lex_Strip.f k ((toks s).map toS)).bind fun t304 => ((rf0_EqStrings.f k t301 t304).bind fun t307 => (if t307 = true then ((lw2_awake.f).bind fun t308 => (some t308)) else (some false))))) (fun k => ?_) (Ev.bind e1 (Ev.bind e2 (Ev.bind e3 ?_)))
          · rw [lw2_LexJoins.l1, hKl, if_neg (by omega)]
          · refine Ev.congr (fun k => if_pos rfl) ?_
            rw [awake_eq]
            exact Ev.now _
    have ef := fin (ts.length + 1) 0 (by omega) (by omega)
    refine Ev.step (f := fun k => lw2_LexJoins.j3 k ((toks s).map toS) (ts.map fun x => (x.1 : Int)) (M.map toS) false) (fun k => ?_) (Ev.step (f := fun k => lw2_LexJoins.l1 k ((toks s).map toS) (ts.map fun x => (x.1 : Int)) (M.map toS) 0) (fun k => by rw [lw2_LexJoins.j3, if_neg (by decide)]) ef)
    rw [lw2_LexJoins.l0, hXl, if_neg (by omega), ints_len, if_neg (by omega), scan_eq, Option.bind_some, hscan, if_pos rfl]
    congr 1
    rw [hKl, hMSl, bne_eq_false_iff_eq, w64 (by omega) (by omega), hMl]
    omega
theorem joins_l0 : ∀ (m i : Nat), (toks s).length < i + m → i ≤ (toks s).length → (∀ t ∈ (toks s).take i, badT t = false) →
    Ev (fun k => lw2_LexJoins.l0 k ((toks s).map toS) (ints (Lx.jn ((kept ((toks s).take i)).map (·.2)))) ((kept ((toks s).take i)).map fun x => (x.1 : Int)) i) true := by
  intro m
  induction m with
  | zero => intro i h1 h2; omega
  | succ m ih =>
    intro i h1 h2 hb
    rcases Nat.lt_or_ge i (toks s).length with hi | hi
    · have hw := Aside0.mk (wsucc i (by omega))
      have hXl : ((toks s).map toS).length = (toks s).length := List.length_map _
      obtain ⟨k1, k2, k3⟩ := kept_facts s hsz i h2
      have hrd := rd_map (toks s) i hi
      have htl := (text_len s hsz _ (List.getElem_mem hi)).1
      have ih' := ih (i + 1) (by omega) (by omega)
      rw [List.take_succ_eq_append_getElem hi, kept_snoc] at ih'
      generalize hq : kept ((toks s).take i) = ts at *
      generalize ht : (toks s)[i] = t at *
      have f0 : (toS t).f0 = (t.kind : Int) := rfl
      have f2 : (toS t).f2.toList = t.text := by rw [toList_bl]; exact mk_bl' _
      have f2s : (toS t).f2.size = t.text.length := mk_size _
      have f2b : bytesOf (toS t).f2 = ints t.text := by
        unfold bytesOf ints
        rw [show (toS t).f2.data.toList = t.text from mk_bl' _]
      have hX : rd_T30 ((toks s).map toS) (i : Int) = toS t := hrd
      by_cases hbad : badT t = true
      · refine Ev.step (f := fun k => lw2_LexJoins.j1 k ((toks s).map toS) (ints (Lx.jn (ts.map (·.2)))) (ts.map fun x => (x.1 : Int)) i true) (fun k => ?_) (Ev.step (f := fun _ => some true) (fun k => by rw [lw2_LexJoins.j1, if_pos rfl, awake_eq]; rfl) (Ev.now _))
        rw [lw2_LexJoins.l0, hXl, if_pos (by omega), if_pos (by omega), hX, f0, f2]
        unfold badT at hbad
        rw [Bool.or_eq_true, Bool.and_eq_true, beq_iff_eq, beq_iff_eq] at hbad
        by_cases h8 : t.kind = 8
        · rw [if_pos (by omega)]
        · rw [if_neg (by omega)]
          have h6 := hbad.resolve_left h8
          rw [if_pos (by omega), h6.2]
      · have hbf : badT t = false := by simpa using hbad
        have hbs : ∀ u ∈ (toks s).take i ++ [t], badT u = false := by
          intro u hu
          rcases List.mem_append.mp hu with hu | hu
          · exact hb u hu
          · rw [List.mem_singleton.mp hu]; exact hbf
        have e := ih' hbs
        have head : ∀ k, lw2_LexJoins.l0 (k + 1) ((toks s).map toS) (ints (Lx.jn (ts.map (·.2)))) (ts.map fun x => (x.1 : Int)) i = lw2_LexJoins.j1 k ((toks s).map toS) (ints (Lx.jn (ts.map (·.2)))) (ts.map fun x => (x.1 : Int)) i false := by
          intro k
          rw [lw2_LexJoins.l0, hXl, if_pos (by omega), if_pos (by omega), hX, f0, f2]
          unfold badT at hbf
          rw [Bool.or_eq_false_iff, beq_eq_false_iff_ne] at hbf
          rw [if_neg (by omega)]
          by_cases h6 : t.kind = 6
          · rw [if_pos (by omega)]
            have := hbf.2
            rw [h6, beq_self_eq_true, Bool.true_and] at this
            rw [this]
          · rw [if_neg (by omega)]
        have head1 : ∀ k, lw2_LexJoins.j1 (k + 1) ((toks s).map toS) (ints (Lx.jn (ts.map (·.2)))) (ts.map fun x => (x.1 : Int)) i false = lw2_LexJoins.j2 k ((toks s).map toS) (ints (Lx.jn (ts.map (·.2)))) (ts.map fun x => (x.1 : Int)) i (!keepT t) := by
          intro k
          rw [lw2_LexJoins.j1, if_neg (by decide), hXl, if_pos (by omega), if_pos (by omega), hX, f0]
          by_cases h7 : t.kind = 7
          · rw [if_pos (by omega), show (!keepT t) = true by simp [keepT, h7]]
          · rw [if_neg (by omega)]
            congr 1
            unfold keepT
            rw [Bool.eq_iff_iff]
            simp only [beq_iff_eq, Bool.not_eq_true', Bool.and_eq_false_iff, bne_eq_false_iff_eq]
            omega
        refine Ev.step head (Ev.step head1 ?_)
        by_cases hk : keepT t = true
        · rw [if_pos hk] at e
          rw [hk]
          rw [List.map_append, List.map_append, List.map_cons, List.map_nil, List.map_cons, List.map_nil, jn_snoc] at e
          by_cases hn : ts = []
          · subst hn
            rw [if_pos (by rfl)] at e
            refine Ev.step (f := fun k => lw2_LexJoins.l0 k ((toks s).map toS) (ints t.text) ([] ++ [(t.kind : Int)]) ((i + 1 : Nat) : Int)) (fun k => ?_) e
            rw [lw2_LexJoins.j2, if_neg (by decide), hXl, if_neg (by simp [Lx.jn, ints]), if_pos (by omega), if_pos (by omega), hX, f2s, if_pos (by simp [Lx.jn, ints]; omega), if_pos (by simp), hw.out, f2b, f0]
            rfl
          · rw [if_neg (by simpa using hn)] at e
            have hjp : 0 < (Lx.jn (ts.map (·.2))).length := by
              apply List.length_pos_iff.mpr
              intro q
              exact hn (by simpa using (jn_nil _ k2).mp q)
            rw [ints_app, show ints (32 :: t.text) = 32 :: ints t.text from rfl] at e
            refine Ev.step (f := fun k => lw2_LexJoins.l0 k ((toks s).map toS) (ints (Lx.jn (ts.map (·.2))) ++ 32 :: ints t.text) (ts.map (fun x => (x.1 : Int)) ++ [(t.kind : Int)]) ((i + 1 : Nat) : Int)) (fun k => ?_) e
            have hil : (ints (Lx.jn (ts.map (·.2)))).length = (Lx.jn (ts.map (·.2))).length := ints_len _
            have hkl : (ts.map fun x => (x.1 : Int)).length = ts.length := List.length_map _
            have hi4 : i * 200001 ≤ 40000 * 200001 := Nat.mul_le_mul_right _ (by omega)
            rw [lw2_LexJoins.j2, if_neg (by decide), hXl, hil, if_pos (by omega), if_pos (by omega), Option.bind_some, if_pos (by omega), if_pos (by omega), hX, f2s, List.length_append, hil, if_pos (by simp only [List.length_singleton]; omega), if_pos (by omega), hw.out, f2b, f0, List.append_assoc]
            rfl
        · rw [if_neg hk, List.append_nil] at e
          rw [show (!keepT t) = true by simpa using hk]
          refine Ev.step (f := fun k => lw2_LexJoins.l0 k ((toks s).map toS) (ints (Lx.jn (ts.map (·.2)))) (ts.map fun x => (x.1 : Int)) ((i + 1 : Nat) : Int)) (fun k => ?_) e
          rw [lw2_LexJoins.j2, if_pos rfl, hw.out]
    · obtain rfl : i = (toks s).length := by omega
      rw [List.take_of_length_le (Nat.le_refl _)] at hb ⊢
      exact joins_end s hsz hln hb
end
theorem lexJoins_eq (s : ByteArray) : Ev (fun k => lw2_LexJoins.f k s) true := by
  by_cases h : (scanR s).2 = 0
  · obtain ⟨x1, x2, x3⟩ := scanR_ok s h
    have e := joins_l0 s x2 x3 ((toks s).length + 1) 0 (by omega) (by omega) (fun t ht => by simp at ht)
    refine Ev.congr (fun k => ?_) e
    unfold lw2_LexJoins.f
    rw [scan_eq, Option.bind_some, if_pos h, x1]
    rfl
  · refine Ev.congr (fun k => ?_) (Ev.now true)
    unfold lw2_LexJoins.f
    rw [scan_eq, Option.bind_some, if_neg h, awake_eq]
    rfl
end Go.Proofs.YtabnmkakgcifoaaDoor.PLex

namespace Go.Proofs.YtabnmkakgcifoaaDoor.lexJoins
open Go.ChangeShapes Go.WideShapes Go.ChangeAt Go.RowKit
open Go.ChangeMaps (open_string shut_string)
set_option maxRecDepth 100000 in
theorem contract (H : Type) (enc : TypeId × Value → H) (W : World) (base : Nat) (args : Array Value) (ds gs : List (DataW H)) (before : List MemPlace)
    (hval : ∀ (j : Nat) t v, Tryd.f5.params[j]? = some t → args[j]? = some v → Value.okWide Tryd.prog W .any base t v)
    (hW : DataW.Whole enc Tryd.prog Tryd.f5.params.toList Rows.lexJoinsSpec.vars false W args.toList ds gs before) (hL : laidMetH Tryd.prog Rows.lexJoinsRow.laid W) (hsh : W.ShapedOpen Tryd.prog)
    (hsz : (DataW.weightsEach Tryd.prog (Tryd.f5.params.toList ++ Rows.lexJoinsSpec.plain.varTypes Tryd.prog) (ds ++ gs)).all (· ≤ reachBytes) = true) :
    Calls Tryd.prog 5 args W fun e W' => ∃ v, e = .returned v ∧ Rows.lexJoinsSpec.post enc Tryd.prog Tryd.f5 false true false false W args v W' := by
  have hGl := Row0.glob hL hsh
  have hW' := hW
  obtain ⟨p, q, hA0, hV, rfl, hfz, hnd⟩ := hW
  have hA : DataW.TrodAll enc Tryd.prog W 0 (fun _ => true) true Tryd.f5.params.toList args.toList ds p := hA0
  rw [Tryd.params5] at hA hval hsz
  obtain ⟨v0, vs0, d0, ds0, p0, q0, hargs, rfl, rfl, h0, r0⟩ := trodAll_cons hA
  obtain ⟨rfl, rfl, rfl⟩ := trodAll_nil r0
  obtain rfl : args = #[v0] := by cases args; simp_all
  obtain ⟨rfl, rfl⟩ := trodVars_none hV
  obtain ⟨a0, rfl, rfl, rfl, y0⟩ := open_string Tryd.underlying9 (hval 0 9 v0 rfl rfl) h0
  clear hA0 hsz
  obtain ⟨k, hk⟩ := (PLex.lexJoins_eq a0).rounds
  refine (PLex.lw2_LexJoins.calls k a0 true W hGl hk).mono fun e W' ⟨he, bel⟩ => ?_
  subst he
  exact ⟨_, rfl, _, _, _, [], _, [], hW', trodAll_mk1 (shut_bool Tryd.underlying4 _), (trodAll_cons_mk (shut_string Tryd.underlying9 y0) trodAll_mk0), rfl, bel.frame _, fun h => by cases h⟩
theorem reads (os : Os) {H : Type} (enc : TypeId × Value → H) : ∃ places, DataW.whole enc Tryd.prog ((Row0.laidWorld os).forCall (fun _ _ => 0) ⟨#[], #[.string ⟨#[]⟩], []⟩).memory Tryd.f5.params.toList Rows.lexJoinsSpec.vars false #[Value.string ⟨#[]⟩].toList 8 = some ([.lit (.string [])], [], places) :=
  ⟨[], by kernel_rfl⟩
set_option maxRecDepth 100000 in
theorem lifted (os : Os) (started : os.Started) (H : Type) (enc : TypeId × Value → H) (F : Stop.Interp) :
    ReturnsInHanded {} Tryd.checked os 5 .any ((OpenSpec.ofChange Rows.lexJoinsSpec).preRow enc Tryd.prog Tryd.f5 Rows.lexJoinsRow.domain false Rows.lexJoinsRow.laid) (((OpenSpec.ofChange Rows.lexJoinsSpec).at F).post enc Tryd.prog Tryd.f5 false true false false) := by
  obtain ⟨places, hx⟩ := reads os enc
  refine returnsInHanded_of_row (C := Tryd.checked) (s := OpenSpec.ofChange Rows.lexJoinsSpec) Row0.own started (by kernel_rfl) Tryd.func5
    (witness_row_atRef (enc := enc) (C := Tryd.checked) false (Row0.laidWorld os) #[.string ⟨#[]⟩] rfl (by kernel_rfl) (by kernel_rfl) (by kernel_rfl)
      (OpenSpec.preRow_of_cond 8 hx (by kernel_rfl) (fun k hk => by cases hk) (by kernel_rfl) (Row0.laid_met os _))) ?_
  intro W base args ds gs before hval hW _ _ hsz hL hsh _
  exact contract H enc W base args ds gs before hval hW hL hsh hsz
theorem said : Rows.LexJoinsSaid :=
  OpenClaim.holds_of_cond 5 Tryd.f5 rfl rfl rfl rfl rfl rfl rfl ⟨rfl, rfl, rfl, rfl, rfl⟩ rfl rfl rfl rfl rfl (by kernel_rfl) Tryd.func5 (by kernel_rfl)
    (of_decide_eq_true (by kernel_rfl)) (by unfold Func.isWrapper; first | (rw [if_pos (by decide +kernel)]; kernel_rfl) | (rw [if_neg (by decide +kernel)]; exact ⟨rfl, rfl⟩))
    (fun os started H enc _ F => by rw [OpenClaim.pre_eq_preRow]; exact lifted os started H enc F)
theorem plain (f : FuncId) (fn : Func) (hf : Tryd.pinned.checked.prog.funcNamed "smocking/smockinglaw02.LexJoins" = some f) (hfn : Tryd.pinned.checked.prog.funcs[f]? = some fn) :
    false = Tryd.pinned.checked.prog.looks [] ∧ ∀ (j : Nat) t, fn.params[j]? = some t → Tryd.pinned.checked.prog.wantsStandIn t = false := by
  obtain rfl : f = 5 := Option.some.inj ((show Tryd.prog.funcNamed "smocking/smockinglaw02.LexJoins" = some 5 by kernel_rfl).symm.trans hf) |>.symm
  obtain rfl : fn = Tryd.f5 := (Option.some.inj (Tryd.func5.symm.trans hfn)).symm
  refine ⟨by kernel_rfl, fun j t ht => ?_⟩
  rw [Tryd.params5] at ht
  obtain rfl : t = 9 := by simpa using Array.mem_of_getElem? ht
  exact (show Tryd.prog.wantsStandIn 9 = false by kernel_rfl)
theorem card : Rows.LexJoinsCardSaid :=
  Claim7.holds_tied_plain_at .later [] _ _ _ _ said (fun _ h => by cases h) (by kernel_rfl) (fun _ h => by cases h) lexJoins_row_tie rfl ⟨rfl, rfl⟩ (by kernel_rfl) rfl plain (by kernel_rfl)
end Go.Proofs.YtabnmkakgcifoaaDoor.lexJoins
namespace Go.Proofs.YtabnmkakgcifoaaDoor
theorem lexJoins_card : Rows.LexJoinsCardSaid := lexJoins.card
end Go.Proofs.YtabnmkakgcifoaaDoor

namespace Go.Proofs.YtabnmkakgcifoaaDoor
#print axioms lexJoins_card
end Go.Proofs.YtabnmkakgcifoaaDoor
