/- LexScans holds: for every text, the scanner's tokens and error are the document's, where the two listed package variables hold what the program's text lays. Part 8 of 12. -/
import Derived.Test.YtabnmkakgcifoaaDoorBScansG
namespace Go.Proofs.YtabnmkakgcifoaaDoor.PLex
open Go.RowKit Go.Proofs.YtabnmkakgcifoaaDoorW.PrintWords Go.Proofs.YtabnmkakgcifoaaDoorW.PrintLast Go.Proofs.YtabnmkakgcifoaaDoorW.PrintMore
theorem sizeOne (b : UInt8) : ((⟨#[b]⟩ : ByteArray).size : Int) = 1 := rfl
theorem blOne (b : UInt8) : bl (⟨#[b]⟩ : ByteArray) = [b] := rfl
theorem slHasSuffix1 (x : ByteArray) (b : UInt8) (hx : x.size ≤ 200000) : stringslite_HasSuffix.f x (⟨#[b]⟩ : ByteArray) = some ((bl x).getLast? == some b) := by
  unfold stringslite_HasSuffix.f
  have hl := bl_length x
  rw [sizeOne]
  by_cases h : (x.size : Int) ≥ 1
  · rw [if_pos h, w64 (by omega) (by omega), if_pos (by omega), if_pos (by omega)]
    simp only [Option.some.injEq]
    rw [toList_bl, toList_bl, extract_bl, blOne]
    have hn : bl x ≠ [] := by intro h0; rw [h0] at hl; simp at hl; omega
    obtain ⟨q, c, hq⟩ : ∃ q c, bl x = q ++ [c] := ⟨(bl x).dropLast, (bl x).getLast hn, (List.dropLast_concat_getLast hn).symm⟩
    rw [hq] at hl ⊢
    simp only [List.length_append, List.length_singleton] at hl
    rw [show ((x.size : Int) - 1).toNat = q.length by omega, List.drop_left, List.getLast?_concat]
    rw [List.take_of_length_le (by simp; omega), Bool.eq_iff_iff]
    simp
  · rw [if_neg h]
    have : bl x = [] := List.eq_nil_of_length_eq_zero (by omega)
    rw [this]; rfl
theorem hasSuffix1 (x : ByteArray) (b : UInt8) (hx : x.size ≤ 200000) : strings_HasSuffix.f x (⟨#[b]⟩ : ByteArray) = some ((bl x).getLast? == some b) := by
  unfold strings_HasSuffix.f
  rw [slHasSuffix1 x b hx]; rfl
theorem trimSuffix1 (x : ByteArray) (b : UInt8) (hx : x.size ≤ 200000) : ∃ y, strings_TrimSuffix.f x (⟨#[b]⟩ : ByteArray) = some y ∧ bl y = if (bl x).getLast? = some b then (bl x).dropLast else bl x := by
  unfold strings_TrimSuffix.f stringslite_TrimSuffix.f
  have hl := bl_length x
  rw [slHasSuffix1 x b hx, sizeOne]
  simp only [Option.bind_some]
  by_cases h : (bl x).getLast? = some b
  · have hn : 1 ≤ x.size := by
      rcases Nat.eq_zero_or_pos x.size with h0 | h0
      · rw [List.eq_nil_of_length_eq_zero (by omega : (bl x).length = 0)] at h; simp at h
      · exact h0
    rw [if_pos (by simp [h]), w64 (by omega) (by omega), if_pos (by omega), if_pos (by omega), if_pos h]
    refine ⟨_, rfl, ?_⟩
    rw [extract_bl, List.drop_zero, Nat.sub_zero, List.dropLast_eq_take, hl]
    congr 1; omega
  · rw [if_neg (by simpa using h), if_neg h]
    exact ⟨x, rfl, rfl⟩
/-- the last byte, and the one before -/
def la (p : List UInt8) : UInt8 := p.getLastD 0
def la2 (p : List UInt8) : UInt8 := p.dropLast.getLastD 0
theorem la_snoc (p : List UInt8) (c : UInt8) : la (p ++ [c]) = c := by simp [la]
theorem la2_snoc (p : List UInt8) (c : UInt8) : la2 (p ++ [c]) = la p := by simp [la2, la]
def joined (p : List UInt8) : Bool := la p == 92 || (la p == 13 && la2 p == 92)
theorem nil_or_snoc (p : List UInt8) : p = [] ∨ ∃ q c, p = q ++ [c] := by
  by_cases h : p = []
  · exact .inl h
  · exact .inr ⟨p.dropLast, p.getLast h, (List.dropLast_concat_getLast h).symm⟩
theorem getLast_la (p : List UInt8) (b : UInt8) (hb : b ≠ 0) : (p.getLast? == some b) = (la p == b) := by
  rcases nil_or_snoc p with rfl | ⟨q, c, rfl⟩
  · have : (0 == b) = false := beq_eq_false_iff_ne.mpr fun h => hb h.symm
    simp [la, this]
  · rw [la_snoc, List.getLast?_concat, Bool.eq_iff_iff]; simp
theorem ln_no (pp p : UInt8) (l : List UInt8) (h : Lx.upto10 l = l.length) : Lx.ln pp p l = l.length := by
  induction l generalizing pp p with
  | nil => rfl
  | cons c r ih =>
    simp only [Lx.upto10] at h
    by_cases hc : c = 10
    · rw [if_pos hc] at h; simp at h
    · rw [if_neg hc] at h
      simp only [Lx.ln]
      rw [if_neg (fun h => hc h.1), ih _ _ (by simp at h; exact h)]
      simp
/-- up to the line feed, then by what stands before it -/
theorem ln_at (P : List UInt8) (l : List UInt8) (h : Lx.upto10 l < l.length) :
    Lx.ln (la2 P) (la P) l = if joined (P ++ l.take (Lx.upto10 l)) then Lx.upto10 l + 1 + Lx.ln (la (P ++ l.take (Lx.upto10 l))) 10 (l.drop (Lx.upto10 l + 1)) else Lx.upto10 l := by
  induction l generalizing P with
  | nil => simp at h
  | cons c r ih =>
    by_cases hc : c = 10
    · subst hc
      have hu : Lx.upto10 (10 :: r) = 0 := by simp [Lx.upto10]
      rw [hu, List.take_zero, List.append_nil]
      simp only [Lx.ln]
      by_cases hj : joined P = true
      · rw [if_pos hj, if_neg]
        · simp; omega
        · unfold joined at hj
          simp only [Bool.or_eq_true, Bool.and_eq_true, beq_iff_eq] at hj
          exact fun h => h.2 hj
      · rw [if_neg hj, if_pos]
        unfold joined at hj
        simp only [Bool.or_eq_true, Bool.and_eq_true, beq_iff_eq] at hj
        exact ⟨trivial, hj⟩
    · have hu : Lx.upto10 (c :: r) = Lx.upto10 r + 1 := by simp [Lx.upto10, hc]
      rw [hu] at h ⊢
      simp only [Lx.ln]
      rw [if_neg (fun h => hc h.1)]
      have e := ih (P ++ [c]) (by simp at h; exact h)
      rw [la2_snoc, la_snoc] at e
      rw [e]
      simp only [List.take_succ_cons, List.append_assoc, List.singleton_append, List.drop_succ_cons]
      split <;> omega
theorem line_pick (p : List UInt8) : ((if p.getLast? = some 13 then p.dropLast else p).getLast? == some 92) = (if la p = 13 then la2 p == 92 else la p == 92) := by
  have e := getLast_la p 13 (by decide)
  by_cases h : la p = 13
  · rw [if_pos h, if_pos, getLast_la _ 92 (by decide)]
    · rfl
    · rw [h] at e; simpa using e
  · rw [if_neg h, if_neg, getLast_la _ 92 (by decide)]
    intro h2; rw [h2] at e
    simp at e; exact h e
section
variable (s : ByteArray) (hs : s.size ≤ 200000) (a : Nat) (ha : a ≤ s.size) (km : Option Nat) (sg : List ByteArray) (f : Bool) (l : List UInt8) (x : ByteArray) (hx : bl x = l) (hxs : x.size ≤ 200000)
def fin (l : List UInt8) (n : Nat) : Nat := if n < l.length ∧ la (l.take n) = 13 then n - 1 else n
include hx hxs
theorem line_ev : ∀ (m e : Nat), l.length < e + m → e ≤ l.length →
    Ev (fun k => lex_scanner_line.l0 k x (e : Int) s a km sg f) (((fin l (e + Lx.ln (la2 (l.take e)) (la (l.take e)) (l.drop e)) : Nat) : Int), s, (a : Int), km, f) := by
  have hl : l.length = x.size := by rw [← hx, bl_length]
  intro m
  induction m with
  | zero => intro e h1 h2; omega
  | succ m ih =>
    intro e h1 h2
    have hd : bl (x.extract (e : Int).toNat x.size) = l.drop e := by
      rw [Int.toNat_natCast, extract_bl, hx, List.take_of_length_le (by rw [List.length_drop]; omega)]
    have hi : strings_IndexByte.f (x.extract (e : Int).toNat x.size) 10 = some (Lib.indexByte (l.drop e) 10) := by
      unfold strings_IndexByte.f
      rw [show (x.extract (e : Int).toNat x.size).data.toList = l.drop e from hd]; rfl
    rcases indexByte_10 (l.drop e) with ⟨i1, i2⟩ | ⟨i1, i2⟩
    · rw [ln_no _ _ _ i2]
      refine Ev.step (fun k => ?_) (Ev.now _)
      rw [lex_scanner_line.l0, if_pos (by omega), if_pos (by omega), hi, Option.bind_some, if_pos i1]
      simp only [fin, List.length_drop]
      rw [if_neg (by omega)]
      simp only [Option.some.injEq, Prod.mk.injEq, and_true]
      omega
    · rw [ln_at _ _ i2]
      have htk : l.take e ++ (l.drop e).take (Lx.upto10 (l.drop e)) = l.take (e + Lx.upto10 (l.drop e)) := (List.take_add).symm
      rw [htk]
      rw [List.length_drop] at i2
      generalize hu : Lx.upto10 (l.drop e) = u at *
      have hw : wrap64 ((e : Int) + Lib.indexByte (l.drop e) 10) = ((e + u : Nat) : Int) := by rw [i1, w64 (by omega) (by omega)]; omega
      have hw2 : wrap64 (((e + u : Nat) : Int) + 1) = ((e + u + 1 : Nat) : Int) := by rw [w64 (by omega) (by omega)]; omega
      have hte : bl (x.extract 0 ((e + u : Nat) : Int).toNat) = l.take (e + u) := by
        rw [Int.toNat_natCast, extract_bl, hx, List.drop_zero, Nat.sub_zero]
      have hsz : (x.extract 0 ((e + u : Nat) : Int).toNat).size = e + u := by
        rw [← bl_length, hte, List.length_take]; omega
      obtain ⟨y, hy1, hy2⟩ := trimSuffix1 (x.extract 0 ((e + u : Nat) : Int).toNat) 13 (by omega)
      rw [hte] at hy2
      have hys : y.size ≤ 200000 := by
        rw [← bl_length, hy2]
        split
        · rw [List.length_dropLast, List.length_take]; omega
        · rw [List.length_take]; omega
      have hs1 := hasSuffix1 (x.extract 0 ((e + u : Nat) : Int).toNat) 92 (by omega)
      rw [hte, getLast_la _ 92 (by decide)] at hs1
      have hs2 := hasSuffix1 y 92 hys
      rw [hy2, line_pick] at hs2
      have head : ∀ k, lex_scanner_line.l0 (k + 1) x (e : Int) s a km sg f =
          if (la (l.take (e + u)) == 92) = true then lex_scanner_line.l0 k x ((e + u + 1 : Nat) : Int) s a km sg f
          else if (if la (l.take (e + u)) = 13 then la2 (l.take (e + u)) == 92 else la (l.take (e + u)) == 92) = true then lex_scanner_line.l0 k x ((e + u + 1 : Nat) : Int) s a km sg f
          else some ((y.size : Int), s, (a : Int), km, f) := by
        intro k
        rw [lex_scanner_line.l0, if_pos (by omega), if_pos (by omega), hi, Option.bind_some, if_neg (by omega), hw, if_pos (by omega), if_pos (by omega), hy1, Option.bind_some, hs1, Option.bind_some, hw2, hs2, Option.bind_some]
      have hj : joined (l.take (e + u)) = true ↔ ((la (l.take (e + u)) == 92) = true ∨ (if la (l.take (e + u)) = 13 then la2 (l.take (e + u)) == 92 else la (l.take (e + u)) == 92) = true) := by
        unfold joined
        by_cases h13 : la (l.take (e + u)) = 13
        · simp [h13]
        · simp [h13, bf h13]
      by_cases hjt : joined (l.take (e + u)) = true
      · rw [if_pos hjt]
        have e1 := ih (e + u + 1) (by omega) (by omega)
        have hg : l.take (e + u + 1) = l.take (e + u) ++ [10] := by
          have hlt : e + u < l.length := by omega
          rw [List.take_succ_eq_append_getElem hlt]
          congr 2
          have : (l.drop e)[u]'(by rw [List.length_drop]; omega) = 10 := by
            have key : ∀ (q : List UInt8) (v : Nat) (hv : v < q.length), Lx.upto10 q = v → q[v] = 10 := by
              intro q
              induction q with
              | nil => intro v hv; simp at hv
              | cons c r ihq =>
                intro v hv hq
                simp only [Lx.upto10] at hq
                by_cases hc : c = 10
                · rw [if_pos hc] at hq; subst hq; simpa using hc
                · rw [if_neg hc] at hq
                  subst hq
                  simp only [List.getElem_cons_succ]
                  exact ihq _ (by simp at hv; exact hv) rfl
            exact key _ _ _ hu
          simpa [List.getElem_drop] using this
        rw [hg, la2_snoc, la_snoc] at e1
        rw [show e + (u + 1 + Lx.ln (la (l.take (e + u))) 10 ((l.drop e).drop (u + 1))) = e + u + 1 + Lx.ln (la (l.take (e + u))) 10 (l.drop (e + u + 1)) by rw [List.drop_drop, show e + (u + 1) = e + u + 1 by omega]; omega]
        refine Ev.step (fun k => ?_) e1
        rw [head]
        rcases hj.mp hjt with h | h
        · rw [if_pos h]
        · by_cases h' : (la (l.take (e + u)) == 92) = true
          · rw [if_pos h']
          · rw [if_neg h', if_pos h]
      · rw [if_neg hjt]
        have hn := fun h => hjt (hj.mpr h)
        refine Ev.step (fun k => ?_) (Ev.now _)
        rw [head, if_neg (fun h => hn (.inl h)), if_neg (fun h => hn (.inr h))]
        simp only [Option.some.injEq, Prod.mk.injEq, and_true]
        have hys2 : y.size = (if (l.take (e + u)).getLast? = some 13 then (l.take (e + u)).dropLast else l.take (e + u)).length := by rw [← hy2, bl_length]
        rw [hys2]
        unfold fin
        have e13 := getLast_la (l.take (e + u)) 13 (by decide)
        by_cases h13 : la (l.take (e + u)) = 13
        · rw [if_pos (by rw [h13] at e13; simpa using e13), if_pos ⟨by omega, h13⟩, List.length_dropLast, List.length_take]
          omega
        · rw [if_neg (by intro h2; rw [h2] at e13; simp at e13; exact h13 e13), if_neg (fun h => h13 h.2), List.length_take]
          omega
end
section
variable (s : ByteArray) (hs : s.size ≤ 200000) (a : Nat) (ha : a ≤ s.size) (km : Option Nat) (sg : List ByteArray) (f : Bool) (l : List UInt8) (hl : (bl s).drop a = l)
include hs ha hl
theorem line_eq (c : UInt8) (r : List UInt8) (hcr : l = c :: r) :
    Ev (fun k => lex_scanner_line.f k s a km sg f) (((if c = 35 ∧ f = true then Lx.lineLen r else 0 : Nat) : Int), s, (a : Int), km, f) := by
  have hll := len_l s a l hl
  have N0 := next_l s hs a ha km sg f l hl 0 (by omega)
  have h0 : nx l 0 = c := by simp [nx, hcr]
  rw [h0] at N0
  have R := rest_eq s a km sg f ha
  have hx : bl (s.extract a s.size) = l := by rw [rest_bl s a ha, hl]
  have hxs : (s.extract a s.size).size ≤ 200000 := by rw [← bl_length, hx]; omega
  have e := line_ev s a km sg f l (s.extract a s.size) hx hxs (l.length + 1) 0 (by omega) (by omega)
  have stops : Ev (fun k => lex_scanner_line.j0 k true s a km sg f) (((0 : Nat) : Int), s, (a : Int), km, f) := by
    refine Ev.step (fun k => ?_) (Ev.now _)
    rw [lex_scanner_line.j0, if_pos rfl]
    rfl
  unfold lex_scanner_line.f
  by_cases hf : f = true
  · by_cases hc : c = 35
    · rw [if_pos ⟨hc, hf⟩]
      have goes : Ev (fun k => lex_scanner_line.j0 k false s a km sg f) (((Lx.lineLen r : Nat) : Int), s, (a : Int), km, f) := by
        have hlen : fin l (0 + Lx.ln (la2 (l.take 0)) (la (l.take 0)) (l.drop 0)) = Lx.lineLen r := by
          subst hc
          rw [hcr]
          simp only [List.take_zero, List.drop_zero, Nat.zero_add]
          have : Lx.ln (la2 []) (la []) (35 :: r) = Lx.ln 0 35 r + 1 := by
            simp only [Lx.ln]
            rw [if_neg (by simp)]
            rfl
          rw [this]
          rfl
        rw [hlen] at e
        refine Ev.step (fun k => ?_) e
        rw [lex_scanner_line.j0, if_neg (by simp), R, Option.bind_some]
        rfl
      refine Ev.congr (fun k => ?_) goes
      rw [if_pos hf, show lex_scanner_next.f s a km sg f 0 = _ from N0, Option.bind_some]
      dsimp only
      rw [show ((c.toNat : Int) != 35) = false by rw [hc]; rfl]
    · rw [if_neg (fun h => hc h.1)]
      refine Ev.congr (fun k => ?_) stops
      rw [if_pos hf, show lex_scanner_next.f s a km sg f 0 = _ from N0, Option.bind_some]
      dsimp only
      rw [show ((c.toNat : Int) != 35) = true by rw [bne_iff_ne]; exact fun h => hc ((ci35 c).mp h)]
  · rw [if_neg (fun h => hf h.2)]
    refine Ev.congr (fun k => ?_) stops
    rw [if_neg hf]
def signsOf (sg : List ByteArray) : List (List UInt8) := sg.map bl
omit hs ha hl in
theorem signLen_snoc (q : List (List UInt8)) (t l : List UInt8) : Lx.signLen (q ++ [t]) l = if Lx.signLen q l < t.length ∧ t.isPrefixOf l then t.length else Lx.signLen q l := by
  unfold Lx.signLen
  rw [List.foldl_append]; rfl
omit hs in
theorem sign_ev : ∀ (m i : Nat), sg.length < i + m → i ≤ sg.length → sg.length ≤ 1000 → (∀ t ∈ sg, t.size ≤ 1000) →
    Ev (fun k => lex_scanner_sign.l0 k ((Lx.signLen ((signsOf sg).take i) l : Nat) : Int) sg (sg.length : Int) (i : Int) s a km sg f) (((Lx.signLen (signsOf sg) l : Nat) : Int), s, (a : Int), km, f) := by
  have hll := len_l s a l hl
  have R := rest_eq s a km sg f ha
  have hx : bl (s.extract a s.size) = l := by rw [rest_bl s a ha, hl]
  intro m
  induction m with
  | zero => intro i h1 h2; omega
  | succ m ih =>
    intro i h1 h2 h3 h4
    rcases Nat.lt_or_ge i sg.length with hi | hi
    · have e := ih (i + 1) (by omega) (by omega) h3 h4
      have hw : wrap64 ((i : Int) + 1) = ((i + 1 : Nat) : Int) := by rw [w64 (by omega) (by omega)]; omega
      have hr : rdOf ByteArray.empty sg (i : Int) = sg[i] := by
        unfold rdOf
        rw [Int.toNat_natCast, List.getD_eq_getElem?_getD, List.getElem?_eq_getElem hi]; rfl
      have hso : i < (signsOf sg).length := by unfold signsOf; simpa using hi
      have htk : (signsOf sg).take (i + 1) = (signsOf sg).take i ++ [bl sg[i]] := by
        rw [List.take_succ_eq_append_getElem hso]
        simp [signsOf]
      rw [htk, signLen_snoc] at e
      have hbz : (bl sg[i]).length = sg[i].size := bl_length _
      refine Ev.step (f := fun k => lex_scanner_sign.l0 k ((if Lx.signLen ((signsOf sg).take i) l < (bl sg[i]).length ∧ (bl sg[i]).isPrefixOf l = true then (bl sg[i]).length else Lx.signLen ((signsOf sg).take i) l : Nat) : Int) sg (sg.length : Int) ((i + 1 : Nat) : Int) s a km sg f) (fun k => ?_) e
      rw [lex_scanner_sign.l0, if_pos (by omega), if_pos (by omega), if_pos (by omega), hr]
      by_cases hgt : Lx.signLen ((signsOf sg).take i) l < (bl sg[i]).length
      · rw [if_pos (by omega), R, Option.bind_some]
        dsimp only
        rw [hasPrefix_eq, Option.bind_some, hx, hw]
        by_cases hp : (bl sg[i]).isPrefixOf l = true
        · rw [if_pos hp, if_pos ⟨hgt, hp⟩, hbz]
        · rw [if_neg hp, if_neg (fun h => hp h.2)]
      · rw [if_neg (by omega), if_neg (fun h => hgt h.1), hw]
    · obtain rfl : i = sg.length := by omega
      refine Ev.step (fun k => ?_) (Ev.now _)
      rw [lex_scanner_sign.l0, if_neg (by omega)]
      rw [List.take_of_length_le (by simp [signsOf])]
omit hs in
theorem sign_eq (h3 : sg.length ≤ 1000) (h4 : ∀ t ∈ sg, t.size ≤ 1000) :
    Ev (fun k => lex_scanner_sign.f k s a km sg f) (((Lx.signLen (signsOf sg) l : Nat) : Int), s, (a : Int), km, f) := by
  have e := sign_ev s a ha km sg f l hl (sg.length + 1) 0 (by omega) (by omega) h3 h4
  refine Ev.congr (fun k => ?_) e
  unfold lex_scanner_sign.f
  rfl
end
end Go.Proofs.YtabnmkakgcifoaaDoor.PLex

namespace Go.Proofs.YtabnmkakgcifoaaDoor.PLex
open Go.RowKit Go.Proofs.YtabnmkakgcifoaaDoorW.PrintWords Go.Proofs.YtabnmkakgcifoaaDoorW.PrintLast Go.Proofs.YtabnmkakgcifoaaDoorW.PrintMore
theorem begins_eq (s t : ByteArray) (a : Nat) (hs : s.size ≤ 140737488355328) (h : a ≤ s.size) (ht : t.size ≤ 1000) : smockingref02_begins.f s a t = some ((bl t).isPrefixOf ((bl s).drop a)) := by
  unfold smockingref02_begins.f
  have hp := bl_length t
  have hx := bl_length s
  rw [w64 (by omega) (by omega), w64 (by omega) (by omega)]
  by_cases h1 : (s.size : Int) - a ≥ (t.size : Int)
  · rw [if_pos h1, if_pos (by omega), if_pos (by omega), if_pos (by omega)]
    simp only [Option.some.injEq]
    rw [toList_bl, toList_bl, extract_bl, show ((a : Int) + (t.size : Int)).toNat - (a : Int).toNat = t.size by omega, Int.toNat_natCast]
    rw [Bool.eq_iff_iff, beq_iff_eq, List.isPrefixOf_iff_prefix, List.prefix_iff_eq_take, hp]
    exact ⟨fun h => h.symm, fun h => h.symm⟩
  · rw [if_neg h1]
    simp only [Option.some.injEq]
    symm
    rw [← Bool.not_eq_true, List.isPrefixOf_iff_prefix]
    intro hh
    have := hh.length_le
    simp only [List.length_drop] at this
    omega
theorem byteAt_eq (s : ByteArray) (a : Nat) : smockingref02_byteAt.f s a = some (((((bl s).drop a).headD 0).toNat : Nat) : Int) := by
  unfold smockingref02_byteAt.f
  rw [if_neg (by omega)]
  cases hd : (bl s).drop a with
  | nil =>
    have := drop_nil hd
    rw [if_pos (by omega)]; rfl
  | cons c r =>
    obtain ⟨h1, h2, h3, h4⟩ := drop_cons hd
    rw [if_neg (by omega), if_pos (by omega), if_pos (by omega), h2]
    rfl
theorem rletter_eq (c : UInt8) : smockingref02_letter.f (c.toNat : Int) = some (Lx.isL c) := letter_eq c
theorem rdigit_eq (c : UInt8) : smockingref02_digit.f (c.toNat : Int) = some (Lx.isD c) := digit_eq c
theorem cmt_cons (c : UInt8) (r : List UInt8) : Lx.cmt (c :: r) = if c = 47 then (if r.head? = some 47 then Lx.upto10 r + 1 else if r.head? = some 42 then Lx.block (r.drop 1) + 2 else 0) else 0 := rfl
section
variable (s : ByteArray) (hs : s.size ≤ 140737488355328)
include hs
theorem rcomment_l0 : ∀ (m a : Nat), s.size < a + m → a ≤ s.size → Ev (fun k => smockingref02_comment.l0 k s a) ((a + Lx.upto10 ((bl s).drop a) : Nat) : Int) := by
  intro m
  induction m with
  | zero => intro a hm ha; omega
  | succ m ih =>
    intro a hm ha
    cases hd : (bl s).drop a with
    | nil =>
      have := drop_nil hd
      refine Ev.step (fun k => ?_) (Ev.now _)
      rw [smockingref02_comment.l0, if_neg (by omega)]
      rfl
    | cons c r =>
      obtain ⟨h1, h2, h3, h4⟩ := drop_cons hd
      have e := ih (a + 1) (by omega) (by omega)
      rw [h3] at e
      have head : ∀ k, smockingref02_comment.l0 (k + 1) s a = if c = 10 then some (a : Int) else smockingref02_comment.l0 k s ((a + 1 : Nat) : Int) := by
        intro k
        rw [smockingref02_comment.l0, if_pos (by omega), if_pos (by omega), h2, w64 (by omega) (by omega)]
        simp only [ci10]
        rfl
      unfold Lx.upto10
      by_cases hc : c = 10
      · rw [if_pos hc]
        refine Ev.step (fun k => ?_) (Ev.now _)
        rw [head, if_pos hc]; rfl
      · rw [if_neg hc, show a + (Lx.upto10 r + 1) = a + 1 + Lx.upto10 r by omega]
        refine Ev.step (fun k => ?_) e
        rw [head, if_neg hc]
theorem rcomment_l1 : ∀ (m a : Nat), s.size < a + m → a ≤ s.size → Ev (fun k => smockingref02_comment.l1 k s a) ((a + Lx.block ((bl s).drop a) : Nat) : Int) := by
  intro m
  induction m with
  | zero => intro a hm ha; omega
  | succ m ih =>
    intro a hm ha
    cases hd : (bl s).drop a with
    | nil =>
      have := drop_nil hd
      refine Ev.step (fun k => ?_) (Ev.now _)
      rw [smockingref02_comment.l1, if_neg (by omega)]
      rw [show s.size = a by omega]
      rfl
    | cons c r =>
      obtain ⟨h1, h2, h3, h4⟩ := drop_cons hd
      have e := ih (a + 1) (by omega) (by omega)
      rw [h3] at e
      have head : ∀ k, smockingref02_comment.l1 (k + 1) s a = if c = 42 ∧ r.head? = some 47 then some ((a + 2 : Nat) : Int) else smockingref02_comment.l1 k s ((a + 1 : Nat) : Int) := by
        intro k
        rw [smockingref02_comment.l1, if_pos (by omega), begins_eq s _ a hs ha (by decide), Option.bind_some, hd, w64 (by omega) (by omega), w64 (by omega) (by omega)]
        have hb : (bl (⟨#[42, 47]⟩ : ByteArray)).isPrefixOf (c :: r) = true ↔ c = 42 ∧ r.head? = some 47 := by
          show List.isPrefixOf [42, 47] (c :: r) = true ↔ _
          cases r with
          | nil => simp [List.isPrefixOf]
          | cons d r' =>
            simp only [List.isPrefixOf, Bool.and_eq_true, beq_iff_eq, List.head?_cons, Option.some.injEq, Bool.and_true]
            exact ⟨fun h => ⟨h.1.symm, h.2.symm⟩, fun h => ⟨h.1.symm, h.2.symm⟩⟩
        simp only [hb]
        rfl
      unfold Lx.block
      by_cases hc : c = 42 ∧ r.head? = some 47
      · rw [if_pos hc]
        refine Ev.step (fun k => ?_) (Ev.now _)
        rw [head, if_pos hc]
      · rw [if_neg hc, show a + (Lx.block r + 1) = a + 1 + Lx.block r by omega]
        refine Ev.step (fun k => ?_) e
        rw [head, if_neg hc]
theorem rcomment_eq (a : Nat) (ha : a ≤ s.size) : Ev (fun k => smockingref02_comment.f k s a) ((a + Lx.cmt ((bl s).drop a) : Nat) : Int) := by
  have e0 := rcomment_l0 s hs (s.size + 1) a (by omega) ha
  have B1 := begins_eq s (⟨#[47, 47]⟩ : ByteArray) a hs ha (by decide)
  have B2 := begins_eq s (⟨#[47, 42]⟩ : ByteArray) a hs ha (by decide)
  have head : ∀ k, smockingref02_comment.f k s a = if (bl (⟨#[47, 47]⟩ : ByteArray)).isPrefixOf ((bl s).drop a) = true then smockingref02_comment.l0 k s a else if (bl (⟨#[47, 42]⟩ : ByteArray)).isPrefixOf ((bl s).drop a) = true then smockingref02_comment.l1 k s ((a + 2 : Nat) : Int) else some (a : Int) := by
    intro k
    unfold smockingref02_comment.f
    rw [B1, Option.bind_some, B2, Option.bind_some, w64 (by omega) (by omega)]
    rfl
  change ∀ k, _ = if List.isPrefixOf [47, 47] ((bl s).drop a) = true then _ else if List.isPrefixOf [47, 42] ((bl s).drop a) = true then _ else _ at head
  cases hd : (bl s).drop a with
  | nil =>
    rw [hd] at head
    refine Ev.congr (fun k => ?_) (Ev.now _)
    rw [head, if_neg (by decide), if_neg (by decide)]; rfl
  | cons c r =>
    rw [hd] at head e0
    obtain ⟨h1, h2, h3, h4⟩ := drop_cons hd
    rw [cmt_cons]
    by_cases hc : c = 47
    · subst hc
      rw [if_pos rfl]
      by_cases h47 : r.head? = some 47
      · rw [if_pos h47]
        obtain ⟨r', rfl⟩ : ∃ r', r = 47 :: r' := by cases r with
          | nil => simp at h47
          | cons d r' => simp at h47; exact ⟨r', by rw [h47]⟩
        refine Ev.congr (fun k => ?_) e0
        rw [head, if_pos (by simp [List.isPrefixOf])]
      · rw [if_neg h47]
        have n1 : ¬ List.isPrefixOf [47, 47] (47 :: r) = true := by
          cases r with
          | nil => decide
          | cons d r' => simp [List.isPrefixOf]; intro h; exact h47 (by simp [← h])
        by_cases h42 : r.head? = some 42
        · rw [if_pos h42]
          obtain ⟨r', rfl⟩ : ∃ r', r = 42 :: r' := by cases r with
            | nil => simp at h42
            | cons d r' => simp at h42; exact ⟨r', by rw [h42]⟩
          have e1 := rcomment_l1 s hs (s.size + 1) (a + 2) (by omega) (by simp only [List.length_cons] at h4; omega)
          rw [← List.drop_drop, hd] at e1
          rw [show a + (Lx.block (List.drop 1 (42 :: r')) + 2) = a + 2 + Lx.block r' by simp only [List.drop_succ_cons, List.drop_zero]; omega]
          refine Ev.congr (fun k => ?_) e1
          rw [head, if_neg n1, if_pos (by simp [List.isPrefixOf])]
        · rw [if_neg h42]
          refine Ev.congr (fun k => ?_) (Ev.now _)
          rw [head, if_neg n1, if_neg]
          · rfl
          · cases r with
            | nil => decide
            | cons d r' => simp [List.isPrefixOf]; intro h; exact h42 (by simp [← h])
    · rw [if_neg hc]
      refine Ev.congr (fun k => ?_) (Ev.now _)
      rw [head, if_neg (by simp [List.isPrefixOf]; intro h; exact absurd h.symm hc), if_neg (by simp [List.isPrefixOf]; intro h; exact absurd h.symm hc)]
      rfl
theorem rpiece_eq (a : Nat) (ha : a ≤ s.size) : Ev (fun k => smockingref02_piece.f k s a) ((a + Lx.piece ((bl s).drop a) : Nat) : Int) := by
  have ec := rcomment_eq s hs a ha
  have J : ∀ (c : UInt8) (b : Bool) (d e : UInt8) (_ : ((bl s).drop (a + 1)).headD 0 = d) (_ : ((bl s).drop (a + 2)).headD 0 = e) (k : Nat), smockingref02_piece.j0 (k + 1) s a (c.toNat : Int) b = if b = true then some ((a + 1 : Nat) : Int) else if c = 92 then (if d = 10 then some ((a + 2 : Nat) : Int) else if d = 13 then (if e = 10 then some ((a + 3 : Nat) : Int) else some (a : Int)) else some (a : Int)) else (smockingref02_comment.f k s a).bind fun t => some t := by
    intro c b d e hd he k
    rw [smockingref02_piece.j0, w64 (by omega) (by omega), w64 (by omega) (by omega), w64 (by omega) (by omega)]
    rw [show ((a : Int) + 1) = ((a + 1 : Nat) : Int) by omega, show ((a : Int) + 2) = ((a + 2 : Nat) : Int) by omega, byteAt_eq, Option.bind_some, Option.bind_some, byteAt_eq, Option.bind_some, hd, he]
    simp only [ci92, ci10, ci13]
    rfl
  have head : ∀ (c : UInt8) (_ : ((bl s).drop a).headD 0 = c) (k : Nat), smockingref02_piece.f k s a = smockingref02_piece.j0 k s a (c.toNat : Int) (Lx.isBl c) := by
    intro c hc k
    unfold smockingref02_piece.f
    rw [byteAt_eq, Option.bind_some, hc]
    simp only [ci32, ci9, ci10, ci11, ci12]
    by_cases h32 : c = 32
    · subst h32; rfl
    rw [if_neg h32]
    by_cases h9 : c = 9
    · subst h9; rfl
    rw [if_neg h9]
    by_cases h10 : c = 10
    · subst h10; rfl
    rw [if_neg h10]
    by_cases h11 : c = 11
    · subst h11; rfl
    rw [if_neg h11]
    by_cases h12 : c = 12
    · subst h12; rfl
    rw [if_neg h12, bi13]
    congr 1
    unfold Lx.isBl Lx.isFF
    rw [bf h32, bf h9, bf h10, bf h11, bf h12]
    rfl
  cases hd : (bl s).drop a with
  | nil =>
    rw [hd] at ec
    refine Ev.congr (head 0 (by rw [hd]; rfl)) (Ev.step (fun k => J _ _ _ _ rfl rfl k) ?_)
    exact Ev.bind ec (Ev.now _)
  | cons c r =>
    rw [hd] at ec
    obtain ⟨h1, h2, h3, h4⟩ := drop_cons hd
    have hd2 : (bl s).drop (a + 2) = r.drop 1 := by rw [← h3, List.drop_drop]
    have Jc := J c (Lx.isBl c)
    rw [h3, hd2] at Jc
    rw [piece_cons]
    refine Ev.congr (head c (by rw [hd]; rfl)) ?_
    by_cases hb : Lx.isBl c = true
    · rw [if_pos hb]
      exact Ev.step (fun k => (Jc _ _ rfl rfl k).trans (if_pos hb)) (Ev.now _)
    · rw [if_neg hb]
      by_cases h92 : c = 92
      · rw [if_pos h92]
        cases r with
        | nil =>
          exact Ev.step (fun k => (Jc 0 0 rfl rfl k).trans ((if_neg hb).trans (if_pos h92))) (Ev.now _)
        | cons d r' =>
          simp only [List.head?_cons, Option.some.injEq]
          refine Ev.step (fun k => (Jc d _ rfl rfl k).trans ((if_neg hb).trans ((if_pos h92).trans ?_))) (Ev.now _)
          by_cases h10 : d = 10
          · rw [if_pos h10, if_pos h10]
          · rw [if_neg h10, if_neg h10]
            cases r' with
            | nil => simp
            | cons e r'' =>
              simp only [List.take_succ_cons, List.take_zero, List.cons.injEq, and_true]
              by_cases h13 : d = 13
              · by_cases he : e = 10
                · rw [if_pos h13]
                  refine (if_pos he).trans ?_
                  rw [if_pos ⟨h13, he⟩]
                · rw [if_pos h13]
                  refine (if_neg he).trans ?_
                  rw [if_neg (fun h => he h.2)]
                  rfl
              · rw [if_neg h13, if_neg (fun h => h13 h.1)]; rfl
      · rw [if_neg h92]
        exact Ev.step (fun k => (Jc _ _ rfl rfl k).trans ((if_neg hb).trans (if_neg h92))) (Ev.bind ec (Ev.now _))
end
end Go.Proofs.YtabnmkakgcifoaaDoor.PLex

