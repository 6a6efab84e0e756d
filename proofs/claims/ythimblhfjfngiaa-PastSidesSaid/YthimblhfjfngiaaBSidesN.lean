/- PastSides holds: for every three texts the statement answers true. Part 14 of 20. -/
import Derived.Test.YthimblhfjfngiaaBSidesM
import Derived.Lib.OthersKept
namespace Go.Proofs.Ythimblhfjfngiaa.PText
open Go.RowKit Go.Lib Go.Sort Go.Proofs.YthimblhfjfngiaaW.PrintWords Go.Proofs.YthimblhfjfngiaaW.PrintLast Go.Proofs.YthimblhfjfngiaaW.PrintMore
set_option linter.unusedVariables false
set_option linter.unusedSimpArgs false
/-- whatever lies in blocks of other types than the past's own two (the past itself, its row of commits) stands -/
def PKept (w w' : World) : Prop := ∀ (k : Nat) (o : Obj), w.heap[k]? = some o → (∀ c fz, o ≠ .cells c 76 fz) → (∀ c fz, o ≠ .cells c 77 fz) → w'.heap[k]? = some o
theorem PKept.refl (w : World) : PKept w w := fun _ _ h _ _ => h
theorem PKept.trans {a b c : World} (h : PKept a b) (k : PKept b c) : PKept a c := fun i o hi h1 h2 => k i o (h i o hi h1 h2) h1 h2
theorem PKept.of_below {w w' : World} (h : Below w.heap.size w w') : PKept w w' := fun k o hk _ _ => (h.block k (Array.getElem?_eq_some_iff.1 hk).1).trans hk
/-- a row of files that stands: it lies in a block of files' cells, or there are none -/
structure FRow (w : World) (A : Option Addr) (cap : Nat) (l : List S53) : Prop where
  cap : l.length ≤ cap
  reads : Kd.C k53 w A l.length l
  lies : l = [] ∨ ∃ b cs, A = some ⟨b, 0, none⟩ ∧ w.heap[b]? = some (.cells cs 53 (0, 0))
theorem C_kept53 {w w' : World} {A : Option Addr} {l : List S53} {b : Nat} (h : Kd.C k53 w A l.length l) (hA : A = some ⟨b, 0, none⟩) (hk : w'.heap[b]? = w.heap[b]?) : Kd.C k53 w' A l.length l := by
  obtain ⟨h1, h2, h3⟩ := h
  refine ⟨h1, h2, fun hl => ?_⟩
  obtain ⟨ad, e, h4⟩ := h3 hl
  refine ⟨ad, e, fun j t hj => ?_⟩
  obtain ⟨cs, e1, e2, e3⟩ := h4 j t hj
  rw [hA] at e; cases e
  refine ⟨cs, e1, ?_, fun i u hu => ?_⟩
  · obtain rfl := k53_open e2; exact k53_mk _ _
  · have := e3 i u hu
    rw [← this]
    unfold World.cell?
    have : (Addr.add (⟨b, 0, none⟩ : Addr) (j * k53.sz + i)).block = b := by unfold Addr.add; split <;> rfl
    simp only [this, hk]
theorem FRow.keep {w w' : World} {A : Option Addr} {cap : Nat} {l : List S53} (h : FRow w A cap l) (hk : PKept w w') : FRow w' A cap l := by
  rcases h.lies with e | ⟨b, cs, e, hb⟩
  · subst e
    exact ⟨h.cap, ⟨rfl, by simp, fun q => absurd q (by simp)⟩, .inl rfl⟩
  · have hb' := hk b _ hb (fun c fz q => by cases q) (fun c fz q => by cases q)
    exact ⟨h.cap, C_kept53 h.reads e (by rw [hb, hb']), .inr ⟨b, cs, e, hb'⟩⟩
theorem FRow.of_R {w : World} {base : Nat} {A : Option Addr} {cap : Nat} {l : List S53} (h : Kd.R k53 53 w base (fun _ => True) (.slice A l.length cap) l) : FRow w A cap l := by
  have hR := Kd.R_reads' h
  refine ⟨hR.2.1, hR.2.2, ?_⟩
  by_cases hl : l = []
  · exact .inl hl
  · obtain ⟨g, cap', hv, hb, _, cs, hc⟩ := Kd.R_form h (List.length_pos_iff.2 hl)
    cases hv
    exact .inr ⟨g, cs, rfl, hc⟩
/-- a commit -/
structure Com where
  name : ByteArray
  files : List S53
/-- a commit in a block -/
def ComAt (w : World) (c : Nat) (x : Com) : Prop := ∃ A cap, w.heap[c]? = some (.cells #[.string x.name, .slice A x.files.length cap] 79 (0, 0)) ∧ FRow w A cap x.files
theorem ComAt.keep {w w' : World} {c : Nat} {x : Com} (h : ComAt w c x) (hk : PKept w w') : ComAt w' c x := by
  obtain ⟨A, cap, h1, h2⟩ := h
  exact ⟨A, cap, hk c _ h1 (fun c fz q => by cases q) (fun c fz q => by cases q), h2.keep hk⟩
def nameP (name : ByteArray) (x : S53) : Bool := x.f0.toList == name.toList
/-- a file's text, and whether it is there -/
def findR (l : List S53) (name : ByteArray) : ByteArray × Bool := match l.find? (nameP name) with
  | some x => (x.f1, true)
  | none => (⟨#[]⟩, false)
theorem find_split (name : ByteArray) : ∀ l : List S53, (∃ k, ∃ hk : k < l.length, nameP name l[k] = true ∧ (∀ j, ∀ hj : j < l.length, j < k → nameP name l[j] = false) ∧ findR l name = (l[k].f1, true)) ∨ ((∀ j, ∀ hj : j < l.length, nameP name l[j] = false) ∧ findR l name = (⟨#[]⟩, false))
  | [] => .inr ⟨fun j hj => absurd hj (Nat.not_lt_zero _), rfl⟩
  | x :: l => by
    cases q : nameP name x with
    | true =>
      refine .inl ⟨0, by simp, q, fun j _ h0 => absurd h0 (Nat.not_lt_zero _), ?_⟩
      unfold findR
      rw [List.find?_cons, q]; rfl
    | false =>
      have e : findR (x :: l) name = findR l name := by unfold findR; rw [List.find?_cons, q]
      rw [e]
      rcases find_split name l with ⟨k, hk, h1, h2, h3⟩ | ⟨h1, h2⟩
      · refine .inl ⟨k + 1, by simp; omega, h1, fun j hj h0 => ?_, h3⟩
        cases j with
        | zero => exact q
        | succ j => exact h2 j (by simp at hj; omega) (by omega)
      · refine .inr ⟨fun j hj => ?_, h2⟩
        cases j with
        | zero => exact q
        | succ j => exact h1 j (by simp at hj; omega)
set_option maxRecDepth 100000 in
set_option maxHeartbeats 1000000 in
theorem find_pred (name : ByteArray) (B : Nat) (w : World) (hB : B < w.heap.size) (hcell : w.cell? ⟨B, 0, none⟩ = some (.string name)) :
    PredBelow Try.prog 54 #[.pointer (some ⟨B, 0, none⟩)] (fun x => .agg (enc53 x).toArray) (nameP name) w := fun W x hb => by
  have hc : W.cell? ⟨B, 0, none⟩ = some (.string name) := (hb.cell (p := ⟨B, 0, none⟩) hB).trans hcell
  have hBW : B < W.heap.size := Nat.lt_of_lt_of_le hB hb.size
  have hne : B ≠ W.heap.size := by omega
  have hu := Try.underlying53
  show Calls Try.prog 54 #[.agg #[.string x.f0, .string x.f1], .pointer (some ⟨B, 0, none⟩)] W _
  go_enter Try.func54, Try.ntmps54
  go_wp2
  go_ret
  exact ⟨rfl, hb.alloc hb.size _⟩
theorem C_addr53 {w : World} {A : Option Addr} {l : List S53} (h : Kd.C k53 w A l.length l) (hp : 0 < l.length) :
    ∃ b o, A = some ⟨b, o, none⟩ ∧ b < w.heap.size ∧ ∀ j, j < l.length → ∀ i v, (enc53 l[j]!)[i]? = some v → w.cell? ⟨b, o + j * 2 + i, none⟩ = some v := by
  obtain ⟨⟨b, o, sp⟩, rfl, h0, _⟩ := at_T53 h 0 (by omega) (by omega)
  have hsp : sp = none := by
    cases sp with
    | none => rfl
    | some q =>
      unfold World.cell? at h0
      simp only [Addr.add] at h0
      split at h0 <;> simp at h0
  subst hsp
  have hb : b < w.heap.size := World.block_lt_of_cell? w _ h0
  refine ⟨b, o, rfl, hb, fun j hj i v hv => ?_⟩
  obtain ⟨ad, e, h1, h2⟩ := at_T53 h (j : Int) (by omega) (by omega)
  cases e
  have hr : rd_T53 l (j : Int) = l[j] := by unfold rd_T53; rw [Int.toNat_natCast, List.getD_eq_getElem?_getD, List.getElem?_eq_getElem hj]; rfl
  rw [hr] at h1 h2
  rw [getElem!_pos l j hj] at hv
  simp only [Int.toNat_natCast, Addr.add_lit] at h1 h2
  match i, hv with
  | 0, hv => simp [enc53] at hv; subst hv; exact h1
  | 1, hv => simp [enc53] at hv; subst hv; exact h2
  | i + 2, hv => simp [enc53] at hv
set_option maxRecDepth 100000 in
set_option maxHeartbeats 1000000 in
theorem index53_empty (p : Option Addr) (c g : Nat) (lb : Array Value) (w : World) : Calls Try.prog 53 #[.slice p 0 c, .func (.func g) #[] lb] w fun e w' => e = .returned (.int .i64 (-1)) ∧ Below w.heap.size w w' := by
  go_enter Try.func53, Try.ntmps53
  go_wp2
  go_loopg [5, 8] 0 (fun _ _ s8 wr => s8 = .int .i64 0 ∧ wr = w)
  case atStart => exact ⟨rfl, rfl⟩
  case round =>
    obtain ⟨rfl, rfl⟩ := hrel
    go_wp2
    go_ret
    exact ⟨rfl, Below.refl _ _⟩
theorem index53_calls (name : ByteArray) (A : Option Addr) (cap B : Nat) (l : List S53) (w : World) (hC : Kd.C k53 w A l.length l) (hB : B < w.heap.size) (hcell : w.cell? ⟨B, 0, none⟩ = some (.string name)) (hl : l.length ≤ 10000) (r : Int)
    (hr : (∃ k : Nat, ∃ hk : k < l.length, r = (k : Int) ∧ nameP name l[k] = true ∧ ∀ j, ∀ hj : j < l.length, j < k → nameP name l[j] = false) ∨ (r = -1 ∧ ∀ j, ∀ hj : j < l.length, nameP name l[j] = false)) :
    Calls Try.prog 53 #[.slice A l.length cap, .func (.func 54) #[] #[.pointer (some ⟨B, 0, none⟩)]] w fun e w' => e = .returned (.int .i64 r) ∧ Below w.heap.size w w' := by
  by_cases hp : l.length = 0
  · obtain rfl := List.eq_nil_of_length_eq_zero hp
    rcases hr with ⟨k, hk, _⟩ | ⟨rfl, _⟩
    · exact absurd hk (Nat.not_lt_zero _)
    · exact index53_empty A cap 54 _ w
  · obtain ⟨b, o, rfl, hb, hc⟩ := C_addr53 hC (by omega)
    have eg : ∀ args w, (callFunc 54 args).run Try.prog w = .ok (.enter 54 args) w := enters_of Try.func54 (by kernel_rfl) rfl
    have h := AnyQ.slices_IndexFunc Try.indexFi 2 isAgg53 sizeOf53 enc53 enc53_len (nameP name) 54 #[.pointer (some ⟨B, 0, none⟩)] eg b o l.length cap l w (find_pred name B w hB hcell) (Nat.le_refl _) (by omega) hb hc
    refine h.mono ?_
    rintro e w' ⟨rfl, hb'⟩
    refine ⟨?_, hb'⟩
    rcases hr with ⟨k, hk, rfl, h1, h2⟩ | ⟨rfl, h1⟩
    · rw [Lib.idxBy_hit (fun _ y => nameP name y) l l.length k default hk (Nat.le_refl _) (by rw [getElem!_pos l k hk]; exact h1) (fun j hj => by rw [getElem!_pos l j (by omega)]; exact h2 j (by omega) hj)]
    · rw [Lib.idxBy_miss (fun _ y => nameP name y) l l.length default (fun j hj => by rw [getElem!_pos l j hj]; exact h1 j hj)]
set_option maxRecDepth 100000 in
set_option maxHeartbeats 2000000 in
theorem find_calls (c : Nat) (x : Com) (name : ByteArray) (w : World) (h : ComAt w c x) (hl : x.files.length ≤ 10000) :
    Calls Try.prog 34 #[.pointer (some ⟨c, 0, none⟩), .string name] w fun e w' => e = .returned (.tuple #[.string (findR x.files name).1, .bool (findR x.files name).2]) ∧ Below w.heap.size w w' := by
  obtain ⟨A, cap, hc, hF⟩ := h
  have hlt : c < w.heap.size := (Array.getElem?_eq_some_iff.1 hc).1
  have h1 : w.cell? ⟨c, 1, none⟩ = some (.slice A x.files.length cap) := by unfold World.cell?; rw [hc]; rfl
  have hne : c ≠ w.heap.size := by omega
  have HF := Aside0.mk hF
  have HLT := Aside0.mk hlt
  have HX := Aside0.mk (fun (r : Int) hr => index53_calls name A cap w.heap.size x.files (w.alloc (.cells #[.string name] 9)) (Kd.C_alloc hF.reads _) (by simp) (by simp) hl r hr)
  have hcap := hF.cap
  have H1 := Aside0.mk h1
  clear hc hF h1
  rcases find_split name x.files with ⟨k, hk, q1, q2, q3⟩ | ⟨q1, q2⟩
  · have H := Aside0.mk (HX.out (k : Int) (.inl ⟨k, hk, rfl, q1, q2⟩))
    have Q3 := Aside0.mk q3
    have h1 := H1.out
    have hkc : (k : Int) < (x.files.length : Int) := by omega
    have hk0 : (0 : Int) ≤ (k : Int) := by omega
    clear q1 q2 q3 HX
    go_enter Try.func34, Try.ntmps34
    have hdk : decide ((k : Int) < 0) = false := decide_eq_false (by omega)
    go_wp2_with (go_at_call 53; refine H.out.mono ?_; rintro e w2 ⟨rfl, hb⟩; have HB := Aside0.mk (((Below.refl _ w).alloc (Nat.le_refl _) (.cells #[.string name] 9)).trans (hb.mono (by simp))); clear hb H; have h1' := (HB.out.cell (p := ⟨c, 1, none⟩) HLT.out).trans H1.out; obtain ⟨ad, e0, hx0, hx1⟩ := at_T53 (Kd.C_below HF.out.reads HB.out) (k : Int) hk0 hkc; cases e0; rw [Int.toNat_natCast] at hx0 hx1; rw [show rd_T53 x.files (k : Int) = x.files[k] by unfold rd_T53; rw [Int.toNat_natCast, List.getD_eq_getElem?_getD, List.getElem?_eq_getElem hk]; rfl] at hx0 hx1)
    go_ret2
    exact ⟨by rw [Q3.out]; rfl, HB.out⟩
  · have H := Aside0.mk (HX.out (-1) (.inr ⟨rfl, q1⟩))
    have Q3 := Aside0.mk q2
    have h1 := H1.out
    clear q1 q2 HX
    go_enter Try.func34, Try.ntmps34
    go_wp2_with (go_at_call 53; refine H.out.mono ?_; rintro e w2 ⟨rfl, hb⟩; have HB := Aside0.mk hb; clear hb H)
    go_ret2
    refine ⟨by rw [Q3.out]; rfl, ?_⟩
    exact ((Below.refl _ w).alloc (Nat.le_refl _) _).trans (HB.out.mono (by simp))
end Go.Proofs.Ythimblhfjfngiaa.PText

