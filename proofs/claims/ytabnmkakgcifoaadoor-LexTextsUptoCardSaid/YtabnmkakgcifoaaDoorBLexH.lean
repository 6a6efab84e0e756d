/- Chapter 02: what the claims share. Part 8 of 11. -/
import Derived.Test.YtabnmkakgcifoaaDoorBLexG
import Derived.Lib.Hide
namespace Go.Proofs.YtabnmkakgcifoaaDoor.PLex
open Go.RowKit Go.Proofs.YtabnmkakgcifoaaDoorW.PrintWords Go.Proofs.YtabnmkakgcifoaaDoorW.PrintLast Go.Proofs.YtabnmkakgcifoaaDoorW.PrintMore
def lex_Keys.f : Option (List ByteArray) := rf2_Keys.f
def lex_Signs.f : Option (List ByteArray) := rf2_Signs.f
def keysT : List UInt8 := [98, 114, 101, 97, 107, 32, 99, 97, 115, 101, 32, 99, 104, 97, 114, 32, 99, 111, 110, 115, 116, 32, 99, 111, 110, 116, 105, 110, 117, 101, 32, 100, 101, 102, 97, 117, 108, 116, 32, 100, 111, 32, 101, 108, 115, 101, 32, 101, 110, 117, 109, 32, 101, 120, 116, 101, 114, 110, 32, 102, 111, 114, 32, 103, 111, 116, 111, 32, 105, 102, 32, 105, 110, 116, 32, 108, 111, 110, 103, 32, 114, 101, 116, 117, 114, 110, 32, 115, 104, 111, 114, 116, 32, 115, 105, 103, 110, 101, 100, 32, 115, 105, 122, 101, 111, 102, 32, 115, 116, 97, 116, 105, 99, 32, 115, 116, 114, 117, 99, 116, 32, 115, 119, 105, 116, 99, 104, 32, 116, 121, 112, 101, 100, 101, 102, 32, 117, 110, 105, 111, 110, 32, 117, 110, 115, 105, 103, 110, 101, 100, 32, 118, 111, 105, 100, 32, 118, 111, 108, 97, 116, 105, 108, 101, 32, 119, 104, 105, 108, 101]
def signsT : List UInt8 := [46, 46, 46, 32, 60, 60, 61, 32, 62, 62, 61, 32, 60, 60, 32, 62, 62, 32, 60, 61, 32, 62, 61, 32, 61, 61, 32, 33, 61, 32, 38, 38, 32, 124, 124, 32, 43, 43, 32, 45, 45, 32, 43, 61, 32, 45, 61, 32, 42, 61, 32, 47, 61, 32, 37, 61, 32, 38, 61, 32, 124, 61, 32, 94, 61, 32, 45, 62, 32, 43, 32, 45, 32, 42, 32, 47, 32, 37, 32, 38, 32, 124, 32, 94, 32, 33, 32, 126, 32, 60, 32, 62, 32, 61, 32, 63, 32, 58, 32, 59, 32, 44, 32, 46, 32, 40, 32, 41, 32, 91, 32, 93, 32, 123, 32, 125, 32, 35]
theorem keys_eq : rf2_Keys.f = some ((Lib.fields keysT).map fun x => (⟨x.toArray⟩ : ByteArray)) := by kernel_rfl
theorem signs_eq : rf2_Signs.f = some ((Lib.fields signsT).map fun x => (⟨x.toArray⟩ : ByteArray)) := by kernel_rfl
theorem keys_small : (Lib.fields keysT).length ≤ 100 := by decide +kernel
theorem signs_small : (Lib.fields signsT).length ≤ 100 := by decide +kernel
theorem keys_ascii : ∀ b ∈ keysT, b.toNat < 128 := by decide +kernel
theorem signs_ascii : ∀ b ∈ signsT, b.toNat < 128 := by decide +kernel
theorem fields_row (l : List (List UInt8)) (hl : l.length ≤ 100) (w : World) :
    Kd.R Kd.string 9 (w.alloc (.cells (l.map fun x => Value.string ⟨x.toArray⟩).toArray 9)) w.heap.size (fun _ => True) (.slice (some ⟨w.heap.size, 0, none⟩) l.length l.length) (l.map fun x => (⟨x.toArray⟩ : ByteArray)) := by
  have h := own_lit_of (enc := Value.string) w w.heap.size 9 (l.map fun x => (⟨x.toArray⟩ : ByteArray)) (Nat.le_refl _) (by simp; omega)
  refine ⟨fun _ _ => trivial, encs Value.string (l.map fun x => (⟨x.toArray⟩ : ByteArray)), ?_, Kd.reps_scalar _⟩
  simpa [encs, Function.comp_def, Kd.string, Kd.scalar] using h
theorem fields_call (t : List UInt8) (ha : ∀ b ∈ t, b.toNat < 128) (hs : t.length ≤ 1000) (hl : (Lib.fields t).length ≤ 100) (w : World) (hGl : Glob w) :
    Calls Tryd.prog 39 #[.string ⟨t.toArray⟩] w fun e w' => ∃ v0_ : Value, e = .returned v0_ ∧ Kd.R Kd.string 9 w' w.heap.size (fun _ => True) v0_ ((Lib.fields t).map fun x => (⟨x.toArray⟩ : ByteArray)) ∧ Below w.heap.size w w' := by
  refine (Tryd.strings_Fields ⟨t.toArray⟩ w (by show t.toArray.size < _; simp; omega) (fun j b hb => ha b (List.mem_of_getElem? (by simpa using hb))) hGl.space).mono ?_
  rintro e w' ⟨rfl, rfl⟩
  exact ⟨_, rfl, fields_row _ hl w, (Below.refl _ w).alloc (Nat.le_refl _) _⟩
theorem lex_Keys.calls (r : List ByteArray) (w : World) (hGl : Glob w) (h : lex_Keys.f = some r) :
    Calls Tryd.prog 19 #[] w fun e w' => ∃ v0_ : Value, e = .returned (v0_) ∧ Kd.R Kd.string 9 w' w.heap.size (fun _ => True) v0_ r ∧ Below w.heap.size w w' := by
  have H := Lib.hid (Option.some.inj (keys_eq.symm.trans h))
  clear h
  have C := Lib.hid (fields_call keysT keys_ascii (by decide +kernel) keys_small w hGl)
  go_enter Tryd.func19, Tryd.ntmps19
  go_wp2_with (go_at_call 39; refine (C.out).mono ?_; rintro e w' ⟨v, rfl, hv, hb⟩)
  go_ret
  exact ⟨_, rfl, H.out ▸ hv, hb⟩
theorem lex_Signs.calls (r : List ByteArray) (w : World) (hGl : Glob w) (h : lex_Signs.f = some r) :
    Calls Tryd.prog 21 #[] w fun e w' => ∃ v0_ : Value, e = .returned (v0_) ∧ Kd.R Kd.string 9 w' w.heap.size (fun _ => True) v0_ r ∧ Below w.heap.size w w' := by
  have H := Lib.hid (Option.some.inj (signs_eq.symm.trans h))
  clear h
  have C := Lib.hid (fields_call signsT signs_ascii (by decide +kernel) signs_small w hGl)
  go_enter Tryd.func21, Tryd.ntmps21
  go_wp2_with (go_at_call 39; refine (C.out).mono ?_; rintro e w' ⟨v, rfl, hv, hb⟩)
  go_ret
  exact ⟨_, rfl, H.out ▸ hv, hb⟩
end Go.Proofs.YtabnmkakgcifoaaDoor.PLex

