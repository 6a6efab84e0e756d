/- LexTexts holds of every list of tokens and every number that together are of bulk at most 1,048,576 (the second form), where the two listed package variables hold what the program's text lays. Part 3 of 5. -/
import Derived.Test.YtabnmkakgcifoaaDoorBTextsB
import Derived.Deep.RegionHeld3
import Derived.Deep.AppendLies
namespace Go.Proofs.YtabnmkakgcifoaaDoor.PLex
open Go.RowKit Go.Proofs.YtabnmkakgcifoaaDoorW.PrintWords Go.Proofs.YtabnmkakgcifoaaDoorW.PrintLast Go.Proofs.YtabnmkakgcifoaaDoorW.PrintMore
def ref_Text.f (l : List S30) : Option ByteArray := lex_Text.f l
/-- a string's bytes appended, at a step of a region that draws its order -/
theorem step_append_str {P : Program} {w : World} {ops : Array Oper} {o : Oper} {a : Act} {K : Act → World → Prop} {Q : Exit → Act → World → Prop} {E : Prop} (hgd : o.guard = none) (sl x : Operand) (t u : TypeId)
    (ho : o.op = .call { callee := .builtin .append, args := #[sl, x], argTypes := #[t, u] })
    (base : Nat) (e : TypeId) (i : TypeInfo) (ht : P.underlying t = some (.slice e)) (hu : P.underlying u = some .string) (hi : P.info? e = some i) (hz : i.zero = some (.int .u8 0))
    (hsize : i.size = 1) (hby : i.bytes = 1)
    (v : Value) (n : Nat) (xs : List Value) (hs : a.eval sl = v) (hown : w.ownsRow base e 1 v n xs) (s : ByteArray) (hx : a.eval x = .string s)
    (h63 : n + s.size ≤ maxLen) (hbytes : n + s.size ≤ 140737488355328) (hbase : base ≤ w.heap.size)
    (h : ∀ v' w', w'.ownsRow base e 1 v' (n + s.size) (xs ++ Lib.strCells s) → w.grownBy w' v.ownBlock → K (a.put o.dst v') w') :
    if Region.wanted o (yielded ops a.tmps) = true then Oper.wp P o a w K Q else E := by
  have hw : Region.wanted o (yielded ops a.tmps) = true := by simp [Region.wanted, hgd]
  rw [if_pos hw]
  obtain ⟨v', w', hr, h2, h3, -⟩ := Lib.run_append_own_string (P := P) (w := w) base t u o.type e i ht hu hi hz hsize hby v n xs hown s h63 hbytes hbase
  unfold Oper.wp execOp
  simp only [ho, resolve, invoke, builtin, Sem.run_bind, Sem.run_pure, Result.andThen_ok, List.map_toArray, List.map_cons, List.map_nil, hs, hx, hr]
  exact h v' w' h2 h3
def bytesL (l : List UInt8) : List Int := l.map fun b => (b.toNat : Int)
theorem byteCells_nums (l : List UInt8) : Lib.byteCells l = nums .u8 (bytesL l) := by
  simp [Lib.byteCells, nums, bytesL]
theorem strOf_bytesL (l : List UInt8) : strOfNums (bytesL l) = ⟨l.toArray⟩ := by
  simp [strOfNums, bytesL, Function.comp_def]
set_option maxHeartbeats 4000000 in
set_option maxRecDepth 100000 in
theorem ref_Text.calls (A0 : Option Addr) (c0 : Nat) (l0 : List S30) (r : ByteArray) (w : World) (hr0 : Kd.C k30 w A0 l0.length l0) (_hc0 : l0.length ≤ c0) (h : ref_Text.f l0 = some r) :
    Calls Tryd.prog 29 #[.slice A0 l0.length c0] w fun e w' => e = .returned (.string r) ∧ Below w.heap.size w w' := by
  unfold ref_Text.f lex_Text.f at h
  split at h
  · rename_i hh
    obtain ⟨hlen, hll⟩ := hh
    obtain ⟨i0, hi0, hz0, hz1, hz2⟩ := info_parts info5
    have HR := Lib.hid (Option.some.inj h)
    have HR0 := Aside0.mk hr0
    have HLEN := Lib.hid hlen
    clear h hr0 hlen
    have hu30 := Tryd.underlying30
    go_enter Tryd.func29, Tryd.ntmps29
    go_wp2_with fail
    go_loopg [3, 4] (l0.length + 1) (fun kq v3 v4 w' => ∃ i : Nat, v4 = .int .i64 (i : Int) ∧ Aside0 (l0.length - i < kq ∧ i ≤ l0.length) ∧ Aside0 (w'.ownsRow w.heap.size 5 1 v3 (textL (l0.take i)).length (Lib.byteCells (textL (l0.take i)))) ∧ Aside0 (Below w.heap.size w w'))
    case atStart => exact ⟨0, rfl, ⟨by omega, by omega⟩, ⟨by simp [textL, Lib.byteCells]; exact World.ownsRow_nil _ _ _ _⟩, ⟨Below.refl _ _⟩⟩
    case round =>
      obtain ⟨i, rfl, HA, HI, HB⟩ := hrel
      obtain ⟨k1, rfl⟩ : ∃ k1, gk = k1 + 1 := ⟨gk - 1, by have := HA.out.1; omega⟩
      by_cases hlt : i < l0.length
      · have hb : decide ((i : Int) < (l0.length : Int)) = true := by simp; omega
        have hb2 : decide ((0 : Int) ≤ (i : Int)) = true := by simp
        have p0 : (0 : Int) ≤ (i : Int) := by omega
        have q0 : (i : Int) < (l0.length : Int) := by omega
        obtain ⟨ad, e0, hx0, hx1, hx2, hx3⟩ := at_T30 HR0.out (i : Int) p0 q0
        cases e0
        have hlt1 := World.block_lt_of_cell? w _ hx1
        replace hx1 := (HB.out.cell (World.block_lt_of_cell? w _ hx1)).trans hx1
        replace hx2 := (HB.out.cell (World.block_lt_of_cell? w _ hx2)).trans hx2
        clear hx0 hx3
        rw [Int.toNat_natCast] at hx1 hx2
        have HRD := Lib.hid (rd_nat l0 i hlt)
        generalize rd_T30 l0 (i : Int) = x at *
        go_wp2_with fail
        have hsz : (textL (l0.take i)).length + (x.f1.size + x.f2.size) ≤ 140737488351232 := by
          have h1 := textL_take l0 (i + 1)
          rw [HRD.out, textL_snoc, List.length_append, ByteArray.data_append, Array.toList_append, List.length_append, Array.length_toList (xs := x.f1.data), Array.length_toList (xs := x.f2.data)] at h1
          have := HLEN.out
          show _ + (x.f1.data.size + x.f2.data.size) ≤ _
          omega
        have hne : ∀ {W : World} {v : Value} {n : Nat} {xs : List Value}, W.ownsRow w.heap.size 5 1 v n xs → some (ad.add (i * 4)).block ≠ v.ownBlock := fun h e => by
          have := own_base h _ e.symm
          exact absurd hlt1 (by rw [Int.toNat_natCast]; show ¬ (ad.add (i * 4)).block < w.heap.size; omega)
        have hbw : (ad.add (i * 4)).block < wr.heap.size := by
          have := HB.out.size
          rw [Int.toNat_natCast] at hlt1
          have h2 : (ad.add (i * 4)).block < w.heap.size := hlt1
          omega
        have hbz := HB.out.size
        go_region_held3 (fun w' => w'.cell? ⟨(ad.add (i * 4)).block, (ad.add (i * 4)).off + 1, none⟩ = some (.string x.f1) ∧ w'.cell? ⟨(ad.add (i * 4)).block, (ad.add (i * 4)).off + 2, none⟩ = some (.string x.f2))
          (first
            | go_keep
            | (go_split_ands
               refine ⟨?_, ?_⟩
               · (rw [hgrow2.cell_far ⟨(ad.add (i * 4)).block, (ad.add (i * 4)).off + 1, none⟩ hblt2 (hne own1)]; assumption)
               · (rw [hgrow2.cell_far ⟨(ad.add (i * 4)).block, (ad.add (i * 4)).off + 2, none⟩ hblt2 (hne own1)]; assumption))
            | (go_split_ands
               refine ⟨?_, ?_⟩
               · (rw [hgrow.cell_far ⟨(ad.add (i * 4)).block, (ad.add (i * 4)).off + 1, none⟩ hblt (hne hown0)]; assumption)
               · (rw [hgrow.cell_far ⟨(ad.add (i * 4)).block, (ad.add (i * 4)).off + 2, none⟩ hblt (hne hown0)]; assumption)))
          ((first
            | (refine step_append_str ?zg1 (.tmp 11) (.tmp 16) 32 9 ?zo1 w.heap.size 5 i0 Tryd.underlying32 Tryd.underlying9 hi0 hz0 hz1 hz2 u3 _ _ ?zs1 HI.out.drew x.f1 ?zx1 ?zc1 ?zd1 ?ze1 ?_; (case zg1 => rfl); (case zo1 => rfl); (case zs1 => rfl); (case zx1 => rfl); (case zc1 => (unfold maxLen; omega)); (case zd1 => omega); (case ze1 => exact hbz); intro v1 w1 own1 hgrow; have hown0 := HI.out; have hblt : (ad.add (i * 4)).block < wr.drew.heap.size := hbw)
            | (refine step_append_str ?zg2 (.tmp 17) (.tmp 22) 32 9 ?zo2 w.heap.size 5 i0 Tryd.underlying32 Tryd.underlying9 hi0 hz0 hz1 hz2 v1 _ _ ?zs2 own1 x.f2 ?zx2 ?zc2 ?zd2 ?ze2 ?_; (case zg2 => rfl); (case zo2 => rfl); (case zs2 => rfl); (case zx2 => rfl); (case zc2 => (unfold maxLen; omega)); (case zd2 => omega); (case ze2 => exact Nat.le_trans hbz hgrow.size); intro v2 w2 own2 hgrow2; have hblt2 : (ad.add (i * 4)).block < w1.heap.size := Nat.lt_of_lt_of_le hblt hgrow.size)))
        have HI2 : Aside0 (w2.ownsRow w.heap.size 5 1 v2 (textL (l0.take (i + 1))).length (Lib.byteCells (textL (l0.take (i + 1))))) := ⟨by
          have e : Lib.byteCells (textL (l0.take (i + 1))) = Lib.byteCells (textL (l0.take i)) ++ Lib.strCells x.f1 ++ Lib.strCells x.f2 := by
            rw [HRD.out, textL_snoc, ByteArray.data_append, Array.toList_append, Lib.byteCells_append, Lib.byteCells_append, Lib.strCells_eq, Lib.strCells_eq, List.append_assoc]
          have e2 : (textL (l0.take (i + 1))).length = (textL (l0.take i)).length + x.f1.size + x.f2.size := by
            rw [HRD.out, textL_snoc, ByteArray.data_append, Array.toList_append, List.length_append, List.length_append, Array.length_toList (xs := x.f1.data), Array.length_toList (xs := x.f2.data), Nat.add_assoc]
            rfl
          rw [e, e2]
          exact own2⟩
        have HB2 : Aside0 (Below w.heap.size w w2) := ⟨((below_drew1 HB.out).grown hgrow hbz (fun k hk => own_base HI.out k hk)).grown hgrow2 (Nat.le_trans hbz hgrow.size) (fun k hk => own_base own1 k hk)⟩
        clear own1 own2 hgrow hgrow2 hown0 hblt hblt2 hne hbw hbz HI HB
        go_wp2_with fail
        go_roundg k1
        case measure => omega
        case rel => exact ⟨i + 1, by simp, ⟨by have := HA.out.1; omega, by omega⟩, HI2, HB2⟩
      · have hb : decide ((i : Int) < (l0.length : Int)) = false := by simp; omega
        have hown : wr.ownsRow w.heap.size 5 1 u3 (textL l0).length (nums .u8 (bytesL (textL l0))) := by
          have := HI.out
          rw [List.take_of_length_le (by omega), byteCells_nums] at this
          exact this
        have hconv : (convert 32 9 u3).run Tryd.prog wr = .ok (.string r) wr := by
          rw [own_string Tryd.underlying32 Tryd.underlying5 Tryd.underlying9 hown, strOf_bytesL, HR.out]
        clear hown HI
        go_wp2_with fail
        go_ret
        exact ⟨rfl, HB.out⟩
  · cases h
end Go.Proofs.YtabnmkakgcifoaaDoor.PLex

namespace Go.Proofs.YtabnmkakgcifoaaDoor.PLex
open Go.RowKit Go.Proofs.YtabnmkakgcifoaaDoorW.PrintWords Go.Proofs.YtabnmkakgcifoaaDoorW.PrintLast Go.Proofs.YtabnmkakgcifoaaDoorW.PrintMore
attribute [local go_sem] max2_int min2_int max_two min_two max_three min_three max_four min_four   -- for this text's walks alone
set_option linter.unusedVariables false
set_option linter.unusedSimpArgs false

def lw2_LexTexts.f (k : Nat) (l0 : List (S30)) (a1 : Int) : Option (Bool) := (lw2_long.f k l0).bind fun t410 => (if t410 = true then ((lw2_awake.f).bind fun t411 => (some t411)) else ((lex_At.f k l0 a1).bind fun bt412 => ((rf2_At.f k l0 a1).bind fun bt414 => ((lex_Text.f l0).bind fun t416 => ((ref_Text.f l0).bind fun t417 => (if t416.toList = t417.toList then ((lex_Strip.f k l0).bind fun t418 => ((rf2_Strip.f k l0).bind fun t421 => ((rf0_EqStrings.f k t418 t421).bind fun t424 => (if t424 = true then (if bt412.1 = bt414.1 then (if bt412.2 = bt414.2 then ((lw2_awake.f).bind fun t425 => (some t425)) else (some false)) else (some false)) else (some false))))) else (some false)))))))
set_option maxHeartbeats 8000000 in
set_option maxRecDepth 100000 in
theorem lw2_LexTexts.calls (k : Nat) (A0 : Option Addr) (c0 : Nat) (l0 : List (S30)) (a1 : Int) (r : Bool) (w : World) (hr0 : Kd.C k30 w A0 l0.length l0) (hc0 : l0.length ≤ c0) (hGl : Glob w) (h : lw2_LexTexts.f k l0 a1 = some r) :
  Calls Tryd.prog 9 #[.slice A0 l0.length c0, .int .i64 a1] w fun e w' => e = .returned (.bool r) ∧ Below w.heap.size w w' := by
 have HR0 := Aside0.mk hr0
 have HC0 := Aside0.mk hc0
 clear hr0 hc0
 have HB := Aside0.mk (Below.refl w.heap.size w)
 have HGl := Aside0.mk hGl
 clear hGl
 have H : ((lw2_long.f k l0).bind fun t410 => (if t410 = true then ((lw2_awake.f).bind fun t411 => (some t411)) else ((lex_At.f k l0 a1).bind fun bt412 => ((rf2_At.f k l0 a1).bind fun bt414 => ((lex_Text.f l0).bind fun t416 => ((ref_Text.f l0).bind fun t417 => (if t416.toList = t417.toList then ((lex_Strip.f k l0).bind fun t418 => ((rf2_Strip.f k l0).bind fun t421 => ((rf0_EqStrings.f k t418 t421).bind fun t424 => (if t424 = true then (if bt412.1 = bt414.1 then (if bt412.2 = bt414.2 then ((lw2_awake.f).bind fun t425 => (some t425)) else (some false)) else (some false)) else (some false))))) else (some false)))))))) = some r := h
 clear h
 replace H := Option.bind_eq_some_iff.mp H
 obtain ⟨t410, A30, H⟩ := H
 replace H : (if t410 = true then ((lw2_awake.f).bind fun t411 => (some t411)) else ((lex_At.f k l0 a1).bind fun bt412 => ((rf2_At.f k l0 a1).bind fun bt414 => ((lex_Text.f l0).bind fun t416 => ((ref_Text.f l0).bind fun t417 => (if t416.toList = t417.toList then ((lex_Strip.f k l0).bind fun t418 => ((rf2_Strip.f k l0).bind fun t421 => ((rf0_EqStrings.f k t418 t421).bind fun t424 => (if t424 = true then (if bt412.1 = bt414.1 then (if bt412.2 = bt414.2 then ((lw2_awake.f).bind fun t425 => (some t425)) else (some false)) else (some false)) else (some false))))) else (some false))))))) = some r := H
 have A3 := Aside0.mk A30
 clear A30
 by_cases c4 : t410 = true
 ·subst c4
  have H1 : ((lw2_awake.f).bind fun t411 => (some t411)) = some r := by rw [if_pos rfl] at H; exact H
  clear H
  have H := H1
  clear H1
  replace H := Option.bind_eq_some_iff.mp H
  obtain ⟨t411, A50, H⟩ := H
  replace H : (some t411) = some r := H
  have A5 := Aside0.mk A50
  clear A50
  obtain rfl := Option.some.inj H
  go_enter Tryd.func9, Tryd.ntmps9
  go_wp2_with (first | ((with_reducible refine gate_callee (f := 27) rfl ?_); refine goesL_ (some 10) rfl rfl Tryd.func27 (by kernel_rfl) rfl #[.slice A0 l0.length c0] rfl (by (try simp only [List.map_toArray, List.map_cons, List.map_nil]); first | done | rfl | (simp only [List.length_drop, List.length_take]; rfl)) ?_; (with_reducible refine (lw2_long.calls k _ _ l0 true _ ?side1 ?side2 A3.out).mono ?_); (case side1 => repeat (first | exact HR0.out | (with_reducible refine Kd.C_alloc ?_ _) | (with_reducible refine Kd.C_drewN ?_ _) | (with_reducible refine Kd.C_drew ?_))); (case side2 => exact HC0.out); rintro e w' ⟨rfl, ⟨nd, rfl⟩⟩; refine ⟨_, rfl, ?_⟩) | ((with_reducible refine gate_callee (f := 13) rfl ?_); refine goesL_ (some 11) rfl rfl Tryd.func13 (by kernel_rfl) rfl #[] rfl (by (try simp only [List.map_toArray, List.map_cons, List.map_nil]); first | done | rfl | (simp only [List.length_drop, List.length_take]; rfl)) ?_; (with_reducible refine (lw2_awake.calls  t411 _ ?side1 A5.out).mono ?_); (case side1 => exact Glob.below HGl.out (by repeat (first | (with_reducible first | exact HB.out | apply below_alloc | apply pw_below_drewN | apply below_drew1) | exact HB.out))); rintro e w6 ⟨rfl, hb⟩; refine ⟨_, rfl, ?_⟩; have n0_ := Aside0.mk (below_step (by repeat (first | (with_reducible first | exact HB.out | apply below_alloc | apply pw_below_drewN | apply below_drew1) | exact HB.out)) hb); clear HB; have HB := n0_; clear n0_; (try clear hb); (try clear hb2); (try clear hk); (try clear hi)))
  go_ret
  exact ⟨by first | rfl | (simp [errW_none, errW_some] <;> rfl) | (simp [*, errW_none, errW_some] <;> rfl), by repeat (first | (with_reducible first | exact HB.out | apply below_alloc | apply pw_below_drewN | apply below_drew1) | exact HB.out)⟩
 ·replace c4 := Bool.eq_false_iff.mpr c4
  subst c4
  have H1 : ((lex_At.f k l0 a1).bind fun bt412 => ((rf2_At.f k l0 a1).bind fun bt414 => ((lex_Text.f l0).bind fun t416 => ((ref_Text.f l0).bind fun t417 => (if t416.toList = t417.toList then ((lex_Strip.f k l0).bind fun t418 => ((rf2_Strip.f k l0).bind fun t421 => ((rf0_EqStrings.f k t418 t421).bind fun t424 => (if t424 = true then (if bt412.1 = bt414.1 then (if bt412.2 = bt414.2 then ((lw2_awake.f).bind fun t425 => (some t425)) else (some false)) else (some false)) else (some false))))) else (some false)))))) = some r := by rw [if_neg (show ¬ (false = true) by decide)] at H; exact H
  clear H
  have H := H1
  clear H1
  replace H := Option.bind_eq_some_iff.mp H
  obtain ⟨⟨t412, t413⟩, A70, H⟩ := H
  replace H : ((rf2_At.f k l0 a1).bind fun bt414 => ((lex_Text.f l0).bind fun t416 => ((ref_Text.f l0).bind fun t417 => (if t416.toList = t417.toList then ((lex_Strip.f k l0).bind fun t418 => ((rf2_Strip.f k l0).bind fun t421 => ((rf0_EqStrings.f k t418 t421).bind fun t424 => (if t424 = true then (if t412 = bt414.1 then (if t413 = bt414.2 then ((lw2_awake.f).bind fun t425 => (some t425)) else (some false)) else (some false)) else (some false))))) else (some false))))) = some r := H
  have A7 := Aside0.mk A70
  clear A70
  replace H := Option.bind_eq_some_iff.mp H
  obtain ⟨⟨t414, t415⟩, A80, H⟩ := H
  replace H : ((lex_Text.f l0).bind fun t416 => ((ref_Text.f l0).bind fun t417 => (if t416.toList = t417.toList then ((lex_Strip.f k l0).bind fun t418 => ((rf2_Strip.f k l0).bind fun t421 => ((rf0_EqStrings.f k t418 t421).bind fun t424 => (if t424 = true then (if t412 = t414 then (if t413 = t415 then ((lw2_awake.f).bind fun t425 => (some t425)) else (some false)) else (some false)) else (some false))))) else (some false)))) = some r := H
  have A8 := Aside0.mk A80
  clear A80
  replace H := Option.bind_eq_some_iff.mp H
  obtain ⟨t416, A90, H⟩ := H
  replace H : ((ref_Text.f l0).bind fun t417 => (if t416.toList = t417.toList then ((lex_Strip.f k l0).bind fun t418 => ((rf2_Strip.f k l0).bind fun t421 => ((rf0_EqStrings.f k t418 t421).bind fun t424 => (if t424 = true then (if t412 = t414 then (if t413 = t415 then ((lw2_awake.f).bind fun t425 => (some t425)) else (some false)) else (some false)) else (some false))))) else (some false))) = some r := H
  have A9 := Aside0.mk A90
  clear A90
  replace H := Option.bind_eq_some_iff.mp H
  obtain ⟨t417, A100, H⟩ := H
  replace H : (if t416.toList = t417.toList then ((lex_Strip.f k l0).bind fun t418 => ((rf2_Strip.f k l0).bind fun t421 => ((rf0_EqStrings.f k t418 t421).bind fun t424 => (if t424 = true then (if t412 = t414 then (if t413 = t415 then ((lw2_awake.f).bind fun t425 => (some t425)) else (some false)) else (some false)) else (some false))))) else (some false)) = some r := H
  have A10 := Aside0.mk A100
  clear A100
  by_cases c11 : t416.toList = t417.toList
  ·rw [if_pos c11] at H
   have c11b0 : (t416.toList == t417.toList) = true := beq_iff_eq.mpr c11
   have c11b1 : (t416.toList != t417.toList) = false := bne_eq_false_iff_eq.mpr c11
   clear c11
   replace H := Option.bind_eq_some_iff.mp H
   obtain ⟨t418, A120, H⟩ := H
   replace H : ((rf2_Strip.f k l0).bind fun t421 => ((rf0_EqStrings.f k t418 t421).bind fun t424 => (if t424 = true then (if t412 = t414 then (if t413 = t415 then ((lw2_awake.f).bind fun t425 => (some t425)) else (some false)) else (some false)) else (some false)))) = some r := H
   have A12 := Aside0.mk A120
   clear A120
   replace H := Option.bind_eq_some_iff.mp H
   obtain ⟨t421, A130, H⟩ := H
   replace H : ((rf0_EqStrings.f k t418 t421).bind fun t424 => (if t424 = true then (if t412 = t414 then (if t413 = t415 then ((lw2_awake.f).bind fun t425 => (some t425)) else (some false)) else (some false)) else (some false))) = some r := H
   have A13 := Aside0.mk A130
   clear A130
   replace H := Option.bind_eq_some_iff.mp H
   obtain ⟨t424, A140, H⟩ := H
   replace H : (if t424 = true then (if t412 = t414 then (if t413 = t415 then ((lw2_awake.f).bind fun t425 => (some t425)) else (some false)) else (some false)) else (some false)) = some r := H
   have A14 := Aside0.mk A140
   clear A140
   by_cases c15 : t424 = true
   ·subst c15
    have H1 : (if t412 = t414 then (if t413 = t415 then ((lw2_awake.f).bind fun t425 => (some t425)) else (some false)) else (some false)) = some r := by rw [if_pos rfl] at H; exact H
    clear H
    have H := H1
    clear H1
    by_cases c16 : t412 = t414
    ·rw [if_pos c16] at H
     have c16b0 : (t412 == t414) = true := beq_iff_eq.mpr c16
     have c16b1 : (t412 != t414) = false := bne_eq_false_iff_eq.mpr c16
     clear c16
     by_cases c17 : t413 = t415
     ·rw [if_pos c17] at H
      have c17b0 : (t413 == t415) = true := beq_iff_eq.mpr c17
      have c17b1 : (t413 != t415) = false := bne_eq_false_iff_eq.mpr c17
      clear c17
      replace H := Option.bind_eq_some_iff.mp H
      obtain ⟨t425, A180, H⟩ := H
      replace H : (some t425) = some r := H
      have A18 := Aside0.mk A180
      clear A180
      obtain rfl := Option.some.inj H
      go_enter Tryd.func9, Tryd.ntmps9
      go_wp2_with (first | ((with_reducible refine gate_callee (f := 27) rfl ?_); refine goesL_ (some 10) rfl rfl Tryd.func27 (by kernel_rfl) rfl #[.slice A0 l0.length c0] rfl (by (try simp only [List.map_toArray, List.map_cons, List.map_nil]); first | done | rfl | (simp only [List.length_drop, List.length_take]; rfl)) ?_; (with_reducible refine (lw2_long.calls k _ _ l0 false _ ?side1 ?side2 A3.out).mono ?_); (case side1 => repeat (first | exact HR0.out | (with_reducible refine Kd.C_alloc ?_ _) | (with_reducible refine Kd.C_drewN ?_ _) | (with_reducible refine Kd.C_drew ?_))); (case side2 => exact HC0.out); rintro e w' ⟨rfl, ⟨nd, rfl⟩⟩; refine ⟨_, rfl, ?_⟩) | ((with_reducible refine gate_callee (f := 25) rfl ?_); refine goesL_ (some 15) rfl rfl Tryd.func25 (by kernel_rfl) rfl #[.slice A0 l0.length c0, .int .i64 a1] rfl (by (try simp only [List.map_toArray, List.map_cons, List.map_nil]); first | done | rfl | (simp only [List.length_drop, List.length_take]; rfl)) ?_; (with_reducible refine (lex_At.calls k _ _ l0 a1 t412 t413 _ ?side1 ?side2 A7.out).mono ?_); (case side1 => repeat (first | exact HR0.out | (with_reducible refine Kd.C_alloc ?_ _) | (with_reducible refine Kd.C_drewN ?_ _) | (with_reducible refine Kd.C_drew ?_))); (case side2 => exact HC0.out); rintro e w19 ⟨rfl, hb⟩; refine ⟨_, rfl, ?_⟩; have n0_ := Aside0.mk (below_step (by repeat (first | (with_reducible first | exact HB.out | apply below_alloc | apply pw_below_drewN | apply below_drew1) | exact HB.out)) hb); clear HB; have HB := n0_; clear n0_; (try clear hb); (try clear hb2); (try clear hk); (try clear hi)) | ((with_reducible refine gate_callee (f := 28) rfl ?_); refine goesL_ (some 21) rfl rfl Tryd.func28 (by kernel_rfl) rfl #[.slice A0 l0.length c0, .int .i64 a1] rfl (by (try simp only [List.map_toArray, List.map_cons, List.map_nil]); first | done | rfl | (simp only [List.length_drop, List.length_take]; rfl)) ?_; (with_reducible refine (rf2_At.calls k _ _ l0 a1 t414 t415 _ ?side1 ?side2 A8.out).mono ?_); (case side1 => repeat (first | exact (Kd.C_below HR0.out HB.out) | (with_reducible refine Kd.C_alloc ?_ _) | (with_reducible refine Kd.C_drewN ?_ _) | (with_reducible refine Kd.C_drew ?_))); (case side2 => exact HC0.out); rintro e w' ⟨rfl, ⟨nd, rfl⟩⟩; refine ⟨_, rfl, ?_⟩) | ((with_reducible refine gate_callee (f := 26) rfl ?_); refine goesL_ (some 25) rfl rfl Tryd.func26 (by kernel_rfl) rfl #[.slice A0 l0.length c0] rfl (by (try simp only [List.map_toArray, List.map_cons, List.map_nil]); first | done | rfl | (simp only [List.length_drop, List.length_take]; rfl)) ?_; (with_reducible refine (lex_Text.calls _ _ l0 t416 _ ?side1 ?side2 A9.out).mono ?_); (case side1 => repeat (first | exact (Kd.C_below HR0.out (by repeat (first | (with_reducible first | exact HB.out | apply below_alloc | apply pw_below_drewN | apply below_drew1) | exact HB.out))) | (with_reducible refine Kd.C_alloc ?_ _) | (with_reducible refine Kd.C_drewN ?_ _) | (with_reducible refine Kd.C_drew ?_))); (case side2 => exact HC0.out); rintro e w20 ⟨rfl, hb⟩; refine ⟨_, rfl, ?_⟩; have n0_ := Aside0.mk (below_step (by repeat (first | (with_reducible first | exact HB.out | apply below_alloc | apply pw_below_drewN | apply below_drew1) | exact HB.out)) hb); clear HB; have HB := n0_; clear n0_; (try clear hb); (try clear hb2); (try clear hk); (try clear hi)) | ((with_reducible refine gate_callee (f := 29) rfl ?_); refine goesL_ (some 27) rfl rfl Tryd.func29 (by kernel_rfl) rfl #[.slice A0 l0.length c0] rfl (by (try simp only [List.map_toArray, List.map_cons, List.map_nil]); first | done | rfl | (simp only [List.length_drop, List.length_take]; rfl)) ?_; (with_reducible refine (ref_Text.calls _ _ l0 t417 _ ?side1 ?side2 A10.out).mono ?_); (case side1 => repeat (first | exact (Kd.C_below HR0.out HB.out) | (with_reducible refine Kd.C_alloc ?_ _) | (with_reducible refine Kd.C_drewN ?_ _) | (with_reducible refine Kd.C_drew ?_))); (case side2 => exact HC0.out); rintro e w21 ⟨rfl, hb⟩; refine ⟨_, rfl, ?_⟩; have n0_ := Aside0.mk (below_step (by repeat (first | (with_reducible first | exact HB.out | apply below_alloc | apply pw_below_drewN | apply below_drew1) | exact HB.out)) hb); clear HB; have HB := n0_; clear n0_; (try clear hb); (try clear hb2); (try clear hk); (try clear hi)) | (go_at_call 16; (with_reducible refine (lex_Strip.calls k _ _ l0 t418 _ ?side1 ?side2 A12.out).mono ?_); (case side1 => repeat (first | exact (Kd.C_below HR0.out HB.out) | (with_reducible refine Kd.C_alloc ?_ _) | (with_reducible refine Kd.C_drewN ?_ _) | (with_reducible refine Kd.C_drew ?_))); (case side2 => exact HC0.out); rintro e w22 ⟨v419, rfl, ho0, hb⟩; have n0_ := Aside0.mk (Kd.R_lower ho0 (below_size (by repeat (first | (with_reducible first | exact HB.out | apply below_alloc | apply pw_below_drewN | apply below_drew1) | exact HB.out)))); have n1_ := Aside0.mk (below_step (by repeat (first | (with_reducible first | exact HB.out | apply below_alloc | apply pw_below_drewN | apply below_drew1) | exact HB.out)) hb); clear HB; have HO420 := n0_; have HB := n1_; clear n0_ n1_; (try clear hb); (try clear hb2); (try clear hk); (try clear hi); (try clear ho0)) | (go_at_call 30; (with_reducible refine (rf2_Strip.calls k _ _ l0 t421 _ ?side1 ?side2 A13.out).mono ?_); (case side1 => repeat (first | exact (Kd.C_below HR0.out HB.out) | (with_reducible refine Kd.C_alloc ?_ _) | (with_reducible refine Kd.C_drewN ?_ _) | (with_reducible refine Kd.C_drew ?_))); (case side2 => exact HC0.out); rintro e w23 ⟨v422, rfl, ho0, hb⟩; have n0_ := Aside0.mk (Kd.R_elder' (by (with_reducible repeat (first | apply Kd.R_alloc | apply Kd.R_drewN | apply Kd.R_drew)); exact HO420.out) (Kd.R_base ho0) hb); have n1_ := Aside0.mk (Kd.R_lower (Kd.R_new' ho0 (Kd.R_lt (by (with_reducible repeat (first | apply Kd.R_alloc | apply Kd.R_drewN | apply Kd.R_drew)); exact HO420.out))) (below_size (by repeat (first | (with_reducible first | exact HB.out | apply below_alloc | apply pw_below_drewN | apply below_drew1) | exact HB.out)))); have n2_ := Aside0.mk (below_step (by repeat (first | (with_reducible first | exact HB.out | apply below_alloc | apply pw_below_drewN | apply below_drew1) | exact HB.out)) hb); clear HO420; clear HB; have HO420 := n0_; have HO423 := n1_; have HB := n2_; clear n0_ n1_ n2_; (try clear hb); (try clear hb2); (try clear hk); (try clear hi); (try clear ho0); obtain ⟨Ao24, co24, eo24⟩ := Kd.R_slice HO420.out; subst eo24; obtain ⟨Ao25, co25, eo25⟩ := Kd.R_slice HO423.out; subst eo25) | (go_at_call 15; (with_reducible refine (rf0_EqStrings.calls k _ _ t418 _ _ t421 true _ ?side1 ?side2 ?side3 ?side4 A14.out).mono ?_); (case side1 => repeat (first | exact (Kd.R_reads' HO420.out).2.2 | (with_reducible refine Kd.C_alloc ?_ _) | (with_reducible refine Kd.C_drewN ?_ _) | (with_reducible refine Kd.C_drew ?_))); (case side2 => exact (Kd.R_reads' HO420.out).2.1); (case side3 => repeat (first | exact (Kd.R_reads' HO423.out).2.2 | (with_reducible refine Kd.C_alloc ?_ _) | (with_reducible refine Kd.C_drewN ?_ _) | (with_reducible refine Kd.C_drew ?_))); (case side4 => exact (Kd.R_reads' HO423.out).2.1); rintro e w' ⟨rfl, ⟨nd, rfl⟩⟩) | (go_at_call 13; (with_reducible refine (lw2_awake.calls  t425 _ ?side1 A18.out).mono ?_); (case side1 => exact Glob.below HGl.out (by repeat (first | (with_reducible first | exact HB.out | apply below_alloc | apply pw_below_drewN | apply below_drew1) | exact HB.out))); rintro e w26 ⟨rfl, hb⟩; have n0_ := Aside0.mk (Kd.R_below (by (with_reducible repeat (first | apply Kd.R_alloc | apply Kd.R_drewN | apply Kd.R_drew)); exact HO420.out) hb); have n1_ := Aside0.mk (Kd.R_below (by (with_reducible repeat (first | apply Kd.R_alloc | apply Kd.R_drewN | apply Kd.R_drew)); exact HO423.out) hb); have n2_ := Aside0.mk (below_step (by repeat (first | (with_reducible first | exact HB.out | apply below_alloc | apply pw_below_drewN | apply below_drew1) | exact HB.out)) hb); clear HO420; clear HO423; clear HB; have HO420 := n0_; have HO423 := n1_; have HB := n2_; clear n0_ n1_ n2_; (try clear hb); (try clear hb2); (try clear hk); (try clear hi)))
      go_ret
      exact ⟨by first | rfl | (simp [errW_none, errW_some] <;> rfl) | (simp [*, errW_none, errW_some] <;> rfl), by repeat (first | (with_reducible first | exact HB.out | apply below_alloc | apply pw_below_drewN | apply below_drew1) | exact HB.out)⟩
     ·rw [if_neg c17] at H
      have c17b0 : (t413 == t415) = false := beq_eq_false_iff_ne.mpr c17
      have c17b1 : (t413 != t415) = true := bne_iff_ne.mpr c17
      obtain rfl := Option.some.inj H
      go_enter Tryd.func9, Tryd.ntmps9
      go_wp2_with (first | ((with_reducible refine gate_callee (f := 27) rfl ?_); refine goesL_ (some 10) rfl rfl Tryd.func27 (by kernel_rfl) rfl #[.slice A0 l0.length c0] rfl (by (try simp only [List.map_toArray, List.map_cons, List.map_nil]); first | done | rfl | (simp only [List.length_drop, List.length_take]; rfl)) ?_; (with_reducible refine (lw2_long.calls k _ _ l0 false _ ?side1 ?side2 A3.out).mono ?_); (case side1 => repeat (first | exact HR0.out | (with_reducible refine Kd.C_alloc ?_ _) | (with_reducible refine Kd.C_drewN ?_ _) | (with_reducible refine Kd.C_drew ?_))); (case side2 => exact HC0.out); rintro e w' ⟨rfl, ⟨nd, rfl⟩⟩; refine ⟨_, rfl, ?_⟩) | ((with_reducible refine gate_callee (f := 25) rfl ?_); refine goesL_ (some 15) rfl rfl Tryd.func25 (by kernel_rfl) rfl #[.slice A0 l0.length c0, .int .i64 a1] rfl (by (try simp only [List.map_toArray, List.map_cons, List.map_nil]); first | done | rfl | (simp only [List.length_drop, List.length_take]; rfl)) ?_; (with_reducible refine (lex_At.calls k _ _ l0 a1 t412 t413 _ ?side1 ?side2 A7.out).mono ?_); (case side1 => repeat (first | exact HR0.out | (with_reducible refine Kd.C_alloc ?_ _) | (with_reducible refine Kd.C_drewN ?_ _) | (with_reducible refine Kd.C_drew ?_))); (case side2 => exact HC0.out); rintro e w27 ⟨rfl, hb⟩; refine ⟨_, rfl, ?_⟩; have n0_ := Aside0.mk (below_step (by repeat (first | (with_reducible first | exact HB.out | apply below_alloc | apply pw_below_drewN | apply below_drew1) | exact HB.out)) hb); clear HB; have HB := n0_; clear n0_; (try clear hb); (try clear hb2); (try clear hk); (try clear hi)) | ((with_reducible refine gate_callee (f := 28) rfl ?_); refine goesL_ (some 21) rfl rfl Tryd.func28 (by kernel_rfl) rfl #[.slice A0 l0.length c0, .int .i64 a1] rfl (by (try simp only [List.map_toArray, List.map_cons, List.map_nil]); first | done | rfl | (simp only [List.length_drop, List.length_take]; rfl)) ?_; (with_reducible refine (rf2_At.calls k _ _ l0 a1 t414 t415 _ ?side1 ?side2 A8.out).mono ?_); (case side1 => repeat (first | exact (Kd.C_below HR0.out HB.out) | (with_reducible refine Kd.C_alloc ?_ _) | (with_reducible refine Kd.C_drewN ?_ _) | (with_reducible refine Kd.C_drew ?_))); (case side2 => exact HC0.out); rintro e w' ⟨rfl, ⟨nd, rfl⟩⟩; refine ⟨_, rfl, ?_⟩) | ((with_reducible refine gate_callee (f := 26) rfl ?_); refine goesL_ (some 25) rfl rfl Tryd.func26 (by kernel_rfl) rfl #[.slice A0 l0.length c0] rfl (by (try simp only [List.map_toArray, List.map_cons, List.map_nil]); first | done | rfl | (simp only [List.length_drop, List.length_take]; rfl)) ?_; (with_reducible refine (lex_Text.calls _ _ l0 t416 _ ?side1 ?side2 A9.out).mono ?_); (case side1 => repeat (first | exact (Kd.C_below HR0.out (by repeat (first | (with_reducible first | exact HB.out | apply below_alloc | apply pw_below_drewN | apply below_drew1) | exact HB.out))) | (with_reducible refine Kd.C_alloc ?_ _) | (with_reducible refine Kd.C_drewN ?_ _) | (with_reducible refine Kd.C_drew ?_))); (case side2 => exact HC0.out); rintro e w28 ⟨rfl, hb⟩; refine ⟨_, rfl, ?_⟩; have n0_ := Aside0.mk (below_step (by repeat (first | (with_reducible first | exact HB.out | apply below_alloc | apply pw_below_drewN | apply below_drew1) | exact HB.out)) hb); clear HB; have HB := n0_; clear n0_; (try clear hb); (try clear hb2); (try clear hk); (try clear hi)) | ((with_reducible refine gate_callee (f := 29) rfl ?_); refine goesL_ (some 27) rfl rfl Tryd.func29 (by kernel_rfl) rfl #[.slice A0 l0.length c0] rfl (by (try simp only [List.map_toArray, List.map_cons, List.map_nil]); first | done | rfl | (simp only [List.length_drop, List.length_take]; rfl)) ?_; (with_reducible refine (ref_Text.calls _ _ l0 t417 _ ?side1 ?side2 A10.out).mono ?_); (case side1 => repeat (first | exact (Kd.C_below HR0.out HB.out) | (with_reducible refine Kd.C_alloc ?_ _) | (with_reducible refine Kd.C_drewN ?_ _) | (with_reducible refine Kd.C_drew ?_))); (case side2 => exact HC0.out); rintro e w29 ⟨rfl, hb⟩; refine ⟨_, rfl, ?_⟩; have n0_ := Aside0.mk (below_step (by repeat (first | (with_reducible first | exact HB.out | apply below_alloc | apply pw_below_drewN | apply below_drew1) | exact HB.out)) hb); clear HB; have HB := n0_; clear n0_; (try clear hb); (try clear hb2); (try clear hk); (try clear hi)) | (go_at_call 16; (with_reducible refine (lex_Strip.calls k _ _ l0 t418 _ ?side1 ?side2 A12.out).mono ?_); (case side1 => repeat (first | exact (Kd.C_below HR0.out HB.out) | (with_reducible refine Kd.C_alloc ?_ _) | (with_reducible refine Kd.C_drewN ?_ _) | (with_reducible refine Kd.C_drew ?_))); (case side2 => exact HC0.out); rintro e w30 ⟨v419, rfl, ho0, hb⟩; have n0_ := Aside0.mk (Kd.R_lower ho0 (below_size (by repeat (first | (with_reducible first | exact HB.out | apply below_alloc | apply pw_below_drewN | apply below_drew1) | exact HB.out)))); have n1_ := Aside0.mk (below_step (by repeat (first | (with_reducible first | exact HB.out | apply below_alloc | apply pw_below_drewN | apply below_drew1) | exact HB.out)) hb); clear HB; have HO420 := n0_; have HB := n1_; clear n0_ n1_; (try clear hb); (try clear hb2); (try clear hk); (try clear hi); (try clear ho0)) | (go_at_call 30; (with_reducible refine (rf2_Strip.calls k _ _ l0 t421 _ ?side1 ?side2 A13.out).mono ?_); (case side1 => repeat (first | exact (Kd.C_below HR0.out HB.out) | (with_reducible refine Kd.C_alloc ?_ _) | (with_reducible refine Kd.C_drewN ?_ _) | (with_reducible refine Kd.C_drew ?_))); (case side2 => exact HC0.out); rintro e w31 ⟨v422, rfl, ho0, hb⟩; have n0_ := Aside0.mk (Kd.R_elder' (by (with_reducible repeat (first | apply Kd.R_alloc | apply Kd.R_drewN | apply Kd.R_drew)); exact HO420.out) (Kd.R_base ho0) hb); have n1_ := Aside0.mk (Kd.R_lower (Kd.R_new' ho0 (Kd.R_lt (by (with_reducible repeat (first | apply Kd.R_alloc | apply Kd.R_drewN | apply Kd.R_drew)); exact HO420.out))) (below_size (by repeat (first | (with_reducible first | exact HB.out | apply below_alloc | apply pw_below_drewN | apply below_drew1) | exact HB.out)))); have n2_ := Aside0.mk (below_step (by repeat (first | (with_reducible first | exact HB.out | apply below_alloc | apply pw_below_drewN | apply below_drew1) | exact HB.out)) hb); clear HO420; clear HB; have HO420 := n0_; have HO423 := n1_; have HB := n2_; clear n0_ n1_ n2_; (try clear hb); (try clear hb2); (try clear hk); (try clear hi); (try clear ho0); obtain ⟨Ao32, co32, eo32⟩ := Kd.R_slice HO420.out; subst eo32; obtain ⟨Ao33, co33, eo33⟩ := Kd.R_slice HO423.out; subst eo33) | (go_at_call 15; (with_reducible refine (rf0_EqStrings.calls k _ _ t418 _ _ t421 true _ ?side1 ?side2 ?side3 ?side4 A14.out).mono ?_); (case side1 => repeat (first | exact (Kd.R_reads' HO420.out).2.2 | (with_reducible refine Kd.C_alloc ?_ _) | (with_reducible refine Kd.C_drewN ?_ _) | (with_reducible refine Kd.C_drew ?_))); (case side2 => exact (Kd.R_reads' HO420.out).2.1); (case side3 => repeat (first | exact (Kd.R_reads' HO423.out).2.2 | (with_reducible refine Kd.C_alloc ?_ _) | (with_reducible refine Kd.C_drewN ?_ _) | (with_reducible refine Kd.C_drew ?_))); (case side4 => exact (Kd.R_reads' HO423.out).2.1); rintro e w' ⟨rfl, ⟨nd, rfl⟩⟩))
      go_ret
      exact ⟨by first | rfl | (simp [errW_none, errW_some] <;> rfl) | (simp [*, errW_none, errW_some] <;> rfl), by repeat (first | (with_reducible first | exact HB.out | apply below_alloc | apply pw_below_drewN | apply below_drew1) | exact HB.out)⟩
    ·rw [if_neg c16] at H
     have c16b0 : (t412 == t414) = false := beq_eq_false_iff_ne.mpr c16
     have c16b1 : (t412 != t414) = true := bne_iff_ne.mpr c16
     obtain rfl := Option.some.inj H
     go_enter Tryd.func9, Tryd.ntmps9
     go_wp2_with (first | ((with_reducible refine gate_callee (f := 27) rfl ?_); refine goesL_ (some 10) rfl rfl Tryd.func27 (by kernel_rfl) rfl #[.slice A0 l0.length c0] rfl (by (try simp only [List.map_toArray, List.map_cons, List.map_nil]); first | done | rfl | (simp only [List.length_drop, List.length_take]; rfl)) ?_; (with_reducible refine (lw2_long.calls k _ _ l0 false _ ?side1 ?side2 A3.out).mono ?_); (case side1 => repeat (first | exact HR0.out | (with_reducible refine Kd.C_alloc ?_ _) | (with_reducible refine Kd.C_drewN ?_ _) | (with_reducible refine Kd.C_drew ?_))); (case side2 => exact HC0.out); rintro e w' ⟨rfl, ⟨nd, rfl⟩⟩; refine ⟨_, rfl, ?_⟩) | ((with_reducible refine gate_callee (f := 25) rfl ?_); refine goesL_ (some 15) rfl rfl Tryd.func25 (by kernel_rfl) rfl #[.slice A0 l0.length c0, .int .i64 a1] rfl (by (try simp only [List.map_toArray, List.map_cons, List.map_nil]); first | done | rfl | (simp only [List.length_drop, List.length_take]; rfl)) ?_; (with_reducible refine (lex_At.calls k _ _ l0 a1 t412 t413 _ ?side1 ?side2 A7.out).mono ?_); (case side1 => repeat (first | exact HR0.out | (with_reducible refine Kd.C_alloc ?_ _) | (with_reducible refine Kd.C_drewN ?_ _) | (with_reducible refine Kd.C_drew ?_))); (case side2 => exact HC0.out); rintro e w34 ⟨rfl, hb⟩; refine ⟨_, rfl, ?_⟩; have n0_ := Aside0.mk (below_step (by repeat (first | (with_reducible first | exact HB.out | apply below_alloc | apply pw_below_drewN | apply below_drew1) | exact HB.out)) hb); clear HB; have HB := n0_; clear n0_; (try clear hb); (try clear hb2); (try clear hk); (try clear hi)) | ((with_reducible refine gate_callee (f := 28) rfl ?_); refine goesL_ (some 21) rfl rfl Tryd.func28 (by kernel_rfl) rfl #[.slice A0 l0.length c0, .int .i64 a1] rfl (by (try simp only [List.map_toArray, List.map_cons, List.map_nil]); first | done | rfl | (simp only [List.length_drop, List.length_take]; rfl)) ?_; (with_reducible refine (rf2_At.calls k _ _ l0 a1 t414 t415 _ ?side1 ?side2 A8.out).mono ?_); (case side1 => repeat (first | exact (Kd.C_below HR0.out HB.out) | (with_reducible refine Kd.C_alloc ?_ _) | (with_reducible refine Kd.C_drewN ?_ _) | (with_reducible refine Kd.C_drew ?_))); (case side2 => exact HC0.out); rintro e w' ⟨rfl, ⟨nd, rfl⟩⟩; refine ⟨_, rfl, ?_⟩) | ((with_reducible refine gate_callee (f := 26) rfl ?_); refine goesL_ (some 25) rfl rfl Tryd.func26 (by kernel_rfl) rfl #[.slice A0 l0.length c0] rfl (by (try simp only [List.map_toArray, List.map_cons, List.map_nil]); first | done | rfl | (simp only [List.length_drop, List.length_take]; rfl)) ?_; (with_reducible refine (lex_Text.calls _ _ l0 t416 _ ?side1 ?side2 A9.out).mono ?_); (case side1 => repeat (first | exact (Kd.C_below HR0.out (by repeat (first | (with_reducible first | exact HB.out | apply below_alloc | apply pw_below_drewN | apply below_drew1) | exact HB.out))) | (with_reducible refine Kd.C_alloc ?_ _) | (with_reducible refine Kd.C_drewN ?_ _) | (with_reducible refine Kd.C_drew ?_))); (case side2 => exact HC0.out); rintro e w35 ⟨rfl, hb⟩; refine ⟨_, rfl, ?_⟩; have n0_ := Aside0.mk (below_step (by repeat (first | (with_reducible first | exact HB.out | apply below_alloc | apply pw_below_drewN | apply below_drew1) | exact HB.out)) hb); clear HB; have HB := n0_; clear n0_; (try clear hb); (try clear hb2); (try clear hk); (try clear hi)) | ((with_reducible refine gate_callee (f := 29) rfl ?_); refine goesL_ (some 27) rfl rfl Tryd.func29 (by kernel_rfl) rfl #[.slice A0 l0.length c0] rfl (by (try simp only [List.map_toArray, List.map_cons, List.map_nil]); first | done | rfl | (simp only [List.length_drop, List.length_take]; rfl)) ?_; (with_reducible refine (ref_Text.calls _ _ l0 t417 _ ?side1 ?side2 A10.out).mono ?_); (case side1 => repeat (first | exact (Kd.C_below HR0.out HB.out) | (with_reducible refine Kd.C_alloc ?_ _) | (with_reducible refine Kd.C_drewN ?_ _) | (with_reducible refine Kd.C_drew ?_))); (case side2 => exact HC0.out); rintro e w36 ⟨rfl, hb⟩; refine ⟨_, rfl, ?_⟩; have n0_ := Aside0.mk (below_step (by repeat (first | (with_reducible first | exact HB.out | apply below_alloc | apply pw_below_drewN | apply below_drew1) | exact HB.out)) hb); clear HB; have HB := n0_; clear n0_; (try clear hb); (try clear hb2); (try clear hk); (try clear hi)) | (go_at_call 16; (with_reducible refine (lex_Strip.calls k _ _ l0 t418 _ ?side1 ?side2 A12.out).mono ?_); (case side1 => repeat (first | exact (Kd.C_below HR0.out HB.out) | (with_reducible refine Kd.C_alloc ?_ _) | (with_reducible refine Kd.C_drewN ?_ _) | (with_reducible refine Kd.C_drew ?_))); (case side2 => exact HC0.out); rintro e w37 ⟨v419, rfl, ho0, hb⟩; have n0_ := Aside0.mk (Kd.R_lower ho0 (below_size (by repeat (first | (with_reducible first | exact HB.out | apply below_alloc | apply pw_below_drewN | apply below_drew1) | exact HB.out)))); have n1_ := Aside0.mk (below_step (by repeat (first | (with_reducible first | exact HB.out | apply below_alloc | apply pw_below_drewN | apply below_drew1) | exact HB.out)) hb); clear HB; have HO420 := n0_; have HB := n1_; clear n0_ n1_; (try clear hb); (try clear hb2); (try clear hk); (try clear hi); (try clear ho0)) | (go_at_call 30; (with_reducible refine (rf2_Strip.calls k _ _ l0 t421 _ ?side1 ?side2 A13.out).mono ?_); (case side1 => repeat (first | exact (Kd.C_below HR0.out HB.out) | (with_reducible refine Kd.C_alloc ?_ _) | (with_reducible refine Kd.C_drewN ?_ _) | (with_reducible refine Kd.C_drew ?_))); (case side2 => exact HC0.out); rintro e w38 ⟨v422, rfl, ho0, hb⟩; have n0_ := Aside0.mk (Kd.R_elder' (by (with_reducible repeat (first | apply Kd.R_alloc | apply Kd.R_drewN | apply Kd.R_drew)); exact HO420.out) (Kd.R_base ho0) hb); have n1_ := Aside0.mk (Kd.R_lower (Kd.R_new' ho0 (Kd.R_lt (by (with_reducible repeat (first | apply Kd.R_alloc | apply Kd.R_drewN | apply Kd.R_drew)); exact HO420.out))) (below_size (by repeat (first | (with_reducible first | exact HB.out | apply below_alloc | apply pw_below_drewN | apply below_drew1) | exact HB.out)))); have n2_ := Aside0.mk (below_step (by repeat (first | (with_reducible first | exact HB.out | apply below_alloc | apply pw_below_drewN | apply below_drew1) | exact HB.out)) hb); clear HO420; clear HB; have HO420 := n0_; have HO423 := n1_; have HB := n2_; clear n0_ n1_ n2_; (try clear hb); (try clear hb2); (try clear hk); (try clear hi); (try clear ho0); obtain ⟨Ao39, co39, eo39⟩ := Kd.R_slice HO420.out; subst eo39; obtain ⟨Ao40, co40, eo40⟩ := Kd.R_slice HO423.out; subst eo40) | (go_at_call 15; (with_reducible refine (rf0_EqStrings.calls k _ _ t418 _ _ t421 true _ ?side1 ?side2 ?side3 ?side4 A14.out).mono ?_); (case side1 => repeat (first | exact (Kd.R_reads' HO420.out).2.2 | (with_reducible refine Kd.C_alloc ?_ _) | (with_reducible refine Kd.C_drewN ?_ _) | (with_reducible refine Kd.C_drew ?_))); (case side2 => exact (Kd.R_reads' HO420.out).2.1); (case side3 => repeat (first | exact (Kd.R_reads' HO423.out).2.2 | (with_reducible refine Kd.C_alloc ?_ _) | (with_reducible refine Kd.C_drewN ?_ _) | (with_reducible refine Kd.C_drew ?_))); (case side4 => exact (Kd.R_reads' HO423.out).2.1); rintro e w' ⟨rfl, ⟨nd, rfl⟩⟩))
     go_ret
     exact ⟨by first | rfl | (simp [errW_none, errW_some] <;> rfl) | (simp [*, errW_none, errW_some] <;> rfl), by repeat (first | (with_reducible first | exact HB.out | apply below_alloc | apply pw_below_drewN | apply below_drew1) | exact HB.out)⟩
   ·replace c15 := Bool.eq_false_iff.mpr c15
    subst c15
    have H1 : (some false) = some r := by rw [if_neg (show ¬ (false = true) by decide)] at H; exact H
    clear H
    have H := H1
    clear H1
    obtain rfl := Option.some.inj H
    go_enter Tryd.func9, Tryd.ntmps9
    go_wp2_with (first | ((with_reducible refine gate_callee (f := 27) rfl ?_); refine goesL_ (some 10) rfl rfl Tryd.func27 (by kernel_rfl) rfl #[.slice A0 l0.length c0] rfl (by (try simp only [List.map_toArray, List.map_cons, List.map_nil]); first | done | rfl | (simp only [List.length_drop, List.length_take]; rfl)) ?_; (with_reducible refine (lw2_long.calls k _ _ l0 false _ ?side1 ?side2 A3.out).mono ?_); (case side1 => repeat (first | exact HR0.out | (with_reducible refine Kd.C_alloc ?_ _) | (with_reducible refine Kd.C_drewN ?_ _) | (with_reducible refine Kd.C_drew ?_))); (case side2 => exact HC0.out); rintro e w' ⟨rfl, ⟨nd, rfl⟩⟩; refine ⟨_, rfl, ?_⟩) | ((with_reducible refine gate_callee (f := 25) rfl ?_); refine goesL_ (some 15) rfl rfl Tryd.func25 (by kernel_rfl) rfl #[.slice A0 l0.length c0, .int .i64 a1] rfl (by (try simp only [List.map_toArray, List.map_cons, List.map_nil]); first | done | rfl | (simp only [List.length_drop, List.length_take]; rfl)) ?_; (with_reducible refine (lex_At.calls k _ _ l0 a1 t412 t413 _ ?side1 ?side2 A7.out).mono ?_); (case side1 => repeat (first | exact HR0.out | (with_reducible refine Kd.C_alloc ?_ _) | (with_reducible refine Kd.C_drewN ?_ _) | (with_reducible refine Kd.C_drew ?_))); (case side2 => exact HC0.out); rintro e w41 ⟨rfl, hb⟩; refine ⟨_, rfl, ?_⟩; have n0_ := Aside0.mk (below_step (by repeat (first | (with_reducible first | exact HB.out | apply below_alloc | apply pw_below_drewN | apply below_drew1) | exact HB.out)) hb); clear HB; have HB := n0_; clear n0_; (try clear hb); (try clear hb2); (try clear hk); (try clear hi)) | ((with_reducible refine gate_callee (f := 28) rfl ?_); refine goesL_ (some 21) rfl rfl Tryd.func28 (by kernel_rfl) rfl #[.slice A0 l0.length c0, .int .i64 a1] rfl (by (try simp only [List.map_toArray, List.map_cons, List.map_nil]); first | done | rfl | (simp only [List.length_drop, List.length_take]; rfl)) ?_; (with_reducible refine (rf2_At.calls k _ _ l0 a1 t414 t415 _ ?side1 ?side2 A8.out).mono ?_); (case side1 => repeat (first | exact (Kd.C_below HR0.out HB.out) | (with_reducible refine Kd.C_alloc ?_ _) | (with_reducible refine Kd.C_drewN ?_ _) | (with_reducible refine Kd.C_drew ?_))); (case side2 => exact HC0.out); rintro e w' ⟨rfl, ⟨nd, rfl⟩⟩; refine ⟨_, rfl, ?_⟩) | ((with_reducible refine gate_callee (f := 26) rfl ?_); refine goesL_ (some 25) rfl rfl Tryd.func26 (by kernel_rfl) rfl #[.slice A0 l0.length c0] rfl (by (try simp only [List.map_toArray, List.map_cons, List.map_nil]); first | done | rfl | (simp only [List.length_drop, List.length_take]; rfl)) ?_; (with_reducible refine (lex_Text.calls _ _ l0 t416 _ ?side1 ?side2 A9.out).mono ?_); (case side1 => repeat (first | exact (Kd.C_below HR0.out (by repeat (first | (with_reducible first | exact HB.out | apply below_alloc | apply pw_below_drewN | apply below_drew1) | exact HB.out))) | (with_reducible refine Kd.C_alloc ?_ _) | (with_reducible refine Kd.C_drewN ?_ _) | (with_reducible refine Kd.C_drew ?_))); (case side2 => exact HC0.out); rintro e w42 ⟨rfl, hb⟩; refine ⟨_, rfl, ?_⟩; have n0_ := Aside0.mk (below_step (by repeat (first | (with_reducible first | exact HB.out | apply below_alloc | apply pw_below_drewN | apply below_drew1) | exact HB.out)) hb); clear HB; have HB := n0_; clear n0_; (try clear hb); (try clear hb2); (try clear hk); (try clear hi)) | ((with_reducible refine gate_callee (f := 29) rfl ?_); refine goesL_ (some 27) rfl rfl Tryd.func29 (by kernel_rfl) rfl #[.slice A0 l0.length c0] rfl (by (try simp only [List.map_toArray, List.map_cons, List.map_nil]); first | done | rfl | (simp only [List.length_drop, List.length_take]; rfl)) ?_; (with_reducible refine (ref_Text.calls _ _ l0 t417 _ ?side1 ?side2 A10.out).mono ?_); (case side1 => repeat (first | exact (Kd.C_below HR0.out HB.out) | (with_reducible refine Kd.C_alloc ?_ _) | (with_reducible refine Kd.C_drewN ?_ _) | (with_reducible refine Kd.C_drew ?_))); (case side2 => exact HC0.out); rintro e w43 ⟨rfl, hb⟩; refine ⟨_, rfl, ?_⟩; have n0_ := Aside0.mk (below_step (by repeat (first | (with_reducible first | exact HB.out | apply below_alloc | apply pw_below_drewN | apply below_drew1) | exact HB.out)) hb); clear HB; have HB := n0_; clear n0_; (try clear hb); (try clear hb2); (try clear hk); (try clear hi)) | (go_at_call 16; (with_reducible refine (lex_Strip.calls k _ _ l0 t418 _ ?side1 ?side2 A12.out).mono ?_); (case side1 => repeat (first | exact (Kd.C_below HR0.out HB.out) | (with_reducible refine Kd.C_alloc ?_ _) | (with_reducible refine Kd.C_drewN ?_ _) | (with_reducible refine Kd.C_drew ?_))); (case side2 => exact HC0.out); rintro e w44 ⟨v419, rfl, ho0, hb⟩; have n0_ := Aside0.mk (Kd.R_lower ho0 (below_size (by repeat (first | (with_reducible first | exact HB.out | apply below_alloc | apply pw_below_drewN | apply below_drew1) | exact HB.out)))); have n1_ := Aside0.mk (below_step (by repeat (first | (with_reducible first | exact HB.out | apply below_alloc | apply pw_below_drewN | apply below_drew1) | exact HB.out)) hb); clear HB; have HO420 := n0_; have HB := n1_; clear n0_ n1_; (try clear hb); (try clear hb2); (try clear hk); (try clear hi); (try clear ho0)) | (go_at_call 30; (with_reducible refine (rf2_Strip.calls k _ _ l0 t421 _ ?side1 ?side2 A13.out).mono ?_); (case side1 => repeat (first | exact (Kd.C_below HR0.out HB.out) | (with_reducible refine Kd.C_alloc ?_ _) | (with_reducible refine Kd.C_drewN ?_ _) | (with_reducible refine Kd.C_drew ?_))); (case side2 => exact HC0.out); rintro e w45 ⟨v422, rfl, ho0, hb⟩; have n0_ := Aside0.mk (Kd.R_elder' (by (with_reducible repeat (first | apply Kd.R_alloc | apply Kd.R_drewN | apply Kd.R_drew)); exact HO420.out) (Kd.R_base ho0) hb); have n1_ := Aside0.mk (Kd.R_lower (Kd.R_new' ho0 (Kd.R_lt (by (with_reducible repeat (first | apply Kd.R_alloc | apply Kd.R_drewN | apply Kd.R_drew)); exact HO420.out))) (below_size (by repeat (first | (with_reducible first | exact HB.out | apply below_alloc | apply pw_below_drewN | apply below_drew1) | exact HB.out)))); have n2_ := Aside0.mk (below_step (by repeat (first | (with_reducible first | exact HB.out | apply below_alloc | apply pw_below_drewN | apply below_drew1) | exact HB.out)) hb); clear HO420; clear HB; have HO420 := n0_; have HO423 := n1_; have HB := n2_; clear n0_ n1_ n2_; (try clear hb); (try clear hb2); (try clear hk); (try clear hi); (try clear ho0); obtain ⟨Ao46, co46, eo46⟩ := Kd.R_slice HO420.out; subst eo46; obtain ⟨Ao47, co47, eo47⟩ := Kd.R_slice HO423.out; subst eo47) | (go_at_call 15; (with_reducible refine (rf0_EqStrings.calls k _ _ t418 _ _ t421 false _ ?side1 ?side2 ?side3 ?side4 A14.out).mono ?_); (case side1 => repeat (first | exact (Kd.R_reads' HO420.out).2.2 | (with_reducible refine Kd.C_alloc ?_ _) | (with_reducible refine Kd.C_drewN ?_ _) | (with_reducible refine Kd.C_drew ?_))); (case side2 => exact (Kd.R_reads' HO420.out).2.1); (case side3 => repeat (first | exact (Kd.R_reads' HO423.out).2.2 | (with_reducible refine Kd.C_alloc ?_ _) | (with_reducible refine Kd.C_drewN ?_ _) | (with_reducible refine Kd.C_drew ?_))); (case side4 => exact (Kd.R_reads' HO423.out).2.1); rintro e w' ⟨rfl, ⟨nd, rfl⟩⟩))
    go_ret
    exact ⟨by first | rfl | (simp [errW_none, errW_some] <;> rfl) | (simp [*, errW_none, errW_some] <;> rfl), by repeat (first | (with_reducible first | exact HB.out | apply below_alloc | apply pw_below_drewN | apply below_drew1) | exact HB.out)⟩
  ·rw [if_neg c11] at H
   have c11b0 : (t416.toList == t417.toList) = false := beq_eq_false_iff_ne.mpr c11
   have c11b1 : (t416.toList != t417.toList) = true := bne_iff_ne.mpr c11
   obtain rfl := Option.some.inj H
   go_enter Tryd.func9, Tryd.ntmps9
   go_wp2_with (first | ((with_reducible refine gate_callee (f := 27) rfl ?_); refine goesL_ (some 10) rfl rfl Tryd.func27 (by kernel_rfl) rfl #[.slice A0 l0.length c0] rfl (by (try simp only [List.map_toArray, List.map_cons, List.map_nil]); first | done | rfl | (simp only [List.length_drop, List.length_take]; rfl)) ?_; (with_reducible refine (lw2_long.calls k _ _ l0 false _ ?side1 ?side2 A3.out).mono ?_); (case side1 => repeat (first | exact HR0.out | (with_reducible refine Kd.C_alloc ?_ _) | (with_reducible refine Kd.C_drewN ?_ _) | (with_reducible refine Kd.C_drew ?_))); (case side2 => exact HC0.out); rintro e w' ⟨rfl, ⟨nd, rfl⟩⟩; refine ⟨_, rfl, ?_⟩) | ((with_reducible refine gate_callee (f := 25) rfl ?_); refine goesL_ (some 15) rfl rfl Tryd.func25 (by kernel_rfl) rfl #[.slice A0 l0.length c0, .int .i64 a1] rfl (by (try simp only [List.map_toArray, List.map_cons, List.map_nil]); first | done | rfl | (simp only [List.length_drop, List.length_take]; rfl)) ?_; (with_reducible refine (lex_At.calls k _ _ l0 a1 t412 t413 _ ?side1 ?side2 A7.out).mono ?_); (case side1 => repeat (first | exact HR0.out | (with_reducible refine Kd.C_alloc ?_ _) | (with_reducible refine Kd.C_drewN ?_ _) | (with_reducible refine Kd.C_drew ?_))); (case side2 => exact HC0.out); rintro e w48 ⟨rfl, hb⟩; refine ⟨_, rfl, ?_⟩; have n0_ := Aside0.mk (below_step (by repeat (first | (with_reducible first | exact HB.out | apply below_alloc | apply pw_below_drewN | apply below_drew1) | exact HB.out)) hb); clear HB; have HB := n0_; clear n0_; (try clear hb); (try clear hb2); (try clear hk); (try clear hi)) | ((with_reducible refine gate_callee (f := 28) rfl ?_); refine goesL_ (some 21) rfl rfl Tryd.func28 (by kernel_rfl) rfl #[.slice A0 l0.length c0, .int .i64 a1] rfl (by (try simp only [List.map_toArray, List.map_cons, List.map_nil]); first | done | rfl | (simp only [List.length_drop, List.length_take]; rfl)) ?_; (with_reducible refine (rf2_At.calls k _ _ l0 a1 t414 t415 _ ?side1 ?side2 A8.out).mono ?_); (case side1 => repeat (first | exact (Kd.C_below HR0.out HB.out) | (with_reducible refine Kd.C_alloc ?_ _) | (with_reducible refine Kd.C_drewN ?_ _) | (with_reducible refine Kd.C_drew ?_))); (case side2 => exact HC0.out); rintro e w' ⟨rfl, ⟨nd, rfl⟩⟩; refine ⟨_, rfl, ?_⟩) | ((with_reducible refine gate_callee (f := 26) rfl ?_); refine goesL_ (some 25) rfl rfl Tryd.func26 (by kernel_rfl) rfl #[.slice A0 l0.length c0] rfl (by (try simp only [List.map_toArray, List.map_cons, List.map_nil]); first | done | rfl | (simp only [List.length_drop, List.length_take]; rfl)) ?_; (with_reducible refine (lex_Text.calls _ _ l0 t416 _ ?side1 ?side2 A9.out).mono ?_); (case side1 => repeat (first | exact (Kd.C_below HR0.out (by repeat (first | (with_reducible first | exact HB.out | apply below_alloc | apply pw_below_drewN | apply below_drew1) | exact HB.out))) | (with_reducible refine Kd.C_alloc ?_ _) | (with_reducible refine Kd.C_drewN ?_ _) | (with_reducible refine Kd.C_drew ?_))); (case side2 => exact HC0.out); rintro e w49 ⟨rfl, hb⟩; refine ⟨_, rfl, ?_⟩; have n0_ := Aside0.mk (below_step (by repeat (first | (with_reducible first | exact HB.out | apply below_alloc | apply pw_below_drewN | apply below_drew1) | exact HB.out)) hb); clear HB; have HB := n0_; clear n0_; (try clear hb); (try clear hb2); (try clear hk); (try clear hi)) | ((with_reducible refine gate_callee (f := 29) rfl ?_); refine goesL_ (some 27) rfl rfl Tryd.func29 (by kernel_rfl) rfl #[.slice A0 l0.length c0] rfl (by (try simp only [List.map_toArray, List.map_cons, List.map_nil]); first | done | rfl | (simp only [List.length_drop, List.length_take]; rfl)) ?_; (with_reducible refine (ref_Text.calls _ _ l0 t417 _ ?side1 ?side2 A10.out).mono ?_); (case side1 => repeat (first | exact (Kd.C_below HR0.out HB.out) | (with_reducible refine Kd.C_alloc ?_ _) | (with_reducible refine Kd.C_drewN ?_ _) | (with_reducible refine Kd.C_drew ?_))); (case side2 => exact HC0.out); rintro e w50 ⟨rfl, hb⟩; refine ⟨_, rfl, ?_⟩; have n0_ := Aside0.mk (below_step (by repeat (first | (with_reducible first | exact HB.out | apply below_alloc | apply pw_below_drewN | apply below_drew1) | exact HB.out)) hb); clear HB; have HB := n0_; clear n0_; (try clear hb); (try clear hb2); (try clear hk); (try clear hi)))
   go_ret
   exact ⟨by first | rfl | (simp [errW_none, errW_some] <;> rfl) | (simp [*, errW_none, errW_some] <;> rfl), by repeat (first | (with_reducible first | exact HB.out | apply below_alloc | apply pw_below_drewN | apply below_drew1) | exact HB.out)⟩

end Go.Proofs.YtabnmkakgcifoaaDoor.PLex

namespace Go.Proofs.YtabnmkakgcifoaaDoor.PLex
open Go.RowKit Go.Proofs.YtabnmkakgcifoaaDoorW.PrintWords Go.Proofs.YtabnmkakgcifoaaDoorW.PrintLast Go.Proofs.YtabnmkakgcifoaaDoorW.PrintMore
theorem rstrip_ev (l : List S30) (hl : l.length ≤ 1000000000) : Ev (fun k => rf2_Strip.f k l) ((l.filter keepS).map (·.f2)) := by
  have h : ∀ (m i : Nat) (outs : List ByteArray), l.length < i + m → i ≤ l.length → outs.length ≤ i → Ev (fun k => rf2_Strip.l0 k l outs i) (outs ++ ((l.drop i).filter keepS).map (·.f2)) := by
    intro m
    induction m with
    | zero => intro i outs h1 h2; omega
    | succ m ih =>
      intro i outs h1 h2 h3
      rcases Nat.lt_or_ge i l.length with hi | hi
      · have hw := Aside0.mk (wsucc i (by omega))
        have hr := rd_at l i hi
        rw [List.drop_eq_getElem_cons hi, List.filter_cons]
        by_cases h7 : l[i].f0 = 7
        · rw [if_neg (by simp [keepS, h7])]
          refine Ev.step (f := fun k => rf2_Strip.l0 k l outs ((i + 1 : Nat) : Int)) (fun k => ?_) (ih (i + 1) outs (by omega) (by omega) (by omega))
          rw [rf2_Strip.l0, if_pos (by omega), if_pos (by omega), hr, if_pos h7, hw.out]
        · by_cases h0 : l[i].f0 = 0
          · rw [if_neg (by simp [keepS, h0])]
            refine Ev.step (f := fun k => rf2_Strip.l0 k l outs ((i + 1 : Nat) : Int)) (fun k => ?_) (ih (i + 1) outs (by omega) (by omega) (by omega))
            rw [rf2_Strip.l0, if_pos (by omega), if_pos (by omega), hr, if_neg h7, if_pos h0, hw.out]
          · rw [if_pos (by simp [keepS, h7, h0]), List.map_cons]
            have e := ih (i + 1) (outs ++ [l[i].f2]) (by omega) (by omega) (by rw [List.length_append, List.length_singleton]; omega)
            rw [List.append_assoc, List.singleton_append] at e
            refine Ev.step (f := fun k => rf2_Strip.l0 k l (outs ++ [l[i].f2]) ((i + 1 : Nat) : Int)) (fun k => ?_) e
            rw [rf2_Strip.l0, if_pos (by omega), if_pos (by omega), hr, if_neg h7, if_neg h0, if_pos (by omega), hw.out]
      · rw [List.drop_of_length_le hi, List.filter_nil, List.map_nil, List.append_nil]
        refine Ev.step (fun k => ?_) (Ev.now _)
        rw [rf2_Strip.l0, if_neg (by omega)]
  exact Ev.congr (fun k => by unfold rf2_Strip.f; rfl) (h (l.length + 1) 0 [] (by omega) (by omega) (by simp))
/-- how many bytes stand ahead of a token -/
def st (l : List S30) (i : Nat) : Nat := (textL (l.take i)).length
theorem st_zero (l : List S30) : st l 0 = 0 := by simp [st, textL]
theorem st_succ (l : List S30) (i : Nat) (h : i < l.length) : st l (i + 1) = st l i + l[i].f1.size + l[i].f2.size := by
  unfold st
  rw [List.take_succ_eq_append_getElem h, textL_snoc, ByteArray.data_append, Array.toList_append, List.length_append, List.length_append, Array.length_toList, Array.length_toList, Nat.add_assoc]
  rfl
theorem st_le (l : List S30) (i : Nat) : st l i ≤ (textL l).length := textL_take l i
theorem st_mono (l : List S30) (i j : Nat) (h : i ≤ j) : st l i ≤ st l j := by
  have := textL_take (l.take j) i
  rw [List.take_take, Nat.min_eq_left h] at this
  exact this
theorem st_all (l : List S30) : st l l.length = (textL l).length := by unfold st; rw [List.take_of_length_le (Nat.le_refl _)]
attribute [irreducible] st
section
variable (l : List S30) (a1 : Int) (hl : l.length ≤ 10000000) (ht : (textL l).length ≤ 10000000)
/-- a token stands where it says, and is the end if it is the last one -/
def goodAt (l : List S30) (i : Nat) (h : i < l.length) : Prop := l[i].f3 = ((st l i + l[i].f1.size : Nat) : Int) ∧ (l[i].f0 = 0 ↔ i + 1 = l.length) ∧ (i + 1 = l.length → l[i].f2.toList = ([] : List UInt8))
include hl ht
theorem long_ev : ∃ t, Ev (fun k => lw2_long.f k l) t := by
  have h : ∀ (m i : Nat), l.length < i + m → i ≤ l.length → ∃ t, Ev (fun k => lw2_long.l0 k l (st l i) i) t := by
    intro m
    induction m with
    | zero => intro i h1 h2; omega
    | succ m ih =>
      intro i h1 h2
      rcases Nat.lt_or_ge i l.length with hi | hi
      · have hs := st_succ l i hi
        have hle := st_le l (i + 1)
        have hw1 := Aside0.mk (wwrap ((l[i].f1.size : Int) + (l[i].f2.size : Int)) (l[i].f1.size + l[i].f2.size) (by omega) (by omega))
        have hw2 := Aside0.mk (wwrap ((st l i : Int) + ((l[i].f1.size + l[i].f2.size : Nat) : Int)) (st l (i + 1)) (by omega) (by omega))
        have hw3 := Aside0.mk (wwrap ((i : Int) + 1) (i + 1) (by omega) (by omega))
        obtain ⟨t, e⟩ := ih (i + 1) (by omega) (by omega)
        refine ⟨t, Ev.step (f := fun k => lw2_long.l0 k l (st l (i + 1)) ((i + 1 : Nat) : Int)) (fun k => ?_) e⟩
        rw [lw2_long.l0, if_pos (by omega), if_pos (by omega), rd_at l i hi, hw1.out, hw2.out, hw3.out]
      · by_cases hb : (l.length : Int) > 40100
        · exact ⟨true, Ev.step (f := fun _ => some true) (fun k => by rw [lw2_long.l0, if_neg (by omega), if_pos hb]) (Ev.now _)⟩
        · exact ⟨_, Ev.step (f := fun _ => some (decide ((st l i : Int) > 200100))) (fun k => by rw [lw2_long.l0, if_neg (by omega), if_neg hb]) (Ev.now _)⟩
  obtain ⟨t, e⟩ := h (l.length + 1) 0 (by omega) (by omega)
  rw [st_zero] at e
  exact ⟨t, Ev.congr (fun k => by unfold lw2_long.f; rfl) e⟩
/-- one round of lex.At's loop over a good token, whatever was found -/
theorem at_round (i : Nat) (hi : i < l.length) (hg : goodAt l i hi) (x7 : Int) (k : Nat) :
    lex_At.l0 (k + 1) l a1 (st l i) x7 l (l.length : Int) i = lex_At.l0 k l a1 (st l (i + 1)) (if (st l i : Int) ≤ a1 then (i : Int) else x7) l (l.length : Int) ((i + 1 : Nat) : Int) := by
  obtain ⟨g1, g2, g3⟩ := hg
  have hs := st_succ l i hi
  have hle := st_le l (i + 1)
  have hr := rd_at l i hi
  generalize l[i] = x at *
  have hw1 := Aside0.mk (wwrap ((st l i : Int) + (x.f1.size : Int)) (st l i + x.f1.size) (by omega) (by omega))
  have hw2 := Aside0.mk (wwrap (((st l i + x.f1.size : Nat) : Int) + (x.f2.size : Int)) (st l (i + 1)) (by omega) (by omega))
  have hw3 := Aside0.mk (wwrap ((i : Int) + 1) (i + 1) (by omega) (by omega))
  have hw4 := Aside0.mk (wwrap ((l.length : Int) - 1) (l.length - 1) (by omega) (by omega))
  have htest : ((x.f0 == 0) != ((i : Int) == ((l.length - 1 : Nat) : Int))) = false := by
    rw [bne_eq_false_iff_eq, Bool.eq_iff_iff, beq_iff_eq, beq_iff_eq, g2]
    omega
  have main : ∀ (A : Option (Int × Int)), (if x.f3 = ((st l i + x.f1.size : Nat) : Int) then (if ((x.f0 == 0) != ((i : Int) == ((l.length - 1 : Nat) : Int))) = true then (some (0, 3)) else (if x.f0 = 0 then (if x.f2.toList = ([] : List UInt8) then A else some (0, 3)) else A)) else some ((0 : Int), (3 : Int))) = A := by
    intro A
    rw [if_pos g1, if_neg (by rw [htest]; decide)]
    by_cases h0 : x.f0 = 0
    · rw [if_pos h0, if_pos (g3 (g2.mp h0))]
    · rw [if_neg h0]
  rw [lex_At.l0, if_pos (by omega), if_pos (by omega), if_pos (by omega), hr, hw1.out, hw2.out, hw3.out, hw4.out]
  by_cases hc : (st l i : Int) ≤ a1
  · rw [if_pos hc, if_pos hc]; exact main _
  · rw [if_neg hc, if_neg hc]; exact main _
/-- .. over one that is not good -/
theorem at_bad (i : Nat) (hi : i < l.length) (hg : ¬ goodAt l i hi) (x7 : Int) (k : Nat) : lex_At.l0 (k + 1) l a1 (st l i) x7 l (l.length : Int) i = some (0, 3) := by
  have hs := st_succ l i hi
  have hle := st_le l (i + 1)
  have hr := rd_at l i hi
  unfold goodAt at hg
  generalize l[i] = x at *
  have hw1 := Aside0.mk (wwrap ((st l i : Int) + (x.f1.size : Int)) (st l i + x.f1.size) (by omega) (by omega))
  have hw4 := Aside0.mk (wwrap ((l.length : Int) - 1) (l.length - 1) (by omega) (by omega))
  have main : ∀ (A B : Option (Int × Int)), (if x.f3 = ((st l i + x.f1.size : Nat) : Int) then (if ((x.f0 == 0) != ((i : Int) == ((l.length - 1 : Nat) : Int))) = true then (some (0, 3)) else (if x.f0 = 0 then (if x.f2.toList = ([] : List UInt8) then A else some (0, 3)) else B)) else some ((0 : Int), (3 : Int))) = some (0, 3) := by
    intro A B
    by_cases g1 : x.f3 = ((st l i + x.f1.size : Nat) : Int)
    · rw [if_pos g1]
      by_cases g2 : (x.f0 = 0 ↔ i + 1 = l.length)
      · rw [if_neg (by
          have : ((x.f0 == 0) != ((i : Int) == ((l.length - 1 : Nat) : Int))) = false := by
            rw [bne_eq_false_iff_eq, Bool.eq_iff_iff, beq_iff_eq, beq_iff_eq, g2]
            omega
          rw [this]; decide)]
        by_cases h0 : x.f0 = 0
        · rw [if_pos h0, if_neg]
          intro h2
          exact hg ⟨g1, g2, fun _ => h2⟩
        · exfalso
          exact hg ⟨g1, g2, fun hx => absurd (g2.mpr hx) h0⟩
      · rw [if_pos]
        rw [bne_iff_ne]
        intro h
        apply g2
        rw [Bool.eq_iff_iff, beq_iff_eq, beq_iff_eq] at h
        rw [h]
        omega
    · rw [if_neg g1]
  rw [lex_At.l0, if_pos (by omega), if_pos (by omega), if_pos (by omega), hr, hw1.out, hw4.out]
  by_cases hc : (st l i : Int) ≤ a1
  · rw [if_pos hc]; exact main _ _
  · rw [if_neg hc]; exact main _ _
theorem rat_round (i : Nat) (hi : i < l.length) (hg : goodAt l i hi) (k : Nat) :
    rf2_At.l0 (k + 1) l a1 (st l i) i = rf2_At.l0 k l a1 (st l (i + 1)) ((i + 1 : Nat) : Int) := by
  obtain ⟨g1, g2, g3⟩ := hg
  have hs := st_succ l i hi
  have hle := st_le l (i + 1)
  have hr := rd_at l i hi
  generalize l[i] = x at *
  have hw1 := Aside0.mk (wwrap ((st l i : Int) + (x.f1.size : Int)) (st l i + x.f1.size) (by omega) (by omega))
  have hw2 := Aside0.mk (wwrap (((st l i + x.f1.size : Nat) : Int) + (x.f2.size : Int)) (st l (i + 1)) (by omega) (by omega))
  have hw3 := Aside0.mk (wwrap ((i : Int) + 1) (i + 1) (by omega) (by omega))
  have hw4 := Aside0.mk (wwrap ((l.length : Int) - 1) (l.length - 1) (by omega) (by omega))
  have htest : ((x.f0 == 0) != ((i : Int) == ((l.length - 1 : Nat) : Int))) = false := by
    rw [bne_eq_false_iff_eq, Bool.eq_iff_iff, beq_iff_eq, beq_iff_eq, g2]
    omega
  rw [rf2_At.l0, if_pos (by omega), if_pos (by omega), hr, hw1.out, hw2.out, hw3.out, hw4.out, if_pos g1, if_neg (by rw [htest]; decide)]
  by_cases h0 : i + 1 = l.length
  · rw [if_pos (by omega), if_pos (g3 h0)]
  · rw [if_neg (by omega)]
theorem rat_bad (i : Nat) (hi : i < l.length) (hg : ¬ goodAt l i hi) (k : Nat) : rf2_At.l0 (k + 1) l a1 (st l i) i = some (0, 3) := by
  have hs := st_succ l i hi
  have hle := st_le l (i + 1)
  have hr := rd_at l i hi
  unfold goodAt at hg
  generalize l[i] = x at *
  have hw1 := Aside0.mk (wwrap ((st l i : Int) + (x.f1.size : Int)) (st l i + x.f1.size) (by omega) (by omega))
  have hw4 := Aside0.mk (wwrap ((l.length : Int) - 1) (l.length - 1) (by omega) (by omega))
  rw [rf2_At.l0, if_pos (by omega), if_pos (by omega), hr, hw1.out, hw4.out]
  by_cases g1 : x.f3 = ((st l i + x.f1.size : Nat) : Int)
  · rw [if_pos g1]
    by_cases g2 : (x.f0 = 0 ↔ i + 1 = l.length)
    · rw [if_neg (by
        have : ((x.f0 == 0) != ((i : Int) == ((l.length - 1 : Nat) : Int))) = false := by
          rw [bne_eq_false_iff_eq, Bool.eq_iff_iff, beq_iff_eq, beq_iff_eq, g2]
          omega
        rw [this]; decide)]
      by_cases h0 : i + 1 = l.length
      · rw [if_pos (by omega), if_neg]
        intro h2
        exact hg ⟨g1, g2, fun _ => h2⟩
      · exfalso
        exact hg ⟨g1, g2, fun hx => absurd hx h0⟩
    · rw [if_pos]
      rw [bne_iff_ne]
      intro h
      apply g2
      rw [Bool.eq_iff_iff, beq_iff_eq, beq_iff_eq] at h
      rw [h]
      omega
  · rw [if_neg g1]
/-- what both answer, all tokens good; p: the token in which the byte is -/
def atR (l : List S30) (a1 : Int) (p : Nat) : Int × Int := if a1 < 0 ∨ a1 > (st l l.length : Int) then (0, 1) else if a1 = (st l l.length : Int) then (((l.length - 1 : Nat) : Int), 0) else ((p : Int), 0)
theorem at_good (hg : ∀ i (h : i < l.length), goodAt l i h) (h0 : 0 < l.length) (p : Nat) (hp : 0 ≤ a1 → a1 < (st l l.length : Int) → p < l.length ∧ (st l p : Int) ≤ a1 ∧ a1 < (st l (p + 1) : Int)) :
    ∀ (m i : Nat) (x7 : Int), l.length < i + m → i ≤ l.length → (0 ≤ a1 → a1 < (st l l.length : Int) → x7 = if i ≤ p then (i : Int) - 1 else (p : Int)) → Ev (fun k => lex_At.l0 k l a1 (st l i) x7 l (l.length : Int) i) (atR l a1 p) := by
  intro m
  induction m with
  | zero => intro i x7 h1 h2; omega
  | succ m ih =>
    intro i x7 h1 h2 h3
    rcases Nat.lt_or_ge i l.length with hi | hi
    · refine Ev.step (at_round l a1 hl ht i hi (hg i hi) x7) (ih (i + 1) _ (by omega) (by omega) (fun ha hb => ?_))
      obtain ⟨q1, q2, q3⟩ := hp ha hb
      have e3 := h3 ha hb
      by_cases hip : i ≤ p
      · have := st_mono l i p hip
        rw [if_pos (by omega)]
        by_cases hip2 : i + 1 ≤ p
        · rw [if_pos hip2]; omega
        · rw [if_neg hip2]; omega
      · have := st_mono l (p + 1) i (by omega)
        rw [if_neg (by omega), if_neg (by omega), e3, if_neg hip]
    · obtain rfl : i = l.length := by omega
      have hw4 := Aside0.mk (wwrap ((l.length : Int) - 1) (l.length - 1) (by omega) (by omega))
      unfold atR
      by_cases hneg : a1 < 0
      · rw [if_pos (Or.inl hneg)]
        refine Ev.step (f := fun k => lex_At.j1 k l a1 (st l l.length) x7 true) (fun k => ?_) (Ev.step (f := fun _ => some (0, 1)) (fun k => by rw [lex_At.j1, if_pos rfl]) (Ev.now _))
        rw [lex_At.l0, if_neg (by omega), if_neg (by omega), if_pos hneg]
      · by_cases hbig : a1 > (st l l.length : Int)
        · rw [if_pos (Or.inr hbig)]
          refine Ev.step (f := fun k => lex_At.j1 k l a1 (st l l.length) x7 true) (fun k => ?_) (Ev.step (f := fun _ => some (0, 1)) (fun k => by rw [lex_At.j1, if_pos rfl]) (Ev.now _))
          rw [lex_At.l0, if_neg (by omega), if_neg (by omega), if_neg hneg, decide_eq_true hbig]
        · rw [if_neg (fun q => q.elim hneg hbig)]
          refine Ev.step (f := fun k => lex_At.j1 k l a1 (st l l.length) x7 false) (fun k => ?_) ?_
          · rw [lex_At.l0, if_neg (by omega), if_neg (by omega), if_neg hneg, decide_eq_false hbig]
          · by_cases he : a1 = (st l l.length : Int)
            · rw [if_pos he]
              refine Ev.step (f := fun _ => some (((l.length - 1 : Nat) : Int), 0)) (fun k => ?_) (Ev.now _)
              rw [lex_At.j1, if_neg (by decide), if_pos he, hw4.out]
            · rw [if_neg he]
              refine Ev.step (f := fun _ => some ((p : Int), 0)) (fun k => ?_) (Ev.now _)
              have e3 := h3 (by omega) (by omega)
              obtain ⟨q1, -, -⟩ := hp (by omega) (by omega)
              rw [if_neg (by omega)] at e3
              rw [lex_At.j1, if_neg (by decide), if_neg he, e3]
theorem rat_l1 (p : Nat) (ha : 0 ≤ a1) (hb : a1 ≤ (st l l.length : Int)) (h0 : 0 < l.length) (hp : 0 ≤ a1 → a1 < (st l l.length : Int) → p < l.length ∧ (st l p : Int) ≤ a1 ∧ a1 < (st l (p + 1) : Int)) :
    ∀ (m i : Nat), l.length < i + m → i ≤ l.length → (a1 < (st l l.length : Int) → i ≤ p) → Ev (fun k => rf2_At.l1 k l a1 (st l i) i) (atR l a1 p) := by
  have hR : atR l a1 p = if a1 = (st l l.length : Int) then (((l.length - 1 : Nat) : Int), 0) else ((p : Int), 0) := by
    unfold atR
    rw [if_neg (fun q => by omega)]
  rw [hR]
  intro m
  induction m with
  | zero => intro i h1 h2; omega
  | succ m ih =>
    intro i h1 h2 h3
    rcases Nat.lt_or_ge i l.length with hi | hi
    · have hs := st_succ l i hi
      have hle := st_le l (i + 1)
      have hr := rd_at l i hi
      have hmt := st_mono l (i + 1) l.length (by omega)
      have hw1 := Aside0.mk (wwrap ((l[i].f1.size : Int) + (l[i].f2.size : Int)) (l[i].f1.size + l[i].f2.size) (by omega) (by omega))
      have hw2 := Aside0.mk (wwrap ((st l i : Int) + ((l[i].f1.size + l[i].f2.size : Nat) : Int)) (st l (i + 1)) (by omega) (by omega))
      have hw3 := Aside0.mk (wwrap ((i : Int) + 1) (i + 1) (by omega) (by omega))
      have head : ∀ k, rf2_At.l1 (k + 1) l a1 (st l i) i = if a1 < (st l (i + 1) : Int) then some ((i : Int), 0) else rf2_At.l1 k l a1 (st l (i + 1)) ((i + 1 : Nat) : Int) := by
        intro k
        rw [rf2_At.l1, if_pos (by omega), if_pos (by omega), hr, hw1.out, hw2.out, hw3.out]
      by_cases hc : a1 < (st l (i + 1) : Int)
      · have hlt : a1 < (st l l.length : Int) := by omega
        obtain ⟨q1, q2, q3⟩ := hp ha hlt
        have hip := h3 hlt
        have : i = p := by
          rcases Nat.lt_or_ge i p with h | h
          · have := st_mono l (i + 1) p (by omega)
            omega
          · omega
        subst this
        rw [if_neg (by omega)]
        exact Ev.step (fun k => (head k).trans (if_pos hc)) (Ev.now _)
      · refine Ev.step (fun k => (head k).trans (if_neg hc)) (ih (i + 1) (by omega) (by omega) (fun hlt => ?_))
        obtain ⟨q1, q2, q3⟩ := hp ha hlt
        have hip := h3 hlt
        rcases Nat.lt_or_ge i p with h | h
        · omega
        · have : i = p := by omega
          subst this
          omega
    · obtain rfl : i = l.length := by omega
      have hw4 := Aside0.mk (wwrap ((l.length : Int) - 1) (l.length - 1) (by omega) (by omega))
      have he : a1 = (st l l.length : Int) := by
        rcases Int.lt_or_le a1 (st l l.length : Int) with h | h
        · have := h3 h
          have := (hp ha h).1
          omega
        · omega
      rw [if_pos he]
      refine Ev.step (fun k => ?_) (Ev.now _)
      rw [rf2_At.l1, if_neg (by omega), hw4.out]
theorem rat_good (hg : ∀ i (h : i < l.length), goodAt l i h) (h0 : 0 < l.length) (p : Nat) (hp : 0 ≤ a1 → a1 < (st l l.length : Int) → p < l.length ∧ (st l p : Int) ≤ a1 ∧ a1 < (st l (p + 1) : Int)) :
    ∀ (m i : Nat), l.length < i + m → i ≤ l.length → Ev (fun k => rf2_At.l0 k l a1 (st l i) i) (atR l a1 p) := by
  intro m
  induction m with
  | zero => intro i h1 h2; omega
  | succ m ih =>
    intro i h1 h2
    rcases Nat.lt_or_ge i l.length with hi | hi
    · exact Ev.step (rat_round l a1 hl ht i hi (hg i hi)) (ih (i + 1) (by omega) (by omega))
    · obtain rfl : i = l.length := by omega
      by_cases hneg : a1 < 0
      · unfold atR
        rw [if_pos (Or.inl hneg)]
        refine Ev.step (f := fun k => rf2_At.j1 k l a1 true) (fun k => ?_) (Ev.step (f := fun _ => some (0, 1)) (fun k => by rw [rf2_At.j1, if_pos rfl]) (Ev.now _))
        rw [rf2_At.l0, if_neg (by omega), if_pos hneg]
      · by_cases hbig : a1 > (st l l.length : Int)
        · unfold atR
          rw [if_pos (Or.inr hbig)]
          refine Ev.step (f := fun k => rf2_At.j1 k l a1 true) (fun k => ?_) (Ev.step (f := fun _ => some (0, 1)) (fun k => by rw [rf2_At.j1, if_pos rfl]) (Ev.now _))
          rw [rf2_At.l0, if_neg (by omega), if_neg hneg, decide_eq_true hbig]
        · have e := rat_l1 l a1 hl ht p (by omega) (by omega) h0 hp (l.length + 1) 0 (by omega) (by omega) (fun _ => by omega)
          rw [st_zero] at e
          refine Ev.step (f := fun k => rf2_At.j1 k l a1 false) (fun k => ?_) (Ev.step (f := fun k => rf2_At.l1 k l a1 0 0) (fun k => by rw [rf2_At.j1, if_neg (by decide)]) e)
          rw [rf2_At.l0, if_neg (by omega), if_neg hneg, decide_eq_false hbig]
theorem both_bad : ∀ (m i : Nat) (x7 : Int), l.length < i + m → i ≤ l.length → (∃ j, ∃ (h : j < l.length), i ≤ j ∧ ¬ goodAt l j h) →
    Ev (fun k => lex_At.l0 k l a1 (st l i) x7 l (l.length : Int) i) (0, 3) ∧ Ev (fun k => rf2_At.l0 k l a1 (st l i) i) (0, 3) := by
  intro m
  induction m with
  | zero => intro i x7 h1 h2; omega
  | succ m ih =>
    intro i x7 h1 h2 h3
    obtain ⟨j, hj, hij, hb⟩ := h3
    have hi : i < l.length := by omega
    by_cases hg : goodAt l i hi
    · have hne : i ≠ j := by rintro rfl; exact hb hg
      have e := ih (i + 1) (if (st l i : Int) ≤ a1 then (i : Int) else x7) (by omega) (by omega) ⟨j, hj, by omega, hb⟩
      exact ⟨Ev.step (at_round l a1 hl ht i hi hg x7) e.1, Ev.step (rat_round l a1 hl ht i hi hg) e.2⟩
    · exact ⟨Ev.step (f := fun _ => some (0, 3)) (at_bad l a1 hl ht i hi hg x7) (Ev.now _), Ev.step (f := fun _ => some (0, 3)) (rat_bad l a1 hl ht i hi hg) (Ev.now _)⟩
omit hl ht in
theorem place_ex (ha : 0 ≤ a1) (hb : a1 < (st l l.length : Int)) : ∃ p, p < l.length ∧ (st l p : Int) ≤ a1 ∧ a1 < (st l (p + 1) : Int) := by
  have h : ∀ n, n ≤ l.length → a1 < (st l n : Int) → ∃ p, p < n ∧ (st l p : Int) ≤ a1 ∧ a1 < (st l (p + 1) : Int) := by
    intro n
    induction n with
    | zero => intro _ h; rw [st_zero] at h; omega
    | succ n ih =>
      intro hn h
      rcases Int.lt_or_le a1 (st l n : Int) with h1 | h1
      · obtain ⟨p, q1, q2⟩ := ih (by omega) h1
        exact ⟨p, by omega, q2⟩
      · exact ⟨n, by omega, h1, h⟩
  obtain ⟨p, q1, q2⟩ := h l.length (Nat.le_refl _) hb
  exact ⟨p, q1, q2⟩
theorem both_at : ∃ r : Int × Int, Ev (fun k => lex_At.f k l a1) r ∧ Ev (fun k => rf2_At.f k l a1) r := by
  have u1 : ∀ r, Ev (fun k => lex_At.l0 k l a1 (st l 0) (-1) l (l.length : Int) ((0 : Nat) : Int)) r → Ev (fun k => lex_At.f k l a1) r := by
    intro r h
    rw [st_zero] at h
    exact Ev.congr (fun k => by unfold lex_At.f; rfl) h
  have u2 : ∀ r, 0 < l.length → Ev (fun k => rf2_At.l0 k l a1 (st l 0) ((0 : Nat) : Int)) r → Ev (fun k => rf2_At.f k l a1) r := by
    intro r h0 h
    rw [st_zero] at h
    exact Ev.congr (fun k => by unfold rf2_At.f; rw [if_neg (by omega)]; rfl) h
  rcases Nat.eq_zero_or_pos l.length with h0 | h0
  · refine ⟨(0, 3), u1 _ (Ev.step (f := fun _ => some (0, 3)) (fun k => ?_) (Ev.now _)), Ev.congr (fun k => by unfold rf2_At.f; rw [if_pos (by omega)]) (Ev.now _)⟩
    rw [lex_At.l0, if_neg (by omega), if_pos (by omega)]
  · by_cases hg : ∀ i (h : i < l.length), goodAt l i h
    · obtain ⟨p, hp⟩ : ∃ p, 0 ≤ a1 → a1 < (st l l.length : Int) → p < l.length ∧ (st l p : Int) ≤ a1 ∧ a1 < (st l (p + 1) : Int) := by
        by_cases hr : 0 ≤ a1 ∧ a1 < (st l l.length : Int)
        · obtain ⟨p, q⟩ := place_ex l a1 hr.1 hr.2
          exact ⟨p, fun _ _ => q⟩
        · exact ⟨0, fun x y => absurd ⟨x, y⟩ hr⟩
      exact ⟨atR l a1 p, u1 _ (at_good l a1 hl ht hg h0 p hp (l.length + 1) 0 (-1) (by omega) (by omega) (fun _ _ => by rw [if_pos (by omega)]; rfl)), u2 _ h0 (rat_good l a1 hl ht hg h0 p hp (l.length + 1) 0 (by omega) (by omega))⟩
    · have hb : ∃ j, ∃ (h : j < l.length), 0 ≤ j ∧ ¬ goodAt l j h := by
        refine Classical.byContradiction fun hn => hg fun i h => Classical.byContradiction fun hx => hn ⟨i, h, Nat.zero_le _, hx⟩
      have e := both_bad l a1 hl ht (l.length + 1) 0 (-1) (by omega) (by omega) hb
      exact ⟨(0, 3), u1 _ e.1, u2 _ h0 e.2⟩
theorem lexTexts_eq : Ev (fun k => lw2_LexTexts.f k l a1) true := by
  obtain ⟨t, e0⟩ := long_ev l hl ht
  obtain ⟨⟨r1, r2⟩, e1, e2⟩ := both_at l a1 hl ht
  unfold lw2_LexTexts.f
  refine Ev.bind e0 ?_
  cases t with
  | true =>
    refine Ev.congr (fun k => if_pos rfl) ?_
    rw [awake_eq]
    exact Ev.now _
  | false =>
    refine Ev.congr (fun k => if_neg (by decide)) (Ev.bind e1 (Ev.bind e2 ?_))
    have hT : lex_Text.f l = some ⟨(textL l).toArray⟩ := by
      unfold lex_Text.f
      rw [if_pos]
      omega
    rw [show ref_Text.f l = lex_Text.f l from rfl, hT]
    refine Ev.congr (fun k => Option.bind_some _ _) (Ev.congr (fun k => Option.bind_some _ _) (Ev.congr (fun k => if_pos rfl) ?_))
    refine Ev.bind (strip_ev l (by omega)) (Ev.bind (rstrip_ev l (by omega)) (Ev.bind (eqStrings_refl _ ?_) ?_))
    · rw [List.length_map]
      exact Nat.le_trans (List.length_filter_le _ _) (by omega)
    · refine Ev.congr (fun k => if_pos rfl) (Ev.congr (fun k => if_pos rfl) (Ev.congr (fun k => if_pos rfl) ?_))
      rw [awake_eq]
      exact Ev.now _
end
end Go.Proofs.YtabnmkakgcifoaaDoor.PLex

