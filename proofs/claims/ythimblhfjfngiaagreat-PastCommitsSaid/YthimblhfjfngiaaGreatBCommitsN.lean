/- PastCommits holds: for all steps and every number the statement answers true. Part 14 of 20. -/
import Derived.Test.YthimblhfjfngiaaGreatBCommitsM
import Derived.BigCall
import Derived.Lib.Hide
namespace Go.Proofs.YthimblhfjfngiaaGreat.PText
open Go.RowKit Go.Lib Go.Sort Go.Proofs.YthimblhfjfngiaaGreatW.PrintWords Go.Proofs.YthimblhfjfngiaaGreatW.PrintLast Go.Proofs.YthimblhfjfngiaaGreatW.PrintMore
set_option linter.unusedVariables false
set_option linter.unusedSimpArgs false
/-- a file put among others: behind the last one that is not behind it -/
def bub (x : S41) : List S41 → List S41 → List S41
  | [], S => x :: S
  | p :: Pr, S => if ltF x p = true then bub x Pr (p :: S) else (p :: Pr).reverse ++ x :: S
theorem bub_perm (x : S41) : ∀ (Pr S : List S41), (bub x Pr S).Perm (x :: (Pr.reverse ++ S))
  | [], S => List.Perm.refl _
  | p :: Pr, S => by
    unfold bub
    have e : (p :: Pr).reverse ++ S = Pr.reverse ++ p :: S := by simp
    split
    · rw [e]; exact bub_perm x Pr (p :: S)
    · exact List.perm_middle
def QF (l : List S41) : Prop := l.Pairwise fun a b => ltF b a = false
theorem ltF_asym {a b : S41} (h : ltF a b = true) : ltF b a = false := by
  cases q : ltF b a with
  | false => rfl
  | true => have := ltF_swo.trans a b a h q; rw [ltF_swo.irrefl] at this; cases this
theorem bub_sorted (x : S41) : ∀ (Pr S : List S41), QF (Pr.reverse ++ S) → (∀ s ∈ S, ltF x s = true) → QF (bub x Pr S)
  | [], S, h, hs => List.pairwise_cons.2 ⟨fun s m => ltF_asym (hs s m), h⟩
  | p :: Pr, S, h, hs => by
    have e : (p :: Pr).reverse ++ S = Pr.reverse ++ p :: S := by simp
    unfold bub
    by_cases c : ltF x p = true
    · rw [if_pos c]
      rw [e] at h
      refine bub_sorted x Pr (p :: S) h fun s m => ?_
      rcases List.mem_cons.1 m with rfl | m
      · exact c
      · exact hs s m
    · rw [if_neg c]
      obtain ⟨h1, h2, h3⟩ := List.pairwise_append.1 h
      have hxp : ltF x p = false := by simpa using c
      refine List.pairwise_append.2 ⟨h1, List.pairwise_cons.2 ⟨fun s m => ltF_asym (hs s m), h2⟩, fun a ha b hb => ?_⟩
      rcases List.mem_cons.1 hb with rfl | hb
      · rw [List.reverse_cons, List.mem_append, List.mem_singleton] at ha
        rcases ha with ha | rfl
        · rw [List.reverse_cons] at h1
          have := (List.pairwise_append.1 h1).2.2 a ha p (by simp)
          exact ltF_swo.ntrans b p a hxp this
        · exact hxp
      · exact h3 a ha b hb
theorem sorted_l1 (fs : List S41) (i : Nat) (x : S41) : ∀ (Pr S : List S41) (k : Nat), Pr.length + S.length ≤ 100000 → Pr.length + 1 ≤ k → ∃ k', k ≤ k' + Pr.length + 1 ∧ smockingref25_sorted.l1 k fs (Pr.reverse ++ x :: S) (i : Int) (Pr.length : Int) = smockingref25_sorted.l0 k' fs (bub x Pr S) (wrap64 ((i : Int) + 1))
  | [], S, k, hl, hk => by
    obtain ⟨k, rfl⟩ : ∃ q, k = q + 1 := ⟨k - 1, by omega⟩
    refine ⟨k, by simp, ?_⟩
    rw [smockingref25_sorted.l1, if_neg (by simp)]
    rfl
  | p :: Pr, S, k, hl, hk => by
    obtain ⟨k, rfl⟩ : ∃ q, k = q + 1 := ⟨k - 1, by omega⟩
    have e : (p :: Pr).reverse ++ x :: S = Pr.reverse ++ p :: x :: S := by simp
    have hw : wrap64 ((((p :: Pr).length : Nat) : Int) - 1) = (Pr.length : Int) := by
      rw [List.length_cons] at hl ⊢
      rw [w64 (by omega) (by omega)]; omega
    have hr1 : rd_T41 ((p :: Pr).reverse ++ x :: S) ((p :: Pr).length : Int) = x := by
      unfold rd_T41
      rw [Int.toNat_natCast, List.getD_eq_getElem?_getD, List.getElem?_append_right (by simp)]
      simp
    have hr2 : rd_T41 ((p :: Pr).reverse ++ x :: S) (Pr.length : Int) = p := by
      rw [e]
      unfold rd_T41
      rw [Int.toNat_natCast, List.getD_eq_getElem?_getD, List.getElem?_append_right (by simp)]
      simp
    have hset : (((p :: Pr).reverse ++ x :: S).set (((p :: Pr).length : Nat) : Int).toNat (⟨p.f0, p.f1⟩ : S41)).set ((Pr.length : Nat) : Int).toNat (⟨x.f0, x.f1⟩ : S41) = Pr.reverse ++ x :: p :: S := by
      rw [e, Int.toNat_natCast, Int.toNat_natCast, List.set_append_right _ _ (by simp), List.length_cons, List.length_reverse, show Pr.length + 1 - Pr.length = 0 + 1 by omega, List.set_cons_succ, List.set_cons_zero, List.set_append_right _ _ (by simp), List.length_reverse, Nat.sub_self, List.set_cons_zero]
    have hlen : (((p :: Pr).reverse ++ x :: S).length : Int) = (Pr.length : Int) + (S.length : Int) + 2 := by simp; omega
    rw [smockingref25_sorted.l1, if_pos (by rw [List.length_cons]; omega), if_pos (by omega), if_pos (by rw [hlen, List.length_cons]; omega), hw, if_pos (by omega), if_pos (by rw [hlen]; omega), hr1, hr2, bl_lt]
    unfold bub
    by_cases c : ltF x p = true
    · rw [if_pos c, if_pos (show decide (x.f0.toList < p.f0.toList) = true from c), hset]
      rw [List.length_cons] at hl hk
      obtain ⟨k', h1, h2⟩ := sorted_l1 fs i x Pr (p :: S) k (by rw [List.length_cons]; omega) (by omega)
      exact ⟨k', by rw [List.length_cons]; omega, h2⟩
    · rw [if_neg c, if_neg (show ¬ decide (x.f0.toList < p.f0.toList) = true from c)]
      exact ⟨k, by rw [List.length_cons]; omega, rfl⟩
theorem sorted_l0 (fs : List S41) (hf : fs.length ≤ 10000) (B : Nat) (hB : fs.length + 3 ≤ B) : ∀ (m i k : Nat) (out : List S41), fs.length - i = m → i ≤ fs.length → m * B + 1 ≤ k → out.Perm (fs.take i) → QF out → ∃ d, smockingref25_sorted.l0 k fs out (i : Int) = some d ∧ d.Perm fs ∧ QF d
  | 0, i, k, out, hm, hi, hk, hp, hq => by
    obtain ⟨k, rfl⟩ : ∃ q, k = q + 1 := ⟨k - 1, by omega⟩
    rw [smockingref25_sorted.l0, if_neg (by omega)]
    rw [List.take_of_length_le (by omega)] at hp
    exact ⟨out, rfl, hp, hq⟩
  | m + 1, i, k, out, hm, hi, hk, hp, hq => by
    obtain ⟨k, rfl⟩ : ∃ q, k = q + 1 := ⟨k - 1, by omega⟩
    rw [Nat.succ_mul] at hk
    have hil : i < fs.length := by omega
    have hol : out.length = i := by rw [hp.length_eq, List.length_take]; omega
    have hw : wrap64 (((out ++ [fs[i]]).length : Int) - 1) = (out.reverse.length : Int) := by
      rw [List.length_append, List.length_singleton, List.length_reverse, w64 (by omega) (by omega)]; omega
    have he : (⟨(rd_T41 fs (i : Int)).f0, (rd_T41 fs (i : Int)).f1⟩ : S41) = fs[i] := by rw [rd53_at fs i hil]
    obtain ⟨k', h1, h2⟩ := sorted_l1 fs i fs[i] out.reverse [] k (by rw [List.length_reverse]; simp; omega) (by rw [List.length_reverse]; omega)
    rw [List.reverse_reverse] at h2
    rw [smockingref25_sorted.l0, if_pos (by omega), if_pos (by omega), if_pos (by omega), Option.bind_some, he, hw, h2, nx i (by omega)]
    rw [List.length_reverse] at h1
    refine sorted_l0 fs hf B hB m (i + 1) k' _ (by omega) (by omega) (by omega) ?_ (bub_sorted _ _ _ (by rw [List.reverse_reverse, List.append_nil]; exact hq) (fun s m => by cases m))
    refine (bub_perm _ _ _).trans ?_
    rw [List.reverse_reverse, List.append_nil, List.take_succ_eq_append_getElem hil]
    exact (hp.cons _).trans (List.perm_append_comm (l₁ := [fs[i]]) (l₂ := fs.take i))
theorem sortedF_of {d : List S41} (h : QF d) : SortedF d := fun i j hij hj hi => List.pairwise_iff_getElem.1 h i j hi hj hij
theorem rsorted_f (fs : List S41) (hf : fs.length ≤ 10000) (hn : (fnames fs).Nodup) (k : Nat) (hk : fs.length * (fs.length + 3) + 1 ≤ k) : smockingref25_sorted.f k fs = some (srtF fs) := by
  obtain ⟨d, h1, h2, h3⟩ := sorted_l0 fs hf (fs.length + 3) (Nat.le_refl _) fs.length 0 k [] (by omega) (by omega) hk (by rw [List.take_zero]) List.Pairwise.nil
  have := srt_eq h2 (sortedF_of h3) hn
  rw [← this]
  exact h1
end Go.Proofs.YthimblhfjfngiaaGreat.PText

namespace Go.Proofs.YthimblhfjfngiaaGreat.PText
open Go.RowKit Go.Proofs.YthimblhfjfngiaaGreatW.PrintWords Go.Proofs.YthimblhfjfngiaaGreatW.PrintLast Go.Proofs.YthimblhfjfngiaaGreatW.PrintMore
set_option linter.unusedVariables false
set_option linter.unusedSimpArgs false
/-- a builder stays where all that lay stays -/
theorem builder_kept {T e : TypeId} {B b : Nat} {bs : List Value} {W W' : World} (h : Lib.IsBuilderF T e B b bs W) (hb : Below W.heap.size W W') : Lib.IsBuilderF T e B b bs W' := by
  have one : ∀ p, Lib.BuilderAtF T e B b p bs W → Lib.BuilderAtF T e B b p bs W' := by
    rintro p ⟨hB, v, hv, hown, hne⟩
    have hlt : b < W.heap.size := (Array.getElem?_eq_some_iff.1 hv).1
    exact ⟨hB, v, (hb.block b hlt).trans hv, hown.kept (row := none) ⟨hb.os, hb.tape, hb.output, hb.size, fun k hk _ => hb.block k hk⟩ (Classical.em _), hne⟩
  rcases h with h | h
  · exact .inl (one _ h)
  · exact .inr (one _ h)
theorem heap_new (w : World) (o : Obj) : (w.alloc o).heap[w.heap.size]? = some o := by
  show (w.heap.push o)[w.heap.size]? = some o
  exact Array.getElem?_push_size
theorem heap_old {w : World} {k : Nat} {o : Obj} (h : w.heap[k]? = some o) (o' : Obj) : (w.alloc o').heap[k]? = some o := by
  have hk : k < w.heap.size := (Array.getElem?_eq_some_iff.1 h).1
  show (w.heap.push o')[k]? = some o
  rw [Array.getElem?_push, if_neg (by omega), h]
theorem add_block (a : Addr) (n : Nat) : (a.add n).block = a.block := by unfold Addr.add; split <;> rfl
theorem cell_same {w w' : World} {p : Addr} (h : w'.heap[p.block]? = w.heap[p.block]?) : w'.cell? p = w.cell? p := by unfold World.cell?; rw [h]
/-- where the row of some edits lies: a block of cells of their type, or there are none -/
theorem row_block {w : World} {B : Nat} {A : Option Addr} {c : Nat} {l : List S91} (h : Kd.R k91 91 w B (fun _ => True) (.slice A l.length c) l) :
    ∃ (g : Nat) (cs : Array Value), (l ≠ [] → A = some ⟨g, 0, none⟩) ∧ (l = [] ∨ (B ≤ g ∧ w.heap[g]? = some (.cells cs 91 (0, 0)))) := by
  by_cases hl : l = []
  · exact ⟨0, #[], fun q => absurd hl q, .inl hl⟩
  · obtain ⟨g, cap, hv, hb, _, cs, hc⟩ := Kd.R_form h (List.length_pos_iff.2 hl)
    cases hv
    exact ⟨g, cs, fun _ => rfl, .inr ⟨hb, hc⟩⟩
set_option maxHeartbeats 8000000 in
set_option maxRecDepth 100000 in
theorem text_Apply.calls (a0 : ByteArray) (A1 : Option Addr) (c1 : Nat) (l1 : List S91) (r1 : ByteArray) (r2 : Int) (w : World) (hr1 : Kd.C k91 w A1 l1.length l1) (hc1 : l1.length ≤ c1) (h : text_Apply.f a0 l1 = some (r1, r2)) :
    Calls Tryz.prog 62 #[.string a0, .slice A1 l1.length c1] w fun e w' => e = .returned (.tuple #[.string r1, .int .i64 r2]) ∧ Below w.heap.size w w' := by
  have H12 := Aside0.mk (text_Fine.calls a0 A1 c1 l1 (fineE a0.size l1) w hr1 hc1 rfl)
  have HC := Aside0.mk hr1
  have HL := Aside0.mk hc1
  clear hr1 hc1
  unfold text_Apply.f at h
  by_cases hf : fineE a0.size l1 = 0
  · rw [if_neg (by rw [hf]; decide)] at h
    rw [hf] at H12
    have CHN := Aside0.mk (fine_chain a0.size l1 hf)
    have HF := Aside0.mk hf
    clear hf
    have H32 := Aside0.mk (fun w2 (h2 : Kd.C k91 w2 A1 l1.length l1) => text_sorted.calls A1 c1 l1 (Tx.ord eltS l1) w2 h2 HL.out (by unfold text_sorted.f; rw [if_pos CHN.out.1]))
    have HH := Aside0.mk h
    clear h
    have HME := Aside0.mk (show madeE a0 l1 = Tx.ap a0.data.toList 0 ((Tx.ord eltS l1).map toE) from rfl)
    have CH := Aside0.mk CHN.out.2.2
    have HRL := Aside0.mk (Nat.le_trans (Tx.ord_len (lt := eltS) l1) CHN.out.1)
    clear CHN
    generalize Tx.ord eltS l1 = row at H32 CH HME HRL
    generalize madeE a0 l1 = M at HH HME
    have hu34 := Tryz.underlying91
    go_enter Tryz.func62, Tryz.ntmps62
    go_wp2_with (first
      | (go_at_call 74; refine H12.out.mono ?_; rintro e w2 ⟨rfl, hb⟩; have HB := Aside0.mk hb; clear hb H12)
      | (go_at_call 75; refine (H32.out _ (Kd.C_alloc (Kd.C_below HC.out HB.out) _)).mono ?_; rintro e w3 ⟨v3, rfl, ho, hb⟩; obtain ⟨A3, c3, rfl⟩ := Kd.R_slice ho; have HO := Aside0.mk ho; have HB3 := Aside0.mk hb; clear ho hb H32))
    have h0 : Lib.IsBuilderF 131 5 w2.heap.size w2.heap.size [] (w2.alloc (.cells #[.pointer none, .slice none 0 0] 131)) := Lib.IsBuilderF.of (Lib.fresh_isBuilder 131 5 w2)
    have hR := Kd.R_reads' HO.out
    obtain ⟨g, cs, hA, hg⟩ := row_block HO.out
    have hC := Aside0.mk hR.2.2
    have H1 := Aside0.mk (builder_kept h0 HB3.out)
    have HB4 : Aside0 (Below w.heap.size w w3) := ⟨((HB.out.alloc HB.out.size _).trans (HB3.out.mono (by have := HB.out.size; simp; omega)))⟩
    have HG : Aside0 (row = [] ∨ (w2.heap.size < g ∧ w3.heap[g]? = some (.cells cs 91 (0, 0)))) := ⟨hg.imp id (fun q => ⟨by have := q.1; simp at this; omega, q.2⟩)⟩
    have HA := Aside0.mk hA
    have HSZ := Aside0.mk HB3.out.size
    have HW := Aside0.mk HB.out.size
    clear h0 HB HB3 hR hg hA HO
    go_loopg [8, 20] (row.length + 1) (fun kq v8 v20 w' => ∃ (i : Nat) (p : Int) (P : List UInt8), v8 = .int .i64 p ∧ v20 = .int .i64 (i : Int) ∧ Aside0 (row.length - i < kq ∧ i ≤ row.length ∧ 0 ≤ p) ∧ Aside0 (Tx.Ch (a0.size : Int) p ((row.drop i).map toE)) ∧ Aside0 (P ++ Tx.ap a0.data.toList p ((row.drop i).map toE) = M) ∧ Aside0 (Lib.IsBuilderF 131 5 w2.heap.size w2.heap.size (Lib.byteCells P) w') ∧ Aside0 (Below w.heap.size w w') ∧ Aside0 (row = [] ∨ (w2.heap.size < g ∧ w'.heap[g]? = some (.cells cs 91 (0, 0)))) ∧ Aside0 (w2.heap.size < w'.heap.size))
    case atStart => exact ⟨0, 0, [], rfl, rfl, ⟨by omega, by omega, by omega⟩, CH, ⟨by rw [HME.out]; rfl⟩, H1, HB4, HG, ⟨by have := HSZ.out; simp at this; omega⟩⟩
    case round =>
      obtain ⟨i, p, P, rfl, rfl, HI, HC2, HP, HBu, HBe, HGe, HS⟩ := hrel
      obtain ⟨k1, rfl⟩ : ∃ k1, gk = k1 + 1 := ⟨gk - 1, by have := HI.out.1; omega⟩
      by_cases hlt : i < row.length
      · have hb : decide ((i : Int) < (row.length : Int)) = true := by simp; omega
        have hb2 : decide ((0 : Int) ≤ (i : Int)) = true := by simp
        have p0 : (0 : Int) ≤ (i : Int) := by omega
        have q0 : (i : Int) < (row.length : Int) := by omega
        obtain ⟨ad, e0, hx0, hx1, hx2⟩ := at_T91 hC.out (i : Int) p0 q0
        have hblk : ad.block = g := by
          have := HA.out (fun e => by rw [e] at hlt; cases hlt)
          rw [e0] at this; cases this; rfl
        have hgw : wr.heap[g]? = w3.heap[g]? := by
          rcases HG.out with q | q
          · rw [q] at hlt; cases hlt
          · rcases HGe.out with q2 | q2
            · rw [q2] at hlt; cases hlt
            · rw [q.2, q2.2]
        cases e0
        replace hx0 := (cell_same (w' := wr) (p := ad.add ((i : Int).toNat * 3)) (by simp only [add_block]; rw [hblk, hgw])).trans hx0
        replace hx1 := (cell_same (w' := wr) (p := ⟨(ad.add ((i : Int).toNat * 3)).block, (ad.add ((i : Int).toNat * 3)).off + 1, none⟩) (by simp only [add_block]; rw [hblk, hgw])).trans hx1
        replace hx2 := (cell_same (w' := wr) (p := ⟨(ad.add ((i : Int).toNat * 3)).block, (ad.add ((i : Int).toNat * 3)).off + 2, none⟩) (by simp only [add_block]; rw [hblk, hgw])).trans hx2
        rw [Int.toNat_natCast] at hx0 hx1 hx2
        rw [rd34_at row i hlt] at hx0 hx1 hx2
        have hd : row.drop i = row[i] :: row.drop (i + 1) := List.drop_eq_getElem_cons hlt
        have HD := Aside0.mk hd
        clear hd hgw
        generalize row[i] = x at *
        have hc := HC2.out
        rw [HD.out] at hc
        obtain ⟨hc1, hc2, hc3⟩ := hc
        replace hc1 : p ≤ x.f0 := hc1
        replace hc2 : x.f0 ≤ x.f1 := hc2
        have hc4 : x.f1 ≤ (a0.size : Int) := Tx.ch_le hc3
        have HC3 := Aside0.mk hc3
        clear hc3
        have hp0 : 0 ≤ p := HI.out.2.2
        have hf0 : x.f0 ≤ (a0.size : Int) := by omega
        have hap : P ++ (Tx.sl a0.data.toList p x.f0 ++ (toE x).x ++ Tx.ap a0.data.toList x.f1 ((row.drop (i + 1)).map toE)) = M := by
          have := HP.out
          rw [HD.out] at this
          exact this
        have HP2 := Aside0.mk hap
        have hML : M.length ≤ 140737488351232 := by
          have := HH.out
          by_cases q : M.length ≤ 140737488351232
          · exact q
          · rw [if_neg q] at this; cases this
        have hsz : P.length + ((a0.extract p.toNat x.f0.toNat).size + x.f2.size) ≤ 140737488351232 := by
          have h1 := congrArg List.length hap
          rw [List.length_append, List.length_append, List.length_append, ← ext_sl, ← size_list, toE_x, ← size_list] at h1
          omega
        have HML := Aside0.mk hML
        obtain ⟨E, hE⟩ : ∃ E, a0.extract p.toNat x.f0.toNat = E := ⟨_, rfl⟩
        rw [hE] at hsz
        have hcat : (E.size + x.f2.size ≤ 9223372036854775807) = True := eq_true (by omega)
        have hcat2 : decide (E.size + x.f2.size ≤ 9223372036854775807) = true := decide_eq_true (by omega)
        have hcat3 : (9223372036854775807 < E.size + x.f2.size) = False := eq_false (by omega)
        have HSZ2 := Aside0.mk hsz
        clear hap hsz hML hblk
        go_wp2_with fail
        go_region_held3 (fun w' => w'.cell? ⟨wr.heap.size, 0, none⟩ = some (.int .i64 x.f0) ∧ w'.cell? ⟨wr.heap.size, 1, none⟩ = some (.int .i64 x.f1) ∧ w'.cell? ⟨wr.heap.size, 2, none⟩ = some (.string x.f2))
          (first
            | go_keep
            | (refine ⟨?_, ?_, ?_⟩ <;> simp [World.cell?, HK]))
          (first | (go_at_call 76; refine (Tryz.Builder_WriteString_k w2.heap.size w2.heap.size (Lib.byteCells P) (E ++ x.f2) _ ?zb ?zl ?zs).mono ?_; (case zb => exact HBu.out.alloc _); (case zl => (rw [Lib.byteCells_length, ByteArray.size_append]; have := HSZ2.out; omega)); (case zs => (have := HS.out; simp; omega)); rintro e w4 ⟨rfl, hbu, hbel, hok⟩; have HK := hok wr.heap.size (.cells #[.int .i64 x.f0, .int .i64 x.f1, .string x.f2] 91 (0, 0)) (heap_new wr _) (by have := HS.out; intro e; have := Option.some.inj e; omega) (by intro c fz e; cases e)))
        have HB5 : Aside0 (Below w.heap.size w w4) := ⟨(HBe.out.alloc HBe.out.size _).drew.trans (hbel.mono HW.out)⟩
        have HS5 : Aside0 (w2.heap.size < w4.heap.size) := ⟨by have := hbel.size; have := HS.out; simp at *; omega⟩
        have HG5 : Aside0 (row = [] ∨ (w2.heap.size < g ∧ w4.heap[g]? = some (.cells cs 91 (0, 0)))) := ⟨HGe.out.imp id (fun q => ⟨q.1, hok g _ (heap_old q.2 _) (by intro e; have := Option.some.inj e; have := q.1; omega) (by intro c fz e; cases e)⟩)⟩
        have HBu5 : Aside0 (Lib.IsBuilderF 131 5 w2.heap.size w2.heap.size (Lib.byteCells (P ++ (E ++ x.f2).data.toList)) w4) := ⟨by
          rw [Lib.byteCells_append, ← Lib.strCells_eq]
          exact Or.inr hbu⟩
        have HP5 : Aside0 ((P ++ (E ++ x.f2).data.toList) ++ Tx.ap a0.data.toList x.f1 ((row.drop (i + 1)).map toE) = M) := ⟨by
          rw [ByteArray.data_append, Array.toList_append, ← hE, ext_sl, ← toE_x, List.append_assoc, HP2.out]⟩
        have hc1 := cell_same (w' := w4) (w := w4) (p := ⟨wr.heap.size, 1, none⟩) rfl
        have hx1' : w4.cell? ⟨wr.heap.size, 1, none⟩ = some (.int .i64 x.f1) := by simp [World.cell?, HK]
        clear hbu hbel hok HK hc1
        go_wp2_with fail
        go_roundg k1
        case measure => have := HI.out.1; omega
        case rel => exact ⟨i + 1, x.f1, P ++ (E ++ x.f2).data.toList, rfl, congrArg (Value.int .i64) (nx i (by have := HRL.out; omega)), ⟨by have := HI.out.1; omega, by omega, by omega⟩, HC3, HP5, HBu5, HB5, HG5, HS5⟩
      · have hb : decide ((i : Int) < (row.length : Int)) = false := by simp; omega
        have hp0 : 0 ≤ p := HI.out.2.2
        have hd : row.drop i = [] := List.drop_of_length_le (by omega)
        have hc := HC2.out
        rw [hd] at hc
        have hp1 : p ≤ (a0.size : Int) := hc
        have hPM : P ++ a0.data.toList.drop p.toNat = M := by
          have := HP.out
          rw [hd] at this
          exact this
        have HPM := Aside0.mk hPM
        clear hd hc hPM
        have hML : M.length ≤ 140737488351232 := by
          have := HH.out
          by_cases q : M.length ≤ 140737488351232
          · exact q
          · rw [if_neg q] at this; cases this
        have HML := Aside0.mk hML
        clear hML
        go_wp2_with fail
        refine (Tryz.Builder_WriteString_k w2.heap.size w2.heap.size (Lib.byteCells P) (a0.extract p.toNat a0.size) _ HBu.out ?_ (Nat.le_of_lt HS.out)).mono ?_
        · rw [Lib.byteCells_length, size_list, ext_end]
          have h1 := congrArg List.length HPM.out
          rw [List.length_append] at h1
          have := HML.out
          omega
        rintro e w4 ⟨rfl, hbu, hbel, -⟩
        have HB5 : Aside0 (Below w.heap.size w w4) := ⟨HBe.out.trans (hbel.mono HW.out)⟩
        have HS5 : Aside0 (w2.heap.size < w4.heap.size) := ⟨by have := hbel.size; have := HS.out; omega⟩
        have HBu5 : Aside0 (Lib.IsBuilderF 131 5 w2.heap.size w2.heap.size (Lib.byteCells M) w4) := ⟨by
          rw [← HPM.out, Lib.byteCells_append, ← ext_end, ← Lib.strCells_eq]
          exact Or.inr hbu⟩
        have HF := HH.out
        rw [if_pos HML.out] at HF
        clear hbu hbel HBu HBe
        have hlenB : (Lib.byteCells M).length = M.length := Lib.byteCells_length M
        by_cases hbig : 200000 < M.length
        · rw [if_pos hbig] at HF
          have h' := Option.some.inj HF
          have e1 : r1 = ⟨#[]⟩ := (congrArg Prod.fst h').symm
          have e2 : r2 = 2 := (congrArg Prod.snd h').symm
          clear HF h' HH
          subst e1 e2
          have hbg : decide (200000 < (M.length : Int)) = true := by simp; omega
          go_wp2_with (go_at_call 77; refine (Tryz.Builder_Len_f _ _ _ _ HBu5.out).mono ?_; rintro e w5 ⟨rfl, rfl⟩; rw [hlenB])
          go_ret2
          exact ⟨rfl, HB5.out⟩
        · rw [if_neg hbig] at HF
          have h' := Option.some.inj HF
          have e1 : r1 = ⟨M.toArray⟩ := (congrArg Prod.fst h').symm
          have e2 : r2 = 0 := (congrArg Prod.snd h').symm
          clear HF h' HH
          subst e1 e2
          have hbg : decide (200000 < (M.length : Int)) = false := by simp; omega
          go_wp2_with (first
            | (go_at_call 77; refine (Tryz.Builder_Len_f _ _ _ _ HBu5.out).mono ?_; rintro e w5 ⟨rfl, rfl⟩; rw [hlenB])
            | (go_at_call 78; refine (Tryz.Builder_String_any_k w2.heap.size w2.heap.size M _ HBu5.out (Nat.le_of_lt HS5.out)).mono ?_; rintro e w5 ⟨rfl, -, hbel, -⟩; have HB6 := Aside0.mk (HB5.out.trans (hbel.mono HW.out)); clear hbel))
          go_ret2
          exact ⟨rfl, HB6.out⟩
  · rw [if_pos hf] at h
    have h' := Option.some.inj h
    have hr : r1 = ⟨#[]⟩ ∧ r2 = fineE a0.size l1 := ⟨(congrArg Prod.fst h').symm, (congrArg Prod.snd h').symm⟩
    clear h h'
    obtain ⟨rfl, rfl⟩ := hr
    have b1 : (fineE a0.size l1 != 0) = true := by simpa using hf
    have b2 : (fineE a0.size l1 == 0) = false := by simpa using hf
    generalize fineE a0.size l1 = fe at *
    clear hf
    go_enter Tryz.func62, Tryz.ntmps62
    go_wp2_with (go_at_call 74; refine H12.out.mono ?_; rintro e w2 ⟨rfl, hb⟩; have HB := Aside0.mk hb; clear hb H12)
    go_ret2
    exact ⟨rfl, HB.out⟩
end Go.Proofs.YthimblhfjfngiaaGreat.PText

