/- Chapter 02: what the claims share. Part 10 of 11. -/
import Derived.Test.YtabnmkakgcifoaaDoorBLexI
import Derived.StringKeys
namespace Go.Proofs.YtabnmkakgcifoaaDoor.PLex
open Go.RowKit Go.Maps Go.Proofs.YtabnmkakgcifoaaDoorW.PrintWords Go.Proofs.YtabnmkakgcifoaaDoorW.PrintLast Go.Proofs.YtabnmkakgcifoaaDoorW.PrintMore
def lex_Scan.f (a0 : ByteArray) : Option (List S30 × Int) :=
  if 200000 < a0.size then some ([], 2)
  else if 40000 < (Lx.tokens keysL signsL a0.data.toList).length then some ([], 2) else some ((Lx.tokens keysL signsL a0.data.toList).map toS, 0)
theorem rd_eq (d : ByteArray) (l : List ByteArray) (i : Nat) (h : i < l.length) : rdOf d l (i : Int) = l[i] := by
  unfold rdOf
  simp [h]
theorem rd_mem (d : ByteArray) (l : List ByteArray) (i : Nat) (h : i < l.length) : rdOf d l (i : Int) ∈ l := by
  rw [rd_eq d l i h]; exact List.getElem_mem h
theorem keys_size : ∀ t ∈ keysT', t.size ≤ 1000 := by
  have h : ∀ x ∈ Lib.fields keysT, x.length ≤ 1000 := by decide +kernel
  intro t ht
  obtain ⟨x, hx, rfl⟩ := List.mem_map.mp ht
  simpa [ByteArray.size] using h x hx
/-- the map of the first keys -/
def keysD (l : List ByteArray) : DataW Unit := l.foldl (fun D k => D.put (.string k.data.toList) (.lit (.bool true))) (.map [])
theorem keysD_snoc (l : List ByteArray) (k : ByteArray) : keysD (l ++ [k]) = (keysD l).put (.string k.data.toList) (.lit (.bool true)) := by
  unfold keysD
  rw [List.foldl_append]; rfl
theorem keysD_succ (l : List ByteArray) (i : Nat) (h : i < l.length) : (keysD (l.take i)).put (.string (rdOf ⟨#[]⟩ l (i : Int)).data.toList) (.lit (.bool true)) = keysD (l.take (i + 1)) := by
  rw [rd_eq _ l i h, List.take_succ_eq_append_getElem h, keysD_snoc]
theorem keysD_isMap (l : List ByteArray) : Maps.IsMap (keysD l) := by
  unfold keysD
  suffices h : ∀ (D : DataW Unit), Maps.IsMap D → Maps.IsMap (l.foldl (fun D k => D.put (.string k.data.toList) (.lit (.bool true))) D) from h _ ⟨[], rfl⟩
  induction l with
  | nil => intro D h; exact h
  | cons k l ih => intro D h; exact ih _ (h.put _ _)
theorem keysD_at (l : List ByteArray) (x : List UInt8) : (keysD l).atKey (.string x) (.lit (.bool false)) = .lit (.bool ((l.map (·.data.toList)).contains x)) := by
  suffices h : ∀ (n : Nat) (l : List ByteArray), l.length = n → (keysD l).atKey (.string x) (.lit (.bool false)) = .lit (.bool ((l.map (·.data.toList)).contains x)) from h _ l rfl
  intro n
  induction n with
  | zero => intro l hl; rw [List.eq_nil_of_length_eq_zero hl]; rfl
  | succ n ih =>
    intro l hl
    obtain ⟨q, k, rfl⟩ : ∃ q k, l = q ++ [k] := ⟨l.dropLast, l.getLast (by intro e; rw [e] at hl; cases hl), (List.dropLast_concat_getLast _).symm⟩
    rw [keysD_snoc]
    have hq := ih q (by simpa using hl)
    by_cases e : k.data.toList = x
    · subst e
      rw [Maps.atKey_put_same (k := .string k.data.toList) (keysD_isMap q) (show True from trivial)]
      simp
    · rw [Maps.atKey_put_other (by intro h; injection h with h; exact e h.symm), hq]
      congr 2
      simp [Ne.symm e]
theorem keep_grown {w w1 w2 : World} {g : Nat} (h : KeepBut w w1 g none) (hg : w1.grownBy w2 (some g)) : KeepBut w w2 g none :=
  ⟨Nat.le_trans h.1 hg.size, fun i hi hne hr => (hg.block i (by have := h.1; omega) (fun e => hne (by injection e))).trans (h.2 i hi hne hr)⟩
def Held (p : Prop) : Prop := p
theorem held_ {p : Prop} (h : Held p) : p := h
theorem held_' {p : Prop} (h : p) : Held p := h
/-- the world as far as a block -/
theorem cut_world (wr : World) (g : Nat) (hg : g ≤ wr.heap.size) : ∃ w0 : World, w0.heap.size = g ∧ Below w0.heap.size w0 wr ∧ (∀ k, k < g → w0.heap[k]? = wr.heap[k]?) ∧ ∀ (w : World), w.heap.size ≤ g → Below w.heap.size w wr → Below w.heap.size w w0 := by
  have hk : ∀ k, k < g → (wr.heap.extract 0 g)[k]? = wr.heap[k]? := by
    intro k hk
    rw [Array.getElem?_extract]
    simp
    omega
  have hs : (wr.heap.extract 0 g).size = g := by simp; omega
  refine ⟨{ wr with heap := wr.heap.extract 0 g }, hs, ⟨rfl, rfl, rfl, by show (wr.heap.extract 0 g).size ≤ _; omega, fun k h => (hk k (by rw [← hs]; exact h)).symm⟩, hk, fun w h1 h2 => ⟨h2.os, h2.tape, h2.output, by show _ ≤ (wr.heap.extract 0 g).size; omega, fun k h => (hk k (by omega)).trans (h2.block k h)⟩⟩
theorem zero4 (w : World) : (zeroValue 4).run Tryd.prog w = .ok (.bool false) w := by kernel_rfl
theorem bool_inv {P : Program} {e : TypeId} (he : P.underlying e = some .bool) {v : Value} {x : Bool} {ps : List MemPlace} (h : plainElem (H := Unit) P e v = some (.lit (.bool x), ps)) : v = .bool x := by
  unfold plainElem at h
  rw [he] at h
  cases v <;> simp at h
  rw [h.1]
/-- the map of the keys answers -/
theorem keys_look (w : World) (B n : Nat) (h : w.ownsMap Tryd.prog 9 (plainElem (H := Unit) Tryd.prog 4) B n (keysD keysT')) (key : ByteArray) (hk : key.size ≤ 200000) :
    (Instr.lookup 46 (.map (some B)) (.string key) false).run Tryd.prog w = .ok (.bool (keysL.contains key.data.toList)) w := by
  obtain ⟨v, ps, hrun, hv⟩ := h.lookup (Maps.string_keyed Tryd.underlying9) Tryd.underlying46 (zero4 w) (plainElem_bool Tryd.underlying4 false) (Go.WideMaps.keyOf_string_mk Tryd.underlying9 (s := key) (by unfold maxLen; omega))
  rw [keysD_at] at hv
  rw [hrun, bool_inv Tryd.underlying4 hv, keysL_eq]
set_option maxHeartbeats 4000000 in
set_option maxRecDepth 100000 in
theorem lex_Scan.calls (a0 : ByteArray) (r1 : List S30) (r2 : Int) (w : World) (hGl : Glob w) (h : lex_Scan.f a0 = some (r1, r2)) :
    Calls Tryd.prog 10 #[.string a0] w fun e w' => ∃ v0_ : Value, e = .returned (.tuple #[v0_, .int .i64 r2]) ∧ Kd.R k30 30 w' w.heap.size (fun _ => True) v0_ r1 ∧ Below w.heap.size w w' := by
  have H := Lib.hid h
  have HG := Lib.hid hGl
  have hmm := @run_makeMap Tryd.prog
  have hu2 := Tryd.underlying48
  clear h hGl
  go_enter Tryd.func10, Tryd.ntmps10
  by_cases hbig : 200000 < a0.size
  · have hb1 : decide ((200000 : Int) < (a0.size : Int)) = true := by simp; omega
    have H1 := H.out
    rw [lex_Scan.f, if_pos hbig] at H1
    obtain ⟨rfl, rfl⟩ := Prod.mk.inj (Option.some.inj H1)
    go_wp2_with fail
    go_ret2
    exact ⟨_, rfl, Kd.R_nil _ _ _ _ _, Below.refl _ _⟩
  · have hb1 : decide ((200000 : Int) < (a0.size : Int)) = false := by simp; omega
    have HBIG := Lib.hid hbig
    clear hbig
    go_wp2_with fail
    have CS := lex_Signs.calls (signsT') (w.alloc (.map #[] 0)) (Glob.below HG.out (below_alloc (Below.refl _ _) _)) signs_f
    refine CS.mono ?_
    clear CS
    rintro e w1 ⟨vs, rfl, hvs, hbs⟩
    obtain ⟨As, cs, rfl, hcs, hrs⟩ := Kd.R_reads hvs
    have HBS := Aside0.mk hbs
    have HVS := Aside0.mk hvs
    clear hbs hvs hrs
    go_wp2_with fail
    refine (lex_Keys.calls keysT' _ (Glob.below HG.out (below_alloc ((below_alloc (Below.refl _ _) _).trans (HBS.out.mono (by simp))) _)) keys_f).mono ?_
    rintro e w2 ⟨vk, rfl, hvk, hbk⟩
    obtain ⟨kb, ck, rfl, hkb1, hkb2, kcells, hkb3⟩ := Kd.R_form hvk (by decide +kernel)
    have HBK := Aside0.mk hbk
    have HVK := Aside0.mk hvk
    clear hbk hvk
    generalize hlen : keysT'.length = len
    have hlen' : len ≤ 1000 := by rw [← hlen]; decide +kernel
    have hB1 : w.heap.size < w1.heap.size := by have := HBS.out.size; simp at this; omega
    have hB0 : w.heap.size ≤ w.heap.size := Nat.le_refl _
    have hg1 : w1.heap.size < w2.heap.size := by have := HBK.out.size; simp at this; omega
    have hbw2 : Below w.heap.size w w2 := (below_alloc ((below_alloc (Below.refl _ _) _).trans (HBS.out.mono (by simp))) _).trans (HBK.out.mono (by simp; omega))
    have hm2 : w2.ownsMap Tryd.prog 9 (plainElem (H := Unit) Tryd.prog 4) w.heap.size 0 (keysD (keysT'.take 0)) := by
      obtain ⟨es, clock, hb, hr⟩ := World.ownsMap_made w Tryd.prog 9 (plainElem (H := Unit) Tryd.prog 4)
      exact ⟨es, clock, (HBK.out.block _ (by simp; omega)).trans (((below_alloc (Below.refl w1.heap.size w1) _).block _ hB1).trans ((HBS.out.block _ (by simp)).trans hb)), hr⟩
    go_wp2_with fail
    go_loopg [19] len (fun kq v19 w' => ∃ i : Nat, v19 = .int .i64 (i : Int) ∧ Aside0 (kq + i = len) ∧ Aside0 (w'.ownsMap Tryd.prog 9 (plainElem (H := Unit) Tryd.prog 4) w.heap.size i (keysD (keysT'.take i))) ∧ Aside0 (KeepBut w2 w' w.heap.size none) ∧ Aside0 (Below w.heap.size w w'))
    case atStart => exact ⟨0, rfl, ⟨by omega⟩, ⟨hm2⟩, ⟨KeepBut.refl _ _ _⟩, ⟨hbw2⟩⟩
    case round =>
      obtain ⟨i, rfl, HK1, HO, HKE, HBE⟩ := hrel
      by_cases hi : i < len
      · have hib : decide ((i : Int) < (len : Int)) = true := by simp; omega
        have HVR := Kd.R_step (Kd.R_mono (Kd.R_bound HVK.out) (ok' := fun k => w1.heap.size < k) (fun k hk => by have h1 := hk.2.1; simp at h1; omega)) (w1 := wr) (fun k hk hlt => HKE.out.2 k hlt (by omega) (by simp))
        have hci : wr.cell? ⟨kb, i, none⟩ = some (.string (rdOf ⟨#[]⟩ keysT' i)) := by simpa using (Kd.R_celln ⟨#[]⟩ HVR i (by omega) (by omega)).1
        have hin : rdOf ⟨#[]⟩ keysT' i ∈ keysT' := rd_mem _ _ _ (by omega)
        have hsz : (rdOf ⟨#[]⟩ keysT' i).size ≤ maxLen := by have := keys_size _ hin; unfold maxLen; omega
        have hil : i < maxLen := by unfold maxLen; omega
        have hgb : wr.heap[w1.heap.size]? = some (.cells #[.string a0, .int .i64 0, .map (some w.heap.size), .slice As signsT'.length cs, .bool true] 48 (0, 0)) :=
          HKE.out.blk ((HBK.out.block _ (by simp)).trans (by simpa using heap_alloc_new w1 _)) (by omega) (by simp)
        have hg2 : wr.cell? ⟨w1.heap.size, 2, none⟩ = some (.map (some w.heap.size)) := (blk_cell hgb 2).trans rfl
        have hown := HO.out
        have HIN := Lib.hid hin
        clear HVR hgb hin
        go_wp2_with (first
          | (at_mapUpdate; refine wpList_mapUpdate_own _ rfl _ _ _ 46 rfl 9 4 (Maps.string_keyed Tryd.underlying9) Tryd.underlying46 _ w.heap.size i _ rfl hown hil _ _ _ rfl rfl (Go.WideMaps.keyOf_string_mk Tryd.underlying9 hsz) _ [] (plainElem_bool Tryd.underlying4 true) ?_; intro w3 hown3 hgrow3)
          | go_in)
        obtain ⟨k1, hk1⟩ : ∃ k1, gk = k1 + 1 := ⟨gk - 1, by have := HK1.out; omega⟩
        go_roundg k1
        case measure => omega
        case rel => exact ⟨i + 1, by simp, ⟨by have := HK1.out; omega⟩, ⟨by rw [← keysD_succ _ i (by omega)]; exact hown3⟩, ⟨keep_grown HKE.out hgrow3⟩, ⟨HBE.out.grown hgrow3 HBE.out.size (fun k e => by cases e; exact Nat.le_refl _)⟩⟩
      · have hib : decide ((i : Int) < (len : Int)) = false := by simp; omega
        have hie : i = len := by have := HK1.out; omega
        subst hie
        have HO2 : Aside0 (wr.ownsMap Tryd.prog 9 (plainElem (H := Unit) Tryd.prog 4) w.heap.size i (keysD keysT')) := ⟨by have := HO.out; rw [List.take_of_length_le (by omega)] at this; exact this⟩
        obtain ⟨es, clock, hmb, hfit, hes, hD⟩ := HO2.out
        go_wp2_with fail
        have hgw : w1.heap.size < wr.heap.size := by have := HKE.out.1; omega
        obtain ⟨w0, hw0, hb0, hcut, hdown⟩ := cut_world wr w1.heap.size (by omega)
        have hBw0 := hdown w (by omega) HBE.out
        have hGl0 : Glob w0 := HG.out.below hBw0
        have hgb : wr.heap[w1.heap.size]? = some (.cells #[.string a0, .int .i64 0, .map (some w.heap.size), .slice As signsT'.length cs, .bool true] 48 (0, 0)) :=
          HKE.out.blk ((HBK.out.block _ (by simp)).trans (by simpa using heap_alloc_new w1 _)) (by omega) (by simp)
        have hsg : Kd.C Kd.string w0 As signsT'.length signsT' := by
          have hst := Kd.R_step (Kd.R_mono (Kd.R_bound HVS.out) (ok' := fun k => w.heap.size < k ∧ k < w1.heap.size) (fun k hk => by have h1 := hk.2.1; simp at h1; exact ⟨by omega, hk.2.2.1⟩)) (w1 := w0) (fun k hk hlt => (hcut k hlt).trans ((HKE.out.2 k (by omega) (by omega) (by simp)).trans ((HBK.out.block k (by simp; omega)).trans ((below_alloc (Below.refl w1.heap.size w1) _).block k (by omega)))))
          exact (Kd.R_reads' hst).2.2
        have hI0 : IsS48 w0 wr w1.heap.size a0 ((0 : Nat) : Int) (some w.heap.size) signsT' true := ⟨As, cs, hgb, by omega, hsg⟩
        have hmb0 : w0.heap[w.heap.size]? = some (.map es clock) := (hcut _ hB1).trans hmb
        have HI0 := Aside0.mk hI0
        have HB0 := Aside0.mk hb0
        have HMB := Aside0.mk hmb0
        have HLOOK := Lib.hid (fun (W' : World) (hW : W'.heap[w.heap.size]? = some (.map es clock)) (key : ByteArray) (hk : key.size ≤ 200000) => keys_look W' w.heap.size i ⟨es, clock, hW, hfit, hes, hD⟩ key hk)
        generalize hall : (Lx.tokens keysL signsL (bl a0)).map toS = all
        have HALL := Lib.hid hall
        have HRES : Hid ((if 40000 < all.length then (([] : List S30), (2 : Int)) else (all, 0)) = (r1, r2)) := by
          have h1 := H.out
          rw [lex_Scan.f, if_neg HBIG.out] at h1
          have h2 : (Lx.tokens keysL signsL a0.data.toList).length = all.length := by rw [← hall, List.length_map]
          rw [h2] at h1
          refine Lib.hid ?_
          split at h1
          · rename_i h3; rw [if_pos h3]; exact Option.some.inj h1
          · rename_i h3; rw [if_neg h3, ← hall]; exact Option.some.inj h1
        clear hI0 hb0 hmb0 hsg hgb hmb hfit hes hD hcut hdown hall
        go_loopg [7] (a0.size + 1) (fun kq v7 w' => ∃ (outs : List S30) (at_ : Nat) (f : Bool), Aside0 (a0.size - at_ < kq ∧ at_ ≤ a0.size) ∧ Aside0 (outs.length ≤ 40000) ∧ Aside0 (outs ++ (Lx.go keysL signsL kq ((bl a0).drop at_) at_ f).map toS = all) ∧ Aside0 (IsS48 w0 w' w1.heap.size a0 at_ (some w.heap.size) signsT' f) ∧ Aside0 (Below w0.heap.size w0 w') ∧ Aside0 (Kd.R k30 30 w' w0.heap.size (fun _ => True) v7 outs))
        case atStart => exact ⟨[], 0, true, ⟨by omega, by omega⟩, ⟨by simp⟩, ⟨by rw [← HALL.out, Lx.tokens, bl_length]; rfl⟩, HI0, HB0, ⟨Kd.R_nil _ _ _ _ _⟩⟩
        case round =>
          obtain ⟨outs, at_, f, HA, HL, HE, HI, HB, HR⟩ := hrel
          obtain ⟨k1, rfl⟩ : ∃ k1, gk = k1 + 1 := ⟨gk - 1, by have := HA.out.1; omega⟩
          obtain ⟨q1, q2, q3, q4⟩ := go_step a0 at_ f k1 HA.out.2
          have hin : wr.heap[w.heap.size]? = some (.map es clock) := (HB.out.block _ (by omega)).trans HMB.out
          have CT := token_calls w1.heap.size a0 at_ w.heap.size _ f w0 wr HI.out HB.out hGl0 (by have := HBIG.out; omega) HA.out.2 hin (by omega) HLOOK.out
          generalize tokStep a0 at_ f = T at q1 q2 q3 q4 CT
          have CT' := Lib.hid CT
          clear CT
          go_wp2_with fail
          refine CT'.out.mono ?_
          rintro e w3 ⟨rfl, p1, p2, p3⟩
          have HI3 := Aside0.mk p1
          have HB3 := Aside0.mk p2
          have HR3 : Aside0 (Kd.R k30 30 w3 w0.heap.size (fun _ => True) u7 outs) := by
            obtain ⟨A, c, hc, -, -⟩ := HI.out
            exact ⟨Kd.R_mono (Kd.R_keep (Kd.R_types HR.out hc (by decide)) p3 (fun _ hk => hk.2)) (fun _ _ => trivial)⟩
          clear p1 p2 p3 HI HB HR hin CT'
          have hs3 : w0.heap.size ≤ w3.heap.size := HB3.out.size
          have hlo := HL.out
          go_wp2_with (first | ((with_reducible refine gate_builtin (b := .append) (xs := #[.tmp 31, .tmp 33]) rfl ?_); at_builtin; refine held_ ?_))
          refine held_' ?_
          refine Kd.R_append k30 (w0 := w0) w0.heap.size rfl (.tmp 31) (.tmp 33) 22 30 (.agg #[(.int .i64 0), (.string ⟨#[]⟩), (.string ⟨#[]⟩), (.int .i64 0)]) 48 rfl Tryd.underlying22 info30 rfl (by decide) (by omega) u7 outs (tokS T.1) [.int .i64 (T.1.1 : Nat), .string T.1.2.1, .string T.1.2.2.1, .int .i64 (T.1.2.2.2 : Nat)] (fun _ => True) (fun _ => False) rfl ?hx ?aP (fun _ hk => hk.elim) ?aF ?aO ?aB ?aS ?aL ?_
          case hx => go_simp
          case aP => exact k30_mkM _ _ _ (tokS T.1)
          case aF => exact (fun _ _ => trivial)
          case aO => exact Kd.R_alloc HR3.out _
          case aB => exact below_alloc HB3.out _
          case aS => exact below_size (below_alloc HB3.out _)
          case aL => omega
          intro v4 w4 ho hb hg hat
          have HI4 : Aside0 (IsS48 w0 w4 w1.heap.size a0 ((T.2.1 : Nat) : Int) (some w.heap.size) signsT' T.2.2) := by
            obtain ⟨A, c, hc, hq1, hq2⟩ := HI3.out
            exact ⟨(HI3.out.alloc _).grown hg (Kd.R_ne HR3.out hc (by decide))⟩
          have htb : w4.heap[w3.heap.size]? = some (.cells #[.int .i64 (T.1.1 : Nat), .string T.1.2.1, .string T.1.2.2.1, .int .i64 (T.1.2.2.2 : Nat)] 30 (0, 0)) :=
            (hg.block _ (by simp) (fun e => by have := Kd.R_lt HR3.out _ e.symm; omega)).trans (blk_new w3 _)
          have t0 : w4.cell? ⟨w3.heap.size, 0, none⟩ = some (.int .i64 (T.1.1 : Nat)) := (blk_cell htb 0).trans rfl
          obtain ⟨A4, c4, hv4, hc4, -⟩ := Kd.R_reads ho
          have hlen4 : (outs ++ [tokS T.1]).length = outs.length + 1 := by simp
          rw [hlen4] at hv4 hc4
          subst hv4
          have HR4 := Aside0.mk ho
          have HB4 := Aside0.mk hb
          clear ho hb hg hat htb HI3 HB3 HR3
          have Q := Lib.hid (And.intro q1 (And.intro q2 (And.intro q3 q4)))
          clear q1 q2 q3 q4 hlen4 hs3
          generalize hm : outs.length + 1 = m
          rw [hm] at hc4 HR4
          have HM := Lib.hid hm
          clear hm hlo
          by_cases hbig2 : 40000 < m
          · have hbb : decide ((40000 : Int) < ((m : Nat) : Int)) = true := by simp; omega
            have HBIG2 := Lib.hid hbig2
            clear hbig2
            go_wp2_with fail
            have HF := HRES.out
            have hlen5 : m ≤ all.length := by rw [← HE.out, Q.out.1, List.length_append, List.length_cons]; have := HM.out; omega
            rw [if_pos (by have := HBIG2.out; omega)] at HF
            obtain ⟨rfl, rfl⟩ := Prod.mk.inj HF
            go_ret2
            exact ⟨_, rfl, Kd.R_nil _ _ _ _ _, hBw0.trans (HB4.out.mono (by omega))⟩
          · have hbb : decide ((40000 : Int) < ((m : Nat) : Int)) = false := by simp; omega
            have HBIG2 := Lib.hid hbig2
            clear hbig2
            by_cases hk0 : T.1.1 = 0
            · have hkb : ((T.1.1 : Int) == 0) = true := by simp [hk0]
              have HK0 := Lib.hid hk0
              clear hk0
              go_wp2_with fail
              have HF := HRES.out
              have he5 : outs ++ [tokS T.1] = all := by rw [← HE.out, Q.out.1, if_pos HK0.out]
              rw [if_neg (by rw [← he5, List.length_append]; have := HM.out; have := HBIG2.out; simp; omega)] at HF
              obtain ⟨rfl, rfl⟩ := Prod.mk.inj HF
              go_ret2
              exact ⟨_, rfl, he5 ▸ Kd.R_lower HR4.out (by omega), hBw0.trans (HB4.out.mono (by omega))⟩
            · have hkb : ((T.1.1 : Int) == 0) = false := by rw [beq_eq_false_iff_ne]; omega
              have HK0 := Lib.hid hk0
              clear hk0
              go_wp2_with fail
              go_roundg k1
              case measure => omega
              case rel =>
                have q4 := Q.out.2.2.2 HK0.out
                exact ⟨outs ++ [tokS T.1], T.2.1, T.2.2, ⟨by have h1 := HA.out.1; have h2 := Q.out.2.2.1; omega, Q.out.2.2.1⟩, ⟨by have := HM.out; have := HBIG2.out; simp; omega⟩, ⟨by rw [← HE.out, Q.out.1, if_neg HK0.out, List.append_assoc]; rfl⟩, HI4, HB4, HR4⟩
end Go.Proofs.YtabnmkakgcifoaaDoor.PLex

namespace Go.Proofs.YtabnmkakgcifoaaDoor.PLex
open Go.RowKit Go.Proofs.YtabnmkakgcifoaaDoorW.PrintWords Go.Proofs.YtabnmkakgcifoaaDoorW.PrintLast Go.Proofs.YtabnmkakgcifoaaDoorW.PrintMore
attribute [local go_sem] max2_int min2_int max_two min_two max_three min_three max_four min_four   -- for this text's walks alone
set_option linter.unusedVariables false
set_option linter.unusedSimpArgs false

def lw2_awake.f  : Option (Bool) := (lex_Scan.f (⟨#[97, 32, 47, 42, 32, 98, 32, 42, 47, 43, 49]⟩ : ByteArray)).bind fun bt194 => (if bt194.2 = 0 then (if (bt194.1.length : Int) = 4 then (if 1 < (bt194.1.length : Int) then (if ((rd_T30 bt194.1 1).f1).toList = ([32, 47, 42, 32, 98, 32, 42, 47] : List UInt8) then (if ((rd_T30 bt194.1 1).f2).toList = ([43] : List UInt8) then (if 3 < (bt194.1.length : Int) then (some (((rd_T30 bt194.1 3).f0) == 0)) else (none)) else (some false)) else (some false)) else (none)) else (some false)) else (some false))
set_option maxHeartbeats 8000000 in
set_option maxRecDepth 100000 in
theorem lw2_awake.calls  (r : Bool) (w : World) (hGl : Glob w) (h : lw2_awake.f  = some r) :
  Calls Tryd.prog 13 #[] w fun e w' => e = .returned (.bool r) ∧ Below w.heap.size w w' := by
 have HB := Aside0.mk (Below.refl w.heap.size w)
 have HGl := Aside0.mk hGl
 clear hGl
 have H : ((lex_Scan.f (⟨#[97, 32, 47, 42, 32, 98, 32, 42, 47, 43, 49]⟩ : ByteArray)).bind fun bt194 => (if bt194.2 = 0 then (if (bt194.1.length : Int) = 4 then (if 1 < (bt194.1.length : Int) then (if ((rd_T30 bt194.1 1).f1).toList = ([32, 47, 42, 32, 98, 32, 42, 47] : List UInt8) then (if ((rd_T30 bt194.1 1).f2).toList = ([43] : List UInt8) then (if 3 < (bt194.1.length : Int) then (some (((rd_T30 bt194.1 3).f0) == 0)) else (none)) else (some false)) else (some false)) else (none)) else (some false)) else (some false))) = some r := h
 clear h
 replace H := Option.bind_eq_some_iff.mp H
 obtain ⟨⟨t194, t195⟩, A10, H⟩ := H
 replace H : (if t195 = 0 then (if (t194.length : Int) = 4 then (if 1 < (t194.length : Int) then (if ((rd_T30 t194 1).f1).toList = ([32, 47, 42, 32, 98, 32, 42, 47] : List UInt8) then (if ((rd_T30 t194 1).f2).toList = ([43] : List UInt8) then (if 3 < (t194.length : Int) then (some (((rd_T30 t194 3).f0) == 0)) else (none)) else (some false)) else (some false)) else (none)) else (some false)) else (some false)) = some r := H
 have A1 := Aside0.mk A10
 clear A10
 by_cases c2 : t195 = 0
 ·rw [if_pos c2] at H
  have c2b0 : (t195 == 0) = true := beq_iff_eq.mpr c2
  have c2b1 : (t195 != 0) = false := bne_eq_false_iff_eq.mpr c2
  clear c2
  by_cases c3 : (t194.length : Int) = 4
  ·rw [if_pos c3] at H
   have c3b0 : ((t194.length : Int) == 4) = true := beq_iff_eq.mpr c3
   have c3b1 : ((t194.length : Int) != 4) = false := bne_eq_false_iff_eq.mpr c3
   clear c3
   by_cases c4 : 1 < (t194.length : Int)
   ·rw [if_pos c4] at H
    have c4b0 : decide (1 < (t194.length : Int)) = true := decide_eq_true c4
    have c4b1 : decide (1 < t194.length) = true := decide_eq_true (by omega)
    clear c4
    by_cases c5 : ((rd_T30 t194 1).f1).toList = ([32, 47, 42, 32, 98, 32, 42, 47] : List UInt8)
    ·rw [if_pos c5] at H
     have c5b0 : (((rd_T30 t194 1).f1).toList == ([32, 47, 42, 32, 98, 32, 42, 47] : List UInt8)) = true := beq_iff_eq.mpr c5
     have c5b1 : (((rd_T30 t194 1).f1).toList != ([32, 47, 42, 32, 98, 32, 42, 47] : List UInt8)) = false := bne_eq_false_iff_eq.mpr c5
     clear c5
     by_cases c6 : ((rd_T30 t194 1).f2).toList = ([43] : List UInt8)
     ·rw [if_pos c6] at H
      have c6b0 : (((rd_T30 t194 1).f2).toList == ([43] : List UInt8)) = true := beq_iff_eq.mpr c6
      have c6b1 : (((rd_T30 t194 1).f2).toList != ([43] : List UInt8)) = false := bne_eq_false_iff_eq.mpr c6
      clear c6
      by_cases c7 : 3 < (t194.length : Int)
      ·rw [if_pos c7] at H
       have c7b0 : decide (3 < (t194.length : Int)) = true := decide_eq_true c7
       have c7b1 : decide (3 < t194.length) = true := decide_eq_true (by omega)
       clear c7
       obtain rfl := Option.some.inj H
       go_enter Tryd.func13, Tryd.ntmps13
       go_wp2_with (first | ((with_reducible refine gate_callee (f := 10) rfl ?_); refine goesL_ (some 4) rfl rfl Tryd.func10 (by kernel_rfl) rfl #[.string (⟨#[97, 32, 47, 42, 32, 98, 32, 42, 47, 43, 49]⟩ : ByteArray)] rfl (by (try simp only [List.map_toArray, List.map_cons, List.map_nil]); first | done | rfl | (simp only [List.length_drop, List.length_take]; rfl)) ?_; (with_reducible refine (lex_Scan.calls (⟨#[97, 32, 47, 42, 32, 98, 32, 42, 47, 43, 49]⟩ : ByteArray) t194 t195 _ ?side1 A1.out).mono ?_); (case side1 => exact Glob.below HGl.out (by repeat (first | (with_reducible first | exact HB.out | apply below_alloc | apply pw_below_drewN | apply below_drew1) | exact HB.out))); rintro e w8 ⟨v196, rfl, ho0, hb⟩; refine ⟨_, rfl, ?_⟩; have n0_ := Aside0.mk (Kd.R_lower ho0 (below_size (by repeat (first | (with_reducible first | exact HB.out | apply below_alloc | apply pw_below_drewN | apply below_drew1) | exact HB.out)))); have n1_ := Aside0.mk (below_step (by repeat (first | (with_reducible first | exact HB.out | apply below_alloc | apply pw_below_drewN | apply below_drew1) | exact HB.out)) hb); clear HB; have HO197 := n0_; have HB := n1_; clear n0_ n1_; (try clear hb); (try clear hb2); (try clear hk); (try clear hi); (try clear ho0); obtain ⟨Ao9, co9, eo9⟩ := Kd.R_slice HO197.out; subst eo9; have p198 : 0 ≤ (1 : Int) := (by omega); have q198 : 1 < (t194.length : Int) := of_decide_eq_true (by first | (with_reducible assumption) | assumption); obtain ⟨ad198, e198, hx198_0, hx198_1, hx198_2, hx198_3⟩ := at_T30 (Kd.R_reads' HO197.out).2.2 1 p198 q198; cases e198; (try simp only [show (1 : Int).toNat = 1 from rfl, Nat.reduceMul, Nat.reduceEqDiff, Go.Addr.add, ↓reduceIte] at hx198_0); (try simp only [show (1 : Int).toNat = 1 from rfl, Nat.reduceMul, Nat.reduceEqDiff, Go.Addr.add, ↓reduceIte] at hx198_1); (try simp only [show (1 : Int).toNat = 1 from rfl, Nat.reduceMul, Nat.reduceEqDiff, Go.Addr.add, ↓reduceIte] at hx198_2); (try simp only [show (1 : Int).toNat = 1 from rfl, Nat.reduceMul, Nat.reduceEqDiff, Go.Addr.add, ↓reduceIte] at hx198_3); have qi198 : (1 < t194.length) = True := eq_true (by omega); (try rw [show ((1 : Int)).toNat = 1 from rfl] at hx198_0); (try rw [show 1 * 4 = 4 from rfl] at hx198_0); (try rw [show ((1 : Int)).toNat = 1 from rfl] at hx198_1); (try rw [show 1 * 4 = 4 from rfl] at hx198_1); (try rw [show ((1 : Int)).toNat = 1 from rfl] at hx198_2); (try rw [show 1 * 4 = 4 from rfl] at hx198_2); (try rw [show ((1 : Int)).toNat = 1 from rfl] at hx198_3); (try rw [show 1 * 4 = 4 from rfl] at hx198_3); replace p198 := eq_true p198; replace q198 := eq_true q198; have p199 : 0 ≤ (1 : Int) := (by omega); have q199 : 1 < (t194.length : Int) := of_decide_eq_true (by first | (with_reducible assumption) | assumption); obtain ⟨ad199, e199, hx199_0, hx199_1, hx199_2, hx199_3⟩ := at_T30 (Kd.R_reads' HO197.out).2.2 1 p199 q199; obtain rfl : ad198 = ad199 := (by injection e199); (try simp only [show (1 : Int).toNat = 1 from rfl, Nat.reduceMul, Nat.reduceEqDiff, Go.Addr.add, ↓reduceIte] at hx199_0); (try simp only [show (1 : Int).toNat = 1 from rfl, Nat.reduceMul, Nat.reduceEqDiff, Go.Addr.add, ↓reduceIte] at hx199_1); (try simp only [show (1 : Int).toNat = 1 from rfl, Nat.reduceMul, Nat.reduceEqDiff, Go.Addr.add, ↓reduceIte] at hx199_2); (try simp only [show (1 : Int).toNat = 1 from rfl, Nat.reduceMul, Nat.reduceEqDiff, Go.Addr.add, ↓reduceIte] at hx199_3); have qi199 : (1 < t194.length) = True := eq_true (by omega); (try rw [show ((1 : Int)).toNat = 1 from rfl] at hx199_0); (try rw [show 1 * 4 = 4 from rfl] at hx199_0); (try rw [show ((1 : Int)).toNat = 1 from rfl] at hx199_1); (try rw [show 1 * 4 = 4 from rfl] at hx199_1); (try rw [show ((1 : Int)).toNat = 1 from rfl] at hx199_2); (try rw [show 1 * 4 = 4 from rfl] at hx199_2); (try rw [show ((1 : Int)).toNat = 1 from rfl] at hx199_3); (try rw [show 1 * 4 = 4 from rfl] at hx199_3); replace p199 := eq_true p199; replace q199 := eq_true q199; have p200 : 0 ≤ (3 : Int) := (by omega); have q200 : 3 < (t194.length : Int) := of_decide_eq_true (by first | (with_reducible assumption) | assumption); obtain ⟨ad200, e200, hx200_0, hx200_1, hx200_2, hx200_3⟩ := at_T30 (Kd.R_reads' HO197.out).2.2 3 p200 q200; obtain rfl : ad198 = ad200 := (by injection e200); (try simp only [show (3 : Int).toNat = 3 from rfl, Nat.reduceMul, Nat.reduceEqDiff, Go.Addr.add, ↓reduceIte] at hx200_0); (try simp only [show (3 : Int).toNat = 3 from rfl, Nat.reduceMul, Nat.reduceEqDiff, Go.Addr.add, ↓reduceIte] at hx200_1); (try simp only [show (3 : Int).toNat = 3 from rfl, Nat.reduceMul, Nat.reduceEqDiff, Go.Addr.add, ↓reduceIte] at hx200_2); (try simp only [show (3 : Int).toNat = 3 from rfl, Nat.reduceMul, Nat.reduceEqDiff, Go.Addr.add, ↓reduceIte] at hx200_3); have qi200 : (3 < t194.length) = True := eq_true (by omega); (try rw [show ((3 : Int)).toNat = 3 from rfl] at hx200_0); (try rw [show 3 * 4 = 12 from rfl] at hx200_0); (try rw [show ((3 : Int)).toNat = 3 from rfl] at hx200_1); (try rw [show 3 * 4 = 12 from rfl] at hx200_1); (try rw [show ((3 : Int)).toNat = 3 from rfl] at hx200_2); (try rw [show 3 * 4 = 12 from rfl] at hx200_2); (try rw [show ((3 : Int)).toNat = 3 from rfl] at hx200_3); (try rw [show 3 * 4 = 12 from rfl] at hx200_3); replace p200 := eq_true p200; replace q200 := eq_true q200))
       go_ret
       exact ⟨by first | rfl | (simp [errW_none, errW_some] <;> rfl) | (simp [*, errW_none, errW_some] <;> rfl), by repeat (first | (with_reducible first | exact HB.out | apply below_alloc | apply pw_below_drewN | apply below_drew1) | exact HB.out)⟩
      ·rw [if_neg c7] at H
       exact absurd H (by simp)
     ·rw [if_neg c6] at H
      have c6b0 : (((rd_T30 t194 1).f2).toList == ([43] : List UInt8)) = false := beq_eq_false_iff_ne.mpr c6
      have c6b1 : (((rd_T30 t194 1).f2).toList != ([43] : List UInt8)) = true := bne_iff_ne.mpr c6
      obtain rfl := Option.some.inj H
      go_enter Tryd.func13, Tryd.ntmps13
      go_wp2_with (first | ((with_reducible refine gate_callee (f := 10) rfl ?_); refine goesL_ (some 4) rfl rfl Tryd.func10 (by kernel_rfl) rfl #[.string (⟨#[97, 32, 47, 42, 32, 98, 32, 42, 47, 43, 49]⟩ : ByteArray)] rfl (by (try simp only [List.map_toArray, List.map_cons, List.map_nil]); first | done | rfl | (simp only [List.length_drop, List.length_take]; rfl)) ?_; (with_reducible refine (lex_Scan.calls (⟨#[97, 32, 47, 42, 32, 98, 32, 42, 47, 43, 49]⟩ : ByteArray) t194 t195 _ ?side1 A1.out).mono ?_); (case side1 => exact Glob.below HGl.out (by repeat (first | (with_reducible first | exact HB.out | apply below_alloc | apply pw_below_drewN | apply below_drew1) | exact HB.out))); rintro e w10 ⟨v196, rfl, ho0, hb⟩; refine ⟨_, rfl, ?_⟩; have n0_ := Aside0.mk (Kd.R_lower ho0 (below_size (by repeat (first | (with_reducible first | exact HB.out | apply below_alloc | apply pw_below_drewN | apply below_drew1) | exact HB.out)))); have n1_ := Aside0.mk (below_step (by repeat (first | (with_reducible first | exact HB.out | apply below_alloc | apply pw_below_drewN | apply below_drew1) | exact HB.out)) hb); clear HB; have HO197 := n0_; have HB := n1_; clear n0_ n1_; (try clear hb); (try clear hb2); (try clear hk); (try clear hi); (try clear ho0); obtain ⟨Ao11, co11, eo11⟩ := Kd.R_slice HO197.out; subst eo11; have p198 : 0 ≤ (1 : Int) := (by omega); have q198 : 1 < (t194.length : Int) := of_decide_eq_true (by first | (with_reducible assumption) | assumption); obtain ⟨ad198, e198, hx198_0, hx198_1, hx198_2, hx198_3⟩ := at_T30 (Kd.R_reads' HO197.out).2.2 1 p198 q198; cases e198; (try simp only [show (1 : Int).toNat = 1 from rfl, Nat.reduceMul, Nat.reduceEqDiff, Go.Addr.add, ↓reduceIte] at hx198_0); (try simp only [show (1 : Int).toNat = 1 from rfl, Nat.reduceMul, Nat.reduceEqDiff, Go.Addr.add, ↓reduceIte] at hx198_1); (try simp only [show (1 : Int).toNat = 1 from rfl, Nat.reduceMul, Nat.reduceEqDiff, Go.Addr.add, ↓reduceIte] at hx198_2); (try simp only [show (1 : Int).toNat = 1 from rfl, Nat.reduceMul, Nat.reduceEqDiff, Go.Addr.add, ↓reduceIte] at hx198_3); have qi198 : (1 < t194.length) = True := eq_true (by omega); (try rw [show ((1 : Int)).toNat = 1 from rfl] at hx198_0); (try rw [show 1 * 4 = 4 from rfl] at hx198_0); (try rw [show ((1 : Int)).toNat = 1 from rfl] at hx198_1); (try rw [show 1 * 4 = 4 from rfl] at hx198_1); (try rw [show ((1 : Int)).toNat = 1 from rfl] at hx198_2); (try rw [show 1 * 4 = 4 from rfl] at hx198_2); (try rw [show ((1 : Int)).toNat = 1 from rfl] at hx198_3); (try rw [show 1 * 4 = 4 from rfl] at hx198_3); replace p198 := eq_true p198; replace q198 := eq_true q198; have p199 : 0 ≤ (1 : Int) := (by omega); have q199 : 1 < (t194.length : Int) := of_decide_eq_true (by first | (with_reducible assumption) | assumption); obtain ⟨ad199, e199, hx199_0, hx199_1, hx199_2, hx199_3⟩ := at_T30 (Kd.R_reads' HO197.out).2.2 1 p199 q199; obtain rfl : ad198 = ad199 := (by injection e199); (try simp only [show (1 : Int).toNat = 1 from rfl, Nat.reduceMul, Nat.reduceEqDiff, Go.Addr.add, ↓reduceIte] at hx199_0); (try simp only [show (1 : Int).toNat = 1 from rfl, Nat.reduceMul, Nat.reduceEqDiff, Go.Addr.add, ↓reduceIte] at hx199_1); (try simp only [show (1 : Int).toNat = 1 from rfl, Nat.reduceMul, Nat.reduceEqDiff, Go.Addr.add, ↓reduceIte] at hx199_2); (try simp only [show (1 : Int).toNat = 1 from rfl, Nat.reduceMul, Nat.reduceEqDiff, Go.Addr.add, ↓reduceIte] at hx199_3); have qi199 : (1 < t194.length) = True := eq_true (by omega); (try rw [show ((1 : Int)).toNat = 1 from rfl] at hx199_0); (try rw [show 1 * 4 = 4 from rfl] at hx199_0); (try rw [show ((1 : Int)).toNat = 1 from rfl] at hx199_1); (try rw [show 1 * 4 = 4 from rfl] at hx199_1); (try rw [show ((1 : Int)).toNat = 1 from rfl] at hx199_2); (try rw [show 1 * 4 = 4 from rfl] at hx199_2); (try rw [show ((1 : Int)).toNat = 1 from rfl] at hx199_3); (try rw [show 1 * 4 = 4 from rfl] at hx199_3); replace p199 := eq_true p199; replace q199 := eq_true q199))
      go_ret
      exact ⟨by first | rfl | (simp [errW_none, errW_some] <;> rfl) | (simp [*, errW_none, errW_some] <;> rfl), by repeat (first | (with_reducible first | exact HB.out | apply below_alloc | apply pw_below_drewN | apply below_drew1) | exact HB.out)⟩
    ·rw [if_neg c5] at H
     have c5b0 : (((rd_T30 t194 1).f1).toList == ([32, 47, 42, 32, 98, 32, 42, 47] : List UInt8)) = false := beq_eq_false_iff_ne.mpr c5
     have c5b1 : (((rd_T30 t194 1).f1).toList != ([32, 47, 42, 32, 98, 32, 42, 47] : List UInt8)) = true := bne_iff_ne.mpr c5
     obtain rfl := Option.some.inj H
     go_enter Tryd.func13, Tryd.ntmps13
     go_wp2_with (first | ((with_reducible refine gate_callee (f := 10) rfl ?_); refine goesL_ (some 4) rfl rfl Tryd.func10 (by kernel_rfl) rfl #[.string (⟨#[97, 32, 47, 42, 32, 98, 32, 42, 47, 43, 49]⟩ : ByteArray)] rfl (by (try simp only [List.map_toArray, List.map_cons, List.map_nil]); first | done | rfl | (simp only [List.length_drop, List.length_take]; rfl)) ?_; (with_reducible refine (lex_Scan.calls (⟨#[97, 32, 47, 42, 32, 98, 32, 42, 47, 43, 49]⟩ : ByteArray) t194 t195 _ ?side1 A1.out).mono ?_); (case side1 => exact Glob.below HGl.out (by repeat (first | (with_reducible first | exact HB.out | apply below_alloc | apply pw_below_drewN | apply below_drew1) | exact HB.out))); rintro e w12 ⟨v196, rfl, ho0, hb⟩; refine ⟨_, rfl, ?_⟩; have n0_ := Aside0.mk (Kd.R_lower ho0 (below_size (by repeat (first | (with_reducible first | exact HB.out | apply below_alloc | apply pw_below_drewN | apply below_drew1) | exact HB.out)))); have n1_ := Aside0.mk (below_step (by repeat (first | (with_reducible first | exact HB.out | apply below_alloc | apply pw_below_drewN | apply below_drew1) | exact HB.out)) hb); clear HB; have HO197 := n0_; have HB := n1_; clear n0_ n1_; (try clear hb); (try clear hb2); (try clear hk); (try clear hi); (try clear ho0); obtain ⟨Ao13, co13, eo13⟩ := Kd.R_slice HO197.out; subst eo13; have p198 : 0 ≤ (1 : Int) := (by omega); have q198 : 1 < (t194.length : Int) := of_decide_eq_true (by first | (with_reducible assumption) | assumption); obtain ⟨ad198, e198, hx198_0, hx198_1, hx198_2, hx198_3⟩ := at_T30 (Kd.R_reads' HO197.out).2.2 1 p198 q198; cases e198; (try simp only [show (1 : Int).toNat = 1 from rfl, Nat.reduceMul, Nat.reduceEqDiff, Go.Addr.add, ↓reduceIte] at hx198_0); (try simp only [show (1 : Int).toNat = 1 from rfl, Nat.reduceMul, Nat.reduceEqDiff, Go.Addr.add, ↓reduceIte] at hx198_1); (try simp only [show (1 : Int).toNat = 1 from rfl, Nat.reduceMul, Nat.reduceEqDiff, Go.Addr.add, ↓reduceIte] at hx198_2); (try simp only [show (1 : Int).toNat = 1 from rfl, Nat.reduceMul, Nat.reduceEqDiff, Go.Addr.add, ↓reduceIte] at hx198_3); have qi198 : (1 < t194.length) = True := eq_true (by omega); (try rw [show ((1 : Int)).toNat = 1 from rfl] at hx198_0); (try rw [show 1 * 4 = 4 from rfl] at hx198_0); (try rw [show ((1 : Int)).toNat = 1 from rfl] at hx198_1); (try rw [show 1 * 4 = 4 from rfl] at hx198_1); (try rw [show ((1 : Int)).toNat = 1 from rfl] at hx198_2); (try rw [show 1 * 4 = 4 from rfl] at hx198_2); (try rw [show ((1 : Int)).toNat = 1 from rfl] at hx198_3); (try rw [show 1 * 4 = 4 from rfl] at hx198_3); replace p198 := eq_true p198; replace q198 := eq_true q198))
     go_ret
     exact ⟨by first | rfl | (simp [errW_none, errW_some] <;> rfl) | (simp [*, errW_none, errW_some] <;> rfl), by repeat (first | (with_reducible first | exact HB.out | apply below_alloc | apply pw_below_drewN | apply below_drew1) | exact HB.out)⟩
   ·rw [if_neg c4] at H
    exact absurd H (by simp)
  ·rw [if_neg c3] at H
   have c3b0 : ((t194.length : Int) == 4) = false := beq_eq_false_iff_ne.mpr c3
   have c3b1 : ((t194.length : Int) != 4) = true := bne_iff_ne.mpr c3
   obtain rfl := Option.some.inj H
   go_enter Tryd.func13, Tryd.ntmps13
   go_wp2_with (first | ((with_reducible refine gate_callee (f := 10) rfl ?_); refine goesL_ (some 4) rfl rfl Tryd.func10 (by kernel_rfl) rfl #[.string (⟨#[97, 32, 47, 42, 32, 98, 32, 42, 47, 43, 49]⟩ : ByteArray)] rfl (by (try simp only [List.map_toArray, List.map_cons, List.map_nil]); first | done | rfl | (simp only [List.length_drop, List.length_take]; rfl)) ?_; (with_reducible refine (lex_Scan.calls (⟨#[97, 32, 47, 42, 32, 98, 32, 42, 47, 43, 49]⟩ : ByteArray) t194 t195 _ ?side1 A1.out).mono ?_); (case side1 => exact Glob.below HGl.out (by repeat (first | (with_reducible first | exact HB.out | apply below_alloc | apply pw_below_drewN | apply below_drew1) | exact HB.out))); rintro e w14 ⟨v196, rfl, ho0, hb⟩; refine ⟨_, rfl, ?_⟩; have n0_ := Aside0.mk (Kd.R_lower ho0 (below_size (by repeat (first | (with_reducible first | exact HB.out | apply below_alloc | apply pw_below_drewN | apply below_drew1) | exact HB.out)))); have n1_ := Aside0.mk (below_step (by repeat (first | (with_reducible first | exact HB.out | apply below_alloc | apply pw_below_drewN | apply below_drew1) | exact HB.out)) hb); clear HB; have HO197 := n0_; have HB := n1_; clear n0_ n1_; (try clear hb); (try clear hb2); (try clear hk); (try clear hi); (try clear ho0); obtain ⟨Ao15, co15, eo15⟩ := Kd.R_slice HO197.out; subst eo15))
   go_ret
   exact ⟨by first | rfl | (simp [errW_none, errW_some] <;> rfl) | (simp [*, errW_none, errW_some] <;> rfl), by repeat (first | (with_reducible first | exact HB.out | apply below_alloc | apply pw_below_drewN | apply below_drew1) | exact HB.out)⟩
 ·rw [if_neg c2] at H
  have c2b0 : (t195 == 0) = false := beq_eq_false_iff_ne.mpr c2
  have c2b1 : (t195 != 0) = true := bne_iff_ne.mpr c2
  obtain rfl := Option.some.inj H
  go_enter Tryd.func13, Tryd.ntmps13
  go_wp2_with (first | ((with_reducible refine gate_callee (f := 10) rfl ?_); refine goesL_ (some 4) rfl rfl Tryd.func10 (by kernel_rfl) rfl #[.string (⟨#[97, 32, 47, 42, 32, 98, 32, 42, 47, 43, 49]⟩ : ByteArray)] rfl (by (try simp only [List.map_toArray, List.map_cons, List.map_nil]); first | done | rfl | (simp only [List.length_drop, List.length_take]; rfl)) ?_; (with_reducible refine (lex_Scan.calls (⟨#[97, 32, 47, 42, 32, 98, 32, 42, 47, 43, 49]⟩ : ByteArray) t194 t195 _ ?side1 A1.out).mono ?_); (case side1 => exact Glob.below HGl.out (by repeat (first | (with_reducible first | exact HB.out | apply below_alloc | apply pw_below_drewN | apply below_drew1) | exact HB.out))); rintro e w16 ⟨v196, rfl, ho0, hb⟩; refine ⟨_, rfl, ?_⟩; have n0_ := Aside0.mk (Kd.R_lower ho0 (below_size (by repeat (first | (with_reducible first | exact HB.out | apply below_alloc | apply pw_below_drewN | apply below_drew1) | exact HB.out)))); have n1_ := Aside0.mk (below_step (by repeat (first | (with_reducible first | exact HB.out | apply below_alloc | apply pw_below_drewN | apply below_drew1) | exact HB.out)) hb); clear HB; have HO197 := n0_; have HB := n1_; clear n0_ n1_; (try clear hb); (try clear hb2); (try clear hk); (try clear hi); (try clear ho0)))
  go_ret
  exact ⟨by first | rfl | (simp [errW_none, errW_some] <;> rfl) | (simp [*, errW_none, errW_some] <;> rfl), by repeat (first | (with_reducible first | exact HB.out | apply below_alloc | apply pw_below_drewN | apply below_drew1) | exact HB.out)⟩

end Go.Proofs.YtabnmkakgcifoaaDoor.PLex

namespace Go.Proofs.YtabnmkakgcifoaaDoor.PLex
open Go.RowKit Go.Proofs.YtabnmkakgcifoaaDoorW.PrintWords Go.Proofs.YtabnmkakgcifoaaDoorW.PrintLast Go.Proofs.YtabnmkakgcifoaaDoorW.PrintMore
attribute [local go_sem] max2_int min2_int max_two min_two max_three min_three max_four min_four   -- for this text's walks alone
set_option linter.unusedVariables false
set_option linter.unusedSimpArgs false

def lw2_LexScans.f (k : Nat) (a0 : ByteArray) : Option (Bool) := (lex_Scan.f a0).bind fun bt201 => ((rf2_Scan.f k a0).bind fun bt205 => ((rf0_EqTokens.f k bt201.1 bt205.1).bind fun t209 => (if t209 = true then (if bt201.2 = bt205.2 then ((lw2_awake.f).bind fun t210 => (some t210)) else (some false)) else (some false))))
set_option maxHeartbeats 8000000 in
set_option maxRecDepth 100000 in
theorem lw2_LexScans.calls (k : Nat) (a0 : ByteArray) (r : Bool) (w : World) (hGl : Glob w) (h : lw2_LexScans.f k a0 = some r) :
  Calls Tryd.prog 3 #[.string a0] w fun e w' => e = .returned (.bool r) ∧ Below w.heap.size w w' := by
 have HB := Aside0.mk (Below.refl w.heap.size w)
 have HGl := Aside0.mk hGl
 clear hGl
 have H : ((lex_Scan.f a0).bind fun bt201 => ((rf2_Scan.f k a0).bind fun bt205 => ((rf0_EqTokens.f k bt201.1 bt205.1).bind fun t209 => (if t209 = true then (if bt201.2 = bt205.2 then ((lw2_awake.f).bind fun t210 => (some t210)) else (some false)) else (some false))))) = some r := h
 clear h
 replace H := Option.bind_eq_some_iff.mp H
 obtain ⟨⟨t201, t202⟩, A20, H⟩ := H
 replace H : ((rf2_Scan.f k a0).bind fun bt205 => ((rf0_EqTokens.f k t201 bt205.1).bind fun t209 => (if t209 = true then (if t202 = bt205.2 then ((lw2_awake.f).bind fun t210 => (some t210)) else (some false)) else (some false)))) = some r := H
 have A2 := Aside0.mk A20
 clear A20
 replace H := Option.bind_eq_some_iff.mp H
 obtain ⟨⟨t205, t206⟩, A30, H⟩ := H
 replace H : ((rf0_EqTokens.f k t201 t205).bind fun t209 => (if t209 = true then (if t202 = t206 then ((lw2_awake.f).bind fun t210 => (some t210)) else (some false)) else (some false))) = some r := H
 have A3 := Aside0.mk A30
 clear A30
 replace H := Option.bind_eq_some_iff.mp H
 obtain ⟨t209, A40, H⟩ := H
 replace H : (if t209 = true then (if t202 = t206 then ((lw2_awake.f).bind fun t210 => (some t210)) else (some false)) else (some false)) = some r := H
 have A4 := Aside0.mk A40
 clear A40
 by_cases c5 : t209 = true
 ·subst c5
  have H1 : (if t202 = t206 then ((lw2_awake.f).bind fun t210 => (some t210)) else (some false)) = some r := by rw [if_pos rfl] at H; exact H
  clear H
  have H := H1
  clear H1
  by_cases c6 : t202 = t206
  ·rw [if_pos c6] at H
   have c6b0 : (t202 == t206) = true := beq_iff_eq.mpr c6
   have c6b1 : (t202 != t206) = false := bne_eq_false_iff_eq.mpr c6
   clear c6
   replace H := Option.bind_eq_some_iff.mp H
   obtain ⟨t210, A70, H⟩ := H
   replace H : (some t210) = some r := H
   have A7 := Aside0.mk A70
   clear A70
   obtain rfl := Option.some.inj H
   go_enter Tryd.func3, Tryd.ntmps3
   go_wp2_with (first | ((with_reducible refine gate_callee (f := 10) rfl ?_); refine goesL_ (some 9) rfl rfl Tryd.func10 (by kernel_rfl) rfl #[.string a0] rfl (by (try simp only [List.map_toArray, List.map_cons, List.map_nil]); first | done | rfl | (simp only [List.length_drop, List.length_take]; rfl)) ?_; (with_reducible refine (lex_Scan.calls a0 t201 t202 _ ?side1 A2.out).mono ?_); (case side1 => exact Glob.below HGl.out (by repeat (first | (with_reducible first | exact HB.out | apply below_alloc | apply pw_below_drewN | apply below_drew1) | exact HB.out))); rintro e w8 ⟨v203, rfl, ho0, hb⟩; refine ⟨_, rfl, ?_⟩; have n0_ := Aside0.mk (Kd.R_lower ho0 (below_size (by repeat (first | (with_reducible first | exact HB.out | apply below_alloc | apply pw_below_drewN | apply below_drew1) | exact HB.out)))); have n1_ := Aside0.mk (below_step (by repeat (first | (with_reducible first | exact HB.out | apply below_alloc | apply pw_below_drewN | apply below_drew1) | exact HB.out)) hb); clear HB; have HO204 := n0_; have HB := n1_; clear n0_ n1_; (try clear hb); (try clear hb2); (try clear hk); (try clear hi); (try clear ho0)) | ((with_reducible refine gate_callee (f := 11) rfl ?_); refine goesL_ (some 14) rfl rfl Tryd.func11 (by kernel_rfl) rfl #[.string a0] rfl (by (try simp only [List.map_toArray, List.map_cons, List.map_nil]); first | done | rfl | (simp only [List.length_drop, List.length_take]; rfl)) ?_; (with_reducible refine (rf2_Scan.calls k a0 t205 t206 _ A3.out).mono ?_); rintro e w9 ⟨v207, rfl, ho0, hb⟩; refine ⟨_, rfl, ?_⟩; have n0_ := Aside0.mk (Kd.R_elder' (by (with_reducible repeat (first | apply Kd.R_alloc | apply Kd.R_drewN | apply Kd.R_drew)); exact HO204.out) (Kd.R_base ho0) hb); have n1_ := Aside0.mk (Kd.R_lower (Kd.R_new' ho0 (Kd.R_lt (by (with_reducible repeat (first | apply Kd.R_alloc | apply Kd.R_drewN | apply Kd.R_drew)); exact HO204.out))) (below_size (by repeat (first | (with_reducible first | exact HB.out | apply below_alloc | apply pw_below_drewN | apply below_drew1) | exact HB.out)))); have n2_ := Aside0.mk (below_step (by repeat (first | (with_reducible first | exact HB.out | apply below_alloc | apply pw_below_drewN | apply below_drew1) | exact HB.out)) hb); clear HO204; clear HB; have HO204 := n0_; have HO208 := n1_; have HB := n2_; clear n0_ n1_ n2_; (try clear hb); (try clear hb2); (try clear hk); (try clear hi); (try clear ho0); obtain ⟨Ao10, co10, eo10⟩ := Kd.R_slice HO204.out; subst eo10; obtain ⟨Ao11, co11, eo11⟩ := Kd.R_slice HO208.out; subst eo11) | ((with_reducible refine gate_callee (f := 12) rfl ?_); refine goesL_ (some 19) rfl rfl Tryd.func12 (by kernel_rfl) rfl #[.slice Ao10 t201.length co10, .slice Ao11 t205.length co11] rfl (by (try simp only [List.map_toArray, List.map_cons, List.map_nil]); first | done | rfl | (simp only [List.length_drop, List.length_take]; rfl)) ?_; (with_reducible refine (rf0_EqTokens.calls k _ _ t201 _ _ t205 true _ ?side1 ?side2 ?side3 ?side4 A4.out).mono ?_); (case side1 => repeat (first | exact (Kd.R_reads' HO204.out).2.2 | (with_reducible refine Kd.C_alloc ?_ _) | (with_reducible refine Kd.C_drewN ?_ _) | (with_reducible refine Kd.C_drew ?_))); (case side2 => exact (Kd.R_reads' HO204.out).2.1); (case side3 => repeat (first | exact (Kd.R_reads' HO208.out).2.2 | (with_reducible refine Kd.C_alloc ?_ _) | (with_reducible refine Kd.C_drewN ?_ _) | (with_reducible refine Kd.C_drew ?_))); (case side4 => exact (Kd.R_reads' HO208.out).2.1); rintro e w' ⟨rfl, ⟨nd, rfl⟩⟩; refine ⟨_, rfl, ?_⟩) | (go_at_call 13; (with_reducible refine (lw2_awake.calls  t210 _ ?side1 A7.out).mono ?_); (case side1 => exact Glob.below HGl.out (by repeat (first | (with_reducible first | exact HB.out | apply below_alloc | apply pw_below_drewN | apply below_drew1) | exact HB.out))); rintro e w12 ⟨rfl, hb⟩; have n0_ := Aside0.mk (Kd.R_below (by (with_reducible repeat (first | apply Kd.R_alloc | apply Kd.R_drewN | apply Kd.R_drew)); exact HO204.out) hb); have n1_ := Aside0.mk (Kd.R_below (by (with_reducible repeat (first | apply Kd.R_alloc | apply Kd.R_drewN | apply Kd.R_drew)); exact HO208.out) hb); have n2_ := Aside0.mk (below_step (by repeat (first | (with_reducible first | exact HB.out | apply below_alloc | apply pw_below_drewN | apply below_drew1) | exact HB.out)) hb); clear HO204; clear HO208; clear HB; have HO204 := n0_; have HO208 := n1_; have HB := n2_; clear n0_ n1_ n2_; (try clear hb); (try clear hb2); (try clear hk); (try clear hi)))
   go_ret
   exact ⟨by first | rfl | (simp [errW_none, errW_some] <;> rfl) | (simp [*, errW_none, errW_some] <;> rfl), by repeat (first | (with_reducible first | exact HB.out | apply below_alloc | apply pw_below_drewN | apply below_drew1) | exact HB.out)⟩
  ·rw [if_neg c6] at H
   have c6b0 : (t202 == t206) = false := beq_eq_false_iff_ne.mpr c6
   have c6b1 : (t202 != t206) = true := bne_iff_ne.mpr c6
   obtain rfl := Option.some.inj H
   go_enter Tryd.func3, Tryd.ntmps3
   go_wp2_with (first | ((with_reducible refine gate_callee (f := 10) rfl ?_); refine goesL_ (some 9) rfl rfl Tryd.func10 (by kernel_rfl) rfl #[.string a0] rfl (by (try simp only [List.map_toArray, List.map_cons, List.map_nil]); first | done | rfl | (simp only [List.length_drop, List.length_take]; rfl)) ?_; (with_reducible refine (lex_Scan.calls a0 t201 t202 _ ?side1 A2.out).mono ?_); (case side1 => exact Glob.below HGl.out (by repeat (first | (with_reducible first | exact HB.out | apply below_alloc | apply pw_below_drewN | apply below_drew1) | exact HB.out))); rintro e w13 ⟨v203, rfl, ho0, hb⟩; refine ⟨_, rfl, ?_⟩; have n0_ := Aside0.mk (Kd.R_lower ho0 (below_size (by repeat (first | (with_reducible first | exact HB.out | apply below_alloc | apply pw_below_drewN | apply below_drew1) | exact HB.out)))); have n1_ := Aside0.mk (below_step (by repeat (first | (with_reducible first | exact HB.out | apply below_alloc | apply pw_below_drewN | apply below_drew1) | exact HB.out)) hb); clear HB; have HO204 := n0_; have HB := n1_; clear n0_ n1_; (try clear hb); (try clear hb2); (try clear hk); (try clear hi); (try clear ho0)) | ((with_reducible refine gate_callee (f := 11) rfl ?_); refine goesL_ (some 14) rfl rfl Tryd.func11 (by kernel_rfl) rfl #[.string a0] rfl (by (try simp only [List.map_toArray, List.map_cons, List.map_nil]); first | done | rfl | (simp only [List.length_drop, List.length_take]; rfl)) ?_; (with_reducible refine (rf2_Scan.calls k a0 t205 t206 _ A3.out).mono ?_); rintro e w14 ⟨v207, rfl, ho0, hb⟩; refine ⟨_, rfl, ?_⟩; have n0_ := Aside0.mk (Kd.R_elder' (by (with_reducible repeat (first | apply Kd.R_alloc | apply Kd.R_drewN | apply Kd.R_drew)); exact HO204.out) (Kd.R_base ho0) hb); have n1_ := Aside0.mk (Kd.R_lower (Kd.R_new' ho0 (Kd.R_lt (by (with_reducible repeat (first | apply Kd.R_alloc | apply Kd.R_drewN | apply Kd.R_drew)); exact HO204.out))) (below_size (by repeat (first | (with_reducible first | exact HB.out | apply below_alloc | apply pw_below_drewN | apply below_drew1) | exact HB.out)))); have n2_ := Aside0.mk (below_step (by repeat (first | (with_reducible first | exact HB.out | apply below_alloc | apply pw_below_drewN | apply below_drew1) | exact HB.out)) hb); clear HO204; clear HB; have HO204 := n0_; have HO208 := n1_; have HB := n2_; clear n0_ n1_ n2_; (try clear hb); (try clear hb2); (try clear hk); (try clear hi); (try clear ho0); obtain ⟨Ao15, co15, eo15⟩ := Kd.R_slice HO204.out; subst eo15; obtain ⟨Ao16, co16, eo16⟩ := Kd.R_slice HO208.out; subst eo16) | ((with_reducible refine gate_callee (f := 12) rfl ?_); refine goesL_ (some 19) rfl rfl Tryd.func12 (by kernel_rfl) rfl #[.slice Ao15 t201.length co15, .slice Ao16 t205.length co16] rfl (by (try simp only [List.map_toArray, List.map_cons, List.map_nil]); first | done | rfl | (simp only [List.length_drop, List.length_take]; rfl)) ?_; (with_reducible refine (rf0_EqTokens.calls k _ _ t201 _ _ t205 true _ ?side1 ?side2 ?side3 ?side4 A4.out).mono ?_); (case side1 => repeat (first | exact (Kd.R_reads' HO204.out).2.2 | (with_reducible refine Kd.C_alloc ?_ _) | (with_reducible refine Kd.C_drewN ?_ _) | (with_reducible refine Kd.C_drew ?_))); (case side2 => exact (Kd.R_reads' HO204.out).2.1); (case side3 => repeat (first | exact (Kd.R_reads' HO208.out).2.2 | (with_reducible refine Kd.C_alloc ?_ _) | (with_reducible refine Kd.C_drewN ?_ _) | (with_reducible refine Kd.C_drew ?_))); (case side4 => exact (Kd.R_reads' HO208.out).2.1); rintro e w' ⟨rfl, ⟨nd, rfl⟩⟩; refine ⟨_, rfl, ?_⟩))
   go_ret
   exact ⟨by first | rfl | (simp [errW_none, errW_some] <;> rfl) | (simp [*, errW_none, errW_some] <;> rfl), by repeat (first | (with_reducible first | exact HB.out | apply below_alloc | apply pw_below_drewN | apply below_drew1) | exact HB.out)⟩
 ·replace c5 := Bool.eq_false_iff.mpr c5
  subst c5
  have H1 : (some false) = some r := by rw [if_neg (show ¬ (false = true) by decide)] at H; exact H
  clear H
  have H := H1
  clear H1
  obtain rfl := Option.some.inj H
  go_enter Tryd.func3, Tryd.ntmps3
  go_wp2_with (first | ((with_reducible refine gate_callee (f := 10) rfl ?_); refine goesL_ (some 9) rfl rfl Tryd.func10 (by kernel_rfl) rfl #[.string a0] rfl (by (try simp only [List.map_toArray, List.map_cons, List.map_nil]); first | done | rfl | (simp only [List.length_drop, List.length_take]; rfl)) ?_; (with_reducible refine (lex_Scan.calls a0 t201 t202 _ ?side1 A2.out).mono ?_); (case side1 => exact Glob.below HGl.out (by repeat (first | (with_reducible first | exact HB.out | apply below_alloc | apply pw_below_drewN | apply below_drew1) | exact HB.out))); rintro e w17 ⟨v203, rfl, ho0, hb⟩; refine ⟨_, rfl, ?_⟩; have n0_ := Aside0.mk (Kd.R_lower ho0 (below_size (by repeat (first | (with_reducible first | exact HB.out | apply below_alloc | apply pw_below_drewN | apply below_drew1) | exact HB.out)))); have n1_ := Aside0.mk (below_step (by repeat (first | (with_reducible first | exact HB.out | apply below_alloc | apply pw_below_drewN | apply below_drew1) | exact HB.out)) hb); clear HB; have HO204 := n0_; have HB := n1_; clear n0_ n1_; (try clear hb); (try clear hb2); (try clear hk); (try clear hi); (try clear ho0)) | ((with_reducible refine gate_callee (f := 11) rfl ?_); refine goesL_ (some 14) rfl rfl Tryd.func11 (by kernel_rfl) rfl #[.string a0] rfl (by (try simp only [List.map_toArray, List.map_cons, List.map_nil]); first | done | rfl | (simp only [List.length_drop, List.length_take]; rfl)) ?_; (with_reducible refine (rf2_Scan.calls k a0 t205 t206 _ A3.out).mono ?_); rintro e w18 ⟨v207, rfl, ho0, hb⟩; refine ⟨_, rfl, ?_⟩; have n0_ := Aside0.mk (Kd.R_elder' (by (with_reducible repeat (first | apply Kd.R_alloc | apply Kd.R_drewN | apply Kd.R_drew)); exact HO204.out) (Kd.R_base ho0) hb); have n1_ := Aside0.mk (Kd.R_lower (Kd.R_new' ho0 (Kd.R_lt (by (with_reducible repeat (first | apply Kd.R_alloc | apply Kd.R_drewN | apply Kd.R_drew)); exact HO204.out))) (below_size (by repeat (first | (with_reducible first | exact HB.out | apply below_alloc | apply pw_below_drewN | apply below_drew1) | exact HB.out)))); have n2_ := Aside0.mk (below_step (by repeat (first | (with_reducible first | exact HB.out | apply below_alloc | apply pw_below_drewN | apply below_drew1) | exact HB.out)) hb); clear HO204; clear HB; have HO204 := n0_; have HO208 := n1_; have HB := n2_; clear n0_ n1_ n2_; (try clear hb); (try clear hb2); (try clear hk); (try clear hi); (try clear ho0); obtain ⟨Ao19, co19, eo19⟩ := Kd.R_slice HO204.out; subst eo19; obtain ⟨Ao20, co20, eo20⟩ := Kd.R_slice HO208.out; subst eo20) | ((with_reducible refine gate_callee (f := 12) rfl ?_); refine goesL_ (some 19) rfl rfl Tryd.func12 (by kernel_rfl) rfl #[.slice Ao19 t201.length co19, .slice Ao20 t205.length co20] rfl (by (try simp only [List.map_toArray, List.map_cons, List.map_nil]); first | done | rfl | (simp only [List.length_drop, List.length_take]; rfl)) ?_; (with_reducible refine (rf0_EqTokens.calls k _ _ t201 _ _ t205 false _ ?side1 ?side2 ?side3 ?side4 A4.out).mono ?_); (case side1 => repeat (first | exact (Kd.R_reads' HO204.out).2.2 | (with_reducible refine Kd.C_alloc ?_ _) | (with_reducible refine Kd.C_drewN ?_ _) | (with_reducible refine Kd.C_drew ?_))); (case side2 => exact (Kd.R_reads' HO204.out).2.1); (case side3 => repeat (first | exact (Kd.R_reads' HO208.out).2.2 | (with_reducible refine Kd.C_alloc ?_ _) | (with_reducible refine Kd.C_drewN ?_ _) | (with_reducible refine Kd.C_drew ?_))); (case side4 => exact (Kd.R_reads' HO208.out).2.1); rintro e w' ⟨rfl, ⟨nd, rfl⟩⟩; refine ⟨_, rfl, ?_⟩))
  go_ret
  exact ⟨by first | rfl | (simp [errW_none, errW_some] <;> rfl) | (simp [*, errW_none, errW_some] <;> rfl), by repeat (first | (with_reducible first | exact HB.out | apply below_alloc | apply pw_below_drewN | apply below_drew1) | exact HB.out)⟩

end Go.Proofs.YtabnmkakgcifoaaDoor.PLex

namespace Go.Proofs.YtabnmkakgcifoaaDoor.PLex
open Go.RowKit Go.Proofs.YtabnmkakgcifoaaDoorW.PrintWords Go.Proofs.YtabnmkakgcifoaaDoorW.PrintLast Go.Proofs.YtabnmkakgcifoaaDoorW.PrintMore
/-- what a scan answers -/
def scanR (s : ByteArray) : List S30 × Int :=
  if 200000 < s.size then ([], 2) else if 40000 < (Lx.tokens keysL signsL (bl s)).length then ([], 2) else ((Lx.tokens keysL signsL (bl s)).map toS, 0)
theorem scan_eq (s : ByteArray) : lex_Scan.f s = some (scanR s) := by
  unfold lex_Scan.f scanR
  split
  · rfl
  · split <;> rfl
theorem rscan_eq (s : ByteArray) : Ev (fun k => rf2_Scan.f k s) (scanR s) := by
  unfold rf2_Scan.f scanR
  by_cases h : 200000 < s.size
  · rw [if_pos h]
    exact Ev.congr (fun k => if_pos (by omega)) (Ev.now _)
  · rw [if_neg h]
    refine Ev.congr (fun k => if_neg (by omega)) (Ev.bind (rall_eq s (by omega)) ?_)
    have hl : ((Lx.tokens keysL signsL (bl s)).map toS).length = (Lx.tokens keysL signsL (bl s)).length := List.length_map _
    by_cases h2 : 40000 < (Lx.tokens keysL signsL (bl s)).length
    · rw [if_pos h2]
      exact Ev.congr (fun k => if_pos (by rw [hl]; omega)) (Ev.now _)
    · rw [if_neg h2]
      exact Ev.congr (fun k => if_neg (by rw [hl]; omega)) (Ev.now _)
theorem scanR_len (s : ByteArray) : (scanR s).1.length ≤ 40000 := by
  unfold scanR
  split
  · simp
  · split
    · simp
    · rw [List.length_map]; omega
theorem eqTokens_refl (l : List S30) (hl : l.length ≤ 1000000000) : Ev (fun k => rf0_EqTokens.f k l l) true := by
  have h : ∀ (m i : Nat), l.length < i + m → i ≤ l.length → Ev (fun k => rf0_EqTokens.l0 k l l i) true := by
    intro m
    induction m with
    | zero => intro i h1 h2; omega
    | succ m ih =>
      intro i h1 h2
      rcases Nat.lt_or_ge i l.length with hi | hi
      · refine Ev.step (fun k => ?_) (ih (i + 1) (by omega) (by omega))
        rw [rf0_EqTokens.l0, if_pos (by omega), if_pos (by omega), if_pos (by omega), w64 (by omega) (by omega), if_neg (by simp)]
        rfl
      · refine Ev.step (fun k => ?_) (Ev.now _)
        rw [rf0_EqTokens.l0, if_neg (by omega)]
  exact Ev.congr (fun k => by unfold rf0_EqTokens.f; rw [if_pos rfl]; rfl) (h (l.length + 1) 0 (by omega) (by omega))
theorem awake_eq : lw2_awake.f = some true := by kernel_rfl
theorem lexScans_eq (s : ByteArray) : Ev (fun k => lw2_LexScans.f k s) true := by
  unfold lw2_LexScans.f
  rw [scan_eq]
  refine Ev.congr (fun k => Option.bind_some _ _) (Ev.bind (rscan_eq s) (Ev.bind (eqTokens_refl _ (by have := scanR_len s; omega)) ?_))
  refine Ev.congr (fun k => ?_) (Ev.now _)
  rw [if_pos rfl, if_pos rfl, awake_eq]
  rfl
end Go.Proofs.YtabnmkakgcifoaaDoor.PLex

