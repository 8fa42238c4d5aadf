/-
  storemanlaw13.AskBack: a right command's bytes are got as it, whatever stands behind them; one that is not right has none. AskWhole: what is got of any bytes is right, and put as just those; none of their beginnings is one's. Conditions: ask.kinds holds what its initialiser lays.
-/
import Derived.Test.YtbecdijccifllaaDoorAskL
import Derived.Test.YtbecdijccifllaaDoorAp4
namespace Go.Proofs.YtbecdijccifllaaDoor
open Go.RowKit Go.Maps
set_option linter.unusedVariables false
set_option linter.unusedSimpArgs false

theorem app_bytes {a b : List Int} (ha : ∀ z ∈ a, isByte z) (hb : ∀ z ∈ b, isByte z) : ∀ z ∈ a ++ b, isByte z := fun z hz => (List.mem_append.1 hz).elim (ha z) (hb z)
set_option maxRecDepth 100000 in
set_option maxHeartbeats 4000000 in
theorem askBack_any (a : AskV) (S : AskS) (A : Option Addr) (n c : Nat) (zs : List Int) (w : World) (hK : KindsOk w) (h : AskIs w a S) (hOk : a.Ok) (hz : BytS w A n c zs) (hzb : ∀ z ∈ zs, isByte z) (hnc : n ≤ c) (hc : c ≤ maxLen) (hn47 : n ≤ 140737488355328) : Calls Tryd.prog 3 #[.agg (askC a S), .slice A n c] w (OkNew w) := by
  have hc' := hc
  unfold maxLen at hc'
  have HGP := Lib.hid (fun (hr : rightA a = true) => aget_put hr (by have := hOk.lot; unfold I64 at this; omega) (by have := hOk.line; unfold I64 at this; omega) zs)
  have HLN := Lib.hid (fun (hr : rightA a = true) => putA_len hr)
  have HPB := Lib.hid (putA_byte a)
  have hK' := Lib.hid (fun (w' : World) (ht : Turned (fun _ => False) w w') => hK.fresh ht)
  have BX := Lib.hid (Blk.new w 26 (askC a S))
  have t0 := Lib.hid ((Turned.refl (fun _ => False) w).alloc (.cells (askC a S) 26))
  have hPl := Lib.hid h.parts.len
  have I := Lib.hid h
  have Z0 := Lib.hid (hz.turned0 t0.out (fun _ _ _ _ e => e))
  have hOk' := Lib.hid hOk
  have hgr := Lib.hid (fun (w' : World) (t : Turned (fun _ => False) w w') => great_any a S w' (h.fresh t))
  have hput := Lib.hid (fun (w' : World) (t : Turned (fun _ => False) w w') (hp : a.parts.length ≤ 1000000) => ask_put_any a S w' (h.fresh t) hOk (hK.fresh t) hp)
  have hrig := Lib.hid (fun (w' : World) (t : Turned (fun _ => False) w w') (hp : a.parts.length ≤ 1000000) => ask_right_any a S w' (h.fresh t) hOk (hK.fresh t) hp)
  clear h hz hOk hK
  obtain ⟨kind, request, item, qty, day, days, rank, lot, line, parts, others⟩ := a
  obtain ⟨⟨PA, Pn, Pc⟩, ⟨OA, On, Oc⟩⟩ := S
  have A0 := Lib.hid (show AskAt _ _ ⟨kind, request, item, qty, day, days, rank, lot, line, parts, others⟩ ⟨⟨PA, Pn, Pc⟩, ⟨OA, On, Oc⟩⟩ from BX.out)
  unfold APut at hput
  unfold askC strV at *
  simp only at BX t0 Z0 A0 hgr hput hrig ⊢
  go_enter Tryd.func3, Tryd.ntmps3
  go_wp2_with fail
  generalize w.alloc (.cells #[.int .u8 kind, .int .i64 request, .string ⟨item.toArray⟩, .int .i64 qty, .int .i64 day, .int .i64 days, .int .i64 rank, .int .i64 lot, .int .i64 line, .slice PA Pn Pc, .slice OA On Oc] 26) = w0 at *
  generalize hbx : w.heap.size = bx at *
  clear BX
  refine (awake13_any _ (hK'.out _ t0.out)).mono ?_
  rintro e w1 ⟨rfl, t1⟩
  have T1 := Lib.hid (t0.out.trans (W := fun _ => False) t1 (fun _ e => e) (fun _ e => e.elim))
  have Z1 := Lib.hid (Z0.out.turned0 t1 (fun _ _ _ _ e => e))
  have A1 := Lib.hid (A0.out.fresh t1)
  clear t1 A0 Z0 t0
  obtain ⟨x0, x1, x2, x3, x4, x5, x6, x7, x8, x9, x10⟩ := A1.out.cells
  simp only at x0 x1 x2 x3 x4 x5 x6 x7 x8 x9 x10
  go_wp2_with fail
  have hg := hgr.out w1 T1.out
  cases hgb : greatB ⟨kind, request, item, qty, day, days, rank, lot, line, parts, others⟩ with
  | true =>
    rw [hgb] at hg
    refine hg.mono ?_
    clear hg
    rintro e w2 ⟨rfl, t2⟩
    have T2 := Lib.hid (T1.out.trans (W := fun _ => False) t2 (fun _ e => e) (fun _ e => e.elim))
    clear t2
    go_wp2_with fail
    go_ret
    exact ⟨rfl, T2.out⟩
  | false =>
    rw [hgb] at hg
    have hfew := Lib.hid (show parts.length ≤ 1000000 from by
      unfold greatB at hgb
      simp only [Bool.or_eq_false_iff, decide_eq_false_iff_not] at hgb
      omega)
    refine hg.mono ?_
    clear hg hgb
    rintro e w2 ⟨rfl, t2⟩
    have T2 := Lib.hid (T1.out.trans (W := fun _ => False) t2 (fun _ e => e) (fun _ e => e.elim))
    have Z2 := Lib.hid (Z1.out.turned0 t2 (fun _ _ _ _ e => e))
    have A2 := Lib.hid (A1.out.fresh t2)
    clear t2 T1 Z1 A1 x0 x1 x2 x3 x4 x5 x6 x7 x8 x9 x10
    obtain ⟨x0, x1, x2, x3, x4, x5, x6, x7, x8, x9, x10⟩ := A2.out.cells
    simp only at x0 x1 x2 x3 x4 x5 x6 x7 x8 x9 x10
    by_cases hbig : (100000 : Int) < (n : Int)
    · go_wp2_with fail
      go_ret
      exact ⟨rfl, T2.out⟩
    · go_wp2_with fail
      have hp := hput.out w2 T2.out hfew.out
      cases hri : rightA ⟨kind, request, item, qty, day, days, rank, lot, line, parts, others⟩ with
      | false =>
        rw [hri] at hp
        simp only [Bool.false_eq_true, if_false] at hp
        refine hp.mono ?_
        clear hp
        rintro e w3 ⟨rfl, t3⟩
        have T3 := Lib.hid (T2.out.trans (W := fun _ => False) t3 (fun _ e => e) (fun _ e => e.elim))
        have A3 := Lib.hid (A2.out.fresh t3)
        have hri' := Lib.hid hri
        clear t3 T2 Z2 A2 hri x0 x1 x2 x3 x4 x5 x6 x7 x8 x9 x10
        obtain ⟨x0, x1, x2, x3, x4, x5, x6, x7, x8, x9, x10⟩ := A3.out.cells
        simp only at x0 x1 x2 x3 x4 x5 x6 x7 x8 x9 x10
        go_wp2_with fail
        have hr := hrig.out w3 T3.out hfew.out
        rw [hri'.out] at hr
        refine hr.mono ?_
        clear hr
        rintro e w4 ⟨rfl, t4⟩
        have T4 := Lib.hid (T3.out.trans (W := fun _ => False) t4 (fun _ e => e) (fun _ e => e.elim))
        clear t4 x0 x1 x2 x3 x4 x5 x6 x7 x8 x9 x10 T3 A3
        go_wp2_with fail
        go_ret
        exact ⟨rfl, T4.out⟩
      | true =>
        rw [hri] at hp
        have hgp := Lib.hid (HGP.out hri)
        have hpb := HPB
        obtain ⟨hn1, hn2⟩ := HLN.out hri
        have hri' := Lib.hid hri
        clear HGP HLN HPB hri
        generalize putA ⟨kind, request, item, qty, day, days, rank, lot, line, parts, others⟩ = ps at *
        generalize hpl : ps.length = m at *
        have hpl' := Lib.hid hpl
        clear hpl
        simp only [if_true] at hp
        refine hp.mono ?_
        clear hp
        rintro e w3 ⟨A3, c3, rfl, o3, g3, t3⟩
        have T3 := Lib.hid (T2.out.trans (W := fun _ => False) t3 (fun _ e => e) (fun _ e => e.elim))
        have B3 := Lib.hid (A2.out.fresh t3)
        have Z3 := Lib.hid (Z2.out.turned0 t3 (fun _ _ _ _ e => e))
        have O3 := Lib.hid o3
        clear t3 o3 g3 T2 Z2 A2 x0 x1 x2 x3 x4 x5 x6 x7 x8 x9 x10
        obtain ⟨x0, x1, x2, x3, x4, x5, x6, x7, x8, x9, x10⟩ := B3.out.cells
        simp only at x0 x1 x2 x3 x4 x5 x6 x7 x8 x9 x10
        go_wp2_with fail
        have hr := hrig.out w3 T3.out hfew.out
        rw [hri'.out] at hr
        refine hr.mono ?_
        clear hr
        rintro e w4 ⟨rfl, t4⟩
        have T4 := Lib.hid (T3.out.trans (W := fun _ => False) t4 (fun _ e => e) (fun _ e => e.elim))
        have B4 := Lib.hid (B3.out.fresh t4)
        have Z4 := Lib.hid (Z3.out.turned0 t4 (fun _ _ _ _ e => e))
        have O4 := Lib.hid (O3.out.turned t4 (fun _ _ e => e))
        clear t4 x0 x1 x2 x3 x4 x5 x6 x7 x8 x9 x10 T3 B3 Z3 O3
        go_wp2_with fail
        refine (copyB_any A3 m c3 ps w4 O4.out.bytS' (by omega) (by omega)).mono ?_
        rintro e w5 ⟨A5, c5, rfl, o5, g5, t5⟩
        rw [hpl'.out] at o5 ⊢
        obtain ⟨ga, rfl, r5⟩ := o5.some_ (by omega)
        have Z5 := Lib.hid (Z4.out.turned0 t5 (fun _ _ _ _ e => e))
        have O5 := Lib.hid o5
        have G5 := Lib.hid (g5 ga rfl)
        have U5 := Lib.hid t5
        clear t5 o5 g5 r5 O4 Z4
        go_wp2_with (at_builtin; refine wpList_app4 bytT rfl (.tmp 36) (.tmp 37) rfl O5.out Z5.out (by omega) rfl rfl ?_; intro A6 c6 w6 o6 hor6)
        have t46 : Turned (fun _ => False) w4 w6 := by
          rcases hor6 with ⟨_, _, _, ht⟩ | ⟨_, ht⟩
          · exact U5.out.trans ht (fun _ e => e) (fun g e => .inr (by injection e with e; injection e with e; have := G5.out; omega))
          · exact U5.out.trans ht (fun _ e => e) (fun _ e => e.elim)
        have T6 := Lib.hid (T4.out.trans (W := fun _ => False) t46 (fun _ e => e) (fun _ e => e.elim))
        have B6 := Lib.hid (B4.out.fresh t46)
        have O6 := Lib.hid o6
        have M6 := o6.max
        clear t46 hor6 o6 U5 G5 O5 Z5 T4 B4
        have hpz : ∀ z ∈ ps ++ zs, isByte z := app_bytes hpb.out hzb
        have hgt := ask_get_any A6 (m + n) c6 (ps ++ zs) w6 O6.out.bytS' hpz M6.1 M6.2 (by omega) (hK'.out _ T6.out)
        unfold AGet at hgt
        rw [hgp.out] at hgt
        refine hgt.mono ?_
        clear hgt hpz M6 hgp hpb
        rintro e w7 (⟨a7, n7, S7, hR7, rfl, hown7, _, t7⟩ | ⟨hno, _⟩)
        · injection hR7 with hR7
          injection hR7 with hR7 hn7
          subst hR7 hn7
          have T7 := Lib.hid (T6.out.trans (W := fun _ => False) t7 (fun _ e => e) (fun _ e => e.elim))
          have B7 := Lib.hid (B6.out.fresh t7)
          have N7 := Lib.hid hown7
          clear t7 hown7 T6 B6 O6
          obtain ⟨⟨UA, Un, Uc⟩, ⟨VA, Vn, Vc⟩⟩ := S7
          unfold askC strV at *
          simp only at N7 ⊢
          have BN := Blk.new w7 26 #[.int .u8 kind, .int .i64 request, .string ⟨item.toArray⟩, .int .i64 qty, .int .i64 day, .int .i64 days, .int .i64 rank, .int .i64 lot, .int .i64 line, .slice UA Un Uc, .slice VA Vn Vc]
          have tX := (Turned.refl (fun _ => False) w7).alloc (.cells #[.int .u8 kind, .int .i64 request, .string ⟨item.toArray⟩, .int .i64 qty, .int .i64 day, .int .i64 days, .int .i64 rank, .int .i64 lot, .int .i64 line, .slice UA Un Uc, .slice VA Vn Vc] 26)
          have B9 := B7.out.fresh tX
          have T9 := Lib.hid (T7.out.trans (W := fun _ => False) tX (fun _ e => e) (fun _ e => e.elim))
          have K9 := Lib.hid (I.out.fresh T9.out)
          have L9 := Lib.hid (N7.out.fresh tX).is
          obtain ⟨y0, y1, y2, y3, y4, y5, y6, y7, y8, y9, y10⟩ := B9.cells
          simp only at y0 y1 y2 y3 y4 y5 y6 y7 y8 y9 y10
          clear B9 BN tX T7 B7 N7 I
          go_wp2_with fail
          generalize w7.alloc (.cells #[.int .u8 kind, .int .i64 request, .string ⟨item.toArray⟩, .int .i64 qty, .int .i64 day, .int .i64 days, .int .i64 rank, .int .i64 lot, .int .i64 line, .slice UA Un Uc, .slice VA Vn Vc] 26) = w9 at *
          clear y0 y1 y2 y3 y4 y5 y6 y7 y8 y9 y10
          have hsr := sameA_any ⟨kind, request, item, qty, day, days, rank, lot, line, parts, others⟩ ⟨⟨PA, Pn, Pc⟩, ⟨OA, On, Oc⟩⟩ ⟨⟨UA, Un, Uc⟩, ⟨VA, Vn, Vc⟩⟩ w9 K9.out L9.out
          unfold askC strV at hsr
          simp only at hsr
          refine hsr.mono ?_
          clear hsr
          rintro e w10 ⟨rfl, t10⟩
          have T10 := Lib.hid (T9.out.trans (W := fun _ => False) t10 (fun _ e => e) (fun _ e => e.elim))
          clear t10 T9 L9 K9
          go_wp2_with fail
          go_ret
          exact ⟨rfl, T10.out⟩
        · cases hno
def WhoRel (m : Nat) (A : Option Addr) (n c : Nat) (zs : List Int) (w : World) (i : Value) (wr : World) : Prop := ∃ j : Nat, j ≤ m ∧ i = .int .i64 j ∧ Turned (fun _ => False) w wr ∧ BytS wr A n c zs
set_option maxRecDepth 100000 in
set_option maxHeartbeats 4000000 in
theorem askWhole_any (A : Option Addr) (n c : Nat) (zs : List Int) (w : World) (hK : KindsOk w) (h : BytS w A n c zs) (hb : ∀ z ∈ zs, isByte z) (hnc : n ≤ c) (hc : c ≤ maxLen) (_hn47 : n ≤ 140737488355328) : Calls Tryd.prog 4 #[.slice A n c] w (OkNew w) := by
  have hl := h.len
  have h' := Lib.hid h
  have hc' := hc
  unfold maxLen at hc'
  have hK' := Lib.hid (fun (w' : World) (ht : Turned (fun _ => False) w w') => hK.fresh ht)
  clear h hK
  go_enter Tryd.func4, Tryd.ntmps4
  go_wp2_with fail
  refine (awake13_any _ (hK'.out _ (Turned.refl _ w))).mono ?_
  rintro e w1 ⟨rfl, t1⟩
  have T1 := Lib.hid t1
  have H1 := Lib.hid (h'.out.turned0 t1 (fun _ _ _ _ e => e))
  clear t1 h'
  by_cases hbig : (9000 : Int) < (n : Int)
  · go_wp2_with fail
    go_ret
    exact ⟨rfl, T1.out⟩
  · go_wp2_with fail
    refine (ask_get_any A n c zs w1 H1.out hb hnc hc (by omega) (hK'.out _ T1.out)).mono ?_
    rintro e w2 (⟨a, m, S, hR, rfl, hown, hOk, t2⟩ | ⟨hno, rfl, t2⟩)
    · obtain ⟨hri, h9, hmz, hput, hnone⟩ := aput_get hb hR
      rw [hl] at hmz
      have T2 := Lib.hid (T1.out.trans (W := fun _ => False) t2 (fun _ e => e) (fun _ e => e.elim))
      have H2 := Lib.hid (H1.out.turned0 t2 (fun _ _ _ _ e => e))
      have hfew : a.parts.length ≤ 1000000 := by
        obtain ⟨f, hf, _, _, hfit⟩ := rightA_some hri
        have h12 := hfit 112 (by decide)
        unfold fitF at h12
        split at h12
        · have := partsB_mem (show partsB a.parts = true from h12); omega
        · have e0 : a.parts = [] := by simpa [zeroF] using h12
          rw [e0]; simp
      have BX := Lib.hid (Blk.new w2 26 (askC a S))
      have tX := Lib.hid ((Turned.refl (fun _ => False) w2).alloc (.cells (askC a S) 26))
      have hn2 := Lib.hid hnone
      have hp2 := Lib.hid hput
      have hpA := Lib.hid (fun (w' : World) (t : Turned (fun _ => False) w2 w') => ask_put_any a S w' (hown.is.fresh t) hOk (hK'.out _ (T2.out.trans (W := fun _ => False) t (fun _ e => e) (fun _ e => e.elim))) hfew)
      have hrA := Lib.hid (fun (w' : World) (t : Turned (fun _ => False) w2 w') => ask_right_any a S w' (hown.is.fresh t) hOk (hK'.out _ (T2.out.trans (W := fun _ => False) t (fun _ e => e) (fun _ e => e.elim))) hfew)
      unfold APut at hpA
      rw [hri, hput] at hpA
      rw [hri] at hrA
      clear t2 hown T1 H1 hnone hput hR hri hOk hfew
      obtain ⟨kind, request, item, qty, day, days, rank, lot, line, parts, others⟩ := a
      obtain ⟨⟨PA, Pn, Pc⟩, ⟨OA, On, Oc⟩⟩ := S
      unfold askC strV at *
      simp only at BX tX hpA hrA ⊢
      go_wp2_with fail
      have T3 := Lib.hid (T2.out.trans (W := fun _ => False) tX.out (fun _ e => e) (fun _ e => e.elim))
      have X3 := Lib.hid tX.out
      have H3 := Lib.hid (H2.out.turned0 tX.out (fun _ _ _ _ e => e))
      have A3 := Lib.hid (show AskAt _ _ ⟨kind, request, item, qty, day, days, rank, lot, line, parts, others⟩ ⟨⟨PA, Pn, Pc⟩, ⟨OA, On, Oc⟩⟩ from BX.out)
      clear T2 H2 BX tX
      generalize w2.alloc (.cells #[.int .u8 kind, .int .i64 request, .string ⟨item.toArray⟩, .int .i64 qty, .int .i64 day, .int .i64 days, .int .i64 rank, .int .i64 lot, .int .i64 line, .slice PA Pn Pc, .slice OA On Oc] 26) = w3 at *
      generalize w2.heap.size = bx at *
      have hlen : (zs.take m).length = m := by rw [List.length_take, hl]; omega
      have hp := hpA.out w3 X3.out
      rw [hlen] at hp
      simp only [if_true] at hp
      obtain ⟨x0, x1, x2, x3, x4, x5, x6, x7, x8, x9, x10⟩ := A3.out.cells
      simp only at x0 x1 x2 x3 x4 x5 x6 x7 x8 x9 x10
      refine hp.mono ?_
      clear hp
      rintro e w4 ⟨A4, c4, rfl, o4, g4, t4⟩
      have T4 := Lib.hid (T3.out.trans (W := fun _ => False) t4 (fun _ e => e) (fun _ e => e.elim))
      have X4 := Lib.hid (X3.out.trans (W := fun _ => False) t4 (fun _ e => e) (fun _ e => e.elim))
      have H4 := Lib.hid (H3.out.turned0 t4 (fun _ _ _ _ e => e))
      have A5 := Lib.hid (A3.out.fresh t4)
      have O4 := Lib.hid o4
      clear T3 H3 A3 g4 o4 t4 x0 x1 x2 x3 x4 x5 x6 x7 x8 x9 x10 X3
      obtain ⟨x0, x1, x2, x3, x4, x5, x6, x7, x8, x9, x10⟩ := A5.out.cells
      simp only at x0 x1 x2 x3 x4 x5 x6 x7 x8 x9 x10
      obtain ⟨b, off, hA, _⟩ := H4.out.cell (show 0 < n by omega)
      have hm1 : ¬ ((m : Int) < 1) := by omega
      have hm2 : ¬ ((n : Int) < (m : Int)) := by omega
      have hm3 : (m : Int) ≤ (c : Int) := by omega
      have hm4 : (1 : Int) ≤ (m : Int) := by omega
      have hm5 : (m : Int) ≤ (n : Int) := by omega
      have hm6 : decide (n < m) = false := decide_eq_false (by omega)
      have hm7 : decide ((m : Int) < 1) = false := decide_eq_false (by omega)
      subst hA
      go_wp2_with fail
      refine (hrA.out w4 X4.out).mono ?_
      rintro e w5 ⟨rfl, t5⟩
      have T5 := Lib.hid (T4.out.trans (W := fun _ => False) t5 (fun _ e => e) (fun _ e => e.elim))
      have H5 := Lib.hid (H4.out.turned0 t5 (fun _ _ _ _ e => e))
      have O5 := Lib.hid (O4.out.turned t5 (fun _ _ e => e))
      clear t5 T4 H4 O4 X4 A5 x0 x1 x2 x3 x4 x5 x6 x7 x8 x9 x10
      have hzt := Lib.hid (show BytR w5 (some ⟨b, off, none⟩) m (zs.take m) from by
        refine ⟨hlen, by omega, fun h0 => ?_⟩
        obtain ⟨b2, o2, e2, hcl⟩ := H5.out.cell (show 0 < n by omega)
        injection e2 with e2
        injection e2 with e3 e4
        subst e3 e4
        refine ⟨b, off, rfl, fun j hj => ?_⟩
        rw [hcl j (by omega), take_getD zs m j hj])
      go_wp2_with fail
      refine (same_yes A4 _ m m c4 c (zs.take m) (zs.take m) w5 O5.out.bytS'.toBytR hzt.out rfl).mono ?_
      rintro e w6 ⟨rfl, nq, rfl⟩
      have T6 := Lib.hid (T5.out.drewN nq)
      have H6 := Lib.hid (H5.out.turned0 ((Turned.refl (fun _ => False) w5).drewN nq) (fun _ _ _ _ e => e))
      clear T5 H5 O5 hzt hp2 hpA hrA
      generalize w5.drewN nq = w6 at *
      go_wp2_with fail
      go_loopw [8] (fun i wr => WhoRel m (some ⟨b, off, none⟩) n c zs w i wr) (fun i _ => m - (intOf i).toNat)
      case atStart => exact ⟨((max 0 ((m : Int) - 40)) : Int).toNat, by omega, by congr 1; omega, T6.out, H6.out⟩
      case round =>
        obtain ⟨j, hj, rfl, hT, hH⟩ := hrel
        have hT := Lib.hid hT
        have hH := Lib.hid hH
        clear T6 H6
        by_cases hlt : j < m
        · have hji : (j : Int) < (m : Int) := by omega
          have hjc : (j : Int) ≤ (c : Int) := by omega
          have hng := Lib.hid (hn2.out j hlt)
          have hlj : (zs.take j).length = j := by rw [List.length_take, hl]; omega
          have hG := ask_get_any (some ⟨b, off, none⟩) j c (zs.take j) wr ⟨⟨hlj, by omega, fun h0 => by
            obtain ⟨b2, o2, e2, hcl⟩ := hH.out.cell (show 0 < n by omega)
            injection e2 with e2
            injection e2 with e3 e4
            subst e3 e4
            refine ⟨b, off, rfl, fun i hi => ?_⟩
            rw [hcl i (by omega), take_getD zs j i hi]⟩, fun e => by cases e⟩ (fun z hz => hb z (List.mem_of_mem_take hz)) (by omega) hc (by omega) (hK'.out _ hT.out)
          unfold AGet at hG
          rw [hng.out] at hG
          go_wp2_with fail
          refine hG.mono ?_
          clear hG
          rintro e w7 (⟨_, _, _, hno, _⟩ | ⟨_, rfl, t7⟩)
          · cases hno
          · have tY := (Turned.refl (fun _ => False) w7).alloc (.cells (askC AskV.zero AskS.nil) 26)
            have R := Lib.hid (show WhoRel m (some ⟨b, off, none⟩) n c zs w (.int .i64 ((j + 1 : Nat) : Int)) (w7.alloc (.cells (askC AskV.zero AskS.nil) 26)) from ⟨j + 1, hlt, rfl, hT.out.trans (W := fun _ => False) (t7.trans (W := fun _ => False) tY (fun _ e => e) (fun _ e => e.elim)) (fun _ e => e) (fun _ e => e.elim), (hH.out.turned0 t7 (fun _ _ _ _ e => e)).turned0 tY (fun _ _ _ _ e => e)⟩)
            unfold askC AskV.zero AskS.nil Sl.nil strV at R ⊢
            simp only at R ⊢
            clear t7 tY
            go_wp2_with fail
            go_roundw
            case rel =>
              first
              | exact R.out
              | ((repeat apply Exists.intro); exact ⟨R.out, rfl⟩)
            case measure => simp [intOf]; omega
        · have hge : (m : Int) ≤ (j : Int) := by omega
          go_wp2_with fail
          go_ret
          exact ⟨rfl, hT.out⟩
    · have T2 := Lib.hid (T1.out.trans (W := fun _ => False) t2 (fun _ e => e) (fun _ e => e.elim))
      have hs := sameA_any AskV.zero AskS.nil AskS.nil
      have tX := Lib.hid ((Turned.refl (fun _ => False) w2).alloc (.cells (askC AskV.zero AskS.nil) 26))
      have I3 := Lib.hid (nil_is (w2.alloc (.cells (askC AskV.zero AskS.nil) 26)) AskV.zero rfl rfl)
      have hsr := hs _ I3.out I3.out
      clear hs
      unfold askC AskV.zero AskS.nil Sl.nil strV at *
      simp only at tX hsr ⊢
      go_wp2_with fail
      refine hsr.mono ?_
      rintro e w3 ⟨rfl, t3⟩
      have T3 := Lib.hid ((T2.out.trans (W := fun _ => False) tX.out (fun _ e => e) (fun _ e => e.elim)).trans (W := fun _ => False) t3 (fun _ e => e) (fun _ e => e.elim))
      clear t3 hsr
      go_wp2_with fail
      go_ret
      exact ⟨rfl, T3.out⟩
end Go.Proofs.YtbecdijccifllaaDoor
