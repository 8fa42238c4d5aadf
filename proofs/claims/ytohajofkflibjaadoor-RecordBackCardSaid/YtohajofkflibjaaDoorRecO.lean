/-
  storemanlaw19.RecordBack: a right record's bytes are got as it, whatever stands behind; one that is not right has none.
-/
import Derived.Test.YtohajofkflibjaaDoorRecM
import Derived.Test.YtohajofkflibjaaDoorAp4
namespace Go.Proofs.YtohajofkflibjaaDoor
open Go.RowKit Go.Maps
set_option linter.unusedVariables false
set_option linter.unusedSimpArgs false

theorem app_bytes {a b : List Int} (ha : ∀ z ∈ a, isByte z) (hb : ∀ z ∈ b, isByte z) : ∀ z ∈ a ++ b, isByte z := by
  intro z hz
  rcases List.mem_append.1 hz with h | h
  · exact ha z h
  · exact hb z h
theorem rowL_bytes {l : List Int} (h : ∀ z ∈ l, isByte z) (hl : l.length ≤ 255) : ∀ z ∈ rowL l, isByte z := by
  intro z hz
  rcases List.mem_cons.1 hz with rfl | h1
  · unfold isByte; omega
  · exact h z h1
theorem pairs_bytes (a : Nat) (l : List (Int × Int)) : ∀ z ∈ l.flatMap (pairL a), isByte z := by
  intro z hz
  obtain ⟨p, _, hp⟩ := List.mem_flatMap.1 hz
  exact app_bytes (be_byte _ _) (be_byte _ _) z hp
theorem putR_bytes {R : Rec} (hr : rightR R = true) (hk : R.Ok) : ∀ z ∈ putR R, isByte z := by
  rw [rput_yes hr]
  refine app_bytes (be_byte _ _) ?_
  have hkk := hk.kind
  have h1 := hk.key
  have h2 := hk.old
  have h3 := hk.new
  have hT : turnB R = true → ∀ z ∈ turnL R, isByte z := fun ht => by
    have hl := turnB_len ht
    exact app_bytes (rowL_bytes h1 (by omega)) (app_bytes (rowL_bytes h2 (by omega)) (rowL_bytes h3 (by omega)))
  intro z hz
  refine (List.mem_cons.1 hz).elim (fun e => by rw [e]; exact hkk) (fun hz => ?_)
  unfold restL at hz
  unfold rightR at hr
  by_cases h5 : R.kind = 5
  · rw [if_pos h5] at hz
    exact app_bytes (app_bytes (be_byte _ _) (pairs_bytes _ _)) (app_bytes (be_byte _ _) (pairs_bytes _ _)) z hz
  · rw [if_neg h5] at hr hz
    simp only [Bool.and_eq_true, decide_eq_true_eq] at hr
    have hkd := hr.2
    unfold kindB at hkd
    by_cases k1 : R.kind = 1
    · rw [if_pos k1] at hkd hz
      simp only [Bool.and_eq_true] at hkd
      exact app_bytes (be_byte _ _) (app_bytes (be_byte _ _) (app_bytes (be_byte _ _) (hT hkd.2))) z hz
    · rw [if_neg k1] at hkd hz
      by_cases k2 : R.kind = 2
      · rw [if_pos k2] at hkd hz
        simp only [Bool.and_eq_true] at hkd
        exact app_bytes (be_byte _ _) (app_bytes (be_byte _ _) (app_bytes (be_byte _ _) (app_bytes (be_byte _ _) (hT hkd.2)))) z hz
      · rw [if_neg k2] at hz
        by_cases k6 : R.kind = 6
        · rw [if_pos k6] at hz
          exact app_bytes (be_byte _ _) (app_bytes (be_byte _ _) (app_bytes (be_byte _ _) (be_byte _ _))) z hz
        · rw [if_neg k6, List.append_nil] at hz
          exact app_bytes (be_byte _ _) (be_byte _ _) z hz
set_option maxRecDepth 100000 in
set_option maxHeartbeats 4000000 in
theorem recordBack_any (R : Rec) (S : RecS) (A : Option Addr) (n c : Nat) (zs : List Int) (w : World) (h : RecIs w R S) (hk : R.Ok) (hz : BytS w A n c zs) (hzb : ∀ z ∈ zs, isByte z) (hnc : n ≤ c) (hc : c ≤ maxLen) (hn47 : n ≤ 140737488355328) : Calls Tryd.prog 3 #[.agg (recC R S), .slice A n c] w (OkNew w) := by
  have hl := hz.len
  have hc' := hc
  unfold maxLen at hc'
  have HGP := Lib.hid (fun (hr : rightR R = true) => get_put hr hk zs)
  have HLN := Lib.hid (fun (hr : rightR R = true) => show (putR R).length ≤ 1002 ∧ 2 ≤ (putR R).length from by
    have h1 := body_len hr
    rw [rput_yes hr, List.length_append, be_length]
    omega)
  have HPB := Lib.hid (fun (hr : rightR R = true) => putR_bytes hr hk)
  have BX := Lib.hid (Blk.new w 29 (recC R S))
  have t0 := Lib.hid ((Turned.refl (fun _ => False) w).alloc (.cells (recC R S) 29))
  have I0 := Lib.hid (h.fresh t0.out)
  have Z0 := Lib.hid (hz.turned0 t0.out (fun _ _ _ _ e => e))
  have H0 := Lib.hid h
  clear h hz hk
  obtain ⟨lsn, work, prev, next, kind, page, key, old, new, dirty, opn⟩ := R
  obtain ⟨⟨KA, Kn, Kc⟩, ⟨OA, On, Oc⟩, ⟨NA, Nn, Nc⟩, ⟨DA, Dn, Dc⟩, ⟨PA, Pn, Pc⟩⟩ := S
  have A0 := Lib.hid (RecAt.of_blk BX.out)
  unfold recC at *
  simp only at BX t0 I0 Z0 A0 ⊢
  go_enter Tryd.func3, Tryd.ntmps3
  go_wp2_with fail
  generalize w.alloc (.cells #[.int .i64 lsn, .int .i64 work, .int .i64 prev, .int .i64 next, .int .u8 kind, .int .i64 page, .slice KA Kn Kc, .slice OA On Oc, .slice NA Nn Nc, .slice DA Dn Dc, .slice PA Pn Pc] 29) = w0 at *
  generalize hbx : w.heap.size = bx at *
  refine (awake19_any _).mono ?_
  rintro e w1 ⟨rfl, t1⟩
  have T1 := Lib.hid (t0.out.trans (W := fun _ => False) t1 (fun _ e => e) (fun _ e => e.elim))
  have I1 := Lib.hid (I0.out.fresh t1)
  have Z1 := Lib.hid (Z0.out.turned0 t1 (fun _ _ _ _ e => e))
  have B1 := Lib.hid (BX.out.turned t1 (fun e => e))
  have A1 := A0.out.fresh t1
  clear t1 BX A0 I0 Z0 t0
  obtain ⟨x0, x1, x2, x3, x4, x5, x6, x7, x8, x9, x10⟩ := A1
  simp only at x0 x1 x2 x3 x4 x5 x6 x7 x8 x9 x10
  go_wp2_with fail
  have hg := great_any ⟨lsn, work, prev, next, kind, page, key, old, new, dirty, opn⟩ ⟨⟨KA, Kn, Kc⟩, ⟨OA, On, Oc⟩, ⟨NA, Nn, Nc⟩, ⟨DA, Dn, Dc⟩, ⟨PA, Pn, Pc⟩⟩ w1 I1.out
  unfold recC at hg
  simp only at hg
  cases hgb : greatB ⟨lsn, work, prev, next, kind, page, key, old, new, dirty, opn⟩ with
  | true =>
    rw [hgb] at hg
    refine hg.mono ?_
    clear hg
    rintro e w2 ⟨rfl, t2⟩
    have T2 := Lib.hid (T1.out.trans (W := fun _ => False) t2 (fun _ e => e) (fun _ e => e.elim))
    clear t2
    go_wp2_with fail
    go_ret
    exact ⟨rfl, T2.out⟩
  | false =>
    rw [hgb] at hg
    refine hg.mono ?_
    clear hg hgb
    rintro e w2 ⟨rfl, t2⟩
    have T2 := Lib.hid (T1.out.trans (W := fun _ => False) t2 (fun _ e => e) (fun _ e => e.elim))
    have I2 := Lib.hid (I1.out.fresh t2)
    have Z2 := Lib.hid (Z1.out.turned0 t2 (fun _ _ _ _ e => e))
    have B2 := Lib.hid (B1.out.turned t2 (fun e => e))
    clear t2 T1 I1 Z1 B1 x0 x1 x2 x3 x4 x5 x6 x7 x8 x9 x10
    obtain ⟨x0, x1, x2, x3, x4, x5, x6, x7, x8, x9, x10⟩ := RecAt.of_blk (R := ⟨lsn, work, prev, next, kind, page, key, old, new, dirty, opn⟩) (S := ⟨⟨KA, Kn, Kc⟩, ⟨OA, On, Oc⟩, ⟨NA, Nn, Nc⟩, ⟨DA, Dn, Dc⟩, ⟨PA, Pn, Pc⟩⟩) B2.out
    simp only at x0 x1 x2 x3 x4 x5 x6 x7 x8 x9 x10
    by_cases hbig : (100000 : Int) < (n : Int)
    · go_wp2_with fail
      go_ret
      exact ⟨rfl, T2.out⟩
    · go_wp2_with fail
      have hp := rput_any ⟨lsn, work, prev, next, kind, page, key, old, new, dirty, opn⟩ ⟨⟨KA, Kn, Kc⟩, ⟨OA, On, Oc⟩, ⟨NA, Nn, Nc⟩, ⟨DA, Dn, Dc⟩, ⟨PA, Pn, Pc⟩⟩ w2 I2.out
      unfold RPut recC at hp
      cases hri : rightR ⟨lsn, work, prev, next, kind, page, key, old, new, dirty, opn⟩ with
      | false =>
        have hr0 := rput_no hri
        rw [hri, hr0] at hp
        simp only [List.length_nil] at hp
        refine hp.mono ?_
        clear hp
        rintro e w3 ⟨A3, c3, rfl, o3, g3, t3⟩
        have T3 := Lib.hid (T2.out.trans (W := fun _ => False) t3 (fun _ e => e) (fun _ e => e.elim))
        have I3 := Lib.hid (I2.out.fresh t3)
        have B3 := Lib.hid (B2.out.turned t3 (fun e => e))
        have hri' := Lib.hid hri
        clear t3 o3 g3 T2 I2 Z2 B2 hri hr0 x0 x1 x2 x3 x4 x5 x6 x7 x8 x9 x10
        obtain ⟨x0, x1, x2, x3, x4, x5, x6, x7, x8, x9, x10⟩ := RecAt.of_blk (R := ⟨lsn, work, prev, next, kind, page, key, old, new, dirty, opn⟩) (S := ⟨⟨KA, Kn, Kc⟩, ⟨OA, On, Oc⟩, ⟨NA, Nn, Nc⟩, ⟨DA, Dn, Dc⟩, ⟨PA, Pn, Pc⟩⟩) B3.out
        simp only at x0 x1 x2 x3 x4 x5 x6 x7 x8 x9 x10
        go_wp2_with fail
        have hr := right_any ⟨lsn, work, prev, next, kind, page, key, old, new, dirty, opn⟩ ⟨⟨KA, Kn, Kc⟩, ⟨OA, On, Oc⟩, ⟨NA, Nn, Nc⟩, ⟨DA, Dn, Dc⟩, ⟨PA, Pn, Pc⟩⟩ w3 I3.out
        unfold recC at hr
        rw [hri'.out] at hr
        simp only at hr
        refine hr.mono ?_
        clear hr
        rintro e w4 ⟨rfl, t4⟩
        have T4 := Lib.hid (T3.out.trans (W := fun _ => False) t4 (fun _ e => e) (fun _ e => e.elim))
        clear t4 x0 x1 x2 x3 x4 x5 x6 x7 x8 x9 x10 T3 I3 B3
        go_wp2_with fail
        go_ret
        exact ⟨rfl, T4.out⟩
      | true =>
        rw [hri] at hp
        have hgp := Lib.hid (HGP.out hri)
        have hpb := Lib.hid (HPB.out hri)
        obtain ⟨hn1, hn2⟩ := HLN.out hri
        have hri' := Lib.hid hri
        clear HGP HLN HPB hri
        generalize putR ⟨lsn, work, prev, next, kind, page, key, old, new, dirty, opn⟩ = ps at *
        generalize hpl : ps.length = m at *
        have hpl' := Lib.hid hpl
        clear hpl
        simp only [if_true] at hp
        refine hp.mono ?_
        clear hp
        rintro e w3 ⟨A3, c3, rfl, o3, g3, t3⟩
        have T3 := Lib.hid (T2.out.trans (W := fun _ => False) t3 (fun _ e => e) (fun _ e => e.elim))
        have I3 := Lib.hid (I2.out.fresh t3)
        have B3 := Lib.hid (B2.out.turned t3 (fun e => e))
        have Z3 := Lib.hid (Z2.out.turned0 t3 (fun _ _ _ _ e => e))
        have O3 := Lib.hid o3
        clear t3 o3 g3 T2 I2 Z2 B2 x0 x1 x2 x3 x4 x5 x6 x7 x8 x9 x10
        obtain ⟨x0, x1, x2, x3, x4, x5, x6, x7, x8, x9, x10⟩ := RecAt.of_blk (R := ⟨lsn, work, prev, next, kind, page, key, old, new, dirty, opn⟩) (S := ⟨⟨KA, Kn, Kc⟩, ⟨OA, On, Oc⟩, ⟨NA, Nn, Nc⟩, ⟨DA, Dn, Dc⟩, ⟨PA, Pn, Pc⟩⟩) B3.out
        simp only at x0 x1 x2 x3 x4 x5 x6 x7 x8 x9 x10
        go_wp2_with fail
        have hr := right_any ⟨lsn, work, prev, next, kind, page, key, old, new, dirty, opn⟩ ⟨⟨KA, Kn, Kc⟩, ⟨OA, On, Oc⟩, ⟨NA, Nn, Nc⟩, ⟨DA, Dn, Dc⟩, ⟨PA, Pn, Pc⟩⟩ w3 I3.out
        unfold recC at hr
        rw [hri'.out] at hr
        simp only at hr
        refine hr.mono ?_
        clear hr
        rintro e w4 ⟨rfl, t4⟩
        have T4 := Lib.hid (T3.out.trans (W := fun _ => False) t4 (fun _ e => e) (fun _ e => e.elim))
        have I4 := Lib.hid (I3.out.fresh t4)
        have B4 := Lib.hid (B3.out.turned t4 (fun e => e))
        have Z4 := Lib.hid (Z3.out.turned0 t4 (fun _ _ _ _ e => e))
        have O4 := Lib.hid (O3.out.turned t4 (fun _ _ e => e))
        clear t4 x0 x1 x2 x3 x4 x5 x6 x7 x8 x9 x10 T3 I3 B3 Z3 O3
        go_wp2_with fail
        refine (copyB_any A3 m c3 ps w4 O4.out.bytS' (by omega) (by omega)).mono ?_
        rintro e w5 ⟨A5, c5, rfl, o5, g5, t5⟩
        rw [hpl'.out] at o5 ⊢
        obtain ⟨ga, rfl, r5⟩ := o5.some_ (by omega)
        have Z5 := Lib.hid (Z4.out.turned0 t5 (fun _ _ _ _ e => e))
        have O5 := Lib.hid o5
        have G5 := Lib.hid (g5 ga rfl)
        have U5 := Lib.hid t5
        clear t5 o5 g5 r5 O4 Z4
        go_wp2_with (at_builtin; refine wpList_app4 bytT rfl (.tmp 36) (.tmp 37) rfl O5.out Z5.out (by omega) rfl rfl ?_; intro A6 c6 w6 o6 hor6)
        have t46 : Turned (fun _ => False) w4 w6 := by
          rcases hor6 with ⟨_, _, _, ht⟩ | ⟨_, ht⟩
          · exact U5.out.trans ht (fun _ e => e) (fun g e => .inr (by injection e with e; injection e with e; have := G5.out; omega))
          · exact U5.out.trans ht (fun _ e => e) (fun _ e => e.elim)
        have T6 := Lib.hid (T4.out.trans (W := fun _ => False) t46 (fun _ e => e) (fun _ e => e.elim))
        have I6 := Lib.hid (I4.out.fresh t46)
        have B6 := Lib.hid (B4.out.turned t46 (fun e => e))
        have O6 := Lib.hid o6
        have M6 := o6.max
        clear t46 hor6 o6 U5 G5 O5 Z5 T4 I4 B4
        have hpz : ∀ z ∈ ps ++ zs, isByte z := app_bytes hpb.out hzb
        have hgt := rget_any A6 (m + n) c6 (ps ++ zs) w6 O6.out.bytS' hpz M6.1 M6.2
        unfold RGet at hgt
        rw [hgp.out] at hgt
        refine hgt.mono ?_
        clear hgt hpz M6 hgp hpb
        rintro e w7 (⟨R7, n7, S7, hR7, rfl, hown7, t7⟩ | ⟨hno, _⟩)
        · injection hR7 with hR7
          injection hR7 with hR7 hn7
          subst hR7 hn7
          have T7 := Lib.hid (T6.out.trans (W := fun _ => False) t7 (fun _ e => e) (fun _ e => e.elim))
          have I7 := Lib.hid (I6.out.fresh t7)
          have B7 := Lib.hid (B6.out.turned t7 (fun e => e))
          have N7 := Lib.hid hown7
          clear t7 hown7 T6 I6 B6 O6
          obtain ⟨⟨KA2, Kn2, Kc2⟩, ⟨OA2, On2, Oc2⟩, ⟨NA2, Nn2, Nc2⟩, ⟨DA2, Dn2, Dc2⟩, ⟨PA2, Pn2, Pc2⟩⟩ := S7
          unfold recC Rec.bare at *
          simp only at N7 ⊢
          have hb7 := B7.out.lt
          have hne1 : ¬ (bx = w7.heap.size) := by omega
          have hne2 : ¬ (w7.heap.size = bx) := by omega
          have tS := (Turned.refl (fun i => i = bx) w7).setCell (p := ⟨bx, 0, none⟩) (.inl rfl) (.int .i64 0)
          have BN := Blk.new_at (k := w7.heap.size) (w7.setCell ⟨bx, 0, none⟩ (.int .i64 0)) 29 #[.int .i64 0, .int .i64 work, .int .i64 prev, .int .i64 next, .int .u8 kind, .int .i64 page, .slice KA2 Kn2 Kc2, .slice OA2 On2 Oc2, .slice NA2 Nn2 Nc2, .slice DA2 Dn2 Dc2, .slice PA2 Pn2 Pc2] (by simp [World.setCell])
          have tX := (Turned.refl (fun _ => False) (w7.setCell ⟨bx, 0, none⟩ (.int .i64 0))).alloc (.cells #[.int .i64 0, .int .i64 work, .int .i64 prev, .int .i64 next, .int .u8 kind, .int .i64 page, .slice KA2 Kn2 Kc2, .slice OA2 On2 Oc2, .slice NA2 Nn2 Nc2, .slice DA2 Dn2 Dc2, .slice PA2 Pn2 Pc2] 29)
          have B8 := B7.out.set_ 0 (.int .i64 0)
          simp only [List.setIfInBounds_toArray, List.set_cons_zero] at B8
          have B9 := B8.turned tX (fun e => e)
          have T9 := Lib.hid ((T7.out.trans (W := fun _ => False) tS (fun _ e => e) (fun i e => .inr (by omega))).trans (W := fun _ => False) tX (fun _ e => e) (fun _ e => e.elim))
          have K9 := Lib.hid (H0.out.fresh T9.out)
          have L9 := Lib.hid ((N7.out.moved tS (fun i e => e) B7.out (by decide) (by decide) (by decide)).fresh tX).is
          have K9' := Lib.hid (show RecIs _ ⟨0, work, prev, next, kind, page, key, old, new, dirty, opn⟩ ⟨⟨KA, Kn, Kc⟩, ⟨OA, On, Oc⟩, ⟨NA, Nn, Nc⟩, ⟨DA, Dn, Dc⟩, ⟨PA, Pn, Pc⟩⟩ from ⟨K9.out.key, K9.out.old, K9.out.new, K9.out.dirty, K9.out.opn⟩)
          have x0 : (w7.alloc (.cells #[.int .i64 0, .int .i64 work, .int .i64 prev, .int .i64 next, .int .u8 kind, .int .i64 page, .slice KA2 Kn2 Kc2, .slice OA2 On2 Oc2, .slice NA2 Nn2 Nc2, .slice DA2 Dn2 Dc2, .slice PA2 Pn2 Pc2] 29)).cell? ⟨bx, 0, none⟩ = some (.int .i64 lsn) := (B7.out.alloc _).cell 0
          have xf : (w7.alloc (.cells #[.int .i64 0, .int .i64 work, .int .i64 prev, .int .i64 next, .int .u8 kind, .int .i64 page, .slice KA2 Kn2 Kc2, .slice OA2 On2 Oc2, .slice NA2 Nn2 Nc2, .slice DA2 Dn2 Dc2, .slice PA2 Pn2 Pc2] 29)).frozen? ⟨bx, 0, none⟩ = false := (B7.out.alloc _).frozen 0
          obtain ⟨y0, y1, y2, y3, y4, y5, y6, y7, y8, y9, y10⟩ := RecAt.of_blk (R := ⟨0, work, prev, next, kind, page, key, old, new, dirty, opn⟩) (S := ⟨⟨KA, Kn, Kc⟩, ⟨OA, On, Oc⟩, ⟨NA, Nn, Nc⟩, ⟨DA, Dn, Dc⟩, ⟨PA, Pn, Pc⟩⟩) B9
          obtain ⟨z0, z1, z2, z3, z4, z5, z6, z7, z8, z9, z10⟩ := RecAt.of_blk (R := ⟨0, work, prev, next, kind, page, key, old, new, dirty, opn⟩) (S := ⟨⟨KA2, Kn2, Kc2⟩, ⟨OA2, On2, Oc2⟩, ⟨NA2, Nn2, Nc2⟩, ⟨DA2, Dn2, Dc2⟩, ⟨PA2, Pn2, Pc2⟩⟩) BN
          simp only at y0 y1 y2 y3 y4 y5 y6 y7 y8 y9 y10 z0 z1 z2 z3 z4 z5 z6 z7 z8 z9 z10
          clear B8 B9 BN tS tX K9 T7 B7 N7 H0
          go_wp2_with fail
          generalize (w7.setCell ⟨bx, 0, none⟩ (.int .i64 0)).alloc (.cells #[.int .i64 0, .int .i64 work, .int .i64 prev, .int .i64 next, .int .u8 kind, .int .i64 page, .slice KA2 Kn2 Kc2, .slice OA2 On2 Oc2, .slice NA2 Nn2 Nc2, .slice DA2 Dn2 Dc2, .slice PA2 Pn2 Pc2] 29) = w9 at *
          clear x0 xf y0 y1 y2 y3 y4 y5 y6 y7 y8 y9 y10 z0 z1 z2 z3 z4 z5 z6 z7 z8 z9 z10
          have hsr := sameR_any ⟨0, work, prev, next, kind, page, key, old, new, dirty, opn⟩ ⟨⟨KA2, Kn2, Kc2⟩, ⟨OA2, On2, Oc2⟩, ⟨NA2, Nn2, Nc2⟩, ⟨DA2, Dn2, Dc2⟩, ⟨PA2, Pn2, Pc2⟩⟩ ⟨⟨KA, Kn, Kc⟩, ⟨OA, On, Oc⟩, ⟨NA, Nn, Nc⟩, ⟨DA, Dn, Dc⟩, ⟨PA, Pn, Pc⟩⟩ w9 L9.out K9'.out
          unfold recC at hsr
          simp only at hsr
          refine hsr.mono ?_
          clear hsr
          rintro e w10 ⟨rfl, t10⟩
          have T10 := Lib.hid (T9.out.trans (W := fun _ => False) t10 (fun _ e => e) (fun _ e => e.elim))
          clear t10 T9 L9 K9'
          go_wp2_with fail
          go_ret
          exact ⟨rfl, T10.out⟩
        · cases hno
end Go.Proofs.YtohajofkflibjaaDoor
