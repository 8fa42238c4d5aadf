/-
  MarkLives: a byte of a master's sector is another one.
-/
import Derived.Test.YtobjoafhhchjgaaLivM
namespace Go.Proofs.Ytobjoafhhchjgaa
open Go.RowKit Go.Maps

theorem wide_then {w w1 : World} {base : Nat} (ht : Turned (fun k => base ≤ k) w w1) {w' : World} {W : Nat → Prop} (h2 : Turned W w1 w') (hW : ∀ k, W k → base ≤ k) : Turned (fun k => base ≤ k) w w' := ht.trans h2 (fun _ e => e) (fun k e => .inl (hW k e))
theorem wide_new {w w1 : World} {base : Nat} (h : Turned (fun _ => False) w w1) : Turned (fun k => base ≤ k) w w1 := h.mono (fun _ e => e.elim)
theorem u8_xor_byte (a b : Int) : isByte (bits BinOp.xor IntKind.u8 a b) := by
  have : ∃ x : Int, bits BinOp.xor IntKind.u8 a b = IntKind.u8.wrap x := ⟨_, rfl⟩
  obtain ⟨x, hx⟩ := this
  rw [hx, IntKind.wrap_u8]
  unfold isByte
  omega
theorem tdiv2_range (x : Int) (h1 : -9223372036854775808 ≤ x) (h2 : x ≤ 9223372036854775807) : -9223372036854775808 ≤ x.tdiv 2 ∧ x.tdiv 2 ≤ 9223372036854775807 := by
  have h3 := Int.tmod_add_mul_tdiv x 2
  by_cases h : 0 ≤ x
  · rw [Int.tmod_eq_emod_of_nonneg h] at h3
    omega
  · have := tmod_neg x 2 (by omega) (by omega)
    omega
theorem do8_cells {w : World} {g t : Nat} {v0 v1 v2 v3 v4 v5 v6 v7 : Value} (h : Blk w g t #[v0, v1, v2, v3, v4, v5, v6, v7]) : w.cell? ⟨g, 0, none⟩ = some v0 ∧ w.cell? ⟨g, 1, none⟩ = some v1 ∧ w.cell? ⟨g, 2, none⟩ = some v2 ∧ w.cell? ⟨g, 3, none⟩ = some v3 ∧ w.cell? ⟨g, 4, none⟩ = some v4 ∧ w.cell? ⟨g, 5, none⟩ = some v5 ∧ w.cell? ⟨g, 6, none⟩ = some v6 ∧ w.cell? ⟨g, 7, none⟩ = some v7 :=
  ⟨h.cell 0, h.cell 1, h.cell 2, h.cell 3, h.cell 4, h.cell 5, h.cell 6, h.cell 7⟩

set_option maxRecDepth 100000 in
set_option maxHeartbeats 1000000 in
theorem raw_any {w : World} {base d s o r : Nat} {A : DA} (h : Bo w base d s o r A) (hbase : base ≤ w.heap.size) (x : DoM) (hn : -9223372036854775808 ≤ x.num ∧ x.num ≤ 9223372036854775807) (hby : 0 ≤ x.byt ∧ x.byt ≤ 255) :
    Calls Try.prog 63 #[.pointer (some ⟨d, 0, none⟩), .pointer (some ⟨r, 0, none⟩), .agg #[.int .i64 x.op, .int .i64 x.num, .int .i64 x.mas.seq, .int .i64 x.mas.turn, .int .i64 x.mas.old, .int .i64 x.mas.mark, .slice x.F x.fn x.fc, .int .u8 x.byt]] w (BPost base d s o r w) := by
  obtain ⟨op, num, ⟨seq, turn, old, mark⟩, byt, F, fn, fc, fs⟩ := x
  obtain ⟨lv, m, X, hr⟩ := h.ref
  have hlow := Lib.hid h.low
  have hd' := Lib.hid h.dsk
  have hr' := Lib.hid hr
  clear h hr
  have ha0 : 0 ≤ num % 2 := Int.emod_nonneg _ (by omega)
  have ha1 : num % 2 < 2 := Int.emod_lt_of_pos _ (by omega)
  generalize hat : num % 2 = at_ at *
  have hat' := Lib.hid hat
  clear hat
  go_enter Try.func63, Try.ntmps63
  go_wp2_with fail
  have hx := Blk.new w 69 #[.int .i64 op, .int .i64 num, .int .i64 seq, .int .i64 turn, .int .i64 old, .int .i64 mark, .slice F fn fc, .int .u8 byt]
  have hta := (Turned.refl (fun _ => False) w).alloc (.cells #[.int .i64 op, .int .i64 num, .int .i64 seq, .int .i64 turn, .int .i64 old, .int .i64 mark, .slice F fn fc, .int .u8 byt] 69)
  refine (pick_to num 2 at_ _ hat'.out (by omega) (by omega) hn.1 hn.2).mono ?_
  rintro e w1 ⟨rfl, rfl⟩
  generalize w.alloc (.cells #[.int .i64 op, .int .i64 num, .int .i64 seq, .int .i64 turn, .int .i64 old, .int .i64 mark, .slice F fn fc, .int .u8 byt] 69) = w1 at *
  have hta' := Lib.hid hta
  have hD1 := hd'.out.fresh hta
  have hR1 := hr'.out.fresh hta
  have hlt1 := Lib.hid (show r < w1.heap.size ∧ (∀ k, lv.ownBlock = some k → k < w1.heap.size) ∧ (∀ k, BytesOf m X k → k < w1.heap.size) from ⟨hR1.r_lt, fun k hk => hR1.lv_lt hk, fun k hk => hR1.byt_lt hk⟩)
  go_wp2_with fail
  refine (dread_all hD1 at_).mono ?_
  rintro e w2 ⟨v2, n2, c2, rfl, hb2, ht2, hg2, hrow2⟩
  have hD2 := hD1.fresh ht2
  have hR2 := hR1.fresh ht2
  have hx2 := hx.turned ht2 (fun e => e)
  go_wp2_with fail
  refine (rread_all hR2 at_).mono ?_
  rintro e w3 ⟨v3, n3, c3, rfl, hb3, ht3, _, _⟩
  have hb23 := hb2.turned ht3 (fun _ _ _ e => e)
  have hD3 := Lib.hid (hD2.fresh ht3)
  have hR3 := Lib.hid (hR2.fresh ht3)
  have hx3 := Lib.hid (hx2.turned ht3 (fun e => e))
  have hT3 := Lib.hid ((hta.trans (W := fun _ => False) ht2 (fun _ e => e) (fun _ e => e.elim)).trans (W := fun _ => False) ht3 (fun _ e => e) (fun _ e => e.elim))
  have hrow3 := Lib.hid (fun (h : A.rCode at_ = 0) => let ⟨g, e1, e2, h2⟩ := hrow2 h; (⟨g, e1, e2, h2.turned ht3 (fun e => e)⟩ : ∃ g : Nat, v2 = some (⟨g, 0, none⟩ : Addr) ∧ n2 = 512 ∧ RowB w3 5 g 512 c2 (A.lat at_)))
  have hse := Lib.hid (fun h0 : A.rCode at_ = 0 => (show Sec (A.lat at_) from let ⟨_, _, _, _, _, _, _, _, _, _, s2⟩ := hD1.maps; s2 at_))
  clear hD1 hR1 hD2 hR2 hx hx2 hta ht2 hrow2
  generalize hcd : A.rCode at_ = code at *
  go_wp2_with fail
  refine (same_yes _ _ _ _ _ _ _ _ _ hb23.toBytR hb3.toBytR rfl).mono ?_
  rintro e w4 ⟨rfl, n4, rfl⟩
  have hD4 := Lib.hid (hD3.out.fresh ((Turned.refl (fun _ => False) w3).drewN n4))
  have hR4 := Lib.hid (hR3.out.fresh ((Turned.refl (fun _ => False) w3).drewN n4))
  have hx4 := Lib.hid (hx3.out.turned ((Turned.refl (fun _ => False) w3).drewN n4) (fun e => e))
  have hT4 := Lib.hid (hT3.out.drewN n4)
  clear hD3 hR3 hx3 hT3 hb23 hb3 ht3
  by_cases hc0 : code = 0
  · have hcb : (code != 0) = false := by rw [hc0]; rfl
    obtain ⟨g, rfl, rfl, hr3⟩ := hrow3.out hc0
    have hr4 := Lib.hid (hr3.turned ((Turned.refl (fun _ => False) w3).drewN n4) (fun e => e))
    have hse' := Lib.hid (hse.out hc0)
    clear hr3 hrow3 hc0 hse hb2
    generalize w3.drewN n4 = w5 at *
    obtain ⟨q0, q1, q2, q3, q4, q5, q6, q7⟩ := do8_cells hx4.out
    go_wp2_with fail
    have htd := tdiv2_range num hn.1 hn.2
    have hk0 : 0 ≤ num.tdiv 2 % 512 := Int.emod_nonneg _ (by omega)
    have hk1 : num.tdiv 2 % 512 < 512 := Int.emod_lt_of_pos _ (by omega)
    refine (pick_to (num.tdiv 2) 512 (num.tdiv 2 % 512) _ rfl (by omega) (by omega) htd.1 htd.2).mono ?_
    rintro e w6 ⟨rfl, rfl⟩
    generalize num.tdiv 2 % 512 = k at *
    clear htd
    by_cases h3 : num.tmod 3 = 0
    · have h3b : (num.tmod 3 != 0) = false := by rw [h3]; rfl
      clear h3
      go_wp2_with fail
      obtain ⟨kn, rfl⟩ : ∃ kn : Nat, k = kn := ⟨(k).toNat, by omega⟩
      have hkn : kn < 512 := by omega
      have qb := hr4.out.cell (i := kn) (by omega)
      have hle := hr4.out.le
      have hf := hr4.out.frozen
      have hr6 := Lib.hid (hr4.out.set kn (bits BinOp.xor IntKind.u8 ((A.lat at_).getD kn 0) byt))
      generalize hc : (A.lat at_).getD kn 0 = c at *
      clear hc
      go_wp2
      refine wp_region_still_tail 10 mixed (by kernel_rfl) ?_
      simp only [List.take_succ_cons, List.take_zero, List.drop_succ_cons, List.drop_zero]
      change wpStill _ _ w5.drew (fun a' => wpList _ _ _ _ a' w5.drew) _ _
      iterate 10 still_step
      refine wpStill_nil ?_
      go_wp2_with fail
      clear q0 q1 q2 q3 q4 q5 q6 q7 qb hf
      have htS : Turned (· = g) w5 (w5.setCell ⟨g, kn, none⟩ (.int .u8 (bits BinOp.xor IntKind.u8 c byt))).drew := ((Turned.refl (· = g) w5).setCell (.inl rfl) _).drew
      have hr7 : RowB (w5.setCell ⟨g, kn, none⟩ (.int .u8 (bits BinOp.xor IntKind.u8 c byt))).drew 5 g 512 c2 ((A.lat at_).set kn (bits BinOp.xor IntKind.u8 c byt)) := hr6.out.turned (Turned.refl (fun _ => False) _).drew (fun e => e)
      generalize (w5.setCell ⟨g, kn, none⟩ (.int .u8 (bits BinOp.xor IntKind.u8 c byt))).drew = w7 at *
      have hbytes : ∀ z ∈ (A.lat at_).set kn (bits BinOp.xor IntKind.u8 c byt), isByte z := fun z hz => by
        rcases List.mem_or_eq_of_mem_set hz with hz | rfl
        · exact hse'.out.byte z hz
        · exact u8_xor_byte _ _
      generalize (A.lat at_).set kn (bits BinOp.xor IntKind.u8 c byt) = zs' at *
      have hgg := hg2 g 0 rfl
      have hD7 : IsDisk w7 d s o A := hD4.out.turned htS (fun k hk e => by
        have e' : k = g := e
        subst e'
        obtain ⟨cs, hb⟩ := hr4.out.opened
        obtain ⟨vs, vo, m1, m2, _⟩ := hD4.out.maps
        rcases hk with rfl | rfl | rfl
        · exact absurd (hb.inj hD4.out.blk).2 (by decide)
        · exact m1.ne_blk hb rfl
        · exact m2.ne_blk hb rfl)
      have hR7 : IsRef w7 base r lv A m X := hR4.out.apart htS (fun e => by have e' : r = g := e; have := hlt1.out.1; omega) (fun k hk e => by have e' : k = g := e; have := hlt1.out.2.1 k hk; omega) (fun k hk e => by have e' : k = g := e; have := hlt1.out.2.2 k hk; omega)
      have hbg : base ≤ g := by have := hta'.out.size; omega
      have hT7 := (wide_new (base := base) hT4.out).trans htS (fun _ e => e) (fun k e => .inl (by have e' : k = g := e; omega))
      refine (dwrite_all hD7 at_ g 512 c2 zs' hr7 hbytes).mono ?_
      rintro e w8 ⟨rfl, hD8, ht8⟩
      have hr8 := hr7.dskTurned hD7 ht8
      have hR8 := hR7.dskTurned hD7 ht8
      have hT8 := wide_then hT7 ht8 hlow.out
      clear ht8
      go_wp2_with fail
      refine (rwrite_all hR8 at_ g 512 c2 zs' hr8 hbytes).mono ?_
      rintro e w9 hp9
      obtain ⟨rfl, hR9, ht9⟩ := hp9.weak
      clear hp9
      have hD9 := hD8.refTurned ht9
      have hT9 := wide_then hT8 ht9 (fun _ e => e.1)
      go_wp2_with fail
      go_ret
      exact ⟨ret_bool (by simp), ⟨_, hD9, hR9, hlow.out⟩, hT9⟩
    · have h3b : (num.tmod 3 != 0) = true := by rw [bne_iff_ne]; exact h3
      have h41 : k.tmod 41 = k % 41 := Int.tmod_eq_emod_of_nonneg hk0
      have hj0 : 0 ≤ k % 41 := Int.emod_nonneg _ (by omega)
      have hj1 : k % 41 < 512 := by omega
      clear h3
      go_wp2_with fail
      generalize k % 41 = k2 at *
      obtain ⟨kn, rfl⟩ : ∃ kn : Nat, k2 = kn := ⟨(k2).toNat, by omega⟩
      have hkn : kn < 512 := by omega
      have qb := hr4.out.cell (i := kn) (by omega)
      have hle := hr4.out.le
      have hf := hr4.out.frozen
      have hr6 := Lib.hid (hr4.out.set kn (bits BinOp.xor IntKind.u8 ((A.lat at_).getD kn 0) byt))
      generalize hc : (A.lat at_).getD kn 0 = c at *
      clear hc
      go_wp2
      refine wp_region_still_tail 10 mixed (by kernel_rfl) ?_
      simp only [List.take_succ_cons, List.take_zero, List.drop_succ_cons, List.drop_zero]
      change wpStill _ _ w5.drew (fun a' => wpList _ _ _ _ a' w5.drew) _ _
      iterate 10 still_step
      refine wpStill_nil ?_
      go_wp2_with fail
      clear q0 q1 q2 q3 q4 q5 q6 q7 qb hf
      have htS : Turned (· = g) w5 (w5.setCell ⟨g, kn, none⟩ (.int .u8 (bits BinOp.xor IntKind.u8 c byt))).drew := ((Turned.refl (· = g) w5).setCell (.inl rfl) _).drew
      have hr7 : RowB (w5.setCell ⟨g, kn, none⟩ (.int .u8 (bits BinOp.xor IntKind.u8 c byt))).drew 5 g 512 c2 ((A.lat at_).set kn (bits BinOp.xor IntKind.u8 c byt)) := hr6.out.turned (Turned.refl (fun _ => False) _).drew (fun e => e)
      generalize (w5.setCell ⟨g, kn, none⟩ (.int .u8 (bits BinOp.xor IntKind.u8 c byt))).drew = w7 at *
      have hbytes : ∀ z ∈ (A.lat at_).set kn (bits BinOp.xor IntKind.u8 c byt), isByte z := fun z hz => by
        rcases List.mem_or_eq_of_mem_set hz with hz | rfl
        · exact hse'.out.byte z hz
        · exact u8_xor_byte _ _
      generalize (A.lat at_).set kn (bits BinOp.xor IntKind.u8 c byt) = zs' at *
      have hgg := hg2 g 0 rfl
      have hD7 : IsDisk w7 d s o A := hD4.out.turned htS (fun k hk e => by
        have e' : k = g := e
        subst e'
        obtain ⟨cs, hb⟩ := hr4.out.opened
        obtain ⟨vs, vo, m1, m2, _⟩ := hD4.out.maps
        rcases hk with rfl | rfl | rfl
        · exact absurd (hb.inj hD4.out.blk).2 (by decide)
        · exact m1.ne_blk hb rfl
        · exact m2.ne_blk hb rfl)
      have hR7 : IsRef w7 base r lv A m X := hR4.out.apart htS (fun e => by have e' : r = g := e; have := hlt1.out.1; omega) (fun k hk e => by have e' : k = g := e; have := hlt1.out.2.1 k hk; omega) (fun k hk e => by have e' : k = g := e; have := hlt1.out.2.2 k hk; omega)
      have hbg : base ≤ g := by have := hta'.out.size; omega
      have hT7 := (wide_new (base := base) hT4.out).trans htS (fun _ e => e) (fun k e => .inl (by have e' : k = g := e; omega))
      refine (dwrite_all hD7 at_ g 512 c2 zs' hr7 hbytes).mono ?_
      rintro e w8 ⟨rfl, hD8, ht8⟩
      have hr8 := hr7.dskTurned hD7 ht8
      have hR8 := hR7.dskTurned hD7 ht8
      have hT8 := wide_then hT7 ht8 hlow.out
      clear ht8
      go_wp2_with fail
      refine (rwrite_all hR8 at_ g 512 c2 zs' hr8 hbytes).mono ?_
      rintro e w9 hp9
      obtain ⟨rfl, hR9, ht9⟩ := hp9.weak
      clear hp9
      have hD9 := hD8.refTurned ht9
      have hT9 := wide_then hT8 ht9 (fun _ e => e.1)
      go_wp2_with fail
      go_ret
      exact ⟨ret_bool (by simp), ⟨_, hD9, hR9, hlow.out⟩, hT9⟩
  · have hcb : (code != 0) = true := by rw [bne_iff_ne]; exact hc0
    clear hc0
    go_wp2_with fail
    go_ret
    exact ⟨rfl, ⟨A, hD4.out, ⟨_, _, _, hR4.out⟩, hlow.out⟩, wide_new hT4.out⟩
end Go.Proofs.Ytobjoafhhchjgaa
