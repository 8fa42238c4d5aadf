/-
  MarkKept's walk: masters written one behind the other, with crashes.
-/
import Derived.Test.YtobjoafhhchjgaaKept
import Derived.Test.YtobjoafhhchjgaaOpenE
import Derived.Test.YtobjoafhhchjgaaMrkG
namespace Go.Proofs.Ytobjoafhhchjgaa
open Go.RowKit Go.Maps
set_option linter.unusedVariables false

theorem DosM.keep {w w' : World} {W : Nat → Prop} {B n : Nat} {L : Option Addr} {X : Nat → DoM} (h : DosM w B L n X) (ht : Turned W w w') (hW : ∀ k, W k → B ≤ k) (hB : B ≤ w.heap.size) : DosM w' B L n X := h.below (ht.belowAt hW hB)
theorem FatesR.intsB {w : World} {B d n : Nat} {F : Option Addr} {fs : List Int} (h : FatesR w B F n fs) (hd : B ≤ d) : IntsR w d F n fs :=
  ⟨h.len, h.max, h.wf, fun hn => by
    obtain ⟨b, off, e, hlt, hc⟩ := h.cell hn
    exact ⟨b, off, e, by omega, hc⟩⟩
theorem FatesR.keepB {w w' : World} {W : Nat → Prop} {B n : Nat} {F : Option Addr} {fs : List Int} (h : FatesR w B F n fs) (ht : Turned W w w') (hW : ∀ k, W k → B ≤ k) : FatesR w' B F n fs :=
  ⟨h.len, h.max, h.wf, fun hn => by
    obtain ⟨b, off, e, hlt, hc⟩ := h.cell hn
    exact ⟨b, off, e, hlt, fun j hj => cell_turned ht (hc j hj) (fun hk => by have := hW b hk; omega)⟩⟩
def nextM (now : M4) (x : M4) : M4 := ⟨now.seq + 1, 1 + x.turn % 1024, 1 + x.old % 65536, x.mark % 65536⟩
theorem next_may {now x : M4} (h1 : 1 ≤ now.seq) (h2 : now.seq ≤ 1000) : (nextM now x).may = true := by
  unfold M4.may inB nextM
  simp
  omega
theorem next_ok {now x : M4} (h1 : 1 ≤ now.seq) (h2 : now.seq ≤ 1000) : (nextM now x).Ok := by
  unfold nextM
  exact ⟨⟨by show -9223372036854775808 ≤ now.seq + 1; omega, by show now.seq + 1 ≤ 9223372036854775807; omega⟩, ⟨by show -9223372036854775808 ≤ 1 + x.turn % 1024; omega, by show 1 + x.turn % 1024 ≤ 9223372036854775807; omega⟩, ⟨by show -9223372036854775808 ≤ 1 + x.old % 65536; omega, by show 1 + x.old % 65536 ≤ 9223372036854775807; omega⟩, ⟨by show -9223372036854775808 ≤ x.mark % 65536; omega, by show x.mark % 65536 ≤ 9223372036854775807; omega⟩⟩
theorem arm_up_eq {A : DA} (h : A.down = false) {a : Int} (ha : 0 ≤ a) : A.arm a = { A with armed := a } := by
  unfold DA.arm nonneg
  rw [h, if_pos ha]
  rfl
def KpRel (n : Nat) (w : World) (d s o b4 : Nat) (i : Value) (wr : World) : Prop :=
  ∃ (j : Nat) (A : DA) (now : M4), j ≤ n ∧ i = .int .i64 j ∧ IsDisk wr d s o A ∧ Rest A now ∧ now.seq ≤ j + 1 ∧ Blk wr b4 59 (m4Cells now) ∧ Turned (fun _ => False) w wr

set_option maxRecDepth 100000 in
set_option maxHeartbeats 4000000 in
theorem markKept_few (L : Option Addr) (n c : Nat) (X : Nat → DoM) (w : World) (hL : DosM w w.heap.size L n X) (hnc : n ≤ c) (hcm : c ≤ maxLen) (hn : n ≤ 40) :
    Calls Try.prog 13 #[.slice L n c] w (OkNew w) := by
  unfold maxLen at hcm
  have hni : (n : Int) ≤ 40 := by omega
  have hL' := Lib.hid hL
  clear hL
  go_enter Try.func13, Try.ntmps13
  go_wp2_with fail
  refine (awake25_any _).mono ?_
  rintro e w0 ⟨rfl, ht0⟩
  go_wp2_with fail
  refine (new_yes 40 _ (by omega) (by omega)).mono ?_
  rintro e w1 ⟨d, s, o, rfl, hD1, ht1, hfr, _⟩
  have hfr' := Lib.hid (fun k hk => Nat.le_trans ht0.size (hfr k hk))
  clear hfr
  go_wp2_with fail
  refine (mformat_all hD1).mono ?_
  rintro e w2 ⟨he, hD2, ht2⟩
  obtain ⟨A1, hf1, hM⟩ := fmt_new 40 (by omega) (by omega)
  rw [hf1] at he hD2
  subst he
  have hT2 := (ht0.trans (W := fun _ => False) ht1 (fun _ e => e) (fun _ e => e.elim)).trans (W := fun _ => False) ht2 (fun _ h => h) (fun i hi => .inr (hfr'.out i hi))
  have hlo' := Lib.hid (hfr'.out d (.inl rfl))
  have hlt4' := Lib.hid (fun k (hk : dskW d s o k) => hD2.lt hk)
  have hK0 := rest_made hM
  clear hD1 ht1 ht0 ht2 hf1 hM
  go_wp2_with fail
  have hR : KpRel (n) w d s o w2.heap.size (.int .i64 0) (w2.alloc (.cells #[.int .i64 1, .int .i64 1, .int .i64 1, .int .i64 0] 59)) :=
    ⟨0, A1, mOne, by omega, rfl, hD2.fresh ((Turned.refl (fun _ => False) w2).alloc _), hK0, by show (1 : Int) ≤ _; omega, Blk.new w2 _ _, hT2.alloc _⟩
  have hR0 := Lib.hid hR
  have hsz2 := hT2.size
  clear hR hK0 hT2 hD2
  generalize hb4e : w2.heap.size = b4 at *
  have hb4e' := Lib.hid hb4e
  clear hb4e
  go_loopw [5] (fun i wr => KpRel (n) w d s o b4 i wr) (fun i _ => n - (intOf i).toNat)
  case atStart => exact hR0.out
  case round =>
    obtain ⟨j, A, now, hj, rfl, hD, hK, hseq, hb4, ht⟩ := hrel
    clear hR0
    have hL := hL'.out.keep ht (fun _ e => e.elim) (Nat.le_refl _)
    by_cases hlt : j < n
    · have hji : (j : Int) < ((n : Nat) : Int) := by omega
      have hji2 : (j : Int) < (n : Int) := by omega
      obtain ⟨b, off, rfl, hb, hall⟩ := hL.at_ (by omega)
      have hx := hall j hlt
      obtain ⟨p0, p1, p2, p3, p4, p5, p6, p7, hop, hnum, hmok, _, hF, _⟩ := hx
      clear hall hL
      by_cases hf : (X j).fn > 1000
      · have hfi : (1000 : Int) < ((X j).fn : Int) := by omega
        clear hF hmok p0 p1 p2 p3 p4 p5 p7
        go_wp2_with fail
        go_ret
        exact ⟨rfl, ht⟩
      · have hfi : ((X j).fn : Int) ≤ 1000 := by omega
        have hfn := Lib.hid (show (X j).fn ≤ 1000 by omega)
        clear hf
        have hF' := Lib.hid hF
        obtain ⟨hmok0, hmok1, hmok2, hmok3⟩ := hmok
        have hs1 : 1 ≤ now.seq := (may_seq hK.may).1
        have hs2 : now.seq ≤ 1000 := by omega
        have hnm := Lib.hid (next_may (x := (X j).mas) hs1 hs2)
        have hnk := Lib.hid (next_ok (x := (X j).mas) hs1 hs2)
        have hnx := Lib.hid (fun (b : Bool) => rest_next hK ((X j).num % 4) (Int.emod_nonneg _ (by omega)) (next_may (x := (X j).mas) hs1 hs2) rfl (X j).fs b)
        have hK' := Lib.hid hK
        have hfn1 := Lib.hid hF
        clear hK hF
        obtain ⟨seq0, turn0, old0, mark0⟩ := now
        simp only [m4Cells] at hb4
        obtain ⟨q0, q1, q2, q3⟩ := m4_cells hb4
        have hs1 : 1 ≤ seq0 := hs1
        have hs2 : seq0 ≤ 1000 := hs2
        have hseq : seq0 ≤ (j : Int) + 1 := hseq
        have pm0 : 0 ≤ (X j).num % 4 := Int.emod_nonneg _ (by omega)
        have pm1 : (X j).num % 4 < 4 := Int.emod_lt_of_pos _ (by omega)
        have t0 : 0 ≤ (X j).mas.turn % 1024 := Int.emod_nonneg _ (by omega)
        have t1 : (X j).mas.turn % 1024 < 1024 := Int.emod_lt_of_pos _ (by omega)
        have o0 : 0 ≤ (X j).mas.old % 65536 := Int.emod_nonneg _ (by omega)
        have o1 : (X j).mas.old % 65536 < 65536 := Int.emod_lt_of_pos _ (by omega)
        have k0 : 0 ≤ (X j).mas.mark % 65536 := Int.emod_nonneg _ (by omega)
        have k1 : (X j).mas.mark % 65536 < 65536 := Int.emod_lt_of_pos _ (by omega)
        have a1 := i64_and1023 (X j).mas.turn
        have a2 := i64_and65535 (X j).mas.old
        have a3 := i64_and65535 (X j).mas.mark
        have hnext : nextM ⟨seq0, turn0, old0, mark0⟩ (X j).mas = ⟨seq0 + 1, 1 + (X j).mas.turn % 1024, 1 + (X j).mas.old % 65536, (X j).mas.mark % 65536⟩ := rfl
        rw [hnext] at hnm hnk hnx
        clear hnext
        generalize (X j).mas.turn % 1024 = tu at *
        generalize (X j).mas.old % 65536 = ol at *
        generalize (X j).mas.mark % 65536 = mark1 at *
        generalize (X j).mas.turn = xt at *
        generalize (X j).mas.old = xo at *
        generalize (X j).mas.mark = xm at *
        generalize (X j).mas.seq = xs at *
        generalize (X j).op = op at *
        generalize hnum4 : (X j).num % 4 = num4 at *
        generalize (X j).num = num at *
        generalize (X j).F = F at *
        generalize (X j).fn = fn at *
        generalize (X j).fc = fc at *
        generalize (X j).fs = fs at *
        have hnum4' := Lib.hid hnum4
        have ww1 : IntKind.i64.wrap (seq0 + 1) = seq0 + 1 := IntWalk.i64_in _ (by omega)
        have ww2 : IntKind.i64.wrap (1 + tu) = 1 + tu := IntWalk.i64_in _ (by omega)
        have ww3 : IntKind.i64.wrap (1 + ol) = 1 + ol := IntWalk.i64_in _ (by omega)
        clear hnum4
        go_wp2_with fail
        refine wp_region_segs (fun w' => w'.cell? ⟨b4, 0, none⟩ = some (.int .i64 seq0) ∧ w'.cell? ⟨b, off + j * 8 + 3, none⟩ = some (.int .i64 xt) ∧ w'.cell? ⟨b, off + j * 8 + 4, none⟩ = some (.int .i64 xo) ∧ w'.cell? ⟨b, off + j * 8 + 5, none⟩ = some (.int .i64 xm)) (segT (List.range 27) ++ segF [27, 28]) mixed (by kernel_rfl) (fun _ _ _ _ _ h => h) ?_
        simp only [segT, segF, pickSegs, List.range, List.range.loop, List.map_cons, List.map_nil, List.cons_append, List.nil_append, List.filterMap_cons, List.filterMap_nil, List.getElem?_cons_zero, List.getElem?_cons_succ, Option.map_some]
        iterate 27 (refine wpSegs_take (v := ?_) ⟨q0, p3, p4, p5⟩ rfl (fun w' hw => ?_) ?_; rotate_left; (obtain ⟨hw0, hw1, hw2, hw3⟩ := hw; go_simp; try with_reducible rfl); try simp only [Act.put, List.setIfInBounds_toArray, List.set_cons_zero, List.set_cons_succ])
        clear ww1 ww2 ww3 a1 a2 a3
        have hta := (Turned.refl (fun _ => False) wr).drew.alloc (.cells #[.int .i64 0, .int .i64 0, .int .i64 0, .int .i64 0] 59)
        have htb := ((Turned.refl (fun _ => False) wr).alloc (.cells #[.int .i64 (seq0 + 1), .int .i64 (1 + tu), .int .i64 (1 + ol), .int .i64 mark1] 59)).drew
        refine wpSegs_run rfl (fun K hK => ?_)
        go_simp
        refine hK.out _ _ ⟨cell_turned hta q0 (fun e => e), cell_turned hta p3 (fun e => e), cell_turned hta p4 (fun e => e), cell_turned hta p5 (fun e => e)⟩ ?_
        clear hK K
        refine wpSegs_run rfl (fun K hK => ?_)
        go_simp
        refine hK.out _ _ ⟨cell_turned htb q0 (fun e => e), cell_turned htb p3 (fun e => e), cell_turned htb p4 (fun e => e), cell_turned htb p5 (fun e => e)⟩ ?_
        clear hK K
        refine wpSegs_nil ?_
        have hx6 := (Blk.new wr 59 #[.int .i64 (seq0 + 1), .int .i64 (1 + tu), .int .i64 (1 + ol), .int .i64 mark1]).drew
        have hD6 := hD.fresh htb
        have hb6 := hb4.turned htb (fun e => e)
        have hT6 := ht.trans (W := fun _ => False) htb (fun _ e => e) (fun _ e => e.elim)
        have hF6 := hF'.out.keepB htb (fun _ e => e.elim)
        have p06 := cell_turned htb p0 (fun e => e)
        have p16 := cell_turned htb p1 (fun e => e)
        have p66 := cell_turned htb p6 (fun e => e)
        have hsz6 : wr.heap.size < (wr.alloc (.cells #[.int .i64 (seq0 + 1), .int .i64 (1 + tu), .int .i64 (1 + ol), .int .i64 mark1] 59)).drew.heap.size := by simp
        clear hta htb p0 p1 p2 p3 p4 p5 p6 p7 q0 q1 q2 q3 hb4 hD ht hF'
        generalize (wr.alloc (.cells #[.int .i64 (seq0 + 1), .int .i64 (1 + tu), .int .i64 (1 + ol), .int .i64 mark1] 59)).drew = w6 at *
        go_wp2_with fail
        refine (pick_to num 4 num4 _ hnum4'.out (by omega) (by omega) hnum.1 hnum.2).mono ?_
        rintro e w7 ⟨rfl, rfl⟩
        go_wp2_with fail
        refine (darm_all hD6 num4 (by omega)).mono ?_
        rintro e w7 ⟨rfl, hD7, ht7⟩
        rw [arm_up_eq hK'.out.down pm0] at hD7
        have hx7 := hx6.dskTurned hD6 ht7 (by decide)
        have hb7 := hb6.dskTurned hD6 ht7 (by decide)
        have hT7 := hT6.trans (W := fun _ => False) ht7 (fun _ e => e) (fun k e => .inr (hfr'.out k e))
        have hF7 := hF6.keepB ht7 (fun k e => hfr'.out k e)
        have p07 := cell_turned ht7 p06 (fun e => by have h1 := hfr'.out _ e; have h2 : b < w.heap.size := hb; exact absurd h1 (by show ¬ w.heap.size ≤ b; omega))
        have p67 := cell_turned ht7 p66 (fun e => by have h1 := hfr'.out _ e; have h2 : b < w.heap.size := hb; exact absurd h1 (by show ¬ w.heap.size ≤ b; omega))
        obtain ⟨x0, x1, x2, x3⟩ := m4_cells hx7
        clear hD6 ht7 hx6 hb6 hT6 hF6 p06 p16 p66
        go_wp2_with fail
        refine (mwrite_all hD7 ⟨seq0 + 1, 1 + tu, 1 + ol, mark1⟩ hnk.out).mono ?_
        rintro e w9 ⟨rfl, hD9, ht9⟩
        have hx9 := hx7.dskTurned hD7 ht9 (by decide)
        have hb9 := hb7.dskTurned hD7 ht9 (by decide)
        have hT9 := hT7.trans (W := fun _ => False) ht9 (fun _ e => e) (fun k e => .inr (hfr'.out k e))
        have hF9 := hF7.keepB ht9 (fun k e => hfr'.out k e)
        have p09 := cell_turned ht9 p07 (fun e => by have h1 := hfr'.out _ e; have h2 : b < w.heap.size := hb; exact absurd h1 (by show ¬ w.heap.size ≤ b; omega))
        have p69 := cell_turned ht9 p67 (fun e => by have h1 := hfr'.out _ e; have h2 : b < w.heap.size := hb; exact absurd h1 (by show ¬ w.heap.size ≤ b; omega))
        clear hD7 ht9 hx7 hb7 hT7 hF7 p07 p67 x0 x1 x2 x3
        generalize hmw : mw { A with armed := num4 } ⟨seq0 + 1, 1 + tu, 1 + ol, mark1⟩ = R at *
        obtain ⟨code, A2⟩ := R
        simp only at hD9 hnx
        clear hmw
        generalize hs1e : seq0 + 1 = seq1 at *
        have hs1l : seq1 ≤ (j : Int) + 2 := by omega
        have hs1n : (seq0 == seq1) = false := by rw [beq_eq_false_iff_ne]; omega
        generalize 1 + tu = turn1 at *
        generalize 1 + ol = old1 at *
        have hs1e' := Lib.hid hs1e
        clear hs1e
        rcases (hnx.out true).1 with hc | hc
        · have hnot : ∀ got, (got = M4.mk seq1 turn1 old1 mark1 ∨ got = M4.mk seq0 turn0 old0 mark0 ∧ code ≠ 0) → got = M4.mk seq1 turn1 old1 mark1 := fun got h => h.resolve_right (fun e => e.2 hc)
          by_cases hb2 : op.tmod 2 = 0
          · obtain ⟨got, hrest, hg⟩ := (hnx.out true).2
            obtain rfl := hnot got hg
            rw [show (true || decide (code ≠ 0)) = true from rfl] at hrest
            simp only [wakeIf, if_true] at hrest
            have hbb : (op.tmod 2 == 0) = true := by rw [beq_iff_eq]; exact hb2
            have hc' := Lib.hid hc
            clear hg hnot hb2 hnx
            obtain rfl : code = 0 := hc
            clear hc'
            go_wp2_with fail
            refine (wake_any d s o A2 _ _ fc fs _ hD9 (hF9.intsB hlo'.out)).mono ?_
            rintro e w10 ⟨rfl, hD10, ht10⟩
            have hx10 := hx9.dskTurned hD9 ht10 (by decide)
            have hb10 := hb9.dskTurned hD9 ht10 (by decide)
            have hT10 := hT9.trans (W := fun _ => False) ht10 (fun _ e => e) (fun k e => .inr (hfr'.out k e))
            go_wp2_with fail
            have hrest' := Lib.hid hrest
            have hrd := rest_read hrest
            refine (mread_up hD10 (by rw [hrest.n]; omega) hrest.down).mono ?_
            rintro e w11 ⟨he, ht11⟩
            rw [hrd] at he
            subst he
            have hD11 := hD10.fresh ht11
            have hx11 := hx10.turned ht11 (fun e => e)
            have hb11 := hb10.turned ht11 (fun e => e)
            have hT11 := hT10.trans (W := fun _ => False) ht11 (fun _ e => e) (fun _ e => e.elim)
            clear hrd hD10 hx10 hb10 hT10 ht11 hrest
            obtain ⟨x0, x1, x2, x3⟩ := m4_cells (hx11.alloc (.cells #[.int .i64 seq1, .int .i64 turn1, .int .i64 old1, .int .i64 mark1] 59))
            obtain ⟨y0, y1, y2, y3⟩ := m4_cells (hb11.alloc (.cells #[.int .i64 seq1, .int .i64 turn1, .int .i64 old1, .int .i64 mark1] 59))
            have hbf := (hb11.alloc (.cells #[.int .i64 seq1, .int .i64 turn1, .int .i64 old1, .int .i64 mark1] 59)).frozen
            go_wp2_with fail
            have hRn : KpRel (n) w d s o b4 (.int .i64 ((j + 1 : Nat) : Int)) (((((w11.alloc (.cells #[.int .i64 seq1, .int .i64 turn1, .int .i64 old1, .int .i64 mark1] 59)).setCell ⟨b4, 0, none⟩ (.int .i64 seq1)).setCell ⟨b4, 1, none⟩ (.int .i64 turn1)).setCell ⟨b4, 2, none⟩ (.int .i64 old1)).setCell ⟨b4, 3, none⟩ (.int .i64 mark1)) := by
              have hta := (Turned.refl (fun _ => False) w11).alloc (.cells #[.int .i64 seq1, .int .i64 turn1, .int .i64 old1, .int .i64 mark1] 59)
              have hS : Turned (· = b4) w11 (((((w11.alloc (.cells #[.int .i64 seq1, .int .i64 turn1, .int .i64 old1, .int .i64 mark1] 59)).setCell ⟨b4, 0, none⟩ (.int .i64 seq1)).setCell ⟨b4, 1, none⟩ (.int .i64 turn1)).setCell ⟨b4, 2, none⟩ (.int .i64 old1)).setCell ⟨b4, 3, none⟩ (.int .i64 mark1)) := ((((hta.mono (W' := (· = b4)) (fun _ e => e.elim)).setCell (.inl rfl) _).setCell (.inl rfl) _).setCell (.inl rfl) _).setCell (.inl rfl) _
              refine ⟨j + 1, _, ⟨seq1, turn1, old1, mark1⟩, by omega, rfl, hD11.turned hS (fun k hk e => ?_), hrest'.out, ?_, ?_, hT11.trans hS (fun _ e => e) (fun k e => .inr (by have e' : k = b4 := e; omega))⟩
              · have e' : k = b4 := e
                have h1 := hlt4'.out k hk
                omega
              · show seq1 ≤ ((j + 1 : Nat) : Int) + 1
                omega
              · exact ((((hb11.alloc _).set_ 0 (.int .i64 seq1)).set_ 1 (.int .i64 turn1)).set_ 2 (.int .i64 old1)).set_ 3 (.int .i64 mark1)
            have hRn := Lib.hid hRn
            go_roundw
            case rel =>
              have hz : Value.int .i64 ((j : Int) + 1) = .int .i64 ((j + 1 : Nat) : Int) := by go_num
              first
              | (rw [hz]; exact hRn.out)
              | ((repeat apply Exists.intro); exact ⟨by rw [hz]; exact hRn.out, rfl⟩)
            case measure => simp [intOf]; omega
          · obtain ⟨got, hrest, hg⟩ := (hnx.out false).2
            obtain rfl := hnot got hg
            rw [show (false || decide (code ≠ 0)) = false by rw [hc]; rfl] at hrest
            simp only [wakeIf] at hrest
            rw [if_neg Bool.false_ne_true] at hrest
            have hbb : (op.tmod 2 == 0) = false := by rw [beq_eq_false_iff_ne]; exact hb2
            clear hg hnot hb2 hnx
            obtain rfl : code = 0 := hc
            go_wp2_with fail
            have hD10 := hD9
            have hx10 := hx9
            have hb10 := hb9
            have hT10 := hT9
            have hrest' := Lib.hid hrest
            have hrd := rest_read hrest
            refine (mread_up hD10 (by rw [hrest.n]; omega) hrest.down).mono ?_
            rintro e w11 ⟨he, ht11⟩
            rw [hrd] at he
            subst he
            have hD11 := hD10.fresh ht11
            have hx11 := hx10.turned ht11 (fun e => e)
            have hb11 := hb10.turned ht11 (fun e => e)
            have hT11 := hT10.trans (W := fun _ => False) ht11 (fun _ e => e) (fun _ e => e.elim)
            clear hrd hD10 hx10 hb10 hT10 ht11 hrest
            obtain ⟨x0, x1, x2, x3⟩ := m4_cells (hx11.alloc (.cells #[.int .i64 seq1, .int .i64 turn1, .int .i64 old1, .int .i64 mark1] 59))
            obtain ⟨y0, y1, y2, y3⟩ := m4_cells (hb11.alloc (.cells #[.int .i64 seq1, .int .i64 turn1, .int .i64 old1, .int .i64 mark1] 59))
            have hbf := (hb11.alloc (.cells #[.int .i64 seq1, .int .i64 turn1, .int .i64 old1, .int .i64 mark1] 59)).frozen
            go_wp2_with fail
            have hRn : KpRel (n) w d s o b4 (.int .i64 ((j + 1 : Nat) : Int)) (((((w11.alloc (.cells #[.int .i64 seq1, .int .i64 turn1, .int .i64 old1, .int .i64 mark1] 59)).setCell ⟨b4, 0, none⟩ (.int .i64 seq1)).setCell ⟨b4, 1, none⟩ (.int .i64 turn1)).setCell ⟨b4, 2, none⟩ (.int .i64 old1)).setCell ⟨b4, 3, none⟩ (.int .i64 mark1)) := by
              have hta := (Turned.refl (fun _ => False) w11).alloc (.cells #[.int .i64 seq1, .int .i64 turn1, .int .i64 old1, .int .i64 mark1] 59)
              have hS : Turned (· = b4) w11 (((((w11.alloc (.cells #[.int .i64 seq1, .int .i64 turn1, .int .i64 old1, .int .i64 mark1] 59)).setCell ⟨b4, 0, none⟩ (.int .i64 seq1)).setCell ⟨b4, 1, none⟩ (.int .i64 turn1)).setCell ⟨b4, 2, none⟩ (.int .i64 old1)).setCell ⟨b4, 3, none⟩ (.int .i64 mark1)) := ((((hta.mono (W' := (· = b4)) (fun _ e => e.elim)).setCell (.inl rfl) _).setCell (.inl rfl) _).setCell (.inl rfl) _).setCell (.inl rfl) _
              refine ⟨j + 1, _, ⟨seq1, turn1, old1, mark1⟩, by omega, rfl, hD11.turned hS (fun k hk e => ?_), hrest'.out, ?_, ?_, hT11.trans hS (fun _ e => e) (fun k e => .inr (by have e' : k = b4 := e; omega))⟩
              · have e' : k = b4 := e
                have h1 := hlt4'.out k hk
                omega
              · show seq1 ≤ ((j + 1 : Nat) : Int) + 1
                omega
              · exact ((((hb11.alloc _).set_ 0 (.int .i64 seq1)).set_ 1 (.int .i64 turn1)).set_ 2 (.int .i64 old1)).set_ 3 (.int .i64 mark1)
            have hRn := Lib.hid hRn
            go_roundw
            case rel =>
              have hz : Value.int .i64 ((j : Int) + 1) = .int .i64 ((j + 1 : Nat) : Int) := by go_num
              first
              | (rw [hz]; exact hRn.out)
              | ((repeat apply Exists.intro); exact ⟨by rw [hz]; exact hRn.out, rfl⟩)
            case measure => simp [intOf]; omega
        · obtain ⟨got, hrest, hg⟩ := (hnx.out true).2
          rw [show (true || decide (code ≠ 0)) = true from rfl] at hrest
          simp only [wakeIf, if_true] at hrest
          clear hnx
          obtain rfl : code = 8 := hc
          rcases hg with rfl | ⟨rfl, _⟩
          · by_cases hb2 : op.tmod 2 = 0
            · have hbb : (op.tmod 2 == 0) = true := by rw [beq_iff_eq]; exact hb2
              clear hb2
              go_wp2_with fail
              refine (wake_any d s o A2 _ _ fc fs _ hD9 (hF9.intsB hlo'.out)).mono ?_
              rintro e w10 ⟨rfl, hD10, ht10⟩
              have hx10 := hx9.dskTurned hD9 ht10 (by decide)
              have hb10 := hb9.dskTurned hD9 ht10 (by decide)
              have hT10 := hT9.trans (W := fun _ => False) ht10 (fun _ e => e) (fun k e => .inr (hfr'.out k e))
              go_wp2_with fail
              have hrest' := Lib.hid hrest
              have hrd := rest_read hrest
              refine (mread_up hD10 (by rw [hrest.n]; omega) hrest.down).mono ?_
              rintro e w11 ⟨he, ht11⟩
              rw [hrd] at he
              subst he
              have hD11 := hD10.fresh ht11
              have hx11 := hx10.turned ht11 (fun e => e)
              have hb11 := hb10.turned ht11 (fun e => e)
              have hT11 := hT10.trans (W := fun _ => False) ht11 (fun _ e => e) (fun _ e => e.elim)
              clear hrd hD10 hx10 hb10 hT10 ht11 hrest
              obtain ⟨x0, x1, x2, x3⟩ := m4_cells (hx11.alloc (.cells #[.int .i64 seq1, .int .i64 turn1, .int .i64 old1, .int .i64 mark1] 59))
              obtain ⟨y0, y1, y2, y3⟩ := m4_cells (hb11.alloc (.cells #[.int .i64 seq1, .int .i64 turn1, .int .i64 old1, .int .i64 mark1] 59))
              have hbf := (hb11.alloc (.cells #[.int .i64 seq1, .int .i64 turn1, .int .i64 old1, .int .i64 mark1] 59)).frozen
              go_wp2_with fail
              have hRn : KpRel (n) w d s o b4 (.int .i64 ((j + 1 : Nat) : Int)) (((((w11.alloc (.cells #[.int .i64 seq1, .int .i64 turn1, .int .i64 old1, .int .i64 mark1] 59)).setCell ⟨b4, 0, none⟩ (.int .i64 seq1)).setCell ⟨b4, 1, none⟩ (.int .i64 turn1)).setCell ⟨b4, 2, none⟩ (.int .i64 old1)).setCell ⟨b4, 3, none⟩ (.int .i64 mark1)) := by
                have hta := (Turned.refl (fun _ => False) w11).alloc (.cells #[.int .i64 seq1, .int .i64 turn1, .int .i64 old1, .int .i64 mark1] 59)
                have hS : Turned (· = b4) w11 (((((w11.alloc (.cells #[.int .i64 seq1, .int .i64 turn1, .int .i64 old1, .int .i64 mark1] 59)).setCell ⟨b4, 0, none⟩ (.int .i64 seq1)).setCell ⟨b4, 1, none⟩ (.int .i64 turn1)).setCell ⟨b4, 2, none⟩ (.int .i64 old1)).setCell ⟨b4, 3, none⟩ (.int .i64 mark1)) := ((((hta.mono (W' := (· = b4)) (fun _ e => e.elim)).setCell (.inl rfl) _).setCell (.inl rfl) _).setCell (.inl rfl) _).setCell (.inl rfl) _
                refine ⟨j + 1, _, ⟨seq1, turn1, old1, mark1⟩, by omega, rfl, hD11.turned hS (fun k hk e => ?_), hrest'.out, ?_, ?_, hT11.trans hS (fun _ e => e) (fun k e => .inr (by have e' : k = b4 := e; omega))⟩
                · have e' : k = b4 := e
                  have h1 := hlt4'.out k hk
                  omega
                · show seq1 ≤ ((j + 1 : Nat) : Int) + 1
                  omega
                · exact ((((hb11.alloc _).set_ 0 (.int .i64 seq1)).set_ 1 (.int .i64 turn1)).set_ 2 (.int .i64 old1)).set_ 3 (.int .i64 mark1)
              have hRn := Lib.hid hRn
              go_roundw
              case rel =>
                have hz : Value.int .i64 ((j : Int) + 1) = .int .i64 ((j + 1 : Nat) : Int) := by go_num
                first
                | (rw [hz]; exact hRn.out)
                | ((repeat apply Exists.intro); exact ⟨by rw [hz]; exact hRn.out, rfl⟩)
              case measure => simp [intOf]; omega
            · have hbb : (op.tmod 2 == 0) = false := by rw [beq_eq_false_iff_ne]; exact hb2
              clear hb2
              go_wp2_with fail
              refine (wake_any d s o A2 _ _ fc fs _ hD9 (hF9.intsB hlo'.out)).mono ?_
              rintro e w10 ⟨rfl, hD10, ht10⟩
              have hx10 := hx9.dskTurned hD9 ht10 (by decide)
              have hb10 := hb9.dskTurned hD9 ht10 (by decide)
              have hT10 := hT9.trans (W := fun _ => False) ht10 (fun _ e => e) (fun k e => .inr (hfr'.out k e))
              go_wp2_with fail
              have hrest' := Lib.hid hrest
              have hrd := rest_read hrest
              refine (mread_up hD10 (by rw [hrest.n]; omega) hrest.down).mono ?_
              rintro e w11 ⟨he, ht11⟩
              rw [hrd] at he
              subst he
              have hD11 := hD10.fresh ht11
              have hx11 := hx10.turned ht11 (fun e => e)
              have hb11 := hb10.turned ht11 (fun e => e)
              have hT11 := hT10.trans (W := fun _ => False) ht11 (fun _ e => e) (fun _ e => e.elim)
              clear hrd hD10 hx10 hb10 hT10 ht11 hrest
              obtain ⟨x0, x1, x2, x3⟩ := m4_cells (hx11.alloc (.cells #[.int .i64 seq1, .int .i64 turn1, .int .i64 old1, .int .i64 mark1] 59))
              obtain ⟨y0, y1, y2, y3⟩ := m4_cells (hb11.alloc (.cells #[.int .i64 seq1, .int .i64 turn1, .int .i64 old1, .int .i64 mark1] 59))
              have hbf := (hb11.alloc (.cells #[.int .i64 seq1, .int .i64 turn1, .int .i64 old1, .int .i64 mark1] 59)).frozen
              go_wp2_with fail
              have hRn : KpRel (n) w d s o b4 (.int .i64 ((j + 1 : Nat) : Int)) (((((w11.alloc (.cells #[.int .i64 seq1, .int .i64 turn1, .int .i64 old1, .int .i64 mark1] 59)).setCell ⟨b4, 0, none⟩ (.int .i64 seq1)).setCell ⟨b4, 1, none⟩ (.int .i64 turn1)).setCell ⟨b4, 2, none⟩ (.int .i64 old1)).setCell ⟨b4, 3, none⟩ (.int .i64 mark1)) := by
                have hta := (Turned.refl (fun _ => False) w11).alloc (.cells #[.int .i64 seq1, .int .i64 turn1, .int .i64 old1, .int .i64 mark1] 59)
                have hS : Turned (· = b4) w11 (((((w11.alloc (.cells #[.int .i64 seq1, .int .i64 turn1, .int .i64 old1, .int .i64 mark1] 59)).setCell ⟨b4, 0, none⟩ (.int .i64 seq1)).setCell ⟨b4, 1, none⟩ (.int .i64 turn1)).setCell ⟨b4, 2, none⟩ (.int .i64 old1)).setCell ⟨b4, 3, none⟩ (.int .i64 mark1)) := ((((hta.mono (W' := (· = b4)) (fun _ e => e.elim)).setCell (.inl rfl) _).setCell (.inl rfl) _).setCell (.inl rfl) _).setCell (.inl rfl) _
                refine ⟨j + 1, _, ⟨seq1, turn1, old1, mark1⟩, by omega, rfl, hD11.turned hS (fun k hk e => ?_), hrest'.out, ?_, ?_, hT11.trans hS (fun _ e => e) (fun k e => .inr (by have e' : k = b4 := e; omega))⟩
                · have e' : k = b4 := e
                  have h1 := hlt4'.out k hk
                  omega
                · show seq1 ≤ ((j + 1 : Nat) : Int) + 1
                  omega
                · exact ((((hb11.alloc _).set_ 0 (.int .i64 seq1)).set_ 1 (.int .i64 turn1)).set_ 2 (.int .i64 old1)).set_ 3 (.int .i64 mark1)
              have hRn := Lib.hid hRn
              go_roundw
              case rel =>
                have hz : Value.int .i64 ((j : Int) + 1) = .int .i64 ((j + 1 : Nat) : Int) := by go_num
                first
                | (rw [hz]; exact hRn.out)
                | ((repeat apply Exists.intro); exact ⟨by rw [hz]; exact hRn.out, rfl⟩)
              case measure => simp [intOf]; omega
          · by_cases hb2 : op.tmod 2 = 0
            · have hbb : (op.tmod 2 == 0) = true := by rw [beq_iff_eq]; exact hb2
              clear hb2
              go_wp2_with fail
              refine (wake_any d s o A2 _ _ fc fs _ hD9 (hF9.intsB hlo'.out)).mono ?_
              rintro e w10 ⟨rfl, hD10, ht10⟩
              have hx10 := hx9.dskTurned hD9 ht10 (by decide)
              have hb10 := hb9.dskTurned hD9 ht10 (by decide)
              have hT10 := hT9.trans (W := fun _ => False) ht10 (fun _ e => e) (fun k e => .inr (hfr'.out k e))
              go_wp2_with fail
              have hrest' := Lib.hid hrest
              have hrd := rest_read hrest
              refine (mread_up hD10 (by rw [hrest.n]; omega) hrest.down).mono ?_
              rintro e w11 ⟨he, ht11⟩
              rw [hrd] at he
              subst he
              have hD11 := hD10.fresh ht11
              have hx11 := hx10.turned ht11 (fun e => e)
              have hb11 := hb10.turned ht11 (fun e => e)
              have hT11 := hT10.trans (W := fun _ => False) ht11 (fun _ e => e) (fun _ e => e.elim)
              clear hrd hD10 hx10 hb10 hT10 ht11 hrest
              obtain ⟨x0, x1, x2, x3⟩ := m4_cells (hx11.alloc (.cells #[.int .i64 seq0, .int .i64 turn0, .int .i64 old0, .int .i64 mark0] 59))
              obtain ⟨y0, y1, y2, y3⟩ := m4_cells (hb11.alloc (.cells #[.int .i64 seq0, .int .i64 turn0, .int .i64 old0, .int .i64 mark0] 59))
              have hbf := (hb11.alloc (.cells #[.int .i64 seq0, .int .i64 turn0, .int .i64 old0, .int .i64 mark0] 59)).frozen
              go_wp2_with fail
              have hRn : KpRel (n) w d s o b4 (.int .i64 ((j + 1 : Nat) : Int)) (((((w11.alloc (.cells #[.int .i64 seq0, .int .i64 turn0, .int .i64 old0, .int .i64 mark0] 59)).setCell ⟨b4, 0, none⟩ (.int .i64 seq0)).setCell ⟨b4, 1, none⟩ (.int .i64 turn0)).setCell ⟨b4, 2, none⟩ (.int .i64 old0)).setCell ⟨b4, 3, none⟩ (.int .i64 mark0)) := by
                have hta := (Turned.refl (fun _ => False) w11).alloc (.cells #[.int .i64 seq0, .int .i64 turn0, .int .i64 old0, .int .i64 mark0] 59)
                have hS : Turned (· = b4) w11 (((((w11.alloc (.cells #[.int .i64 seq0, .int .i64 turn0, .int .i64 old0, .int .i64 mark0] 59)).setCell ⟨b4, 0, none⟩ (.int .i64 seq0)).setCell ⟨b4, 1, none⟩ (.int .i64 turn0)).setCell ⟨b4, 2, none⟩ (.int .i64 old0)).setCell ⟨b4, 3, none⟩ (.int .i64 mark0)) := ((((hta.mono (W' := (· = b4)) (fun _ e => e.elim)).setCell (.inl rfl) _).setCell (.inl rfl) _).setCell (.inl rfl) _).setCell (.inl rfl) _
                refine ⟨j + 1, _, ⟨seq0, turn0, old0, mark0⟩, by omega, rfl, hD11.turned hS (fun k hk e => ?_), hrest'.out, ?_, ?_, hT11.trans hS (fun _ e => e) (fun k e => .inr (by have e' : k = b4 := e; omega))⟩
                · have e' : k = b4 := e
                  have h1 := hlt4'.out k hk
                  omega
                · show seq0 ≤ ((j + 1 : Nat) : Int) + 1
                  omega
                · exact ((((hb11.alloc _).set_ 0 (.int .i64 seq0)).set_ 1 (.int .i64 turn0)).set_ 2 (.int .i64 old0)).set_ 3 (.int .i64 mark0)
              have hRn := Lib.hid hRn
              go_roundw
              case rel =>
                have hz : Value.int .i64 ((j : Int) + 1) = .int .i64 ((j + 1 : Nat) : Int) := by go_num
                first
                | (rw [hz]; exact hRn.out)
                | ((repeat apply Exists.intro); exact ⟨by rw [hz]; exact hRn.out, rfl⟩)
              case measure => simp [intOf]; omega
            · have hbb : (op.tmod 2 == 0) = false := by rw [beq_eq_false_iff_ne]; exact hb2
              clear hb2
              go_wp2_with fail
              refine (wake_any d s o A2 _ _ fc fs _ hD9 (hF9.intsB hlo'.out)).mono ?_
              rintro e w10 ⟨rfl, hD10, ht10⟩
              have hx10 := hx9.dskTurned hD9 ht10 (by decide)
              have hb10 := hb9.dskTurned hD9 ht10 (by decide)
              have hT10 := hT9.trans (W := fun _ => False) ht10 (fun _ e => e) (fun k e => .inr (hfr'.out k e))
              go_wp2_with fail
              have hrest' := Lib.hid hrest
              have hrd := rest_read hrest
              refine (mread_up hD10 (by rw [hrest.n]; omega) hrest.down).mono ?_
              rintro e w11 ⟨he, ht11⟩
              rw [hrd] at he
              subst he
              have hD11 := hD10.fresh ht11
              have hx11 := hx10.turned ht11 (fun e => e)
              have hb11 := hb10.turned ht11 (fun e => e)
              have hT11 := hT10.trans (W := fun _ => False) ht11 (fun _ e => e) (fun _ e => e.elim)
              clear hrd hD10 hx10 hb10 hT10 ht11 hrest
              obtain ⟨x0, x1, x2, x3⟩ := m4_cells (hx11.alloc (.cells #[.int .i64 seq0, .int .i64 turn0, .int .i64 old0, .int .i64 mark0] 59))
              obtain ⟨y0, y1, y2, y3⟩ := m4_cells (hb11.alloc (.cells #[.int .i64 seq0, .int .i64 turn0, .int .i64 old0, .int .i64 mark0] 59))
              have hbf := (hb11.alloc (.cells #[.int .i64 seq0, .int .i64 turn0, .int .i64 old0, .int .i64 mark0] 59)).frozen
              go_wp2_with fail
              have hRn : KpRel (n) w d s o b4 (.int .i64 ((j + 1 : Nat) : Int)) (((((w11.alloc (.cells #[.int .i64 seq0, .int .i64 turn0, .int .i64 old0, .int .i64 mark0] 59)).setCell ⟨b4, 0, none⟩ (.int .i64 seq0)).setCell ⟨b4, 1, none⟩ (.int .i64 turn0)).setCell ⟨b4, 2, none⟩ (.int .i64 old0)).setCell ⟨b4, 3, none⟩ (.int .i64 mark0)) := by
                have hta := (Turned.refl (fun _ => False) w11).alloc (.cells #[.int .i64 seq0, .int .i64 turn0, .int .i64 old0, .int .i64 mark0] 59)
                have hS : Turned (· = b4) w11 (((((w11.alloc (.cells #[.int .i64 seq0, .int .i64 turn0, .int .i64 old0, .int .i64 mark0] 59)).setCell ⟨b4, 0, none⟩ (.int .i64 seq0)).setCell ⟨b4, 1, none⟩ (.int .i64 turn0)).setCell ⟨b4, 2, none⟩ (.int .i64 old0)).setCell ⟨b4, 3, none⟩ (.int .i64 mark0)) := ((((hta.mono (W' := (· = b4)) (fun _ e => e.elim)).setCell (.inl rfl) _).setCell (.inl rfl) _).setCell (.inl rfl) _).setCell (.inl rfl) _
                refine ⟨j + 1, _, ⟨seq0, turn0, old0, mark0⟩, by omega, rfl, hD11.turned hS (fun k hk e => ?_), hrest'.out, ?_, ?_, hT11.trans hS (fun _ e => e) (fun k e => .inr (by have e' : k = b4 := e; omega))⟩
                · have e' : k = b4 := e
                  have h1 := hlt4'.out k hk
                  omega
                · show seq0 ≤ ((j + 1 : Nat) : Int) + 1
                  omega
                · exact ((((hb11.alloc _).set_ 0 (.int .i64 seq0)).set_ 1 (.int .i64 turn0)).set_ 2 (.int .i64 old0)).set_ 3 (.int .i64 mark0)
              have hRn := Lib.hid hRn
              go_roundw
              case rel =>
                have hz : Value.int .i64 ((j : Int) + 1) = .int .i64 ((j + 1 : Nat) : Int) := by go_num
                first
                | (rw [hz]; exact hRn.out)
                | ((repeat apply Exists.intro); exact ⟨by rw [hz]; exact hRn.out, rfl⟩)
              case measure => simp [intOf]; omega
    · have hge : (n : Int) ≤ (j : Int) := by omega
      go_wp2_with fail
      go_ret
      exact ⟨rfl, ht⟩

set_option maxRecDepth 100000 in
set_option maxHeartbeats 4000000 in
theorem markKept_many (L : Option Addr) (n c : Nat) (X : Nat → DoM) (w : World) (hL : DosM w w.heap.size L n X) (hnc : n ≤ c) (hcm : c ≤ maxLen) (hn : 40 < n) :
    Calls Try.prog 13 #[.slice L n c] w (OkNew w) := by
  unfold maxLen at hcm
  have hni : (40 : Int) < (n : Int) := by omega
  have hci : (40 : Int) ≤ (c : Int) := by omega
  have hL' := Lib.hid (hL.cut (m := 40) (by omega))
  clear hL
  go_enter Try.func13, Try.ntmps13
  go_wp2_with fail
  refine (awake25_any _).mono ?_
  rintro e w0 ⟨rfl, ht0⟩
  go_wp2_with fail
  refine (new_yes 40 _ (by omega) (by omega)).mono ?_
  rintro e w1 ⟨d, s, o, rfl, hD1, ht1, hfr, _⟩
  have hfr' := Lib.hid (fun k hk => Nat.le_trans ht0.size (hfr k hk))
  clear hfr
  go_wp2_with fail
  refine (mformat_all hD1).mono ?_
  rintro e w2 ⟨he, hD2, ht2⟩
  obtain ⟨A1, hf1, hM⟩ := fmt_new 40 (by omega) (by omega)
  rw [hf1] at he hD2
  subst he
  have hT2 := (ht0.trans (W := fun _ => False) ht1 (fun _ e => e) (fun _ e => e.elim)).trans (W := fun _ => False) ht2 (fun _ h => h) (fun i hi => .inr (hfr'.out i hi))
  have hlo' := Lib.hid (hfr'.out d (.inl rfl))
  have hlt4' := Lib.hid (fun k (hk : dskW d s o k) => hD2.lt hk)
  have hK0 := rest_made hM
  clear hD1 ht1 ht0 ht2 hf1 hM
  go_wp2_with fail
  have hR : KpRel (40) w d s o w2.heap.size (.int .i64 0) (w2.alloc (.cells #[.int .i64 1, .int .i64 1, .int .i64 1, .int .i64 0] 59)) :=
    ⟨0, A1, mOne, by omega, rfl, hD2.fresh ((Turned.refl (fun _ => False) w2).alloc _), hK0, by show (1 : Int) ≤ _; omega, Blk.new w2 _ _, hT2.alloc _⟩
  have hR0 := Lib.hid hR
  have hsz2 := hT2.size
  clear hR hK0 hT2 hD2
  generalize hb4e : w2.heap.size = b4 at *
  have hb4e' := Lib.hid hb4e
  clear hb4e
  go_loopw [5] (fun i wr => KpRel (40) w d s o b4 i wr) (fun i _ => 40 - (intOf i).toNat)
  case atStart => exact hR0.out
  case round =>
    obtain ⟨j, A, now, hj, rfl, hD, hK, hseq, hb4, ht⟩ := hrel
    clear hR0
    have hL := hL'.out.keep ht (fun _ e => e.elim) (Nat.le_refl _)
    by_cases hlt : j < 40
    · have hji : (j : Int) < ((40 : Nat) : Int) := by omega
      have hji2 : (j : Int) < (40 : Int) := by omega
      obtain ⟨b, off, rfl, hb, hall⟩ := hL.at_ (by omega)
      have hx := hall j hlt
      obtain ⟨p0, p1, p2, p3, p4, p5, p6, p7, hop, hnum, hmok, _, hF, _⟩ := hx
      clear hall hL
      by_cases hf : (X j).fn > 1000
      · have hfi : (1000 : Int) < ((X j).fn : Int) := by omega
        clear hF hmok p0 p1 p2 p3 p4 p5 p7
        go_wp2_with fail
        go_ret
        exact ⟨rfl, ht⟩
      · have hfi : ((X j).fn : Int) ≤ 1000 := by omega
        have hfn := Lib.hid (show (X j).fn ≤ 1000 by omega)
        clear hf
        have hF' := Lib.hid hF
        obtain ⟨hmok0, hmok1, hmok2, hmok3⟩ := hmok
        have hs1 : 1 ≤ now.seq := (may_seq hK.may).1
        have hs2 : now.seq ≤ 1000 := by omega
        have hnm := Lib.hid (next_may (x := (X j).mas) hs1 hs2)
        have hnk := Lib.hid (next_ok (x := (X j).mas) hs1 hs2)
        have hnx := Lib.hid (fun (b : Bool) => rest_next hK ((X j).num % 4) (Int.emod_nonneg _ (by omega)) (next_may (x := (X j).mas) hs1 hs2) rfl (X j).fs b)
        have hK' := Lib.hid hK
        have hfn1 := Lib.hid hF
        clear hK hF
        obtain ⟨seq0, turn0, old0, mark0⟩ := now
        simp only [m4Cells] at hb4
        obtain ⟨q0, q1, q2, q3⟩ := m4_cells hb4
        have hs1 : 1 ≤ seq0 := hs1
        have hs2 : seq0 ≤ 1000 := hs2
        have hseq : seq0 ≤ (j : Int) + 1 := hseq
        have pm0 : 0 ≤ (X j).num % 4 := Int.emod_nonneg _ (by omega)
        have pm1 : (X j).num % 4 < 4 := Int.emod_lt_of_pos _ (by omega)
        have t0 : 0 ≤ (X j).mas.turn % 1024 := Int.emod_nonneg _ (by omega)
        have t1 : (X j).mas.turn % 1024 < 1024 := Int.emod_lt_of_pos _ (by omega)
        have o0 : 0 ≤ (X j).mas.old % 65536 := Int.emod_nonneg _ (by omega)
        have o1 : (X j).mas.old % 65536 < 65536 := Int.emod_lt_of_pos _ (by omega)
        have k0 : 0 ≤ (X j).mas.mark % 65536 := Int.emod_nonneg _ (by omega)
        have k1 : (X j).mas.mark % 65536 < 65536 := Int.emod_lt_of_pos _ (by omega)
        have a1 := i64_and1023 (X j).mas.turn
        have a2 := i64_and65535 (X j).mas.old
        have a3 := i64_and65535 (X j).mas.mark
        have hnext : nextM ⟨seq0, turn0, old0, mark0⟩ (X j).mas = ⟨seq0 + 1, 1 + (X j).mas.turn % 1024, 1 + (X j).mas.old % 65536, (X j).mas.mark % 65536⟩ := rfl
        rw [hnext] at hnm hnk hnx
        clear hnext
        generalize (X j).mas.turn % 1024 = tu at *
        generalize (X j).mas.old % 65536 = ol at *
        generalize (X j).mas.mark % 65536 = mark1 at *
        generalize (X j).mas.turn = xt at *
        generalize (X j).mas.old = xo at *
        generalize (X j).mas.mark = xm at *
        generalize (X j).mas.seq = xs at *
        generalize (X j).op = op at *
        generalize hnum4 : (X j).num % 4 = num4 at *
        generalize (X j).num = num at *
        generalize (X j).F = F at *
        generalize (X j).fn = fn at *
        generalize (X j).fc = fc at *
        generalize (X j).fs = fs at *
        have hnum4' := Lib.hid hnum4
        have ww1 : IntKind.i64.wrap (seq0 + 1) = seq0 + 1 := IntWalk.i64_in _ (by omega)
        have ww2 : IntKind.i64.wrap (1 + tu) = 1 + tu := IntWalk.i64_in _ (by omega)
        have ww3 : IntKind.i64.wrap (1 + ol) = 1 + ol := IntWalk.i64_in _ (by omega)
        clear hnum4
        go_wp2_with fail
        refine wp_region_segs (fun w' => w'.cell? ⟨b4, 0, none⟩ = some (.int .i64 seq0) ∧ w'.cell? ⟨b, off + j * 8 + 3, none⟩ = some (.int .i64 xt) ∧ w'.cell? ⟨b, off + j * 8 + 4, none⟩ = some (.int .i64 xo) ∧ w'.cell? ⟨b, off + j * 8 + 5, none⟩ = some (.int .i64 xm)) (segT (List.range 27) ++ segF [27, 28]) mixed (by kernel_rfl) (fun _ _ _ _ _ h => h) ?_
        simp only [segT, segF, pickSegs, List.range, List.range.loop, List.map_cons, List.map_nil, List.cons_append, List.nil_append, List.filterMap_cons, List.filterMap_nil, List.getElem?_cons_zero, List.getElem?_cons_succ, Option.map_some]
        iterate 27 (refine wpSegs_take (v := ?_) ⟨q0, p3, p4, p5⟩ rfl (fun w' hw => ?_) ?_; rotate_left; (obtain ⟨hw0, hw1, hw2, hw3⟩ := hw; go_simp; try with_reducible rfl); try simp only [Act.put, List.setIfInBounds_toArray, List.set_cons_zero, List.set_cons_succ])
        clear ww1 ww2 ww3 a1 a2 a3
        have hta := (Turned.refl (fun _ => False) wr).drew.alloc (.cells #[.int .i64 0, .int .i64 0, .int .i64 0, .int .i64 0] 59)
        have htb := ((Turned.refl (fun _ => False) wr).alloc (.cells #[.int .i64 (seq0 + 1), .int .i64 (1 + tu), .int .i64 (1 + ol), .int .i64 mark1] 59)).drew
        refine wpSegs_run rfl (fun K hK => ?_)
        go_simp
        refine hK.out _ _ ⟨cell_turned hta q0 (fun e => e), cell_turned hta p3 (fun e => e), cell_turned hta p4 (fun e => e), cell_turned hta p5 (fun e => e)⟩ ?_
        clear hK K
        refine wpSegs_run rfl (fun K hK => ?_)
        go_simp
        refine hK.out _ _ ⟨cell_turned htb q0 (fun e => e), cell_turned htb p3 (fun e => e), cell_turned htb p4 (fun e => e), cell_turned htb p5 (fun e => e)⟩ ?_
        clear hK K
        refine wpSegs_nil ?_
        have hx6 := (Blk.new wr 59 #[.int .i64 (seq0 + 1), .int .i64 (1 + tu), .int .i64 (1 + ol), .int .i64 mark1]).drew
        have hD6 := hD.fresh htb
        have hb6 := hb4.turned htb (fun e => e)
        have hT6 := ht.trans (W := fun _ => False) htb (fun _ e => e) (fun _ e => e.elim)
        have hF6 := hF'.out.keepB htb (fun _ e => e.elim)
        have p06 := cell_turned htb p0 (fun e => e)
        have p16 := cell_turned htb p1 (fun e => e)
        have p66 := cell_turned htb p6 (fun e => e)
        have hsz6 : wr.heap.size < (wr.alloc (.cells #[.int .i64 (seq0 + 1), .int .i64 (1 + tu), .int .i64 (1 + ol), .int .i64 mark1] 59)).drew.heap.size := by simp
        clear hta htb p0 p1 p2 p3 p4 p5 p6 p7 q0 q1 q2 q3 hb4 hD ht hF'
        generalize (wr.alloc (.cells #[.int .i64 (seq0 + 1), .int .i64 (1 + tu), .int .i64 (1 + ol), .int .i64 mark1] 59)).drew = w6 at *
        go_wp2_with fail
        refine (pick_to num 4 num4 _ hnum4'.out (by omega) (by omega) hnum.1 hnum.2).mono ?_
        rintro e w7 ⟨rfl, rfl⟩
        go_wp2_with fail
        refine (darm_all hD6 num4 (by omega)).mono ?_
        rintro e w7 ⟨rfl, hD7, ht7⟩
        rw [arm_up_eq hK'.out.down pm0] at hD7
        have hx7 := hx6.dskTurned hD6 ht7 (by decide)
        have hb7 := hb6.dskTurned hD6 ht7 (by decide)
        have hT7 := hT6.trans (W := fun _ => False) ht7 (fun _ e => e) (fun k e => .inr (hfr'.out k e))
        have hF7 := hF6.keepB ht7 (fun k e => hfr'.out k e)
        have p07 := cell_turned ht7 p06 (fun e => by have h1 := hfr'.out _ e; have h2 : b < w.heap.size := hb; exact absurd h1 (by show ¬ w.heap.size ≤ b; omega))
        have p67 := cell_turned ht7 p66 (fun e => by have h1 := hfr'.out _ e; have h2 : b < w.heap.size := hb; exact absurd h1 (by show ¬ w.heap.size ≤ b; omega))
        obtain ⟨x0, x1, x2, x3⟩ := m4_cells hx7
        clear hD6 ht7 hx6 hb6 hT6 hF6 p06 p16 p66
        go_wp2_with fail
        refine (mwrite_all hD7 ⟨seq0 + 1, 1 + tu, 1 + ol, mark1⟩ hnk.out).mono ?_
        rintro e w9 ⟨rfl, hD9, ht9⟩
        have hx9 := hx7.dskTurned hD7 ht9 (by decide)
        have hb9 := hb7.dskTurned hD7 ht9 (by decide)
        have hT9 := hT7.trans (W := fun _ => False) ht9 (fun _ e => e) (fun k e => .inr (hfr'.out k e))
        have hF9 := hF7.keepB ht9 (fun k e => hfr'.out k e)
        have p09 := cell_turned ht9 p07 (fun e => by have h1 := hfr'.out _ e; have h2 : b < w.heap.size := hb; exact absurd h1 (by show ¬ w.heap.size ≤ b; omega))
        have p69 := cell_turned ht9 p67 (fun e => by have h1 := hfr'.out _ e; have h2 : b < w.heap.size := hb; exact absurd h1 (by show ¬ w.heap.size ≤ b; omega))
        clear hD7 ht9 hx7 hb7 hT7 hF7 p07 p67 x0 x1 x2 x3
        generalize hmw : mw { A with armed := num4 } ⟨seq0 + 1, 1 + tu, 1 + ol, mark1⟩ = R at *
        obtain ⟨code, A2⟩ := R
        simp only at hD9 hnx
        clear hmw
        generalize hs1e : seq0 + 1 = seq1 at *
        have hs1l : seq1 ≤ (j : Int) + 2 := by omega
        have hs1n : (seq0 == seq1) = false := by rw [beq_eq_false_iff_ne]; omega
        generalize 1 + tu = turn1 at *
        generalize 1 + ol = old1 at *
        have hs1e' := Lib.hid hs1e
        clear hs1e
        rcases (hnx.out true).1 with hc | hc
        · have hnot : ∀ got, (got = M4.mk seq1 turn1 old1 mark1 ∨ got = M4.mk seq0 turn0 old0 mark0 ∧ code ≠ 0) → got = M4.mk seq1 turn1 old1 mark1 := fun got h => h.resolve_right (fun e => e.2 hc)
          by_cases hb2 : op.tmod 2 = 0
          · obtain ⟨got, hrest, hg⟩ := (hnx.out true).2
            obtain rfl := hnot got hg
            rw [show (true || decide (code ≠ 0)) = true from rfl] at hrest
            simp only [wakeIf, if_true] at hrest
            have hbb : (op.tmod 2 == 0) = true := by rw [beq_iff_eq]; exact hb2
            have hc' := Lib.hid hc
            clear hg hnot hb2 hnx
            obtain rfl : code = 0 := hc
            clear hc'
            go_wp2_with fail
            refine (wake_any d s o A2 _ _ fc fs _ hD9 (hF9.intsB hlo'.out)).mono ?_
            rintro e w10 ⟨rfl, hD10, ht10⟩
            have hx10 := hx9.dskTurned hD9 ht10 (by decide)
            have hb10 := hb9.dskTurned hD9 ht10 (by decide)
            have hT10 := hT9.trans (W := fun _ => False) ht10 (fun _ e => e) (fun k e => .inr (hfr'.out k e))
            go_wp2_with fail
            have hrest' := Lib.hid hrest
            have hrd := rest_read hrest
            refine (mread_up hD10 (by rw [hrest.n]; omega) hrest.down).mono ?_
            rintro e w11 ⟨he, ht11⟩
            rw [hrd] at he
            subst he
            have hD11 := hD10.fresh ht11
            have hx11 := hx10.turned ht11 (fun e => e)
            have hb11 := hb10.turned ht11 (fun e => e)
            have hT11 := hT10.trans (W := fun _ => False) ht11 (fun _ e => e) (fun _ e => e.elim)
            clear hrd hD10 hx10 hb10 hT10 ht11 hrest
            obtain ⟨x0, x1, x2, x3⟩ := m4_cells (hx11.alloc (.cells #[.int .i64 seq1, .int .i64 turn1, .int .i64 old1, .int .i64 mark1] 59))
            obtain ⟨y0, y1, y2, y3⟩ := m4_cells (hb11.alloc (.cells #[.int .i64 seq1, .int .i64 turn1, .int .i64 old1, .int .i64 mark1] 59))
            have hbf := (hb11.alloc (.cells #[.int .i64 seq1, .int .i64 turn1, .int .i64 old1, .int .i64 mark1] 59)).frozen
            go_wp2_with fail
            have hRn : KpRel (40) w d s o b4 (.int .i64 ((j + 1 : Nat) : Int)) (((((w11.alloc (.cells #[.int .i64 seq1, .int .i64 turn1, .int .i64 old1, .int .i64 mark1] 59)).setCell ⟨b4, 0, none⟩ (.int .i64 seq1)).setCell ⟨b4, 1, none⟩ (.int .i64 turn1)).setCell ⟨b4, 2, none⟩ (.int .i64 old1)).setCell ⟨b4, 3, none⟩ (.int .i64 mark1)) := by
              have hta := (Turned.refl (fun _ => False) w11).alloc (.cells #[.int .i64 seq1, .int .i64 turn1, .int .i64 old1, .int .i64 mark1] 59)
              have hS : Turned (· = b4) w11 (((((w11.alloc (.cells #[.int .i64 seq1, .int .i64 turn1, .int .i64 old1, .int .i64 mark1] 59)).setCell ⟨b4, 0, none⟩ (.int .i64 seq1)).setCell ⟨b4, 1, none⟩ (.int .i64 turn1)).setCell ⟨b4, 2, none⟩ (.int .i64 old1)).setCell ⟨b4, 3, none⟩ (.int .i64 mark1)) := ((((hta.mono (W' := (· = b4)) (fun _ e => e.elim)).setCell (.inl rfl) _).setCell (.inl rfl) _).setCell (.inl rfl) _).setCell (.inl rfl) _
              refine ⟨j + 1, _, ⟨seq1, turn1, old1, mark1⟩, by omega, rfl, hD11.turned hS (fun k hk e => ?_), hrest'.out, ?_, ?_, hT11.trans hS (fun _ e => e) (fun k e => .inr (by have e' : k = b4 := e; omega))⟩
              · have e' : k = b4 := e
                have h1 := hlt4'.out k hk
                omega
              · show seq1 ≤ ((j + 1 : Nat) : Int) + 1
                omega
              · exact ((((hb11.alloc _).set_ 0 (.int .i64 seq1)).set_ 1 (.int .i64 turn1)).set_ 2 (.int .i64 old1)).set_ 3 (.int .i64 mark1)
            have hRn := Lib.hid hRn
            go_roundw
            case rel =>
              have hz : Value.int .i64 ((j : Int) + 1) = .int .i64 ((j + 1 : Nat) : Int) := by go_num
              first
              | (rw [hz]; exact hRn.out)
              | ((repeat apply Exists.intro); exact ⟨by rw [hz]; exact hRn.out, rfl⟩)
            case measure => simp [intOf]; omega
          · obtain ⟨got, hrest, hg⟩ := (hnx.out false).2
            obtain rfl := hnot got hg
            rw [show (false || decide (code ≠ 0)) = false by rw [hc]; rfl] at hrest
            simp only [wakeIf] at hrest
            rw [if_neg Bool.false_ne_true] at hrest
            have hbb : (op.tmod 2 == 0) = false := by rw [beq_eq_false_iff_ne]; exact hb2
            clear hg hnot hb2 hnx
            obtain rfl : code = 0 := hc
            go_wp2_with fail
            have hD10 := hD9
            have hx10 := hx9
            have hb10 := hb9
            have hT10 := hT9
            have hrest' := Lib.hid hrest
            have hrd := rest_read hrest
            refine (mread_up hD10 (by rw [hrest.n]; omega) hrest.down).mono ?_
            rintro e w11 ⟨he, ht11⟩
            rw [hrd] at he
            subst he
            have hD11 := hD10.fresh ht11
            have hx11 := hx10.turned ht11 (fun e => e)
            have hb11 := hb10.turned ht11 (fun e => e)
            have hT11 := hT10.trans (W := fun _ => False) ht11 (fun _ e => e) (fun _ e => e.elim)
            clear hrd hD10 hx10 hb10 hT10 ht11 hrest
            obtain ⟨x0, x1, x2, x3⟩ := m4_cells (hx11.alloc (.cells #[.int .i64 seq1, .int .i64 turn1, .int .i64 old1, .int .i64 mark1] 59))
            obtain ⟨y0, y1, y2, y3⟩ := m4_cells (hb11.alloc (.cells #[.int .i64 seq1, .int .i64 turn1, .int .i64 old1, .int .i64 mark1] 59))
            have hbf := (hb11.alloc (.cells #[.int .i64 seq1, .int .i64 turn1, .int .i64 old1, .int .i64 mark1] 59)).frozen
            go_wp2_with fail
            have hRn : KpRel (40) w d s o b4 (.int .i64 ((j + 1 : Nat) : Int)) (((((w11.alloc (.cells #[.int .i64 seq1, .int .i64 turn1, .int .i64 old1, .int .i64 mark1] 59)).setCell ⟨b4, 0, none⟩ (.int .i64 seq1)).setCell ⟨b4, 1, none⟩ (.int .i64 turn1)).setCell ⟨b4, 2, none⟩ (.int .i64 old1)).setCell ⟨b4, 3, none⟩ (.int .i64 mark1)) := by
              have hta := (Turned.refl (fun _ => False) w11).alloc (.cells #[.int .i64 seq1, .int .i64 turn1, .int .i64 old1, .int .i64 mark1] 59)
              have hS : Turned (· = b4) w11 (((((w11.alloc (.cells #[.int .i64 seq1, .int .i64 turn1, .int .i64 old1, .int .i64 mark1] 59)).setCell ⟨b4, 0, none⟩ (.int .i64 seq1)).setCell ⟨b4, 1, none⟩ (.int .i64 turn1)).setCell ⟨b4, 2, none⟩ (.int .i64 old1)).setCell ⟨b4, 3, none⟩ (.int .i64 mark1)) := ((((hta.mono (W' := (· = b4)) (fun _ e => e.elim)).setCell (.inl rfl) _).setCell (.inl rfl) _).setCell (.inl rfl) _).setCell (.inl rfl) _
              refine ⟨j + 1, _, ⟨seq1, turn1, old1, mark1⟩, by omega, rfl, hD11.turned hS (fun k hk e => ?_), hrest'.out, ?_, ?_, hT11.trans hS (fun _ e => e) (fun k e => .inr (by have e' : k = b4 := e; omega))⟩
              · have e' : k = b4 := e
                have h1 := hlt4'.out k hk
                omega
              · show seq1 ≤ ((j + 1 : Nat) : Int) + 1
                omega
              · exact ((((hb11.alloc _).set_ 0 (.int .i64 seq1)).set_ 1 (.int .i64 turn1)).set_ 2 (.int .i64 old1)).set_ 3 (.int .i64 mark1)
            have hRn := Lib.hid hRn
            go_roundw
            case rel =>
              have hz : Value.int .i64 ((j : Int) + 1) = .int .i64 ((j + 1 : Nat) : Int) := by go_num
              first
              | (rw [hz]; exact hRn.out)
              | ((repeat apply Exists.intro); exact ⟨by rw [hz]; exact hRn.out, rfl⟩)
            case measure => simp [intOf]; omega
        · obtain ⟨got, hrest, hg⟩ := (hnx.out true).2
          rw [show (true || decide (code ≠ 0)) = true from rfl] at hrest
          simp only [wakeIf, if_true] at hrest
          clear hnx
          obtain rfl : code = 8 := hc
          rcases hg with rfl | ⟨rfl, _⟩
          · by_cases hb2 : op.tmod 2 = 0
            · have hbb : (op.tmod 2 == 0) = true := by rw [beq_iff_eq]; exact hb2
              clear hb2
              go_wp2_with fail
              refine (wake_any d s o A2 _ _ fc fs _ hD9 (hF9.intsB hlo'.out)).mono ?_
              rintro e w10 ⟨rfl, hD10, ht10⟩
              have hx10 := hx9.dskTurned hD9 ht10 (by decide)
              have hb10 := hb9.dskTurned hD9 ht10 (by decide)
              have hT10 := hT9.trans (W := fun _ => False) ht10 (fun _ e => e) (fun k e => .inr (hfr'.out k e))
              go_wp2_with fail
              have hrest' := Lib.hid hrest
              have hrd := rest_read hrest
              refine (mread_up hD10 (by rw [hrest.n]; omega) hrest.down).mono ?_
              rintro e w11 ⟨he, ht11⟩
              rw [hrd] at he
              subst he
              have hD11 := hD10.fresh ht11
              have hx11 := hx10.turned ht11 (fun e => e)
              have hb11 := hb10.turned ht11 (fun e => e)
              have hT11 := hT10.trans (W := fun _ => False) ht11 (fun _ e => e) (fun _ e => e.elim)
              clear hrd hD10 hx10 hb10 hT10 ht11 hrest
              obtain ⟨x0, x1, x2, x3⟩ := m4_cells (hx11.alloc (.cells #[.int .i64 seq1, .int .i64 turn1, .int .i64 old1, .int .i64 mark1] 59))
              obtain ⟨y0, y1, y2, y3⟩ := m4_cells (hb11.alloc (.cells #[.int .i64 seq1, .int .i64 turn1, .int .i64 old1, .int .i64 mark1] 59))
              have hbf := (hb11.alloc (.cells #[.int .i64 seq1, .int .i64 turn1, .int .i64 old1, .int .i64 mark1] 59)).frozen
              go_wp2_with fail
              have hRn : KpRel (40) w d s o b4 (.int .i64 ((j + 1 : Nat) : Int)) (((((w11.alloc (.cells #[.int .i64 seq1, .int .i64 turn1, .int .i64 old1, .int .i64 mark1] 59)).setCell ⟨b4, 0, none⟩ (.int .i64 seq1)).setCell ⟨b4, 1, none⟩ (.int .i64 turn1)).setCell ⟨b4, 2, none⟩ (.int .i64 old1)).setCell ⟨b4, 3, none⟩ (.int .i64 mark1)) := by
                have hta := (Turned.refl (fun _ => False) w11).alloc (.cells #[.int .i64 seq1, .int .i64 turn1, .int .i64 old1, .int .i64 mark1] 59)
                have hS : Turned (· = b4) w11 (((((w11.alloc (.cells #[.int .i64 seq1, .int .i64 turn1, .int .i64 old1, .int .i64 mark1] 59)).setCell ⟨b4, 0, none⟩ (.int .i64 seq1)).setCell ⟨b4, 1, none⟩ (.int .i64 turn1)).setCell ⟨b4, 2, none⟩ (.int .i64 old1)).setCell ⟨b4, 3, none⟩ (.int .i64 mark1)) := ((((hta.mono (W' := (· = b4)) (fun _ e => e.elim)).setCell (.inl rfl) _).setCell (.inl rfl) _).setCell (.inl rfl) _).setCell (.inl rfl) _
                refine ⟨j + 1, _, ⟨seq1, turn1, old1, mark1⟩, by omega, rfl, hD11.turned hS (fun k hk e => ?_), hrest'.out, ?_, ?_, hT11.trans hS (fun _ e => e) (fun k e => .inr (by have e' : k = b4 := e; omega))⟩
                · have e' : k = b4 := e
                  have h1 := hlt4'.out k hk
                  omega
                · show seq1 ≤ ((j + 1 : Nat) : Int) + 1
                  omega
                · exact ((((hb11.alloc _).set_ 0 (.int .i64 seq1)).set_ 1 (.int .i64 turn1)).set_ 2 (.int .i64 old1)).set_ 3 (.int .i64 mark1)
              have hRn := Lib.hid hRn
              go_roundw
              case rel =>
                have hz : Value.int .i64 ((j : Int) + 1) = .int .i64 ((j + 1 : Nat) : Int) := by go_num
                first
                | (rw [hz]; exact hRn.out)
                | ((repeat apply Exists.intro); exact ⟨by rw [hz]; exact hRn.out, rfl⟩)
              case measure => simp [intOf]; omega
            · have hbb : (op.tmod 2 == 0) = false := by rw [beq_eq_false_iff_ne]; exact hb2
              clear hb2
              go_wp2_with fail
              refine (wake_any d s o A2 _ _ fc fs _ hD9 (hF9.intsB hlo'.out)).mono ?_
              rintro e w10 ⟨rfl, hD10, ht10⟩
              have hx10 := hx9.dskTurned hD9 ht10 (by decide)
              have hb10 := hb9.dskTurned hD9 ht10 (by decide)
              have hT10 := hT9.trans (W := fun _ => False) ht10 (fun _ e => e) (fun k e => .inr (hfr'.out k e))
              go_wp2_with fail
              have hrest' := Lib.hid hrest
              have hrd := rest_read hrest
              refine (mread_up hD10 (by rw [hrest.n]; omega) hrest.down).mono ?_
              rintro e w11 ⟨he, ht11⟩
              rw [hrd] at he
              subst he
              have hD11 := hD10.fresh ht11
              have hx11 := hx10.turned ht11 (fun e => e)
              have hb11 := hb10.turned ht11 (fun e => e)
              have hT11 := hT10.trans (W := fun _ => False) ht11 (fun _ e => e) (fun _ e => e.elim)
              clear hrd hD10 hx10 hb10 hT10 ht11 hrest
              obtain ⟨x0, x1, x2, x3⟩ := m4_cells (hx11.alloc (.cells #[.int .i64 seq1, .int .i64 turn1, .int .i64 old1, .int .i64 mark1] 59))
              obtain ⟨y0, y1, y2, y3⟩ := m4_cells (hb11.alloc (.cells #[.int .i64 seq1, .int .i64 turn1, .int .i64 old1, .int .i64 mark1] 59))
              have hbf := (hb11.alloc (.cells #[.int .i64 seq1, .int .i64 turn1, .int .i64 old1, .int .i64 mark1] 59)).frozen
              go_wp2_with fail
              have hRn : KpRel (40) w d s o b4 (.int .i64 ((j + 1 : Nat) : Int)) (((((w11.alloc (.cells #[.int .i64 seq1, .int .i64 turn1, .int .i64 old1, .int .i64 mark1] 59)).setCell ⟨b4, 0, none⟩ (.int .i64 seq1)).setCell ⟨b4, 1, none⟩ (.int .i64 turn1)).setCell ⟨b4, 2, none⟩ (.int .i64 old1)).setCell ⟨b4, 3, none⟩ (.int .i64 mark1)) := by
                have hta := (Turned.refl (fun _ => False) w11).alloc (.cells #[.int .i64 seq1, .int .i64 turn1, .int .i64 old1, .int .i64 mark1] 59)
                have hS : Turned (· = b4) w11 (((((w11.alloc (.cells #[.int .i64 seq1, .int .i64 turn1, .int .i64 old1, .int .i64 mark1] 59)).setCell ⟨b4, 0, none⟩ (.int .i64 seq1)).setCell ⟨b4, 1, none⟩ (.int .i64 turn1)).setCell ⟨b4, 2, none⟩ (.int .i64 old1)).setCell ⟨b4, 3, none⟩ (.int .i64 mark1)) := ((((hta.mono (W' := (· = b4)) (fun _ e => e.elim)).setCell (.inl rfl) _).setCell (.inl rfl) _).setCell (.inl rfl) _).setCell (.inl rfl) _
                refine ⟨j + 1, _, ⟨seq1, turn1, old1, mark1⟩, by omega, rfl, hD11.turned hS (fun k hk e => ?_), hrest'.out, ?_, ?_, hT11.trans hS (fun _ e => e) (fun k e => .inr (by have e' : k = b4 := e; omega))⟩
                · have e' : k = b4 := e
                  have h1 := hlt4'.out k hk
                  omega
                · show seq1 ≤ ((j + 1 : Nat) : Int) + 1
                  omega
                · exact ((((hb11.alloc _).set_ 0 (.int .i64 seq1)).set_ 1 (.int .i64 turn1)).set_ 2 (.int .i64 old1)).set_ 3 (.int .i64 mark1)
              have hRn := Lib.hid hRn
              go_roundw
              case rel =>
                have hz : Value.int .i64 ((j : Int) + 1) = .int .i64 ((j + 1 : Nat) : Int) := by go_num
                first
                | (rw [hz]; exact hRn.out)
                | ((repeat apply Exists.intro); exact ⟨by rw [hz]; exact hRn.out, rfl⟩)
              case measure => simp [intOf]; omega
          · by_cases hb2 : op.tmod 2 = 0
            · have hbb : (op.tmod 2 == 0) = true := by rw [beq_iff_eq]; exact hb2
              clear hb2
              go_wp2_with fail
              refine (wake_any d s o A2 _ _ fc fs _ hD9 (hF9.intsB hlo'.out)).mono ?_
              rintro e w10 ⟨rfl, hD10, ht10⟩
              have hx10 := hx9.dskTurned hD9 ht10 (by decide)
              have hb10 := hb9.dskTurned hD9 ht10 (by decide)
              have hT10 := hT9.trans (W := fun _ => False) ht10 (fun _ e => e) (fun k e => .inr (hfr'.out k e))
              go_wp2_with fail
              have hrest' := Lib.hid hrest
              have hrd := rest_read hrest
              refine (mread_up hD10 (by rw [hrest.n]; omega) hrest.down).mono ?_
              rintro e w11 ⟨he, ht11⟩
              rw [hrd] at he
              subst he
              have hD11 := hD10.fresh ht11
              have hx11 := hx10.turned ht11 (fun e => e)
              have hb11 := hb10.turned ht11 (fun e => e)
              have hT11 := hT10.trans (W := fun _ => False) ht11 (fun _ e => e) (fun _ e => e.elim)
              clear hrd hD10 hx10 hb10 hT10 ht11 hrest
              obtain ⟨x0, x1, x2, x3⟩ := m4_cells (hx11.alloc (.cells #[.int .i64 seq0, .int .i64 turn0, .int .i64 old0, .int .i64 mark0] 59))
              obtain ⟨y0, y1, y2, y3⟩ := m4_cells (hb11.alloc (.cells #[.int .i64 seq0, .int .i64 turn0, .int .i64 old0, .int .i64 mark0] 59))
              have hbf := (hb11.alloc (.cells #[.int .i64 seq0, .int .i64 turn0, .int .i64 old0, .int .i64 mark0] 59)).frozen
              go_wp2_with fail
              have hRn : KpRel (40) w d s o b4 (.int .i64 ((j + 1 : Nat) : Int)) (((((w11.alloc (.cells #[.int .i64 seq0, .int .i64 turn0, .int .i64 old0, .int .i64 mark0] 59)).setCell ⟨b4, 0, none⟩ (.int .i64 seq0)).setCell ⟨b4, 1, none⟩ (.int .i64 turn0)).setCell ⟨b4, 2, none⟩ (.int .i64 old0)).setCell ⟨b4, 3, none⟩ (.int .i64 mark0)) := by
                have hta := (Turned.refl (fun _ => False) w11).alloc (.cells #[.int .i64 seq0, .int .i64 turn0, .int .i64 old0, .int .i64 mark0] 59)
                have hS : Turned (· = b4) w11 (((((w11.alloc (.cells #[.int .i64 seq0, .int .i64 turn0, .int .i64 old0, .int .i64 mark0] 59)).setCell ⟨b4, 0, none⟩ (.int .i64 seq0)).setCell ⟨b4, 1, none⟩ (.int .i64 turn0)).setCell ⟨b4, 2, none⟩ (.int .i64 old0)).setCell ⟨b4, 3, none⟩ (.int .i64 mark0)) := ((((hta.mono (W' := (· = b4)) (fun _ e => e.elim)).setCell (.inl rfl) _).setCell (.inl rfl) _).setCell (.inl rfl) _).setCell (.inl rfl) _
                refine ⟨j + 1, _, ⟨seq0, turn0, old0, mark0⟩, by omega, rfl, hD11.turned hS (fun k hk e => ?_), hrest'.out, ?_, ?_, hT11.trans hS (fun _ e => e) (fun k e => .inr (by have e' : k = b4 := e; omega))⟩
                · have e' : k = b4 := e
                  have h1 := hlt4'.out k hk
                  omega
                · show seq0 ≤ ((j + 1 : Nat) : Int) + 1
                  omega
                · exact ((((hb11.alloc _).set_ 0 (.int .i64 seq0)).set_ 1 (.int .i64 turn0)).set_ 2 (.int .i64 old0)).set_ 3 (.int .i64 mark0)
              have hRn := Lib.hid hRn
              go_roundw
              case rel =>
                have hz : Value.int .i64 ((j : Int) + 1) = .int .i64 ((j + 1 : Nat) : Int) := by go_num
                first
                | (rw [hz]; exact hRn.out)
                | ((repeat apply Exists.intro); exact ⟨by rw [hz]; exact hRn.out, rfl⟩)
              case measure => simp [intOf]; omega
            · have hbb : (op.tmod 2 == 0) = false := by rw [beq_eq_false_iff_ne]; exact hb2
              clear hb2
              go_wp2_with fail
              refine (wake_any d s o A2 _ _ fc fs _ hD9 (hF9.intsB hlo'.out)).mono ?_
              rintro e w10 ⟨rfl, hD10, ht10⟩
              have hx10 := hx9.dskTurned hD9 ht10 (by decide)
              have hb10 := hb9.dskTurned hD9 ht10 (by decide)
              have hT10 := hT9.trans (W := fun _ => False) ht10 (fun _ e => e) (fun k e => .inr (hfr'.out k e))
              go_wp2_with fail
              have hrest' := Lib.hid hrest
              have hrd := rest_read hrest
              refine (mread_up hD10 (by rw [hrest.n]; omega) hrest.down).mono ?_
              rintro e w11 ⟨he, ht11⟩
              rw [hrd] at he
              subst he
              have hD11 := hD10.fresh ht11
              have hx11 := hx10.turned ht11 (fun e => e)
              have hb11 := hb10.turned ht11 (fun e => e)
              have hT11 := hT10.trans (W := fun _ => False) ht11 (fun _ e => e) (fun _ e => e.elim)
              clear hrd hD10 hx10 hb10 hT10 ht11 hrest
              obtain ⟨x0, x1, x2, x3⟩ := m4_cells (hx11.alloc (.cells #[.int .i64 seq0, .int .i64 turn0, .int .i64 old0, .int .i64 mark0] 59))
              obtain ⟨y0, y1, y2, y3⟩ := m4_cells (hb11.alloc (.cells #[.int .i64 seq0, .int .i64 turn0, .int .i64 old0, .int .i64 mark0] 59))
              have hbf := (hb11.alloc (.cells #[.int .i64 seq0, .int .i64 turn0, .int .i64 old0, .int .i64 mark0] 59)).frozen
              go_wp2_with fail
              have hRn : KpRel (40) w d s o b4 (.int .i64 ((j + 1 : Nat) : Int)) (((((w11.alloc (.cells #[.int .i64 seq0, .int .i64 turn0, .int .i64 old0, .int .i64 mark0] 59)).setCell ⟨b4, 0, none⟩ (.int .i64 seq0)).setCell ⟨b4, 1, none⟩ (.int .i64 turn0)).setCell ⟨b4, 2, none⟩ (.int .i64 old0)).setCell ⟨b4, 3, none⟩ (.int .i64 mark0)) := by
                have hta := (Turned.refl (fun _ => False) w11).alloc (.cells #[.int .i64 seq0, .int .i64 turn0, .int .i64 old0, .int .i64 mark0] 59)
                have hS : Turned (· = b4) w11 (((((w11.alloc (.cells #[.int .i64 seq0, .int .i64 turn0, .int .i64 old0, .int .i64 mark0] 59)).setCell ⟨b4, 0, none⟩ (.int .i64 seq0)).setCell ⟨b4, 1, none⟩ (.int .i64 turn0)).setCell ⟨b4, 2, none⟩ (.int .i64 old0)).setCell ⟨b4, 3, none⟩ (.int .i64 mark0)) := ((((hta.mono (W' := (· = b4)) (fun _ e => e.elim)).setCell (.inl rfl) _).setCell (.inl rfl) _).setCell (.inl rfl) _).setCell (.inl rfl) _
                refine ⟨j + 1, _, ⟨seq0, turn0, old0, mark0⟩, by omega, rfl, hD11.turned hS (fun k hk e => ?_), hrest'.out, ?_, ?_, hT11.trans hS (fun _ e => e) (fun k e => .inr (by have e' : k = b4 := e; omega))⟩
                · have e' : k = b4 := e
                  have h1 := hlt4'.out k hk
                  omega
                · show seq0 ≤ ((j + 1 : Nat) : Int) + 1
                  omega
                · exact ((((hb11.alloc _).set_ 0 (.int .i64 seq0)).set_ 1 (.int .i64 turn0)).set_ 2 (.int .i64 old0)).set_ 3 (.int .i64 mark0)
              have hRn := Lib.hid hRn
              go_roundw
              case rel =>
                have hz : Value.int .i64 ((j : Int) + 1) = .int .i64 ((j + 1 : Nat) : Int) := by go_num
                first
                | (rw [hz]; exact hRn.out)
                | ((repeat apply Exists.intro); exact ⟨by rw [hz]; exact hRn.out, rfl⟩)
              case measure => simp [intOf]; omega
    · have hge : (40 : Int) ≤ (j : Int) := by omega
      go_wp2_with fail
      go_ret
      exact ⟨rfl, ht⟩
theorem markKept_any (L : Option Addr) (n c : Nat) (X : Nat → DoM) (w : World) (hL : DosM w w.heap.size L n X) (hnc : n ≤ c) (hcm : c ≤ maxLen) :
    Calls Try.prog 13 #[.slice L n c] w (OkNew w) := by
  by_cases hn : n ≤ 40
  · exact markKept_few L n c X w hL hnc hcm hn
  · exact markKept_many L n c X w hL hnc hcm (by omega)
end Go.Proofs.Ytobjoafhhchjgaa
