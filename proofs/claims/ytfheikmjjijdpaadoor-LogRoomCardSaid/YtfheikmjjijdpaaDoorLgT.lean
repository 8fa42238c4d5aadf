/-
  storemanlaw20.LogRoom: as many bytes of records as are told are appended, in any order of sizes. Conditions: none but that the lists are read.
-/
import Derived.Test.YtfheikmjjijdpaaDoorLgQ
import Derived.Test.YtfheikmjjijdpaaDoorLgR
import Derived.Test.YtfheikmjjijdpaaDoorOpI
namespace Go.Proofs.YtfheikmjjijdpaaDoor
open Go.RowKit Go.Maps
set_option linter.unusedVariables false
set_option linter.unusedSimpArgs false

/-- What Append leaves, in one. -/
def LApp (B : Nat) (X : LgS) (pr : List Int) (w : World) (e : Ending) (w' : World) : Prop := ∃ X' lsn c, e = .returned (.tuple #[.int .i64 lsn, .int .i64 c]) ∧ LogW w' B X' ∧ Turned (fun i => B ≤ i) w w' ∧ X'.L = X.L ∧ X'.count = X.count ∧ X'.ls.length ≤ X.ls.length + 1 ∧ X'.num ≤ X.num + 1 ∧
  ((∃ k' len', apd X.count (X.k + 1) X.body.length pr.length = some (k', len') ∧ c = 0 ∧ X'.k + 1 = k' ∧ X'.body.length = len') ∨ (apd X.count (X.k + 1) X.body.length pr.length = none ∧ c = 5 ∧ X'.k = X.k))
theorem lapp_any (B : Nat) (X : LgS) (R : Rec) (S : RecS) (w : World) (h : LogW w B X) (hR : rightR R = true) (hI : RecIs w R S) (hBw : B ≤ w.heap.size) (hlen : 3 ≤ (putR R).length ∧ (putR R).length ≤ 496) (hll : X.ls.length < 10000000) (hkk : X.k + 1 < 10000) (hnn : X.num + 1 ≤ 9007199254740000) :
    Calls Tryd.prog 8 #[.pointer (some ⟨X.L, 0, none⟩), .agg (recC R S)] w (LApp B X (putR R) w) := by
  by_cases h1 : X.body.length + (putR R).length ≤ 496
  · refine (lapp_fit B X R S w h hR hI hBw hlen hll h1).mono ?_
    rintro e w' ⟨gb', c', Al', cl', rfl, l, t⟩
    refine ⟨_, _, _, rfl, l, t, rfl, rfl, by simp, by show X.num ≤ X.num + 1; omega, .inl ⟨X.k + 1, X.body.length + (putR R).length, by unfold apd; rw [if_pos h1], rfl, rfl, by simp⟩⟩
  · by_cases h2 : X.count - 1 - ((X.k + 1 : Nat) : Int) = 0
    · refine (lapp_full B X R S w h hR hI hBw hlen hll (by omega) h2).mono ?_
      rintro e w' ⟨rfl, t⟩
      exact ⟨X, _, _, rfl, h.fresh t, t.mono (fun _ e => e.elim), rfl, rfl, by omega, by omega, .inr ⟨by unfold apd moreOf; rw [if_neg h1, if_pos h2], rfl, rfl⟩⟩
    · refine (lapp_new B X R S w h hR hI hBw hlen hll (by omega) h2 hkk hnn).mono ?_
      rintro e w' ⟨S', g', gb', c', cS', Al', cl', rfl, l, t⟩
      exact ⟨_, _, _, rfl, l, t, rfl, rfl, by simp, by show X.num + 1 ≤ X.num + 1; omega, .inl ⟨X.k + 1 + 1, (putR R).length, by unfold apd moreOf; rw [if_neg h1, if_neg h2], rfl, rfl, rfl⟩⟩
theorem apd_le {count : Int} {k len b k' len' : Nat} (h : apd count k len b = some (k', len')) (hk : (k : Int) ≤ count - 1) : (k' : Int) ≤ count - 1 := by
  unfold apd moreOf at h
  split at h
  · injection h with h; injection h with h1 h2; omega
  · split at h
    · cases h
    · injection h with h; injection h with h1 h2; omega
def Rm1 (n : Nat) (w w2 : World) (B L : Nat) (v : Value) (wr : World) : Prop := ∃ (j : Nat) (X : LgS), j ≤ n ∧ v = .int .i64 j ∧ LogW wr B X ∧ X.L = L ∧ X.count = 12 ∧ ((X.k + 1 : Nat) : Int) ≤ 12 - 1 ∧ X.ls.length ≤ j ∧ X.num ≤ (j : Int) ∧ Turned (fun i => B ≤ i) w2 wr
def Rm2 (n : Nat) (k0 : Nat) (w2 : World) (B L : Nat) (v r : Value) (wr : World) : Prop := ∃ (j t : Nat) (X : LgS), j ≤ n ∧ v = .int .i64 j ∧ r = .int .i64 (roomOf 12 k0 - (t : Int)) ∧ (t : Int) ≤ roomOf 12 k0 ∧ RoomInv k0 t (X.k + 1) X.body.length ∧ LogW wr B X ∧ X.L = L ∧ X.count = 12 ∧ ((X.k + 1 : Nat) : Int) ≤ 12 - 1 ∧ X.ls.length ≤ 40 + j ∧ X.num ≤ 40 + (j : Int) ∧ Turned (fun i => B ≤ i) w2 wr
theorem roomOf_few (k : Nat) : 0 ≤ roomOf 12 k ∧ roomOf 12 k ≤ 3000 := by rw [roomOf_eq]; unfold moreOf; omega
set_option maxRecDepth 100000 in
set_option maxHeartbeats 4000000 in
theorem logRoom_core (A0 : Option Addr) (n0 c0 : Nat) (z0 : List Int) (A1 : Option Addr) (n1 c1 : Nat) (z1 : List Int) (w : World) (h0 : LongR w A0 n0 c0 z0) (h1 : LongR w A1 n1 c1 z1) (hn0 : n0 ≤ 40) (hn1 : n1 ≤ 60) : Calls Tryd.prog 3 #[.slice A0 n0 c0, .slice A1 n1 c1] w (OkNew w) := by
  have H0 := Lib.hid h0
  have H1 := Lib.hid h1
  clear h0 h1
  have hn0i : (n0 : Int) ≤ 40 := by omega
  have hn1i : (n1 : Int) ≤ 60 := by omega
  have hd0 : decide ((40 : Int) < (n0 : Int)) = false := by simp; omega
  have hd1 : decide ((60 : Int) < (n1 : Int)) = false := by simp; omega
  have mixed : Tryd.prog.follows .mixedOrders = true := by kernel_rfl
  go_enter Tryd.func3, Tryd.ntmps3
  go_wp2_with fail
  refine (awake20_any w).mono ?_
  rintro e w1 ⟨rfl, t1⟩
  have T1 := Lib.hid t1
  clear t1
  go_wp2_with fail
  refine (new_yes 12 w1 (by omega) (by omega)).mono ?_
  rintro e w2 ⟨d, ms, mo, rfl, hd, t2, hnew, _⟩
  have D2 := Lib.hid hd
  have T2 := Lib.hid (T1.out.trans (W := fun _ => False) t2 (fun _ e => e) (fun _ e => e.elim))
  clear hd t2 hnew T1
  go_wp2_with fail
  refine (lopen_zero d ms mo (DA.new 12) 0 12 1 w2 D2.out rfl (by omega) (by omega) (by show (0 : Int) + 12 ≤ 12; omega) ⟨by omega, by omega⟩ rfl).mono ?_
  rintro e w3 ⟨L, S, g, gb, cS, rfl, l3, t3⟩
  have L3 := Lib.hid l3
  have T3 := Lib.hid (T2.out.trans (W := fun _ => False) t3 (fun _ e => e) (fun _ e => e.elim))
  have s3 := Lib.hid t3.size
  have s2 := Lib.hid T2.out.size
  clear l3 t3 D2
  obtain ⟨B, hB⟩ : ∃ B, B = w2.heap.size := ⟨_, rfl⟩
  rw [← hB] at L3 s3 s2
  clear hB T2
  go_wp2_with fail
  go_loopw [7, 8, 9] (fun v7 _ _ wr => Rm1 n0 w w3 B L v7 wr) (fun v7 _ _ _ => n0 - (intOf v7).toNat)
  case atStart => exact ⟨0, _, by omega, rfl, L3.out, rfl, rfl, by show ((0 + 1 : Nat) : Int) ≤ 12 - 1; omega, by show 0 ≤ 0; omega, by show (0 : Int) ≤ ((0 : Nat) : Int); omega, Turned.refl _ _⟩
  case round =>
    obtain ⟨j, X, hj, rfl, hl, hL, hc, hk, hls, hnm, ht⟩ := hrel
    have LW := Lib.hid hl
    have TW := Lib.hid (T3.out.trans (W := fun _ => False) ht (fun _ e => e) (fun i e => .inr (by have h1 := s2.out; have h2 : B ≤ i := e; omega)))
    have U := Lib.hid ht
    have sB := Lib.hid (Nat.le_trans s3.out ht.size)
    have HL := Lib.hid hL
    have HC := Lib.hid hc
    have HK := Lib.hid hk
    have HLS := Lib.hid hls
    have HNM := Lib.hid hnm
    clear hl ht hL hc hk hls hnm L3
    by_cases hlt : j < n0
    · have hj' : (j : Int) < (n0 : Int) := by omega
      obtain ⟨b, off, rfl, hx, hy⟩ := H0.out.at_ TW.out (fun _ e => e.elim) hlt
      generalize z0.getD j 0 = x at hx hy
      have HY := Lib.hid hy
      clear hy
      go_wp2_with fail
      refine (pick_any x 4000 wr (by omega) (by omega) HY.out.1 HY.out.2).mono ?_
      rintro e w4 ⟨rfl, rfl⟩
      clear hx
      obtain ⟨m, hm, hm4⟩ : ∃ m : Nat, x % 4000 = (m : Int) ∧ m < 4000 := ⟨(x % 4000).toNat, by omega, by omega⟩
      rw [hm]
      have HM := Lib.hid hm4
      clear hm hm4
      go_wp2_with fail
      refine (of_any m wr HM.out).mono ?_
      rintro e w5 ⟨R, SR, rfl, hI, hr, hok, h496, t5⟩
      have h3 := rput_len hr hok
      have LW5 := Lib.hid (LW.out.fresh t5)
      have U5 := Lib.hid (U.out.trans (W := fun i => B ≤ i) t5 (fun _ e => e) (fun _ e => e.elim))
      have sB5 := Lib.hid (Nat.le_trans sB.out t5.size)
      have HI := Lib.hid (And.intro hI (And.intro hr (And.intro h3 h496)))
      clear hI hr hok h496 h3 t5 LW U sB
      go_wp2_with fail
      have hcall := lapp_any B X R SR w5 LW5.out HI.out.2.1 HI.out.1 sB5.out ⟨by have := HI.out.2.2.1; omega, HI.out.2.2.2⟩ (by have := HLS.out; omega) (by have := HK.out; omega) (by have := HNM.out; omega)
      rw [HL.out] at hcall
      refine hcall.mono ?_
      clear hcall
      rintro e w6 ⟨X', lsn, cc, rfl, l6, t6, e1, e2, e3, e4, hap⟩
      have hcc : (cc = 0 ∨ cc = 5) := by
        rcases hap with ⟨_, _, _, h, _⟩ | ⟨_, h, _⟩
        · exact .inl h
        · exact .inr h
      have hk6 : ((X'.k + 1 : Nat) : Int) ≤ 12 - 1 := by
        rcases hap with ⟨k', len', h, _, h2, _⟩ | ⟨_, _, h⟩
        · have := apd_le h (by rw [HC.out]; exact HK.out); rw [HC.out] at this; omega
        · have := HK.out; omega
      have R6 := Lib.hid (show Rm1 n0 w w3 B L (.int .i64 ((j + 1 : Nat) : Int)) w6 from ⟨j + 1, X', hlt, rfl, l6, e1.trans HL.out, e2.trans HC.out, hk6, by have := HLS.out; omega, by have := HNM.out; omega, U5.out.trans t6 (fun _ e => e) (fun i e => .inl e)⟩)
      clear l6 t6 e1 e2 e3 e4 hap hk6 LW5 U5 sB5 HI TW HL HC HK HLS HNM HM HY
      rcases hcc with rfl | rfl
      · go_wp2_with fail
        go_roundw
        case rel =>
          first
          | exact R6.out
          | ((repeat apply Exists.intro); exact ⟨R6.out, rfl⟩)
          | ((repeat apply Exists.intro); exact ⟨R6.out, rfl, rfl⟩)
          | ((repeat apply Exists.intro); exact ⟨R6.out, rfl, rfl, rfl⟩)
        case measure => simp [intOf] <;> omega
      · go_wp2_with fail
        go_roundw
        case rel =>
          first
          | exact R6.out
          | ((repeat apply Exists.intro); exact ⟨R6.out, rfl⟩)
          | ((repeat apply Exists.intro); exact ⟨R6.out, rfl, rfl⟩)
          | ((repeat apply Exists.intro); exact ⟨R6.out, rfl, rfl, rfl⟩)
        case measure => simp [intOf] <;> omega
    · have hj' : ¬ (j : Int) < (n0 : Int) := by omega
      have hjn : j ≤ 40 := by omega
      clear hlt hj
      go_wp2_with fail
      have hcall := lroom_any _ _ _ _ _ _ _ _ _ _ _ wr LW.out.read
      rw [HL.out, HC.out] at hcall
      refine hcall.mono ?_
      clear hcall
      have hrm : max ((12 : Int) - 1 - ((X.k + 1 : Nat) : Int) - 1) 0 * 248 = roomOf 12 (X.k + 1) := by rw [roomOf_eq]; rfl
      rw [hrm]
      rintro e w7 ⟨rfl, t7⟩
      have LW7 := Lib.hid (LW.out.fresh t7)
      have TW7 := Lib.hid (TW.out.trans (W := fun _ => False) t7 (fun _ e => e) (fun _ e => e.elim))
      have sB7 := Lib.hid (Nat.le_trans sB.out t7.size)
      clear t7 LW TW U sB hrm
      have hrf := roomOf_few (X.k + 1)
      obtain ⟨k0, hk0⟩ : ∃ k0, k0 = X.k + 1 := ⟨_, rfl⟩
      have HK0 := Lib.hid hk0
      rw [← hk0] at hrf ⊢
      clear hk0
      obtain ⟨rm, hrm⟩ : ∃ rm, rm = roomOf 12 k0 := ⟨_, rfl⟩
      rw [← hrm] at hrf ⊢
      have HR := Lib.hid hrm
      clear hrm
      go_wp2_with fail
      have hst : Rm2 n1 k0 w7 B L (.int .i64 0) (.int .i64 rm) w7 := ⟨0, 0, X, by omega, rfl, by rw [HR.out]; simp, by rw [← HR.out]; omega, by rw [HK0.out]; exact room_start _ _, LW7.out, HL.out, HC.out, HK.out, by have := HLS.out; omega, by have := HNM.out; omega, Turned.refl _ _⟩
      have HST := Lib.hid hst
      clear hst
      go_loopw [10, 11, 12, 13, 14, 15, 16] (fun v10 v11 _ _ _ _ _ wr => Rm2 n1 k0 w7 B L v11 v10 wr) (fun _ v11 _ _ _ _ _ _ => n1 - (intOf v11).toNat)
      case atStart => exact HST.out
      case round =>
        clear HST LW7 HL HC HK HLS HNM HK0
        obtain ⟨i, t, Y, hi, rfl, rfl, htr, hinv, hl, hL, hc, hk, hls, hnm, ht⟩ := hrel
        have LW := Lib.hid hl
        have TW := Lib.hid (TW7.out.trans (W := fun _ => False) ht (fun _ e => e) (fun i e => .inr (by have h1 := s2.out; have h2 : B ≤ i := e; omega)))
        have U := Lib.hid ht
        have sB := Lib.hid (Nat.le_trans sB7.out ht.size)
        have HL := Lib.hid hL
        have HC := Lib.hid hc
        have HK := Lib.hid hk
        have HLS := Lib.hid hls
        have HNM := Lib.hid hnm
        have HI := Lib.hid hinv
        have HT := Lib.hid htr
        clear hl ht hL hc hk hls hnm hinv htr
        obtain ⟨rr, hrr⟩ : ∃ rr, rr = roomOf 12 k0 - (t : Int) := ⟨_, rfl⟩
        rw [← hrr]
        have HRR := Lib.hid hrr
        have hrb : -1000000 ≤ rr ∧ rr ≤ 3000 := by have h1 := HT.out; have h2 := HR.out; omega
        obtain ⟨hrb1, hrb2⟩ := hrb
        clear hrr
        by_cases hlt : i < n1
        · have hj' : (i : Int) < (n1 : Int) := by omega
          obtain ⟨b, off, rfl, hx, hy⟩ := H1.out.at_ TW.out (fun _ e => e.elim) hlt
          generalize z1.getD i 0 = x at hx hy
          have HY := Lib.hid hy
          clear hy
          go_wp2_with fail
          refine (pick_any x 4000 wr (by omega) (by omega) HY.out.1 HY.out.2).mono ?_
          rintro e w4 ⟨rfl, rfl⟩
          clear hx
          obtain ⟨m, hm, hm4⟩ : ∃ m : Nat, x % 4000 = (m : Int) ∧ m < 4000 := ⟨(x % 4000).toNat, by omega, by omega⟩
          rw [hm]
          have HM := Lib.hid hm4
          clear hm hm4
          go_wp2_with fail
          refine (of_any m wr HM.out).mono ?_
          rintro e w5 ⟨R, SR, rfl, hI, hr, hok, h496, t5⟩
          have h3 := rput_len hr hok
          have LW5 := Lib.hid (LW.out.fresh t5)
          have U5 := Lib.hid (U.out.trans (W := fun i => B ≤ i) t5 (fun _ e => e) (fun _ e => e.elim))
          have TW5 := Lib.hid (TW.out.trans (W := fun _ => False) t5 (fun _ e => e) (fun _ e => e.elim))
          have sB5 := Lib.hid (Nat.le_trans sB.out t5.size)
          have HI5 := Lib.hid (fun (w' : World) (t : Turned (fun _ => False) w5 w') => hI.fresh t)
          have HP := Lib.hid (fun (w' : World) (t : Turned (fun _ => False) w5 w') => rput_any R SR w' (hI.fresh t))
          unfold RPut at HP
          rw [hr] at HP
          simp only [if_true] at HP
          have HAp := Lib.hid (fun (w' : World) (t : Turned (fun _ => False) w5 w') => lapp_any B Y R SR w' (LW5.out.fresh t) hr (hI.fresh t) (Nat.le_trans sB5.out t.size) ⟨by omega, h496⟩ (by have := HLS.out; omega) (by have := HK.out; omega) (by have := HNM.out; omega))
          generalize putR R = pr at *
          have H496 := Lib.hid (And.intro h3 h496)
          have BX := Lib.hid (Blk.new w5 39 (recC R SR))
          have TX := Lib.hid ((Turned.refl (fun _ => False) w5).alloc (.cells (recC R SR) 39))
          clear hI hr hok h496 h3 t5 LW U sB
          obtain ⟨lsn, work, prev, next, kind, page, key, old, new, dirty, opn⟩ := R
          obtain ⟨⟨KA, Kn, Kc⟩, ⟨OA, On, Oc⟩, ⟨NA, Nn, Nc⟩, ⟨DA, Dn, Dc⟩, ⟨PA, Pn, Pc⟩⟩ := SR
          unfold recC at *
          simp only at *
          go_wp2_with fail
          generalize w5.alloc (.cells #[.int .i64 lsn, .int .i64 work, .int .i64 prev, .int .i64 next, .int .u8 kind, .int .i64 page, .slice KA Kn Kc, .slice OA On Oc, .slice NA Nn Nc, .slice DA Dn Dc, .slice PA Pn Pc] 39) = w6 at *
          obtain ⟨bx, hbx⟩ : ∃ bx, bx = w5.heap.size := ⟨_, rfl⟩
          rw [← hbx] at BX ⊢
          clear hbx
          have x0 : w6.cell? ⟨bx, 0, none⟩ = some (.int .i64 lsn) := BX.out.cell 0
          have x1 : w6.cell? ⟨bx, 1, none⟩ = some (.int .i64 work) := BX.out.cell 1
          have x2 : w6.cell? ⟨bx, 2, none⟩ = some (.int .i64 prev) := BX.out.cell 2
          have x3 : w6.cell? ⟨bx, 3, none⟩ = some (.int .i64 next) := BX.out.cell 3
          have x4 : w6.cell? ⟨bx, 4, none⟩ = some (.int .u8 kind) := BX.out.cell 4
          have x5 : w6.cell? ⟨bx, 5, none⟩ = some (.int .i64 page) := BX.out.cell 5
          have x6 : w6.cell? ⟨bx, 6, none⟩ = some (.slice KA Kn Kc) := BX.out.cell 6
          have x7 : w6.cell? ⟨bx, 7, none⟩ = some (.slice OA On Oc) := BX.out.cell 7
          have x8 : w6.cell? ⟨bx, 8, none⟩ = some (.slice NA Nn Nc) := BX.out.cell 8
          have x9 : w6.cell? ⟨bx, 9, none⟩ = some (.slice DA Dn Dc) := BX.out.cell 9
          have x10 : w6.cell? ⟨bx, 10, none⟩ = some (.slice PA Pn Pc) := BX.out.cell 10
          go_wp2_with fail
          clear x0 x1 x2 x3 x4 x5 x6 x7 x8 x9 x10
          refine (HP.out _ TX.out).mono ?_
          rintro e w7b ⟨Ab, cb, rfl, _, _, t7b⟩
          have TY := Lib.hid (TX.out.trans (W := fun _ => False) t7b (fun _ e => e) (fun _ e => e.elim))
          have BY := Lib.hid (BX.out.turned t7b (fun e => e))
          clear t7b HP BX
          obtain ⟨q, hq⟩ : ∃ q, q = pr.length := ⟨_, rfl⟩
          rw [← hq] at H496 ⊢
          have HQ := Lib.hid hq
          clear hq
          have hq1 : (q : Int) ≤ 496 := by have := H496.out.2; omega
          by_cases hqr : rr < (q : Int)
          · go_wp2_with fail
            go_ret
            exact ⟨rfl, TW5.out.trans (W := fun _ => False) TY.out (fun _ e => e) (fun _ e => e.elim)⟩
          · have hw : IntKind.i64.wrap (rr - (q : Int)) = rr - (q : Int) := IntWalk.i64_in _ (by omega)
            have x0 : w7b.cell? ⟨bx, 0, none⟩ = some (.int .i64 lsn) := BY.out.cell 0
            have x1 : w7b.cell? ⟨bx, 1, none⟩ = some (.int .i64 work) := BY.out.cell 1
            have x2 : w7b.cell? ⟨bx, 2, none⟩ = some (.int .i64 prev) := BY.out.cell 2
            have x3 : w7b.cell? ⟨bx, 3, none⟩ = some (.int .i64 next) := BY.out.cell 3
            have x4 : w7b.cell? ⟨bx, 4, none⟩ = some (.int .u8 kind) := BY.out.cell 4
            have x5 : w7b.cell? ⟨bx, 5, none⟩ = some (.int .i64 page) := BY.out.cell 5
            have x6 : w7b.cell? ⟨bx, 6, none⟩ = some (.slice KA Kn Kc) := BY.out.cell 6
            have x7 : w7b.cell? ⟨bx, 7, none⟩ = some (.slice OA On Oc) := BY.out.cell 7
            have x8 : w7b.cell? ⟨bx, 8, none⟩ = some (.slice NA Nn Nc) := BY.out.cell 8
            have x9 : w7b.cell? ⟨bx, 9, none⟩ = some (.slice DA Dn Dc) := BY.out.cell 9
            have x10 : w7b.cell? ⟨bx, 10, none⟩ = some (.slice PA Pn Pc) := BY.out.cell 10
            go_wp2_with fail
            clear x0 x1 x2 x3 x4 x5 x6 x7 x8 x9 x10
            have hcall := HAp.out _ TY.out
            rw [HL.out] at hcall
            refine hcall.mono ?_
            clear hcall
            rintro e w8 ⟨Y', lsn8, cc, rfl, l8, t8, e1, e2, e3, e4, hap⟩
            have hst := room_step (count := 12) (b := q) HI.out HK.out (by have := H496.out.1; omega) (by have h1 := HRR.out; have h2 := HR.out; omega)
            obtain ⟨k', len', hap2, hinv2, hk2⟩ := hst
            rw [HC.out, ← HQ.out] at hap
            rw [hap2] at hap
            obtain ⟨k3, len3, h3, rfl, h4, h5⟩ | ⟨h3, _⟩ := hap
            · injection h3 with h3
              injection h3 with h6 h7
              subst h6 h7
              subst h4 h5
              have R6 := Lib.hid (show Rm2 n1 k0 w7 B L (.int .i64 ((i + 1 : Nat) : Int)) (.int .i64 (rr - (q : Int))) w8 from ⟨i + 1, t + q, Y', hlt, rfl, by rw [HRR.out]; congr 1; omega, by have h1 := HRR.out; omega, hinv2, l8, e1.trans HL.out, e2.trans HC.out, hk2, by have := HLS.out; omega, by have := HNM.out; omega, (U5.out.trans (W := fun i => B ≤ i) TY.out (fun _ e => e) (fun _ e => e.elim)).trans t8 (fun _ e => e) (fun i e => .inl e)⟩)
              clear l8 t8 e1 e2 e3 e4 hinv2 hap2 hk2 LW5 U5 sB5 TW TW5 HL HC HK HLS HNM HM HY HI HT HRR HAp HI5 BY TX TY H496 HQ
              go_wp2_with fail
              go_roundw
              case rel =>
                first
                | exact R6.out
                | ((repeat apply Exists.intro); exact ⟨R6.out, rfl⟩)
                | ((repeat apply Exists.intro); exact ⟨R6.out, rfl, rfl⟩)
                | ((repeat apply Exists.intro); exact ⟨R6.out, rfl, rfl, rfl⟩)
              case measure => simp [intOf] <;> omega
            · cases h3
        · have hj' : ¬ (i : Int) < (n1 : Int) := by omega
          go_wp2_with fail
          go_ret
          exact ⟨rfl, TW.out⟩
set_option maxRecDepth 100000 in
theorem logRoom_any (A0 : Option Addr) (n0 c0 : Nat) (z0 : List Int) (A1 : Option Addr) (n1 c1 : Nat) (z1 : List Int) (w : World) (h0 : LongR w A0 n0 c0 z0) (h1 : LongR w A1 n1 c1 z1) : Calls Tryd.prog 3 #[.slice A0 n0 c0, .slice A1 n1 c1] w (OkNew w) := by
  by_cases hn0 : n0 ≤ 40
  · by_cases hn1 : n1 ≤ 60
    · exact logRoom_core A0 n0 c0 z0 A1 n1 c1 z1 w h0 h1 hn0 hn1
    · have hd0 : decide ((40 : Int) < (n0 : Int)) = false := by simp; omega
      have hd1 : decide ((60 : Int) < (n1 : Int)) = true := by simp; omega
      have hi0 : ¬ (40 : Int) < (n0 : Int) := by omega
      have hi1 : (60 : Int) < (n1 : Int) := by omega
      clear h0 h1
      go_enter Tryd.func3, Tryd.ntmps3
      go_wp2_with fail
      refine (awake20_any w).mono ?_
      rintro e w1 ⟨rfl, t1⟩
      go_wp2_with fail
      go_ret
      exact ⟨rfl, t1⟩
  · have hd0 : decide ((40 : Int) < (n0 : Int)) = true := by simp; omega
    have hi0 : (40 : Int) < (n0 : Int) := by omega
    clear h0 h1
    go_enter Tryd.func3, Tryd.ntmps3
    go_wp2_with fail
    refine (awake20_any w).mono ?_
    rintro e w1 ⟨rfl, t1⟩
    go_wp2_with fail
    go_ret
    exact ⟨rfl, t1⟩
end Go.Proofs.YtfheikmjjijdpaaDoor
